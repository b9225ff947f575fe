/- The examples of the law: a closed run, by the shadow machine. -/
import Derived.Test.YtpdhahkeghblmaaGreatDoorProg
import Derived.Test.YtpdhahkeghblmaaGreatDoorShd4
import Derived.KernelRfl
import Derived.Below
namespace Go.Proofs.YtpdhahkeghblmaaGreatDoor
open Go Go.Proofs Go.RowKit

noncomputable def G49 : Shd.Globals := fun g =>
  match Nat.beq g 0 with
  | true => some [.int .i64 0, .int .i64 (-1), .int .i64 (-1)]
  | false => match Nat.beq g 2 with
    | true => some [.int .i64 0, .int .i64 1, .int .i64 8, .int .i64 32, .int .i64 64]
    | false => none

noncomputable def isTrue (e : Shd.AEnd) (_ : Shd.St) : Bool := match e with
  | .ret (.lit (.bool b)) _ => b
  | _ => false

set_option maxRecDepth 10000000 in
theorem examples_run : Shd.call Tryz.prog G49 1000000 13 [] isTrue = true := by kernel_rfl

theorem mixed : Tryz.prog.follows .mixedOrders = true := by kernel_rfl

theorem examples_ok (w : World) (hg : Shd.GlobOk G49 w.heap.size w) : Calls Tryz.prog 13 #[] w fun e w' => e = .returned (.bool true) ∧ Below w.heap.size w w' := by
  obtain ⟨e, st', hk, h⟩ := Shd.call_true mixed examples_run
  refine (h w #[] hg (fun μ => by simp)).mono fun E w' ⟨μ', hp, hE⟩ => ?_
  have hb : Below w.heap.size w w' := ⟨hp.same.os, hp.same.tape, hp.same.out, hp.size, fun k hk => (hp.frame k hk (fun id b hb => by simp at hb)).1⟩
  unfold isTrue at hk
  split at hk
  · subst hk
    obtain ⟨V, rfl, hv⟩ := hE
    simp only [Shd.VR] at hv
    subst hv
    exact ⟨rfl, hb⟩
  · cases hk

theorem globOk_below {G : Shd.Globals} {N : Nat} {w w' : World} (hg : Shd.GlobOk G N w) (hb : Below N w w') (h : N ≤ w'.heap.size) : Shd.GlobOk G w'.heap.size w' := by
  intro g cs hgc
  obtain ⟨hl, arr, e, fz, h1, h2⟩ := hg g cs hgc
  exact ⟨by omega, arr, e, fz, by rw [hb.block g hl]; exact h1, h2⟩
end Go.Proofs.YtpdhahkeghblmaaGreatDoor
