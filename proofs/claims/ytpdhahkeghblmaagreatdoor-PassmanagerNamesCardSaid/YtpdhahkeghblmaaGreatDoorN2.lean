/- What Names returns, twice over: the same strings, in memory of its own. -/
import Derived.Test.YtpdhahkeghblmaaGreatDoorProg
import Derived.WalkKit
import Derived.Deep.QuietTactic
import Derived.BigQuiet
namespace Go.Proofs.YtpdhahkeghblmaaGreatDoor
open Go Go.Proofs Go.RowKit

/-- A slice of the call's own that holds 'l'. -/
def Strs (w : World) (l : List Value) (e : Ending) (w' : World) : Prop :=
  ∃ b c, e = .returned (.slice (some ⟨b, 0, none⟩) l.length c) ∧ w.heap.size ≤ b ∧ b < w'.heap.size ∧ (∀ k, k < l.length → w'.cell? ⟨b, k, none⟩ = l[k]?) ∧ Below w.heap.size w w'

def str (l : List UInt8) : Value := .string ⟨l.toArray⟩

def namesL : List Value := [str [115, 115, 97, 98, 117, 105, 108, 100], str [112, 101, 101, 112, 104, 111, 108, 101], str [115, 99, 99, 112], str [99, 108, 101, 97, 110, 117, 112], str [103, 118, 110], str [112, 114, 101], str [108, 105, 99, 109], str [115, 116, 114, 101, 110, 103, 116, 104], str [117, 110, 114, 111, 108, 108], str [115, 108, 112], str [105, 110, 108, 105, 110, 101, 114], str [116, 97, 105, 108, 99, 97, 108, 108], str [106, 117, 109, 112, 116, 104, 114, 101, 97, 100], str [100, 115, 101], str [108, 111, 97, 100, 101, 108, 105, 109]]

theorem strs_alloc {w : World} {l : List Value} {t : TypeId} {fz : Nat × Nat} : Strs w l (.returned (.slice (some ⟨w.heap.size, 0, none⟩) l.length l.length)) (w.alloc (.cells l.toArray t fz)) :=
  ⟨w.heap.size, l.length, rfl, Nat.le_refl _, by simp, fun k hk => by
    have h : (w.alloc (.cells l.toArray t fz)).heap[w.heap.size]? = some (.cells l.toArray t fz) := by show (w.heap.push _)[w.heap.size]? = _; simp
    unfold World.cell?
    simp only [h]
    simp, (Below.refl _ _).alloc (Nat.le_refl _) _⟩

theorem names7 (w : World) : Calls Tryz.prog 7 #[] w (Strs w namesL) := by
  go_enter Tryz.func7, Tryz.ntmps7
  go_wp2
  go_ret
  exact strs_alloc (l := namesL)
theorem names8 (w : World) : Calls Tryz.prog 8 #[] w (Strs w namesL) := by
  go_enter Tryz.func8, Tryz.ntmps8
  go_wp2
  go_ret
  exact strs_alloc (l := namesL)
end Go.Proofs.YtpdhahkeghblmaaGreatDoor
