/- What the package variables that the law reads stand for, cell by cell. -/
import Derived.Test.YtpdhahkeghblmaaGreatDoorNC
import Derived.ProofKit
import Derived.LaidMore
import Derived.OpenShut
import Derived.Deep.Strs
import Derived.Below
import Derived.ChangeSame
namespace Go.Proofs.YtpdhahkeghblmaaGreatDoor
open Go Go.Proofs Go.ChangeShapes Go.WideShapes Go.RowKit

section
variable {w : World} {base : Nat} {spare : Nat → Bool} {held : Bool} {fuel : Nat} {cs : List Value} {p : List MemPlace}

theorem int_cells {t : TypeId} {n : Int} (ht : Tryz.prog.underlying t = some (.int .i64)) (h : DataW.trod (fun _ => ()) Tryz.prog w base spare held fuel t cs = some (.lit (.int .i64 n), p)) : cs = [.int .i64 n] := by
  obtain ⟨k, e1, e2, _⟩ := DataW.trod_int ht h
  simp at e2
  rw [e1, e2.1]

theorem accepted_cells {a b c : Int} (h : DataW.trod (fun _ => ()) Tryz.prog w base spare held fuel 254 cs = some (.agg [.lit (.int .i64 a), .lit (.int .i64 b), .lit (.int .i64 c)], p)) : cs = [.int .i64 a, .int .i64 b, .int .i64 c] := by
  have c3 : Tryz.prog.cellsOf 3 = 1 := by kernel_rfl
  have c35 : Tryz.prog.cellsOf 35 = 1 := by kernel_rfl
  have c254 : Tryz.prog.cellsOf 254 = 3 := by kernel_rfl
  obtain ⟨y0, y1, y2, n, hx, hl, h0, h1, h2⟩ := Go.Deep.trod_struct3 Tryz.underlying254 h
  obtain ⟨y0, q0⟩ := y0
  obtain ⟨y1, q1⟩ := y1
  obtain ⟨y2, q2⟩ := y2
  simp only [Prod.mk.injEq, DataW.agg.injEq, List.cons.injEq, and_true] at hx
  obtain ⟨⟨rfl, rfl, rfl⟩, _⟩ := hx
  rw [c254] at hl
  have h0 := int_cells Tryz.underlying35 h0
  have h1 := int_cells Tryz.underlying3 h1
  have h2 := int_cells Tryz.underlying3 h2
  rw [c35] at h0
  rw [c3] at h1 h2
  clear h
  obtain ⟨x, y, z, rfl⟩ : ∃ x y z, cs = [x, y, z] := by
    rcases cs with _ | ⟨x, _ | ⟨y, _ | ⟨z, _ | ⟨u, r⟩⟩⟩⟩ <;> simp at hl
    exact ⟨x, y, z, rfl⟩
  simp at h0 h1 h2
  rw [h0, h1, h2]

theorem widths_cells {a b c d e : Int} (h : DataW.trod (fun _ => ()) Tryz.prog w base spare held fuel 552 cs = some (.agg [.lit (.int .i64 a), .lit (.int .i64 b), .lit (.int .i64 c), .lit (.int .i64 d), .lit (.int .i64 e)], p)) :
    cs = [.int .i64 a, .int .i64 b, .int .i64 c, .int .i64 d, .int .i64 e] := by
  have c3 : Tryz.prog.cellsOf 3 = 1 := by kernel_rfl
  have c552 : Tryz.prog.cellsOf 552 = 5 := by kernel_rfl
  obtain ⟨xs, m, _, hx, hl, hn, hel⟩ := DataW.trod_array Tryz.underlying552 h
  rw [c552] at hl
  simp only [c3] at hel
  match xs, hn with
  | [(x0, q0), (x1, q1), (x2, q2), (x3, q3), (x4, q4)], _ =>
    simp only [Prod.mk.injEq, DataW.agg.injEq, List.cons.injEq, and_true, List.map_cons, List.map_nil] at hx
    obtain ⟨⟨rfl, rfl, rfl, rfl, rfl⟩, _⟩ := hx
    have h0 := int_cells Tryz.underlying3 (hel 0 (by decide))
    have h1 := int_cells Tryz.underlying3 (hel 1 (by decide))
    have h2 := int_cells Tryz.underlying3 (hel 2 (by decide))
    have h3 := int_cells Tryz.underlying3 (hel 3 (by decide))
    have h4 := int_cells Tryz.underlying3 (hel 4 (by decide))
    match cs, hl with
    | [v0, v1, v2, v3, v4], _ =>
      simp at h0 h1 h2 h3 h4
      rw [h0, h1, h2, h3, h4]
end

/-- A variable's cells, as the shadow machine asks them. -/
theorem glob_of {P : Program} {w : World} {n : String} {g : Nat} {vs : Array Value} (hg : P.globalNamed n = some g) (h : w.var? P n = some vs) : g < w.heap.size ∧ ∃ e fz, w.heap[g]? = some (.cells vs e fz) := by
  simp only [World.var?, hg, Option.bind_some] at h
  split at h
  · rename_i cs e fz he
    cases h
    exact ⟨(Array.getElem?_eq_some_iff.1 he).1, e, fz, he⟩
  · cases h

theorem globOk_of {w : World} {v0 v2 : Array Value} {g0 g2 : String} (hg0 : Tryz.prog.globalNamed g0 = some 0) (hg2 : Tryz.prog.globalNamed g2 = some 2) (h0 : w.var? Tryz.prog g0 = some v0) (h2 : w.var? Tryz.prog g2 = some v2)
    (e0 : v0.toList = [.int .i64 0, .int .i64 (-1), .int .i64 (-1)]) (e2 : v2.toList = [.int .i64 0, .int .i64 1, .int .i64 8, .int .i64 32, .int .i64 64]) : Shd.GlobOk G49 w.heap.size w := by
  obtain ⟨l0, t0, f0, k0⟩ := glob_of hg0 h0
  obtain ⟨l2, t2, f2, k2⟩ := glob_of hg2 h2
  intro g cs hgc
  unfold G49 at hgc
  split at hgc
  · rename_i hb
    cases Nat.eq_of_beq_eq_true hb
    cases hgc
    exact ⟨l0, v0, t0, f0, k0, fun μ => by rw [e0]; exact ⟨_, [], (List.append_nil _).symm, by simp [Shd.VRs, Shd.VR]⟩⟩
  · split at hgc
    · rename_i hb
      cases Nat.eq_of_beq_eq_true hb
      cases hgc
      exact ⟨l2, v2, t2, f2, k2, fun μ => by rw [e2]; exact ⟨_, [], (List.append_nil _).symm, by simp [Shd.VRs, Shd.VR]⟩⟩
    · cases hgc
end Go.Proofs.YtpdhahkeghblmaaGreatDoor
