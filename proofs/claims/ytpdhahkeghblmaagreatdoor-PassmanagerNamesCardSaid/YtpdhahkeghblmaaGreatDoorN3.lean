/- What Pipeline and the reference return at a level: the same strings. -/
import Derived.Test.YtpdhahkeghblmaaGreatDoorN2
namespace Go.Proofs.YtpdhahkeghblmaaGreatDoor
open Go Go.Proofs Go.RowKit

def pipe0 : List Value := [str [115, 115, 97, 98, 117, 105, 108, 100], str [99, 108, 101, 97, 110, 117, 112]]
def pipe1 : List Value := [str [115, 115, 97, 98, 117, 105, 108, 100], str [112, 101, 101, 112, 104, 111, 108, 101], str [115, 99, 99, 112], str [99, 108, 101, 97, 110, 117, 112], str [103, 118, 110], str [108, 111, 97, 100, 101, 108, 105, 109], str [100, 115, 101], str [99, 108, 101, 97, 110, 117, 112]]
def pipe2 : List Value := [str [115, 115, 97, 98, 117, 105, 108, 100], str [105, 110, 108, 105, 110, 101, 114], str [112, 101, 101, 112, 104, 111, 108, 101], str [115, 99, 99, 112], str [106, 117, 109, 112, 116, 104, 114, 101, 97, 100], str [99, 108, 101, 97, 110, 117, 112], str [103, 118, 110], str [112, 114, 101], str [108, 111, 97, 100, 101, 108, 105, 109], str [100, 115, 101], str [108, 105, 99, 109], str [115, 116, 114, 101, 110, 103, 116, 104], str [112, 101, 101, 112, 104, 111, 108, 101], str [103, 118, 110], str [99, 108, 101, 97, 110, 117, 112]]
def pipe3 : List Value := [str [116, 97, 105, 108, 99, 97, 108, 108], str [117, 110, 114, 111, 108, 108], str [115, 99, 99, 112], str [99, 108, 101, 97, 110, 117, 112], str [115, 108, 112], str [103, 118, 110], str [100, 115, 101], str [99, 108, 101, 97, 110, 117, 112]]

theorem Tryz.info9 : (Tryz.prog.info? 9).map (fun i => (i.zero, i.size, i.bytes)) = some (some (.string ⟨#[]⟩), 1, 16) := by kernel_rfl

theorem strs_own {w w' : World} {v : Value} {l : List Value} (hne : l ≠ []) (h : w'.ownsRow w.heap.size 9 1 v l.length l) (hb : Below w.heap.size w w') : Strs w l (.returned v) w' := by
  have h0 := h
  rcases h.2 with ⟨_, h0⟩ | ⟨g, cap, cur, rfl, h1, h2, h3, h4, h5, h6⟩
  · exact absurd (List.length_eq_zero_iff.1 h0) hne
  · exact ⟨g, cap, rfl, h1, (Array.getElem?_eq_some_iff.1 h2).1, fun k hk => h0.cellAt k (by omega), hb⟩

theorem pipe9_le (n : Int) (h : n ≤ 0) (w : World) : Calls Tryz.prog 9 #[.int .i64 n] w (Strs w pipe0) := by
  go_enter Tryz.func9, Tryz.ntmps9
  go_wp2
  go_ret
  exact strs_alloc (l := pipe0)
theorem pipe9_1 (w : World) : Calls Tryz.prog 9 #[.int .i64 1] w (Strs w pipe1) := by
  go_enter Tryz.func9, Tryz.ntmps9
  go_wp2
  go_ret
  exact strs_alloc (l := pipe1)
theorem pipe9_2 (w : World) : Calls Tryz.prog 9 #[.int .i64 2] w (Strs w pipe2) := by
  go_enter Tryz.func9, Tryz.ntmps9
  go_wp2
  go_ret
  exact strs_alloc (l := pipe2)
theorem pipe10_le (n : Int) (h : n ≤ 0) (w : World) : Calls Tryz.prog 10 #[.int .i64 n] w (Strs w pipe0) := by
  go_enter Tryz.func10, Tryz.ntmps10
  go_wp2
  go_ret
  exact strs_alloc (l := pipe0)
theorem pipe10_1 (w : World) : Calls Tryz.prog 10 #[.int .i64 1] w (Strs w pipe1) := by
  go_enter Tryz.func10, Tryz.ntmps10
  go_wp2
  go_ret
  exact strs_alloc (l := pipe1)
theorem pipe10_2 (w : World) : Calls Tryz.prog 10 #[.int .i64 2] w (Strs w pipe2) := by
  go_enter Tryz.func10, Tryz.ntmps10
  go_wp2
  go_ret
  exact strs_alloc (l := pipe2)

theorem strs_grown {w w1 : World} {l : List Value} {t : TypeId} {b c : Nat} {arr : Array Value} {fz : Nat × Nat} (hw1 : Below w.heap.size w w1) (hb : b = w1.heap.size) (ha : ∀ k, k < l.length → arr[k]? = l[k]?) :
    Strs w l (.returned (.slice (some ⟨b, 0, none⟩) l.length c)) (w1.alloc (.cells arr t fz)).drew := by
  subst hb
  refine ⟨w1.heap.size, c, rfl, hw1.size, by simp, fun k hk => ?_, (hw1.alloc hw1.size _).drew⟩
  have h : (w1.alloc (.cells arr t fz)).drew.heap[w1.heap.size]? = some (.cells arr t fz) := by show (w1.heap.push _)[w1.heap.size]? = _; simp
  unfold World.cell?
  simp only [h]
  exact ha k hk

theorem take_cells {l m : List Value} {z : Array Value} : ∀ k, k < (l ++ m).length → (l.toArray ++ (m.toArray ++ z))[k]? = (l ++ m)[k]? := by
  intro k hk
  rw [← Array.append_assoc, Array.getElem?_append_left (by simpa using hk)]
  simp

set_option maxRecDepth 100000 in
theorem pipe9_ge (n : Int) (h : 3 ≤ n) (w : World) : Calls Tryz.prog 9 #[.int .i64 n] w (Strs w (pipe2 ++ pipe3)) := by
  go_enter Tryz.func9, Tryz.ntmps9
  go_wp2
  go_ret
  exact strs_grown (l := pipe2 ++ pipe3) (((Below.refl _ _).alloc (Nat.le_refl _) _).alloc (by simp) _) (by simp) take_cells
set_option maxRecDepth 100000 in
theorem pipe10_ge (n : Int) (h : 3 ≤ n) (w : World) : Calls Tryz.prog 10 #[.int .i64 n] w (Strs w (pipe2 ++ pipe3)) := by
  go_enter Tryz.func10, Tryz.ntmps10
  go_wp2
  go_ret
  exact strs_grown (l := pipe2 ++ pipe3) (((Below.refl _ _).alloc (Nat.le_refl _) _).alloc (by simp) _) (by simp) take_cells

/-- The two pipelines of a level hold the same. -/
theorem pipes (n : Int) : ∃ l, l.length ≤ 1000 ∧ (∀ k (h : k < l.length), ∃ s, l[k] = .string s) ∧ (∀ w, Calls Tryz.prog 9 #[.int .i64 n] w (Strs w l)) ∧ ∀ w, Calls Tryz.prog 10 #[.int .i64 n] w (Strs w l) := by
  have str_of : ∀ (l : List (List UInt8)) k (h : k < (l.map str).length), ∃ s, (l.map str)[k] = .string s := fun l k h => ⟨_, by rw [List.getElem_map]; rfl⟩
  rcases Int.lt_trichotomy n 1 with h | rfl | h
  · exact ⟨pipe0, by decide, str_of [_, _], fun w => pipe9_le n (by omega) w, fun w => pipe10_le n (by omega) w⟩
  · exact ⟨pipe1, by decide, str_of [_, _, _, _, _, _, _, _], pipe9_1, pipe10_1⟩
  · by_cases h2 : n = 2
    · subst h2; exact ⟨pipe2, by decide, str_of [_, _, _, _, _, _, _, _, _, _, _, _, _, _, _], pipe9_2, pipe10_2⟩
    · exact ⟨pipe2 ++ pipe3, by decide, str_of [_, _, _, _, _, _, _, _, _, _, _, _, _, _, _, _, _, _, _, _, _, _, _], fun w => pipe9_ge n (by omega) w, fun w => pipe10_ge n (by omega) w⟩
end Go.Proofs.YtpdhahkeghblmaaGreatDoor
