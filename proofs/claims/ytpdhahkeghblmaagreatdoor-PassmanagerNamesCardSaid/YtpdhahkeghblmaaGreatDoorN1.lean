/- Two slices that hold the same strings compare equal. -/
import Derived.Test.YtpdhahkeghblmaaGreatDoorProg
import Derived.WalkKit
import Derived.Deep.QuietTactic
import Derived.BigQuiet
namespace Go.Proofs.YtpdhahkeghblmaaGreatDoor
open Go Go.Proofs Go.RowKit

theorem equal_same (l : List Value) (b1 b2 c1 c2 : Nat) (w : World) (hl : l.length ≤ 1000) (hs : ∀ k (h : k < l.length), ∃ s, l[k] = .string s)
    (h1 : ∀ k, k < l.length → w.cell? ⟨b1, k, none⟩ = l[k]?) (h2 : ∀ k, k < l.length → w.cell? ⟨b2, k, none⟩ = l[k]?) :
    Calls Tryz.prog 6 #[.slice (some ⟨b1, 0, none⟩) l.length c1, .slice (some ⟨b2, 0, none⟩) l.length c2] w fun e w' => e = .returned (.bool true) ∧ ∃ n, w' = w.drewN n := by
  go_enter Tryz.func6, Tryz.ntmps6
  go_wp2
  go_loopw [13, 5] (fun i _ wr => ∃ k n : Nat, k ≤ l.length ∧ i = .int .i64 k ∧ wr = w.drewN n) (fun i _ _ => l.length - (intOf i).toNat)
  case atStart => exact ⟨0, 0, by omega, rfl, rfl⟩
  case round =>
    obtain ⟨k, n, hk, rfl, rfl⟩ := hrel
    by_cases hlt : k < l.length
    · obtain ⟨s, hsk⟩ := hs k hlt
      have hlk : l[k]? = some (.string s) := by rw [List.getElem?_eq_getElem hlt, hsk]
      have e1 : w.cell? ⟨b1, k, none⟩ = some (.string s) := by rw [h1 k hlt, hlk]
      have e2 : w.cell? ⟨b2, k, none⟩ = some (.string s) := by rw [h2 k hlt, hlk]
      clear h1 h2 hs hlk hsk
      go_wp2
      go_quiet (fail)
      go_wp2
      go_roundw
      case rel => exact ⟨k + 1, _, by omega, by go_num, rfl⟩
      case measure => simp [intOf]; omega
    · go_wp2
      go_ret
      exact ⟨rfl, _, rfl⟩
end Go.Proofs.YtpdhahkeghblmaaGreatDoor
