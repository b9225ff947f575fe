/-
  PassmanagerNil returns true at every name of a pass and every module, and leaves its arguments as they were: the tied card.
  Conditions: none beside the row's own: the package variables that the row lists start as the program's text lays them (tied to the text by the given tie).
-/
import Derived.Test.YtpdhahkeghblmaaGreatDoorK4
import Derived.Test.YtpdhahkeghblmaaGreatDoorTie
import Derived.Test.YtpdhahkeghblmaaGreatDoorCards
import Derived.SevenTiedAt
namespace Go.Proofs.YtpdhahkeghblmaaGreatDoor
open Go
set_option maxRecDepth 1000000

theorem nilWf : Rows.passmanagerNilRow.wfByText (OpenSpec.ofChange Rows.passmanagerNilSpec) = true := by kernel_rfl
theorem harnessIs : Tryz.pinned.checked.prog.mainIs = some (true, "e7af2bad0858e2fcb907ce6a8e4bb7241ca02b94241d49e8ec5d9a484118081b".toList) := by kernel_rfl
theorem looksYes : true = Tryz.prog.looks [] := by kernel_rfl
theorem standNo : ([9, 32].all fun u => !Tryz.prog.wantsStandIn u) = true := by kernel_rfl
theorem goes_of {P : Program} {f : Nat} {L : List Nat} (hc : P.closure f = L) (h1 : (L.any fun g => (Shd.tfunc P g).any Func.goes) = false) (h2 : P.funcs.toList.any Func.goes = false) : P.goes f = false := by
  unfold Program.goes
  rw [hc, ← Array.any_toList, h2, Bool.and_false, Bool.or_false, ← h1]
  simp only [Shd.tfunc_eq]
theorem goes5 : Tryz.prog.goes 5 = false := goes_of (P := Tryz.prog) (L := closureL) closure5 (by kernel_rfl) (by kernel_rfl)
theorem goesFrom5 : Tryz.prog.goesFrom "burnish/burnishlaw49.PassmanagerNil" = false := by
  unfold Program.goesFrom
  rw [named5, Option.any_some]
  exact goes5
theorem goesAt5 : Tryz.prog.goesAt .entering "burnish/burnishlaw49.PassmanagerNil" = false := by
  unfold Program.goesAt
  rw [goesFrom5]
  rfl
theorem nilGoes : false = Rows.passmanagerNilRow.goesBy Tryz.pinned.checked.prog := goesAt5.symm

theorem nil_card : Rows.PassmanagerNilCardSaid :=
  Claim7.holds_tied_plain_at .later [] [.data, .data, .data, .data, .data, .data, .data, .data] true (true, "e7af2bad0858e2fcb907ce6a8e4bb7241ca02b94241d49e8ec5d9a484118081b") true
    nil_holds (fun _ h => by cases h) nilWf (fun _ h => by cases h) passmanagerNil_row_tie rfl ⟨rfl, rfl⟩ harnessIs rfl
    (fun f fn hf hfn => by
      obtain rfl : f = 5 := Option.some.inj (named5.symm.trans hf) |>.symm
      obtain rfl : fn = Tryz.f5 := (Option.some.inj (Tryz.func5.symm.trans hfn)).symm
      refine ⟨looksYes, fun j t ht => ?_⟩
      rw [Tryz.params5] at ht
      have hm : t ∈ [9, 32] := by simpa using Array.mem_of_getElem? ht
      exact (show Tryz.prog.wantsStandIn t = false by simpa using List.all_eq_true.1 standNo t hm))
    nilGoes
#print axioms nil_card
end Go.Proofs.YtpdhahkeghblmaaGreatDoor
