/-
  PassmanagerNames returns true at every level and every name of a pass, and leaves its arguments as they were: the tied card.
  Conditions: none beside the row's own: the package variables that the row lists start as the program's text lays them (tied to the text by the given tie).
-/
import Derived.Test.YtpdhahkeghblmaaGreatDoorQ4
import Derived.Test.YtpdhahkeghblmaaGreatDoorTie
import Derived.Test.YtpdhahkeghblmaaGreatDoorCards
import Derived.SevenTiedAt
namespace Go.Proofs.YtpdhahkeghblmaaGreatDoor
open Go
set_option maxRecDepth 1000000

theorem namesWf : Rows.passmanagerNamesRow.wfByText (OpenSpec.ofChange Rows.passmanagerNamesSpec) = true := by kernel_rfl
theorem harnessIs : Tryz.pinned.checked.prog.mainIs = some (true, "e7af2bad0858e2fcb907ce6a8e4bb7241ca02b94241d49e8ec5d9a484118081b".toList) := by kernel_rfl
theorem looksYes : true = Tryz.prog.looks [] := by kernel_rfl
theorem standNo : ([3, 9].all fun u => !Tryz.prog.wantsStandIn u) = true := by kernel_rfl
theorem goes_of {P : Program} {f : Nat} {L : List Nat} (hc : P.closure f = L) (h1 : (L.any fun g => (Shd.tfunc P g).any Func.goes) = false) (h2 : P.funcs.toList.any Func.goes = false) : P.goes f = false := by
  unfold Program.goes
  rw [hc, ← Array.any_toList, h2, Bool.and_false, Bool.or_false, ← h1]
  simp only [Shd.tfunc_eq]
theorem goes3 : Tryz.prog.goes 3 = false := goes_of (P := Tryz.prog) (L := closureL) closure3 (by kernel_rfl) (by kernel_rfl)
theorem goesFrom3 : Tryz.prog.goesFrom "burnish/burnishlaw49.PassmanagerNames" = false := by
  unfold Program.goesFrom
  rw [named3, Option.any_some]
  exact goes3
theorem goesAt3 : Tryz.prog.goesAt .entering "burnish/burnishlaw49.PassmanagerNames" = false := by
  unfold Program.goesAt
  rw [goesFrom3]
  rfl
theorem namesGoes : false = Rows.passmanagerNamesRow.goesBy Tryz.pinned.checked.prog := goesAt3.symm

theorem names_card : Rows.PassmanagerNamesCardSaid :=
  Claim7.holds_tied_plain_at .later [] [.data, .data, .data, .data, .data, .data, .data, .data] true (true, "e7af2bad0858e2fcb907ce6a8e4bb7241ca02b94241d49e8ec5d9a484118081b") true
    names_holds (fun _ h => by cases h) namesWf (fun _ h => by cases h) passmanagerNames_row_tie rfl ⟨rfl, rfl⟩ harnessIs rfl
    (fun f fn hf hfn => by
      obtain rfl : f = 3 := Option.some.inj (named3.symm.trans hf) |>.symm
      obtain rfl : fn = Tryz.f3 := (Option.some.inj (Tryz.func3.symm.trans hfn)).symm
      refine ⟨looksYes, fun j t ht => ?_⟩
      rw [Tryz.params3] at ht
      have hm : t ∈ [3, 9] := by simpa using Array.mem_of_getElem? ht
      exact (show Tryz.prog.wantsStandIn t = false by simpa using List.all_eq_true.1 standNo t hm))
    namesGoes
#print axioms names_card
end Go.Proofs.YtpdhahkeghblmaaGreatDoor
