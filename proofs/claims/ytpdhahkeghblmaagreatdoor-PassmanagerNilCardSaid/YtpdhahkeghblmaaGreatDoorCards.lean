/-
  DERIVED. GIVEN WITH THE SEED: THE CARDS: each row of YtpdhahkeghblmaaGreatDoorRows.lean that lists a variable, with what it lists TIED to the program's text (the seventh form; the later family's looks); each row that meets fmt, with fmt's text TOLD by the authors' own Lean function (tested against real Go, not proved from fmt's source: count such statements apart). THE CARD IS WHAT COUNTS. Prove the row's statement (the work); the ties are given (YtpdhahkeghblmaaGreatDoorTie.lean); close each card by the builder's one call (the guide's Derived/Test/ToyasCard.lean, 'card_holds'). Laid BY PROGRAM, IN A SANDBOX (cutbox-door.mjs). By AI agents, Wed Nov 11 2026. No macro, syntax, notation, axiom, sorry.
-/
import Derived.Test.YtpdhahkeghblmaaGreatDoorRows
import GoSem.ClaimSeven
namespace Go.Proofs.YtpdhahkeghblmaaGreatDoor
namespace Rows

/-- THE TIED CARD OF 'burnishlaw49.PassmanagerNames'. -/
def passmanagerNamesCard : Claim7 := { stood := { row := passmanagerNamesRow, standIns := [], harness := (true, "e7af2bad0858e2fcb907ce6a8e4bb7241ca02b94241d49e8ec5d9a484118081b"), looks := true }, kinds := [], alts := [], laidByText := true, laidKinds := [.data, .data, .data, .data, .data, .data, .data, .data], laidTests := true, laidLooks := .later }
def PassmanagerNamesCardSaid : Prop := Claim7.holds Tryz.pinned (.plain (OpenSpec.ofChange passmanagerNamesSpec)) passmanagerNamesCard

/-- THE TIED CARD OF 'burnishlaw49.PassmanagerAnalyses'. -/
def passmanagerAnalysesCard : Claim7 := { stood := { row := passmanagerAnalysesRow, standIns := [], harness := (true, "e7af2bad0858e2fcb907ce6a8e4bb7241ca02b94241d49e8ec5d9a484118081b"), looks := true }, kinds := [], alts := [], laidByText := true, laidKinds := [.data, .data, .data, .data, .data, .data, .data, .data], laidTests := true, laidLooks := .later }
def PassmanagerAnalysesCardSaid : Prop := Claim7.holds Tryz.pinned (.plain (OpenSpec.ofChange passmanagerAnalysesSpec)) passmanagerAnalysesCard

/-- THE TIED CARD OF 'burnishlaw49.PassmanagerNil'. -/
def passmanagerNilCard : Claim7 := { stood := { row := passmanagerNilRow, standIns := [], harness := (true, "e7af2bad0858e2fcb907ce6a8e4bb7241ca02b94241d49e8ec5d9a484118081b"), looks := true }, kinds := [], alts := [], laidByText := true, laidKinds := [.data, .data, .data, .data, .data, .data, .data, .data], laidTests := true, laidLooks := .later }
def PassmanagerNilCardSaid : Prop := Claim7.holds Tryz.pinned (.plain (OpenSpec.ofChange passmanagerNilSpec)) passmanagerNilCard

/-- THE SECOND FORM's CARD OF 'burnishlaw49.PassmanagerNames'. -/
def passmanagerNamesUptoCard : Claim7 := { stood := { row := passmanagerNamesUptoRow, standIns := [], harness := (true, "e7af2bad0858e2fcb907ce6a8e4bb7241ca02b94241d49e8ec5d9a484118081b"), looks := true }, kinds := [], alts := [], laidByText := true, laidKinds := [.data, .data, .data, .data, .data, .data, .data, .data], laidTests := true, laidLooks := .later }
def PassmanagerNamesUptoCardSaid : Prop := Claim7.holds Tryz.pinned (.plain (OpenSpec.upto passmanagerNamesSpec)) passmanagerNamesUptoCard

/-- THE SECOND FORM's CARD OF 'burnishlaw49.PassmanagerAnalyses'. -/
def passmanagerAnalysesUptoCard : Claim7 := { stood := { row := passmanagerAnalysesUptoRow, standIns := [], harness := (true, "e7af2bad0858e2fcb907ce6a8e4bb7241ca02b94241d49e8ec5d9a484118081b"), looks := true }, kinds := [], alts := [], laidByText := true, laidKinds := [.data, .data, .data, .data, .data, .data, .data, .data], laidTests := true, laidLooks := .later }
def PassmanagerAnalysesUptoCardSaid : Prop := Claim7.holds Tryz.pinned (.plain (OpenSpec.upto passmanagerAnalysesSpec)) passmanagerAnalysesUptoCard

/-- THE SECOND FORM's CARD OF 'burnishlaw49.PassmanagerNil'. -/
def passmanagerNilUptoCard : Claim7 := { stood := { row := passmanagerNilUptoRow, standIns := [], harness := (true, "e7af2bad0858e2fcb907ce6a8e4bb7241ca02b94241d49e8ec5d9a484118081b"), looks := true }, kinds := [], alts := [], laidByText := true, laidKinds := [.data, .data, .data, .data, .data, .data, .data, .data], laidTests := true, laidLooks := .later }
def PassmanagerNilUptoCardSaid : Prop := Claim7.holds Tryz.pinned (.plain (OpenSpec.upto passmanagerNilSpec)) passmanagerNilUptoCard
end Rows
end Go.Proofs.YtpdhahkeghblmaaGreatDoor
