/- A world in which the row's conditions are met. -/
import Derived.Test.YtpdhahkeghblmaaGreatDoorK2
import Derived.LaidByTextLater
import Derived.LaidOnce
namespace Go.Proofs.YtpdhahkeghblmaaGreatDoor
open Go Go.Proofs Go.ChangeShapes Go.WideShapes Go.ChangeAt Go.RowKit

/-- The package variables' blocks, as the row lists what they read as. -/
def varBlocks : List Obj :=
  [.cells #[.int .i64 0, .int .i64 (-1), .int .i64 (-1)] 254,
   .cells ([0, 1, 56, 2, 57, 49, 28, 3, 61, 58, 42, 50, 38, 29, 17, 4, 62, 47, 59, 36, 45, 43, 51, 22, 53, 39, 33, 30, 24, 18, 12, 5, 63, 55, 48, 27, 60, 41, 37, 16, 46, 35, 44, 21, 52, 32, 23, 11, 54, 26, 40, 15, 34, 20, 31, 10, 25, 14, 19, 9, 13, 8, 7, 6].map (Value.int .u8)).toArray 548,
   .cells ([0, 1, 8, 32, 64].map (Value.int .i64)).toArray 552,
   .cells #[.int .i64 0, .int .i64 0, .int .i64 0, .bool false] 519,
   .cells #[.int .i64 0, .bool false, .bool true] 423,
   .cells #[.int .i64 0, .bool true, .bool false] 423,
   .cells ([1, 10, 100, 1000, 10000, 100000, 1000000, 10000000, 100000000, 1000000000, 10000000000, 100000000000, 1000000000000, 10000000000000, 100000000000000, 1000000000000000, 10000000000000000, 100000000000000000, 1000000000000000000, 10000000000000000000].map (Value.int .u64)).toArray 1030,
   .cells ([0, 1, 28, 2, 29, 14, 24, 3, 30, 22, 20, 15, 25, 17, 4, 8, 31, 27, 13, 23, 21, 19, 16, 7, 26, 12, 18, 6, 11, 5, 10, 9].map (Value.int .u8)).toArray 1036]
/-- A start that fits: the settled world, its variables as the row lists them. -/
noncomputable def start (os : Os) : World :=
  { World.settled Tryz.prog os with heap := (varBlocks ++ (World.settled Tryz.prog os).heap.toList.drop 8).toArray }
noncomputable def entry (os : Os) : World := (start os).forCall (fun _ _ => 0) ⟨#[], #[.string ⟨#[]⟩, .agg #[.slice none 0 0, .slice none 0 0]], []⟩

theorem laidMet_bits {P : Program} {w : World} {l : List (String × DataW Unit)} (fuel M : Nat) (h : (DataW.laidRun P w fuel (l.map (·.1))).map (·.1) = some l)
    (hr : (DataW.laidRun P w fuel (l.map (·.1))).map (fun x => nodupBits M x.2 0 && laidRowsB P w x.2) = some true) : laidMet P l w := by
  cases hx : DataW.laidRun P w fuel (l.map (·.1)) with
  | none => simp [hx] at h
  | some x =>
    simp only [hx, Option.map_some, Option.some.injEq, Bool.and_eq_true] at h hr
    exact laidMet_of_run (ps := x.2) fuel (by rw [hx, ← h]) (decide_eq_true (nodupBits_sound hr.1).1) hr.2

theorem start_reads (os : Os) : (DataW.laidRun Tryz.prog (entry os).memory 8 (Rows.passmanagerNilRow.laid.map (·.1))).map (·.1) = some Rows.passmanagerNilRow.laid := by kernel_rfl
theorem start_apart (os : Os) : (DataW.laidRun Tryz.prog (entry os).memory 8 (Rows.passmanagerNilRow.laid.map (·.1))).map (fun x => nodupBits 65 x.2 0 && laidRowsB Tryz.prog (entry os).memory x.2) = some true := by kernel_rfl
theorem start_met (os : Os) : laidMetH Tryz.prog Rows.passmanagerNilRow.laid (entry os).memory := by
  rw [MakeChecks.laidMetH_plain _ _ _ (by kernel_rfl)]
  exact laidMet_bits 8 65 (start_reads os) (start_apart os)
theorem start_shaped (os : Os) : (entry os).Shaped Tryz.prog := World.shaped_of_RefB (by kernel_rfl) (by kernel_rfl)
end Go.Proofs.YtpdhahkeghblmaaGreatDoor
