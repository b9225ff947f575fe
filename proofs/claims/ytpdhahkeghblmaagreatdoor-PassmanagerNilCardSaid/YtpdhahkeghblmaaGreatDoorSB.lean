/- Module at any module: it returns a diagnostic: a symbolic run, by the kernel. -/
import Derived.Test.YtpdhahkeghblmaaGreatDoorSA
namespace Go.Proofs.YtpdhahkeghblmaaGreatDoor
open Go Go.Shd Go.Sym
noncomputable section
set_option maxRecDepth 1000000
theorem module_run : sTop Tryz.prog KT joined hint 5000 15 [.agg [.sl 29 (.v 0), .sl 30 (.v 1)]] start0 isDiag = true := by kernel_rfl
end
end Go.Proofs.YtpdhahkeghblmaaGreatDoor
