/- The law's run where the update is large. -/
import Derived.Test.YtgmoeigmcdpkoaaGreatDoorTH
namespace Go.MiniT
open Go Go.Mini
set_option maxRecDepth 1000000 in
theorem run_t : isT (Go.Mini.run (lawE true) 60 (.call 3 [.agg (opqs 37), .opq 37]) (Go.Mini.start (lawE true).G shaT.tab)) = true := by kernel_rfl
end Go.MiniT
