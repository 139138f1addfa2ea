/- The law's run. -/
import Derived.Test.YtgmoeigmcdpkoaaGreatDoorTI
import Derived.Test.YtgmoeigmcdpkoaaGreatDoorTJ
namespace Go.MiniT
open Go Go.Mini
theorem runs (b : Bool) : isT (Go.Mini.run (lawE b) 60 (.call 3 [.agg (opqs 37), .opq 37]) (Go.Mini.start (lawE b).G shaT.tab)) = true := by
  cases b
  · exact run_f
  · exact run_t
end Go.MiniT
