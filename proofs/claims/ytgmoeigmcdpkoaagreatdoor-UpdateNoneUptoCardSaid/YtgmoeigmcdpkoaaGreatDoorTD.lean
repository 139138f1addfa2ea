/- A sum. -/
import Derived.Test.YtgmoeigmcdpkoaaGreatDoorTB
namespace Go.MiniT
open Go Go.Mini
set_option maxRecDepth 1000000 in
theorem sum1 : SumFact sumE shaT 33 60 10 sumIn1 sumOut1 := by
  unfold SumFact
  kernel_rfl
end Go.MiniT
