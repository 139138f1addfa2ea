/- A sum. -/
import Derived.Test.YtgmoeigmcdpkoaaGreatDoorTB
namespace Go.MiniT
open Go Go.Mini
set_option maxRecDepth 1000000 in
theorem sum2 : SumFact sumE shaT 33 60 10 sumIn2 sumOut2 := by
  unfold SumFact
  kernel_rfl
end Go.MiniT
