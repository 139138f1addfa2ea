/- A sum. -/
import Derived.Test.YtgmoeigmcdpkoaaGreatDoorTB
namespace Go.MiniT
open Go Go.Mini
set_option maxRecDepth 1000000 in
theorem sum0 : SumFact sumE shaT 33 60 10 sumIn0 sumOut0 := by
  unfold SumFact
  kernel_rfl
end Go.MiniT
