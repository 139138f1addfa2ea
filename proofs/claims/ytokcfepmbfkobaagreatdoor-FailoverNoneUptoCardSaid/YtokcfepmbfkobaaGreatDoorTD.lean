/- A sum. -/
import Derived.Test.YtokcfepmbfkobaaGreatDoorTB
namespace Go.MiniT
open Go Go.Mini
set_option maxRecDepth 1000000 in
theorem sum1 : SumFact sumE shaT 60 60 8 sumIn1 sumOut1 := by
  unfold SumFact
  kernel_rfl
end Go.MiniT
