/- sha's add over opaque words: the state at 0 of 73 cells. -/
import Derived.Test.YthbialpbkpiekaaGreatDoorTB
namespace Go.MiniT
open Go Go.Mini
set_option maxRecDepth 1000000 in
theorem add_run1 : AddRun 73 0 := fun t u => by kernel_rfl
end Go.MiniT
