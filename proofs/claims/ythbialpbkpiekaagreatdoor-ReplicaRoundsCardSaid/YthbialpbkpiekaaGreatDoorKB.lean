/- law30's known answers true. -/
import Derived.Test.YthbialpbkpiekaaGreatDoorKA
namespace Go.MiniT
open Go Go.Mini
set_option maxRecDepth 1000000 in
theorem known_run : isT (Go.Mini.run knownE 400 (.call 5 []) (Go.Mini.start knownE.G shaT.tab)) = true := by kernel_rfl
end Go.MiniT
