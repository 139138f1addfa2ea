/- A part of the proof. -/
import Derived.Test.YtidadlcknkeodaaGreatDoorA14
set_option maxRecDepth 1000000
/- law30's known answers true. -/
namespace Go.MiniT
open Go Go.Mini
theorem known_run : isT (Go.Mini.run knownE 400 (.call 5 []) (Go.Mini.start knownE.G shaT.tab)) = true := by kernel_rfl
end Go.MiniT
