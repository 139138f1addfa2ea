/- The run of known. -/
import Derived.Test.YtpibcnchkndejaaGreatDoorKA
namespace Go.MiniT
open Go Go.Mini
set_option maxRecDepth 1000000 in
theorem known_run : isT (Go.Mini.run knownE 60 (.call 6 []) (Go.Mini.start knownE.G shaT.tab)) = true := by kernel_rfl
end Go.MiniT
