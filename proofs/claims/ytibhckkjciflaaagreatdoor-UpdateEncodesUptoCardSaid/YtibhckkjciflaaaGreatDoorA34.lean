/- A part of the proof. -/
import Derived.Test.YtibhckkjciflaaaGreatDoorA33
set_option maxRecDepth 1000000
namespace Go.gQ
open Go Go.aI
theorem ak9:Ny (Go.aI.run Ia 400 (.call 5 []) (Go.aI.start Ia.G eH.tab))=true:=by kernel_rfl
end Go.gQ
