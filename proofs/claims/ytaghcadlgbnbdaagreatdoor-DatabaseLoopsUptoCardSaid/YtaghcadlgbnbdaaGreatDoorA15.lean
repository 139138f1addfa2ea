/- A part of the proof. -/
import Derived.Test.YtaghcadlgbnbdaaGreatDoorA01
import Derived.Test.YtaghcadlgbnbdaaGreatDoorA14
import Derived.Test.YtaghcadlgbnbdaaGreatDoorA13
namespace Go.Dz
open Go Go.aY
set_option maxRecDepth 1000000
noncomputable def RF[dO]:Env:=EEw 40 (fun _ _ _=>none)
theorem apI[dO]:Ry (Go.aY.run RF 60 (.call 5 []) (Go.aY.start RF.G .nil))=true:=by kernel_rfl
end Go.Dz
namespace Go.Proofs.YtaghcadlgbnbdaaGreatDoor
open Go.RowKit Go.WW Go.aY Go.Dz
abbrev apJ:dO:=apx [] (fun _ h=>by cases h)
theorem RG(w:World):Calls Tryz.prog 5 #[] w fun e w'=>e=.returned (.bool true)∧Below w.heap.size w w':=by
 letI O:dO:=apJ
 have hO:KQ RF Tryz.prog (· < w.heap.size) w:=by
  intro f args h v h' ho
  cases ho
 exact apq (apH 40 _) hO (apr (show 10≤40 by omega) w) (args:=[]) trivial apI
end Go.Proofs.YtaghcadlgbnbdaaGreatDoor
