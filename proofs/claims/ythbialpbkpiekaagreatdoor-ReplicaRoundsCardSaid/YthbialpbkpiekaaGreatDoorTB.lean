/- sha's add over opaque words: the state at so in a window of m cells. -/
import Derived.Test.YthbialpbkpiekaaGreatDoorTA
import Derived.Test.YthbialpbkpiekaaGreatDoorSB
namespace Go.MiniT
open Go Go.Mini
noncomputable def symE : Env := EEs 11 (orOrc (orcTurnS symT 88) (orcChS symT 89)) (boS symT) (fun s d x => coS symT s d 5 39 x)
noncomputable def opqsAt (k n : Nat) : List MV := Nat.rec (fun _ => []) (fun _ ih k => .opq k :: ih (Nat.succ k)) n k
noncomputable def winL (m so : Nat) (mid : List MV) : List MV := opqsAt 100000 so ++ (mid ++ opqsAt (Nat.add 100008 so) (Nat.sub m (Nat.add so 8)))
noncomputable def addTab (m so : Nat) (t u : TypeId) : Tr MB := (shaT.tab.put 10 (.cells (opqsAt 8 64) u 1 false)).put 11 (.cells (winL m so (opqsAt 0 8)) t 1 false)
noncomputable def resA : Option (MV × MH) → Option (List MV × TypeId)
  | some (.tup [], h) => match h.get 11 with
    | some (.cells cs u _ _) => some (cs, u)
    | _ => none
  | _ => none
def addOut : List MV := [.opq 1561, .opq 1562, .opq 1563, .opq 1564, .opq 1565, .opq 1566, .opq 1567, .opq 1568]
def AddRun (m so : Nat) : Prop := ∀ t u : TypeId, resA (Go.Mini.run symE 60 (.call 49 [.ptr 11 so, .sl 10 0 64 64]) ⟨addTab m so t u, 12⟩) = some (winL m so addOut, t)
end Go.MiniT
/- sha's add over opaque words: the state at 0 of 8 cells. -/
namespace Go.MiniT
open Go Go.Mini
set_option maxRecDepth 1000000 in
theorem add_run0 : AddRun 8 0 := fun t u => by kernel_rfl
end Go.MiniT
