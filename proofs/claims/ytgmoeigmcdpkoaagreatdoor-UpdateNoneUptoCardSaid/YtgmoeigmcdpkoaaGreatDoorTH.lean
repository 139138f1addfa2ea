/- A part of the proof. -/
import Derived.Test.YtgmoeigmcdpkoaaGreatDoorTA
import Derived.Test.YtgmoeigmcdpkoaaGreatDoorTB
namespace Go.MiniT
open Go Go.Mini
def sumTab : List (List Nat × List Nat) := [(sumIn0, sumOut0), (sumIn1, sumOut1), (sumIn2, sumOut2), (sumIn3, sumOut3)]
noncomputable def lawO (b : Bool) : Orc := orOrc (orcArgs 4 [.agg (opqs 37)] b) (orOrc (orcJoin 172) (orOrc (orcIndex 218) (orOrc (orcClone 64) (orOrc (orcClone 65) (orOrc (orcClone 66) (orOrc (orcIter 27 37) (orcSum shaT 33 10 sumTab)))))))
noncomputable def lawE (b : Bool) : Env := EEw 40 (lawO b)
end Go.MiniT
