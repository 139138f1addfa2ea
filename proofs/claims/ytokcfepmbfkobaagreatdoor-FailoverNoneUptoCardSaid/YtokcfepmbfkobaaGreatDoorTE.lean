/- A part of the proof. -/
import Derived.Test.YtokcfepmbfkobaaGreatDoorTA
import Derived.Test.YtokcfepmbfkobaaGreatDoorTB
import Derived.Test.YtokcfepmbfkobaaGreatDoorEG
namespace Go.MiniT
open Go Go.Mini
def sumTab : List (List Nat × List Nat) := [(sumIn0, sumOut0), (sumIn1, sumOut1)]
noncomputable def lawE (b : Bool) : Env := EEw 40 (orOrc (orcArgs 4 [.opq 8, .int .i64 4] b) (orOrc (orcJoin 190) (orcSum shaT 60 8 sumTab)))
set_option maxRecDepth 1000000 in
theorem run_f : isT (Go.Mini.run (lawE false) 60 (.call 3 [.agg (opqs 9)]) (Go.Mini.start (lawE false).G shaT.tab)) = true := by kernel_rfl
set_option maxRecDepth 1000000 in
theorem run_t : isT (Go.Mini.run (lawE true) 60 (.call 3 [.agg (opqs 9)]) (Go.Mini.start (lawE true).G shaT.tab)) = true := by kernel_rfl
theorem runs (b : Bool) : isT (Go.Mini.run (lawE b) 60 (.call 3 [.agg (opqs 9)]) (Go.Mini.start (lawE b).G shaT.tab)) = true := by
  cases b
  · exact run_f
  · exact run_t
end Go.MiniT
