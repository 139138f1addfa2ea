/- A part of the proof. -/
import Derived.Test.YtjjdjncdlfnhkaaGreatDoorTA
namespace Go.Proofs.YtjjdjncdlfnhkaaGreatDoor
open Go.Mini Go.MiniT
set_option maxRecDepth 1000000
noncomputable def lawE (b : Bool) : Env := EEw 40 (orcRow 4 33 1 b)
theorem run_ff : isT (Go.Mini.run (lawE false) 60 (.call 3 [.agg (opqs 33), .bool false]) (Go.Mini.start (lawE false).G .nil)) = true := by kernel_rfl
theorem run_ft : isT (Go.Mini.run (lawE false) 60 (.call 3 [.agg (opqs 33), .bool true]) (Go.Mini.start (lawE false).G .nil)) = true := by kernel_rfl
theorem run_tf : isT (Go.Mini.run (lawE true) 60 (.call 3 [.agg (opqs 33), .bool false]) (Go.Mini.start (lawE true).G .nil)) = true := by kernel_rfl
theorem run_tt : isT (Go.Mini.run (lawE true) 60 (.call 3 [.agg (opqs 33), .bool true]) (Go.Mini.start (lawE true).G .nil)) = true := by kernel_rfl
theorem runs (b z : Bool) : isT (Go.Mini.run (lawE b) 60 (.call 3 [.agg (opqs 33), .bool z]) (Go.Mini.start (lawE b).G .nil)) = true := by
  cases b
  · cases z
    · exact run_ff
    · exact run_ft
  · cases z
    · exact run_tf
    · exact run_tt
end Go.Proofs.YtjjdjncdlfnhkaaGreatDoor
