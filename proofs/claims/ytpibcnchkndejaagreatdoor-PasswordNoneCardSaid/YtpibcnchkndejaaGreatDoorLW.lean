/- The runs of PasswordNone. -/
import Derived.Test.YtpibcnchkndejaaGreatDoorTA
import Derived.Test.YtpibcnchkndejaaGreatDoorEG
namespace Go.MiniT
open Go Go.Mini
noncomputable def lawO (b : Bool) : Orc := orOrc (orcArgs 10 [.agg (opqs 11)] b) (orcArgs 6 [] true)
noncomputable def lawE (b : Bool) : Env := EEw 40 (lawO b)
set_option maxRecDepth 1000000 in
theorem run_ft : isT (Go.Mini.run (lawE false) 60 (.call 4 [.agg (opqs 11), .bool true]) (Go.Mini.start (lawE false).G .nil)) = true := by kernel_rfl
set_option maxRecDepth 1000000 in
theorem run_ff : isT (Go.Mini.run (lawE false) 60 (.call 4 [.agg (opqs 11), .bool false]) (Go.Mini.start (lawE false).G .nil)) = true := by kernel_rfl
set_option maxRecDepth 1000000 in
theorem run_tt : isT (Go.Mini.run (lawE true) 60 (.call 4 [.agg (opqs 11), .bool true]) (Go.Mini.start (lawE true).G .nil)) = true := by kernel_rfl
set_option maxRecDepth 1000000 in
theorem run_tf : isT (Go.Mini.run (lawE true) 60 (.call 4 [.agg (opqs 11), .bool false]) (Go.Mini.start (lawE true).G .nil)) = true := by kernel_rfl
theorem runs (b zero : Bool) : isT (Go.Mini.run (lawE b) 60 (.call 4 [.agg (opqs 11), .bool zero]) (Go.Mini.start (lawE b).G .nil)) = true := by
  cases b <;> cases zero
  · exact run_ff
  · exact run_ft
  · exact run_tf
  · exact run_tt
end Go.MiniT
