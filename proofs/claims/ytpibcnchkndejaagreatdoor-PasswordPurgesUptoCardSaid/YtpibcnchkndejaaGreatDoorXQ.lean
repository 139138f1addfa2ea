/- The closed facts of a row, one by one. Printed by wip/src/genfacts.py. -/
import Derived.Test.YtpibcnchkndejaaGreatDoorRows
import Derived.JoinedCond
import Derived.KernelRfl
namespace Go.Proofs.YtpibcnchkndejaaGreatDoor.Facts
open Go
set_option maxRecDepth 2000000 in
theorem j0 : (Rows.passwordPurgesUptoRow.wf (_root_.Go.OpenSpec.ofChange Rows.passwordPurgesSpec)) = true := by kernel_rfl
set_option maxRecDepth 2000000 in
theorem j1 : (laidOutB Tryz.prog) = true := by kernel_rfl
set_option maxRecDepth 2000000 in
theorem j2 : (mapsRowed Tryz.prog) = true := by kernel_rfl
set_option maxRecDepth 2000000 in
theorem j3 : (Tryz.f3.params.all (Tryz.prog.readableRec ·)) = true := by kernel_rfl
set_option maxRecDepth 2000000 in
theorem j4 : (namedTie Tryz.prog Rows.passwordPurgesUptoRow.named Rows.passwordPurgesSpec.vars) = true := by kernel_rfl
set_option maxRecDepth 2000000 in
theorem j5 : ((Rows.passwordPurgesUptoRow.stops == [])) = true := by kernel_rfl
set_option maxRecDepth 2000000 in
theorem j6 : ((Tryz.prog.stops == [])) = true := by kernel_rfl
set_option maxRecDepth 2000000 in
theorem j7 : ((Rows.passwordPurgesUptoRow.knobs == [])) = true := by kernel_rfl
set_option maxRecDepth 2000000 in
theorem j8 : ((Tryz.prog.stopKnobs == [])) = true := by kernel_rfl
set_option maxRecDepth 2000000 in
theorem j9 : ((Rows.passwordPurgesUptoRow.inPlace == Tryz.prog.inPlace 3)) = true := by kernel_rfl
set_option maxRecDepth 2000000 in
theorem j10 : ((Rows.passwordPurgesUptoRow.unfollowed == Tryz.prog.unfollowed 3)) = true := by kernel_rfl
set_option maxRecDepth 2000000 in
theorem j11 : ((Rows.passwordPurgesUptoRow.recurses == Tryz.prog.recurses 3)) = true := by kernel_rfl
set_option maxRecDepth 2000000 in
theorem j12 : ((Rows.passwordPurgesUptoRow.named == Tryz.prog.varsNamed 3)) = true := by kernel_rfl
set_option maxRecDepth 2000000 in
theorem j13 : ((Rows.passwordPurgesUptoRow.maps == (Tryz.f3.params.toList ++ Rows.passwordPurgesSpec.plain.varTypes Tryz.prog).any (Tryz.prog.mapsRec ·))) = true := by kernel_rfl
set_option maxRecDepth 2000000 in
theorem j14 : ((Rows.passwordPurgesUptoRow.ifaces == (Tryz.f3.params.toList ++ Rows.passwordPurgesSpec.plain.varTypes Tryz.prog).any (Tryz.prog.ifacesRec ·))) = true := by kernel_rfl
set_option maxRecDepth 2000000 in
theorem j15 : ((Rows.passwordPurgesUptoRow.mapsOut == Tryz.prog.mapsAmong Tryz.f3.resultTypes.toList)) = true := by kernel_rfl
set_option maxRecDepth 2000000 in
theorem j16 : ((Rows.passwordPurgesUptoRow.loops == (Tryz.f3.params.toList ++ Rows.passwordPurgesSpec.plain.varTypes Tryz.prog).any (Tryz.prog.loopsFrom ·))) = true := by kernel_rfl
set_option maxRecDepth 2000000 in
theorem j17 : ((Rows.passwordPurgesUptoRow.wideKeys == (Tryz.f3.params.toList ++ Rows.passwordPurgesSpec.plain.varTypes Tryz.prog ++ Tryz.f3.resultTypes.toList).any (Tryz.prog.wideKeysFrom ·))) = true := by kernel_rfl
set_option maxRecDepth 2000000 in
theorem j18 : (Rows.passwordPurgesSpec.vars.all (Tryz.prog.varReadable ·)) = true := by kernel_rfl
set_option maxRecDepth 2000000 in
theorem j19 : (Tryz.f3.resultTypes.all (fun t => Tryz.prog.readableRec t && decide (t < Tryz.prog.types.size))) = true := by kernel_rfl
set_option maxRecDepth 2000000 in
theorem j20 : ((Rows.passwordPurgesUptoRow.ifacesOut == Tryz.f3.resultTypes.toList.any (Tryz.prog.ifacesRec ·))) = true := by kernel_rfl
set_option maxRecDepth 2000000 in
theorem j21 : ((Rows.passwordPurgesUptoRow.loopsOut == Tryz.f3.resultTypes.toList.any (Tryz.prog.loopsFrom ·))) = true := by kernel_rfl
set_option maxRecDepth 2000000 in
theorem j22 : ((Rows.passwordPurgesUptoRow.plainKeys == Tryz.prog.plainKeys)) = true := by kernel_rfl
set_option maxRecDepth 2000000 in
theorem j23 : (Rows.passwordPurgesUptoRow.shortTexts.isNone) = true := by kernel_rfl
set_option maxRecDepth 2000000 in
theorem j24 : (Tryz.prog.stopsHeard) = true := by kernel_rfl
set_option maxRecDepth 2000000 in
theorem j25 : (Tryz.prog.mayEnter) = true := by kernel_rfl
set_option maxRecDepth 2000000 in
theorem j26 : ((Rows.passwordPurgesUptoRow.lifted == Tryz.prog.liftsFinal)) = true := by kernel_rfl
set_option maxRecDepth 2000000 in
theorem j27 : ((Tryz.prog.make == some Rows.passwordPurgesUptoRow.make)) = true := by kernel_rfl
set_option maxRecDepth 2000000 in
theorem j28 : ((Rows.passwordPurgesUptoRow.kinds == (if Rows.passwordPurgesUptoRow.domain.isEmpty then [] else Tryz.f3.params.toList.map fun t => match Tryz.prog.underlying t with | some (.int k) => some k | _ => none))) = true := by kernel_rfl
set_option maxRecDepth 2000000 in
theorem j29 : ((Rows.passwordPurgesUptoRow.pinned == Rows.passwordPurgesUptoRow.pinnedBy)) = true := by kernel_rfl
set_option maxRecDepth 2000000 in
theorem j30 : ((Rows.passwordPurgesUptoRow.veiled == (Tryz.f3.params.toList ++ Rows.passwordPurgesSpec.plain.varTypes Tryz.prog ++ Tryz.f3.resultTypes.toList).any (Tryz.prog.veiledRec ·))) = true := by kernel_rfl
set_option maxRecDepth 2000000 in
theorem j31 : (Rows.passwordPurgesUptoRow.veiledFits Tryz.prog Tryz.f3.params.toList (Tryz.f3.params.toList ++ Rows.passwordPurgesSpec.plain.varTypes Tryz.prog ++ Tryz.f3.resultTypes.toList)) = true := by kernel_rfl
end Go.Proofs.YtpibcnchkndejaaGreatDoor.Facts
