/- The closed facts of a row, one by one. Printed by wip/src/genfacts.py. -/
import Derived.Test.YtpibcnchkndejaaGreatDoorRows
import Derived.JoinedCond
import Derived.KernelRfl
namespace Go.Proofs.YtpibcnchkndejaaGreatDoor.Facts
open Go
set_option maxRecDepth 2000000 in
theorem j0 : (Rows.passwordNoneRow.wf (_root_.Go.OpenSpec.ofChange Rows.passwordNoneSpec)) = true := by kernel_rfl
set_option maxRecDepth 2000000 in
theorem j1 : (laidOutB Tryz.prog) = true := by kernel_rfl
set_option maxRecDepth 2000000 in
theorem j2 : (mapsRowed Tryz.prog) = true := by kernel_rfl
set_option maxRecDepth 2000000 in
theorem j3 : (Tryz.f4.params.all (Tryz.prog.readableRec ·)) = true := by kernel_rfl
set_option maxRecDepth 2000000 in
theorem j4 : (namedTie Tryz.prog Rows.passwordNoneRow.named Rows.passwordNoneSpec.vars) = true := by kernel_rfl
set_option maxRecDepth 2000000 in
theorem j5 : ((Rows.passwordNoneRow.stops == [])) = true := by kernel_rfl
set_option maxRecDepth 2000000 in
theorem j6 : ((Tryz.prog.stops == [])) = true := by kernel_rfl
set_option maxRecDepth 2000000 in
theorem j7 : ((Rows.passwordNoneRow.knobs == [])) = true := by kernel_rfl
set_option maxRecDepth 2000000 in
theorem j8 : ((Tryz.prog.stopKnobs == [])) = true := by kernel_rfl
set_option maxRecDepth 2000000 in
theorem j9 : ((Rows.passwordNoneRow.inPlace == Tryz.prog.inPlace 4)) = true := by kernel_rfl
set_option maxRecDepth 2000000 in
theorem j10 : ((Rows.passwordNoneRow.unfollowed == Tryz.prog.unfollowed 4)) = true := by kernel_rfl
set_option maxRecDepth 2000000 in
theorem j11 : ((Rows.passwordNoneRow.recurses == Tryz.prog.recurses 4)) = true := by kernel_rfl
set_option maxRecDepth 2000000 in
theorem j12 : ((Rows.passwordNoneRow.named == Tryz.prog.varsNamed 4)) = true := by kernel_rfl
set_option maxRecDepth 2000000 in
theorem j13 : ((Rows.passwordNoneRow.maps == (Tryz.f4.params.toList ++ Rows.passwordNoneSpec.plain.varTypes Tryz.prog).any (Tryz.prog.mapsRec ·))) = true := by kernel_rfl
set_option maxRecDepth 2000000 in
theorem j14 : ((Rows.passwordNoneRow.ifaces == (Tryz.f4.params.toList ++ Rows.passwordNoneSpec.plain.varTypes Tryz.prog).any (Tryz.prog.ifacesRec ·))) = true := by kernel_rfl
set_option maxRecDepth 2000000 in
theorem j15 : ((Rows.passwordNoneRow.mapsOut == Tryz.prog.mapsAmong Tryz.f4.resultTypes.toList)) = true := by kernel_rfl
set_option maxRecDepth 2000000 in
theorem j16 : ((Rows.passwordNoneRow.loops == (Tryz.f4.params.toList ++ Rows.passwordNoneSpec.plain.varTypes Tryz.prog).any (Tryz.prog.loopsFrom ·))) = true := by kernel_rfl
set_option maxRecDepth 2000000 in
theorem j17 : ((Rows.passwordNoneRow.wideKeys == (Tryz.f4.params.toList ++ Rows.passwordNoneSpec.plain.varTypes Tryz.prog ++ Tryz.f4.resultTypes.toList).any (Tryz.prog.wideKeysFrom ·))) = true := by kernel_rfl
set_option maxRecDepth 2000000 in
theorem j18 : (Rows.passwordNoneSpec.vars.all (Tryz.prog.varReadable ·)) = true := by kernel_rfl
set_option maxRecDepth 2000000 in
theorem j19 : (Tryz.f4.resultTypes.all (fun t => Tryz.prog.readableRec t && decide (t < Tryz.prog.types.size))) = true := by kernel_rfl
set_option maxRecDepth 2000000 in
theorem j20 : ((Rows.passwordNoneRow.ifacesOut == Tryz.f4.resultTypes.toList.any (Tryz.prog.ifacesRec ·))) = true := by kernel_rfl
set_option maxRecDepth 2000000 in
theorem j21 : ((Rows.passwordNoneRow.loopsOut == Tryz.f4.resultTypes.toList.any (Tryz.prog.loopsFrom ·))) = true := by kernel_rfl
set_option maxRecDepth 2000000 in
theorem j22 : ((Rows.passwordNoneRow.plainKeys == Tryz.prog.plainKeys)) = true := by kernel_rfl
set_option maxRecDepth 2000000 in
theorem j23 : (Rows.passwordNoneRow.shortTexts.isNone) = true := by kernel_rfl
set_option maxRecDepth 2000000 in
theorem j24 : (Tryz.prog.stopsHeard) = true := by kernel_rfl
set_option maxRecDepth 2000000 in
theorem j25 : (Tryz.prog.mayEnter) = true := by kernel_rfl
set_option maxRecDepth 2000000 in
theorem j26 : ((Rows.passwordNoneRow.lifted == Tryz.prog.liftsFinal)) = true := by kernel_rfl
set_option maxRecDepth 2000000 in
theorem j27 : ((Tryz.prog.make == some Rows.passwordNoneRow.make)) = true := by kernel_rfl
set_option maxRecDepth 2000000 in
theorem j28 : ((Rows.passwordNoneRow.kinds == (if Rows.passwordNoneRow.domain.isEmpty then [] else Tryz.f4.params.toList.map fun t => match Tryz.prog.underlying t with | some (.int k) => some k | _ => none))) = true := by kernel_rfl
set_option maxRecDepth 2000000 in
theorem j29 : ((Rows.passwordNoneRow.pinned == Rows.passwordNoneRow.pinnedBy)) = true := by kernel_rfl
set_option maxRecDepth 2000000 in
theorem j30 : ((Rows.passwordNoneRow.veiled == (Tryz.f4.params.toList ++ Rows.passwordNoneSpec.plain.varTypes Tryz.prog ++ Tryz.f4.resultTypes.toList).any (Tryz.prog.veiledRec ·))) = true := by kernel_rfl
set_option maxRecDepth 2000000 in
theorem j31 : (Rows.passwordNoneRow.veiledFits Tryz.prog Tryz.f4.params.toList (Tryz.f4.params.toList ++ Rows.passwordNoneSpec.plain.varTypes Tryz.prog ++ Tryz.f4.resultTypes.toList)) = true := by kernel_rfl
end Go.Proofs.YtpibcnchkndejaaGreatDoor.Facts
