/- The closed facts of a row, one by one. Printed by wip/src/genfacts.py. -/
import Derived.Test.YtokcfepmbfkobaaGreatDoorRows
import Derived.JoinedCond
import Derived.KernelRfl
namespace Go.Proofs.YtokcfepmbfkobaaGreatDoor.Facts
open Go
set_option maxRecDepth 2000000 in
theorem j0 : (Rows.failoverNoneUptoRow.wf (_root_.Go.OpenSpec.ofChange Rows.failoverNoneSpec)) = true := by kernel_rfl
set_option maxRecDepth 2000000 in
theorem j1 : (laidOutB Tryz.prog) = true := by kernel_rfl
set_option maxRecDepth 2000000 in
theorem j2 : (mapsRowed Tryz.prog) = true := by kernel_rfl
set_option maxRecDepth 2000000 in
theorem j3 : (Tryz.f3.params.all (Tryz.prog.readableRec ·)) = true := by kernel_rfl
set_option maxRecDepth 2000000 in
theorem j4 : (namedTie Tryz.prog Rows.failoverNoneUptoRow.named Rows.failoverNoneSpec.vars) = true := by kernel_rfl
set_option maxRecDepth 2000000 in
theorem j5 : ((Rows.failoverNoneUptoRow.stops == [])) = true := by kernel_rfl
set_option maxRecDepth 2000000 in
theorem j6 : ((Tryz.prog.stops == [])) = true := by kernel_rfl
set_option maxRecDepth 2000000 in
theorem j7 : ((Rows.failoverNoneUptoRow.knobs == [])) = true := by kernel_rfl
set_option maxRecDepth 2000000 in
theorem j8 : ((Tryz.prog.stopKnobs == [])) = true := by kernel_rfl
set_option maxRecDepth 2000000 in
theorem j9 : ((Rows.failoverNoneUptoRow.inPlace == Tryz.prog.inPlace 3)) = true := by kernel_rfl
set_option maxRecDepth 2000000 in
theorem j10 : ((Rows.failoverNoneUptoRow.unfollowed == Tryz.prog.unfollowed 3)) = true := by kernel_rfl
set_option maxRecDepth 2000000 in
theorem j11 : ((Rows.failoverNoneUptoRow.recurses == Tryz.prog.recurses 3)) = true := by kernel_rfl
set_option maxRecDepth 2000000 in
theorem j12 : ((Rows.failoverNoneUptoRow.named == Tryz.prog.varsNamed 3)) = true := by kernel_rfl
set_option maxRecDepth 2000000 in
theorem j13 : ((Rows.failoverNoneUptoRow.maps == (Tryz.f3.params.toList ++ Rows.failoverNoneSpec.plain.varTypes Tryz.prog).any (Tryz.prog.mapsRec ·))) = true := by kernel_rfl
set_option maxRecDepth 2000000 in
theorem j14 : ((Rows.failoverNoneUptoRow.ifaces == (Tryz.f3.params.toList ++ Rows.failoverNoneSpec.plain.varTypes Tryz.prog).any (Tryz.prog.ifacesRec ·))) = true := by kernel_rfl
set_option maxRecDepth 2000000 in
theorem j15 : ((Rows.failoverNoneUptoRow.mapsOut == Tryz.prog.mapsAmong Tryz.f3.resultTypes.toList)) = true := by kernel_rfl
set_option maxRecDepth 2000000 in
theorem j16 : ((Rows.failoverNoneUptoRow.loops == (Tryz.f3.params.toList ++ Rows.failoverNoneSpec.plain.varTypes Tryz.prog).any (Tryz.prog.loopsFrom ·))) = true := by kernel_rfl
set_option maxRecDepth 2000000 in
theorem j17 : ((Rows.failoverNoneUptoRow.wideKeys == (Tryz.f3.params.toList ++ Rows.failoverNoneSpec.plain.varTypes Tryz.prog ++ Tryz.f3.resultTypes.toList).any (Tryz.prog.wideKeysFrom ·))) = true := by kernel_rfl
set_option maxRecDepth 2000000 in
theorem j18 : (Rows.failoverNoneSpec.vars.all (Tryz.prog.varReadable ·)) = true := by kernel_rfl
set_option maxRecDepth 2000000 in
theorem j19 : (Tryz.f3.resultTypes.all (fun t => Tryz.prog.readableRec t && decide (t < Tryz.prog.types.size))) = true := by kernel_rfl
set_option maxRecDepth 2000000 in
theorem j20 : ((Rows.failoverNoneUptoRow.ifacesOut == Tryz.f3.resultTypes.toList.any (Tryz.prog.ifacesRec ·))) = true := by kernel_rfl
set_option maxRecDepth 2000000 in
theorem j21 : ((Rows.failoverNoneUptoRow.loopsOut == Tryz.f3.resultTypes.toList.any (Tryz.prog.loopsFrom ·))) = true := by kernel_rfl
set_option maxRecDepth 2000000 in
theorem j22 : ((Rows.failoverNoneUptoRow.plainKeys == Tryz.prog.plainKeys)) = true := by kernel_rfl
set_option maxRecDepth 2000000 in
theorem j23 : (Rows.failoverNoneUptoRow.shortTexts.isNone) = true := by kernel_rfl
set_option maxRecDepth 2000000 in
theorem j24 : (Tryz.prog.stopsHeard) = true := by kernel_rfl
set_option maxRecDepth 2000000 in
theorem j25 : (Tryz.prog.mayEnter) = true := by kernel_rfl
set_option maxRecDepth 2000000 in
theorem j26 : ((Rows.failoverNoneUptoRow.lifted == Tryz.prog.liftsFinal)) = true := by kernel_rfl
set_option maxRecDepth 2000000 in
theorem j27 : ((Tryz.prog.make == some Rows.failoverNoneUptoRow.make)) = true := by kernel_rfl
set_option maxRecDepth 2000000 in
theorem j28 : ((Rows.failoverNoneUptoRow.kinds == (if Rows.failoverNoneUptoRow.domain.isEmpty then [] else Tryz.f3.params.toList.map fun t => match Tryz.prog.underlying t with | some (.int k) => some k | _ => none))) = true := by kernel_rfl
set_option maxRecDepth 2000000 in
theorem j29 : ((Rows.failoverNoneUptoRow.pinned == Rows.failoverNoneUptoRow.pinnedBy)) = true := by kernel_rfl
set_option maxRecDepth 2000000 in
theorem j30 : ((Rows.failoverNoneUptoRow.veiled == (Tryz.f3.params.toList ++ Rows.failoverNoneSpec.plain.varTypes Tryz.prog ++ Tryz.f3.resultTypes.toList).any (Tryz.prog.veiledRec ·))) = true := by kernel_rfl
set_option maxRecDepth 2000000 in
theorem j31 : (Rows.failoverNoneUptoRow.veiledFits Tryz.prog Tryz.f3.params.toList (Tryz.f3.params.toList ++ Rows.failoverNoneSpec.plain.varTypes Tryz.prog ++ Tryz.f3.resultTypes.toList)) = true := by kernel_rfl
end Go.Proofs.YtokcfepmbfkobaaGreatDoor.Facts
