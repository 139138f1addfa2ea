/- The closed facts of a row, one by one. Printed by wip/src/genfacts.py. -/
import Derived.Test.YthbialpbkpiekaaGreatDoorRows
import Derived.JoinedCond
import Derived.KernelRfl
namespace Go.Proofs.YthbialpbkpiekaaGreatDoor.Facts
open Go
set_option maxRecDepth 2000000 in
theorem j0 : (Rows.replicaRoundsRow.wf (_root_.Go.OpenSpec.ofChange Rows.replicaRoundsSpec)) = true := by kernel_rfl
set_option maxRecDepth 2000000 in
theorem j1 : (laidOutB Tryz.prog) = true := by kernel_rfl
set_option maxRecDepth 2000000 in
theorem j2 : (mapsRowed Tryz.prog) = true := by kernel_rfl
set_option maxRecDepth 2000000 in
theorem j3 : (Tryz.f3.params.all (Tryz.prog.readableRec ·)) = true := by kernel_rfl
set_option maxRecDepth 2000000 in
theorem j4 : (namedTie Tryz.prog Rows.replicaRoundsRow.named Rows.replicaRoundsSpec.vars) = true := by kernel_rfl
set_option maxRecDepth 2000000 in
theorem j5 : ((Rows.replicaRoundsRow.stops == [])) = true := by kernel_rfl
set_option maxRecDepth 2000000 in
theorem j6 : ((Tryz.prog.stops == [])) = true := by kernel_rfl
set_option maxRecDepth 2000000 in
theorem j7 : ((Rows.replicaRoundsRow.knobs == [])) = true := by kernel_rfl
set_option maxRecDepth 2000000 in
theorem j8 : ((Tryz.prog.stopKnobs == [])) = true := by kernel_rfl
set_option maxRecDepth 2000000 in
theorem j9 : ((Rows.replicaRoundsRow.inPlace == Tryz.prog.inPlace 3)) = true := by kernel_rfl
set_option maxRecDepth 2000000 in
theorem j10 : ((Rows.replicaRoundsRow.unfollowed == Tryz.prog.unfollowed 3)) = true := by kernel_rfl
set_option maxRecDepth 2000000 in
theorem j11 : ((Rows.replicaRoundsRow.recurses == Tryz.prog.recurses 3)) = true := by kernel_rfl
set_option maxRecDepth 2000000 in
theorem j12 : ((Rows.replicaRoundsRow.named == Tryz.prog.varsNamed 3)) = true := by kernel_rfl
set_option maxRecDepth 2000000 in
theorem j13 : ((Rows.replicaRoundsRow.maps == (Tryz.f3.params.toList ++ Rows.replicaRoundsSpec.plain.varTypes Tryz.prog).any (Tryz.prog.mapsRec ·))) = true := by kernel_rfl
set_option maxRecDepth 2000000 in
theorem j14 : ((Rows.replicaRoundsRow.ifaces == (Tryz.f3.params.toList ++ Rows.replicaRoundsSpec.plain.varTypes Tryz.prog).any (Tryz.prog.ifacesRec ·))) = true := by kernel_rfl
set_option maxRecDepth 2000000 in
theorem j15 : ((Rows.replicaRoundsRow.mapsOut == Tryz.prog.mapsAmong Tryz.f3.resultTypes.toList)) = true := by kernel_rfl
set_option maxRecDepth 2000000 in
theorem j16 : ((Rows.replicaRoundsRow.loops == (Tryz.f3.params.toList ++ Rows.replicaRoundsSpec.plain.varTypes Tryz.prog).any (Tryz.prog.loopsFrom ·))) = true := by kernel_rfl
set_option maxRecDepth 2000000 in
theorem j17 : ((Rows.replicaRoundsRow.wideKeys == (Tryz.f3.params.toList ++ Rows.replicaRoundsSpec.plain.varTypes Tryz.prog ++ Tryz.f3.resultTypes.toList).any (Tryz.prog.wideKeysFrom ·))) = true := by kernel_rfl
set_option maxRecDepth 2000000 in
theorem j18 : (Rows.replicaRoundsSpec.vars.all (Tryz.prog.varReadable ·)) = true := by kernel_rfl
set_option maxRecDepth 2000000 in
theorem j19 : (Tryz.f3.resultTypes.all (fun t => Tryz.prog.readableRec t && decide (t < Tryz.prog.types.size))) = true := by kernel_rfl
set_option maxRecDepth 2000000 in
theorem j20 : ((Rows.replicaRoundsRow.ifacesOut == Tryz.f3.resultTypes.toList.any (Tryz.prog.ifacesRec ·))) = true := by kernel_rfl
set_option maxRecDepth 2000000 in
theorem j21 : ((Rows.replicaRoundsRow.loopsOut == Tryz.f3.resultTypes.toList.any (Tryz.prog.loopsFrom ·))) = true := by kernel_rfl
set_option maxRecDepth 2000000 in
theorem j22 : ((Rows.replicaRoundsRow.plainKeys == Tryz.prog.plainKeys)) = true := by kernel_rfl
set_option maxRecDepth 2000000 in
theorem j23 : (Rows.replicaRoundsRow.shortTexts.isNone) = true := by kernel_rfl
set_option maxRecDepth 2000000 in
theorem j24 : (Tryz.prog.stopsHeard) = true := by kernel_rfl
set_option maxRecDepth 2000000 in
theorem j25 : (Tryz.prog.mayEnter) = true := by kernel_rfl
set_option maxRecDepth 2000000 in
theorem j26 : ((Rows.replicaRoundsRow.lifted == Tryz.prog.liftsFinal)) = true := by kernel_rfl
set_option maxRecDepth 2000000 in
theorem j27 : ((Tryz.prog.make == some Rows.replicaRoundsRow.make)) = true := by kernel_rfl
set_option maxRecDepth 2000000 in
theorem j28 : ((Rows.replicaRoundsRow.kinds == (if Rows.replicaRoundsRow.domain.isEmpty then [] else Tryz.f3.params.toList.map fun t => match Tryz.prog.underlying t with | some (.int k) => some k | _ => none))) = true := by kernel_rfl
set_option maxRecDepth 2000000 in
theorem j29 : ((Rows.replicaRoundsRow.pinned == Rows.replicaRoundsRow.pinnedBy)) = true := by kernel_rfl
set_option maxRecDepth 2000000 in
theorem j30 : ((Rows.replicaRoundsRow.veiled == (Tryz.f3.params.toList ++ Rows.replicaRoundsSpec.plain.varTypes Tryz.prog ++ Tryz.f3.resultTypes.toList).any (Tryz.prog.veiledRec ·))) = true := by kernel_rfl
set_option maxRecDepth 2000000 in
theorem j31 : (Rows.replicaRoundsRow.veiledFits Tryz.prog Tryz.f3.params.toList (Tryz.f3.params.toList ++ Rows.replicaRoundsSpec.plain.varTypes Tryz.prog ++ Tryz.f3.resultTypes.toList)) = true := by kernel_rfl
end Go.Proofs.YthbialpbkpiekaaGreatDoor.Facts
