/- A part of the proof. -/
import Derived.Test.YtpfifochimkpfaaGreatDoorRows
import Derived.JoinedCond
import Derived.KernelRfl
set_option maxRecDepth 2000000
namespace Go.Proofs.YtpfifochimkpfaaGreatDoor.Facts
open Go
theorem j0:(Rows.lockoutRecordsUptoRow.wf (_root_.Go.OpenSpec.ofChange Rows.lockoutRecordsSpec))=true:=by kernel_rfl
theorem j1:(laidOutB Tryz.prog)=true:=by kernel_rfl
theorem j2:(mapsRowed Tryz.prog)=true:=by kernel_rfl
theorem j3:(Tryz.f3.params.all (Tryz.prog.readableRec ·))=true:=by kernel_rfl
theorem j4:(namedTie Tryz.prog Rows.lockoutRecordsUptoRow.named Rows.lockoutRecordsSpec.vars)=true:=by kernel_rfl
theorem j5:((Rows.lockoutRecordsUptoRow.stops == []))=true:=by kernel_rfl
theorem j6:((Tryz.prog.stops == []))=true:=by kernel_rfl
theorem j7:((Rows.lockoutRecordsUptoRow.knobs == []))=true:=by kernel_rfl
theorem j8:((Tryz.prog.stopKnobs == []))=true:=by kernel_rfl
theorem j9:((Rows.lockoutRecordsUptoRow.inPlace == Tryz.prog.inPlace 3))=true:=by kernel_rfl
theorem j10:((Rows.lockoutRecordsUptoRow.unfollowed == Tryz.prog.unfollowed 3))=true:=by kernel_rfl
theorem j11:((Rows.lockoutRecordsUptoRow.recurses == Tryz.prog.recurses 3))=true:=by kernel_rfl
theorem j12:((Rows.lockoutRecordsUptoRow.named == Tryz.prog.varsNamed 3))=true:=by kernel_rfl
theorem j13:((Rows.lockoutRecordsUptoRow.maps == (Tryz.f3.params.toList++Rows.lockoutRecordsSpec.plain.varTypes Tryz.prog).any (Tryz.prog.mapsRec ·)))=true:=by kernel_rfl
theorem j14:((Rows.lockoutRecordsUptoRow.ifaces == (Tryz.f3.params.toList++Rows.lockoutRecordsSpec.plain.varTypes Tryz.prog).any (Tryz.prog.ifacesRec ·)))=true:=by kernel_rfl
theorem j15:((Rows.lockoutRecordsUptoRow.mapsOut == Tryz.prog.mapsAmong Tryz.f3.resultTypes.toList))=true:=by kernel_rfl
theorem j16:((Rows.lockoutRecordsUptoRow.loops == (Tryz.f3.params.toList++Rows.lockoutRecordsSpec.plain.varTypes Tryz.prog).any (Tryz.prog.loopsFrom ·)))=true:=by kernel_rfl
theorem j17:((Rows.lockoutRecordsUptoRow.wideKeys == (Tryz.f3.params.toList++Rows.lockoutRecordsSpec.plain.varTypes Tryz.prog++Tryz.f3.resultTypes.toList).any (Tryz.prog.wideKeysFrom ·)))=true:=by kernel_rfl
theorem j18:(Rows.lockoutRecordsSpec.vars.all (Tryz.prog.varReadable ·))=true:=by kernel_rfl
theorem j19:(Tryz.f3.resultTypes.all (fun t=>Tryz.prog.readableRec t&&decide (t<Tryz.prog.types.size)))=true:=by kernel_rfl
theorem j20:((Rows.lockoutRecordsUptoRow.ifacesOut == Tryz.f3.resultTypes.toList.any (Tryz.prog.ifacesRec ·)))=true:=by kernel_rfl
theorem j21:((Rows.lockoutRecordsUptoRow.loopsOut == Tryz.f3.resultTypes.toList.any (Tryz.prog.loopsFrom ·)))=true:=by kernel_rfl
theorem j22:((Rows.lockoutRecordsUptoRow.plainKeys == Tryz.prog.plainKeys))=true:=by kernel_rfl
theorem j23:(Rows.lockoutRecordsUptoRow.shortTexts.isNone)=true:=by kernel_rfl
theorem j24:(Tryz.prog.stopsHeard)=true:=by kernel_rfl
theorem j25:(Tryz.prog.mayEnter)=true:=by kernel_rfl
theorem j26:((Rows.lockoutRecordsUptoRow.lifted == Tryz.prog.liftsFinal))=true:=by kernel_rfl
theorem j27:((Tryz.prog.make == some Rows.lockoutRecordsUptoRow.make))=true:=by kernel_rfl
theorem j28:((Rows.lockoutRecordsUptoRow.kinds == (if Rows.lockoutRecordsUptoRow.domain.isEmpty then []else Tryz.f3.params.toList.map fun t=>match Tryz.prog.underlying t with|some (.int k)=>some k|_=>none)))=true:=by kernel_rfl
theorem j29:((Rows.lockoutRecordsUptoRow.pinned == Rows.lockoutRecordsUptoRow.pinnedBy))=true:=by kernel_rfl
theorem j30:((Rows.lockoutRecordsUptoRow.veiled == (Tryz.f3.params.toList++Rows.lockoutRecordsSpec.plain.varTypes Tryz.prog++Tryz.f3.resultTypes.toList).any (Tryz.prog.veiledRec ·)))=true:=by kernel_rfl
theorem j31:(Rows.lockoutRecordsUptoRow.veiledFits Tryz.prog Tryz.f3.params.toList (Tryz.f3.params.toList++Rows.lockoutRecordsSpec.plain.varTypes Tryz.prog++Tryz.f3.resultTypes.toList))=true:=by kernel_rfl
end Go.Proofs.YtpfifochimkpfaaGreatDoor.Facts
