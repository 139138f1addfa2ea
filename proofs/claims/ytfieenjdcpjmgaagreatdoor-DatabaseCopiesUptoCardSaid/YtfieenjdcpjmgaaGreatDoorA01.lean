/- A part of the proof. -/
import Derived.Test.YtfieenjdcpjmgaaGreatDoorRows
import Derived.JoinedCond
import Derived.KernelRfl
set_option maxRecDepth 2000000
namespace Go.Proofs.YtfieenjdcpjmgaaGreatDoor.Facts
open Go
theorem j0:(Rows.databaseCopiesUptoRow.wf (_root_.Go.OpenSpec.ofChange Rows.databaseCopiesSpec))=true:=by kernel_rfl
theorem j1:(laidOutB Tryz.prog)=true:=by kernel_rfl
theorem j2:(mapsRowed Tryz.prog)=true:=by kernel_rfl
theorem j3:(Tryz.f4.params.all (Tryz.prog.readableRec ·))=true:=by kernel_rfl
theorem j4:(namedTie Tryz.prog Rows.databaseCopiesUptoRow.named Rows.databaseCopiesSpec.vars)=true:=by kernel_rfl
theorem j5:((Rows.databaseCopiesUptoRow.stops == []))=true:=by kernel_rfl
theorem j6:((Tryz.prog.stops == []))=true:=by kernel_rfl
theorem j7:((Rows.databaseCopiesUptoRow.knobs == []))=true:=by kernel_rfl
theorem j8:((Tryz.prog.stopKnobs == []))=true:=by kernel_rfl
theorem j9:((Rows.databaseCopiesUptoRow.inPlace == Tryz.prog.inPlace 4))=true:=by kernel_rfl
theorem j10:((Rows.databaseCopiesUptoRow.unfollowed == Tryz.prog.unfollowed 4))=true:=by kernel_rfl
theorem j11:((Rows.databaseCopiesUptoRow.recurses == Tryz.prog.recurses 4))=true:=by kernel_rfl
theorem j12:((Rows.databaseCopiesUptoRow.named == Tryz.prog.varsNamed 4))=true:=by kernel_rfl
theorem j13:((Rows.databaseCopiesUptoRow.maps == (Tryz.f4.params.toList++Rows.databaseCopiesSpec.plain.varTypes Tryz.prog).any (Tryz.prog.mapsRec ·)))=true:=by kernel_rfl
theorem j14:((Rows.databaseCopiesUptoRow.ifaces == (Tryz.f4.params.toList++Rows.databaseCopiesSpec.plain.varTypes Tryz.prog).any (Tryz.prog.ifacesRec ·)))=true:=by kernel_rfl
theorem j15:((Rows.databaseCopiesUptoRow.mapsOut == Tryz.prog.mapsAmong Tryz.f4.resultTypes.toList))=true:=by kernel_rfl
theorem j16:((Rows.databaseCopiesUptoRow.loops == (Tryz.f4.params.toList++Rows.databaseCopiesSpec.plain.varTypes Tryz.prog).any (Tryz.prog.loopsFrom ·)))=true:=by kernel_rfl
theorem j17:((Rows.databaseCopiesUptoRow.wideKeys == (Tryz.f4.params.toList++Rows.databaseCopiesSpec.plain.varTypes Tryz.prog++Tryz.f4.resultTypes.toList).any (Tryz.prog.wideKeysFrom ·)))=true:=by kernel_rfl
theorem j18:(Rows.databaseCopiesSpec.vars.all (Tryz.prog.varReadable ·))=true:=by kernel_rfl
theorem j19:(Tryz.f4.resultTypes.all (fun t=>Tryz.prog.readableRec t&&decide (t<Tryz.prog.types.size)))=true:=by kernel_rfl
theorem j20:((Rows.databaseCopiesUptoRow.ifacesOut == Tryz.f4.resultTypes.toList.any (Tryz.prog.ifacesRec ·)))=true:=by kernel_rfl
theorem j21:((Rows.databaseCopiesUptoRow.loopsOut == Tryz.f4.resultTypes.toList.any (Tryz.prog.loopsFrom ·)))=true:=by kernel_rfl
theorem j22:((Rows.databaseCopiesUptoRow.plainKeys == Tryz.prog.plainKeys))=true:=by kernel_rfl
theorem j23:(Rows.databaseCopiesUptoRow.shortTexts.isNone)=true:=by kernel_rfl
theorem j24:(Tryz.prog.stopsHeard)=true:=by kernel_rfl
theorem j25:(Tryz.prog.mayEnter)=true:=by kernel_rfl
theorem j26:((Rows.databaseCopiesUptoRow.lifted == Tryz.prog.liftsFinal))=true:=by kernel_rfl
theorem j27:((Tryz.prog.make == some Rows.databaseCopiesUptoRow.make))=true:=by kernel_rfl
theorem j28:((Rows.databaseCopiesUptoRow.kinds == (if Rows.databaseCopiesUptoRow.domain.isEmpty then []else Tryz.f4.params.toList.map fun t=>match Tryz.prog.underlying t with|some (.int k)=>some k|_=>none)))=true:=by kernel_rfl
theorem j29:((Rows.databaseCopiesUptoRow.pinned == Rows.databaseCopiesUptoRow.pinnedBy))=true:=by kernel_rfl
theorem j30:((Rows.databaseCopiesUptoRow.veiled == (Tryz.f4.params.toList++Rows.databaseCopiesSpec.plain.varTypes Tryz.prog++Tryz.f4.resultTypes.toList).any (Tryz.prog.veiledRec ·)))=true:=by kernel_rfl
theorem j31:(Rows.databaseCopiesUptoRow.veiledFits Tryz.prog Tryz.f4.params.toList (Tryz.f4.params.toList++Rows.databaseCopiesSpec.plain.varTypes Tryz.prog++Tryz.f4.resultTypes.toList))=true:=by kernel_rfl
end Go.Proofs.YtfieenjdcpjmgaaGreatDoor.Facts
