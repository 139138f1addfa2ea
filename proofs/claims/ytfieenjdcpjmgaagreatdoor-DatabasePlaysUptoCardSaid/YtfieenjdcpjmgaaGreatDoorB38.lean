/- A part of the proof. -/
import Derived.Test.YtfieenjdcpjmgaaGreatDoorB01
set_option maxRecDepth 2000000
namespace Go.Proofs.YtfieenjdcpjmgaaGreatDoor.Facts
open Go
theorem iD{a b:Bool}(h:a=true)(k:b=true):(a&&b)=true:=by rw[h,k];rfl
theorem closed:joinedFacts Tryz.prog 3 Tryz.f3 Rows.databasePlaysSpec Rows.databasePlaysUptoRow=true:=iD (iD (iD (iD (iD (iD (iD (iD (iD (iD (iD (iD (iD (iD (iD (iD (iD (iD (iD (iD (iD (iD (iD (iD (iD (iD (iD (iD (iD (iD (iD (j0) j1) j2) j3) j4) j5) j6) j7) j8) j9) j10) j11) j12) j13) j14) j15) j16) j17) j18) j19) j20) j21) j22) j23) j24) j25) j26) j27) j28) j29) j30) j31
end Go.Proofs.YtfieenjdcpjmgaaGreatDoor.Facts
