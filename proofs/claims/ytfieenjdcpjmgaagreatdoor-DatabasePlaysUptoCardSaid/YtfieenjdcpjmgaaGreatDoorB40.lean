/- DatabasePlays is true of every string and every list of acts whose reading is of bulk at most 1048576, and the arguments read afterwards as they read before: the card. Conditions: that bulk; the listed package-level variables hold what the program's text lays (the given tie). -/
import Derived.Test.YtfieenjdcpjmgaaGreatDoorB39
set_option maxRecDepth 2000000
namespace Go.Proofs.YtfieenjdcpjmgaaGreatDoor
open Go.ChangeShapes Go.WideShapes Go.ChangeAt Go.RowKit Go.WW Go.Deep
theorem apE:(Tryz.prog.funcs.any Func.goes)=false:=by kernel_rfl
theorem apF(c:OpenClaim)(P:Program)(h:P.funcs.any Func.goes=false)(hs:c.start=.entering):false=c.goesBy P:=by
 have h1:∀g:Nat,(P.funcs[g]?).any Func.goes=false:=fun g=>by
  cases hg:P.funcs[g]? with
  |none=>rfl
  |some fn=>
   have h2:=Array.any_eq_false.1 h
   obtain⟨hlt,rfl⟩:=Array.getElem?_eq_some_iff.1 hg
   have h3:=h2 g hlt
   simpa using h3
 have h2:∀f,P.goes f=false:=fun f=>by
  unfold Program.goes
  rw[h,Bool.and_false,Bool.or_false]
  exact List.any_eq_false.2 fun g _=>by rw[h1 g];exact Bool.false_ne_true
 unfold OpenClaim.goesBy Program.goesAt Program.goesFrom
 rw[hs]
 cases P.funcNamed c.func with
 |none=>rfl
 |some f=>simp[h2 f]
theorem databasePlays_upto:Rows.DatabasePlaysUptoCardSaid:=
 Claim7.holds_tied_plain_at .later [] _ _ _ _ DatabasePlays.apD (fun _ h=>by cases h) (by kernel_rfl) (fun _ h=>by cases h) databasePlaysUpto_row_tie rfl ⟨rfl,rfl⟩ (by kernel_rfl) rfl DatabasePlays.plain (apF _ _ apE rfl)
end Go.Proofs.YtfieenjdcpjmgaaGreatDoor
