/- A part of the proof. -/
import Derived.Test.YtfieenjdcpjmgaaGreatDoorB24
import Derived.Test.YtfieenjdcpjmgaaGreatDoorB37
import Derived.Test.YtfieenjdcpjmgaaGreatDoorB38
import Derived.Test.YtfieenjdcpjmgaaGreatDoorCards
import Derived.Test.YtfieenjdcpjmgaaGreatDoorTie
import Derived.Lib.LaidTab
import Derived.Lib.LaidPrint
import Derived.Stop.LaidErr
import Derived.ChangeMaps5
import Derived.Deep.DeepWitnessRowRef
set_option maxRecDepth 2000000
namespace Go.Proofs.YtfieenjdcpjmgaaGreatDoor
open Go.ChangeShapes Go.WideShapes Go.ChangeAt Go.RowKit Go.WW Go.Deep
theorem apu{H:Type}{ds:List (DataW H)}(h:Rows.uptoSmall H ds=true):Rows.uptoBulkAll ds≤1048576:=of_decide_eq_true h
theorem own:ownKnob Tryz.prog.godebug=none:=by kernel_rfl
def apv:DataW Unit→Value
 | .lit (.int k n)=>.int k n
 |_=>undef
def zY:DataW Unit→List Value
 | .agg l=>l.map apv
 |_=>[]
def apw:DataW Unit→List Value
 | .agg l=>l.flatMap zY
 |_=>[]
def zZ(cs:List Value):Obj→Obj
 | .cells _ t frozen=>.cells cs.toArray t frozen
 |o=>o
def aa3(t:TypeId)(b:Nat):Obj→Obj
 | .cells _ u frozen=>.cells #[.iface t (.pointer (some ⟨b,0,none⟩))] u frozen
 |o=>o
def aa4:Array Obj:=#[.cells #[.string ⟨#[118,97,108,117,101,32,111,117,116,32,111,102,32,114,97,110,103,101]⟩] 366,.cells #[.string ⟨#[105,110,118,97,108,105,100,32,115,121,110,116,97,120]⟩] 366]
noncomputable def laidWorld(os:Os):World:=
 {World.holding Tryz.prog os ⟨aa4,#[],[]⟩with heap:=((((((((World.holding Tryz.prog os ⟨aa4,#[],[]⟩).heap.modify 3 (zZ (zY Rows.laid_unicode_utf8_first))).modify 4 (zZ (apw Rows.laid_unicode_utf8_acceptRanges))).modify 8 (zZ (zY Rows.laid_watchword_sha_start))).modify 9 (zZ (zY Rows.laid_watchword_sha_constants))).modify 6 (zZ (zY Rows.laid_math_bits_deBruijn32tab))).modify 7 (zZ (zY Rows.laid_math_bits_deBruijn64tab))).modify 5 (zZ (zY Rows.laid_internal_strconv_uint64pow10))).modify 2 (aa3 364 (World.settled Tryz.prog os).heap.size) |>.modify 1 (aa3 364 ((World.settled Tryz.prog os).heap.size+1))}
theorem apx{W:World}(hlaid:laidMet Tryz.prog Rows.databasePlaysUptoRow.laid W):wz Tryz.prog W:=by
 have h0:laidMet Tryz.prog Rows.databasePlaysUptoRow.laid W:=hlaid
 exact Lib.tabIs_of_head (P:=Tryz.prog) (W:=W) (name:= "internal/strconv.uint64pow10") (k:=.u64) (zs:=Lib.pow10Tab) (g:=5) (t:=386) (e:=111) (n:=20) (by kernel_rfl) (by kernel_rfl) (by kernel_rfl) (by kernel_rfl) (by kernel_rfl) (by kernel_rfl) h0.tail.tail
theorem apy:Tryz.prog.readableRec 9=true:=by kernel_rfl
theorem ltStr:9<Tryz.prog.types.size:=of_decide_eq_true (by kernel_rfl)
section
variable {H:Type} {enc:TypeId×Value→H}
theorem arg_str{W:World}{b0:Nat}{v:Value}{d:DataW H}{p:List MemPlace}(_hv:Value.okWide Tryz.prog W .any b0 9 v)(h:DataW.Trod enc Tryz.prog W 0 (fun _=>true) true 9 v d p)(hb:Rows.uptoBulk d≤1048576):∃s:ByteArray,v=.string s∧s.size≤lim:=by
 obtain⟨s,rfl⟩:=okWide_string Tryz.underlying9 _hv
 obtain⟨fuel,hf⟩:=h
 exact Az (x:=(d,p)) hf hb
end
end Go.Proofs.YtfieenjdcpjmgaaGreatDoor
namespace Go.Proofs.YtfieenjdcpjmgaaGreatDoor.DatabasePlays
open Go.ChangeShapes Go.WideShapes Go.ChangeAt Go.RowKit Go.WW Go.Deep
theorem contract(H:Type)(enc:TypeId×Value→H)(W:World)(base:Nat)(args:Array Value)(ds gs:List (DataW H))(before:List MemPlace)
  (hval:∀(j:Nat) t v,Tryz.f3.params[j]?=some t→args[j]?=some v→Value.okWide Tryz.prog W .any base t v)
  (hW:DataW.Whole enc Tryz.prog Tryz.f3.params.toList Rows.databasePlaysSpec.vars false W args.toList ds gs before) (hcond:Rows.uptoSmall H (ds++gs)=true) (hlaid:laidMet Tryz.prog Rows.databasePlaysUptoRow.laid W) :
  Calls Tryz.prog 3 args W fun e W'=>∃v,e=.returned v∧Rows.databasePlaysSpec.post enc Tryz.prog Tryz.f3 false true false false W args v W':=by
 have hW':=hW
 obtain⟨p,q,hA0,hV,rfl,hfz,hnd⟩:=hW
 have hA:DataW.TrodAll enc Tryz.prog W 0 (fun _=>true) true Tryz.f3.params.toList args.toList ds p:=hA0
 rw[Tryz.params3]at hA hval
 obtain⟨v0,vs0,d0,ds0,p0,q0,hargs,rfl,rfl,h0,r0⟩:=trodAll_cons hA
 obtain⟨v1,vs1,d1,ds1,p1,q1,rfl,rfl,rfl,h1,r1⟩:=trodAll_cons r0
 obtain⟨rfl,rfl,rfl⟩:=trodAll_nil r1
 obtain rfl:args=#[v0,v1]:=by cases args;simp_all
 obtain⟨rfl,rfl⟩:=trodVars_none hV
 have hb:=apu hcond
 simp only[List.append_nil,Rows.uptoBulkAll]at hb
 obtain⟨re0,rfl,hs0⟩:=arg_str (hval 0 9 v0 rfl rfl) h0 (by omega)
 obtain⟨ts1,tl1,rfl,th1⟩:=alz (hval 1 22 v1 rfl rfl) h1 (by omega)
 refine(apl re0 ts1.a ts1.cap tl1 W hs0 th1 (apx hlaid)).mono fun e W' ⟨he',hbel⟩=>?_
 subst he'
 have hlt:=hW'.lt
 refine⟨_,rfl,alA hW' (fun _ _ _=>trodAll_cons_mk (shut_bool Tryz.underlying4 _) trodAll_mk0) (fun sp hsp=>?_) (fun _=>rfl) hbel (ok_one (by kernel_rfl) rfl (okWide_bool_mk Tryz.underlying4 _))⟩
 rw[Tryz.params3]
 have hT:=trodAll_cons_mk (stays apy ltStr h0 hbel (fun x hx=>hlt x (by simp[hx])) (fun x hx=>hsp x (by simp[hx]))) (trodAll_cons_mk (stays alx aly h1 hbel (fun x hx=>hlt x (by simp[hx])) (fun x hx=>hsp x (by simp[hx]))) trodAll_mk0)
 rw[show(p0++(p1++[]))++[]=p0++(p1++[]) from List.append_nil _]
 exact hT
def JB:Array Value:=#[.string ⟨#[]⟩,.slice none 0 0]
theorem laid_met(os:Os):laidMet Tryz.prog Rows.databasePlaysUptoRow.laid ((laidWorld os).forCall (fun _ _=>0) ⟨#[],JB,[]⟩).memory:=
 laidMet_of_run' 8 (by kernel_rfl) (by kernel_rfl)
def apB{H:Type}:List (DataW H):=[.lit (.string []),.nil]
theorem reads(os:Os){H:Type}(enc:TypeId×Value→H):∃places,DataW.whole enc Tryz.prog ((laidWorld os).forCall (fun _ _=>0) ⟨#[],JB,[]⟩).memory Tryz.f3.params.toList Rows.databasePlaysSpec.vars false JB.toList 8=some (apB,[],places):=
 ⟨[],by kernel_rfl⟩
theorem apC(os:Os)(started:os.Started)(H:Type)(enc:TypeId×Value→H)(F:Stop.Interp) :
  ReturnsInHanded {} Tryz.checked os 3 .any ((Rows.OpenSpec.upto Rows.databasePlaysSpec).preRow enc Tryz.prog Tryz.f3 Rows.databasePlaysUptoRow.domain false Rows.databasePlaysUptoRow.laid) (((Rows.OpenSpec.upto Rows.databasePlaysSpec).at F).post enc Tryz.prog Tryz.f3 false true false false):=by
 obtain⟨places,hx⟩:=reads os enc
 refine returnsInHanded_of_row (C:=Tryz.checked) (s:=Rows.OpenSpec.upto Rows.databasePlaysSpec) own started (by kernel_rfl) Tryz.func3
  (witness_row_atRef (enc:=enc) (C:=Tryz.checked) false (laidWorld os) JB rfl (by kernel_rfl) (by kernel_rfl) (by kernel_rfl)
   (OpenSpec.preRow_of_cond 8 hx (by kernel_rfl) (fun k hk=>by cases hk;kernel_rfl) (by kernel_rfl) (laid_met os))) ?_
 intro W base args ds gs before hval hW _ hcond _ hlaid _ _
 exact contract H enc W base args ds gs before hval hW (hcond _ rfl) hlaid
theorem apD:Rows.DatabasePlaysUptoSaid:=
 OpenClaim.holds_of_cond 3 Tryz.f3 rfl rfl rfl rfl rfl rfl rfl ⟨rfl,rfl,rfl,rfl,rfl⟩ rfl rfl rfl rfl rfl (by kernel_rfl) Tryz.func3 Facts.closed
  (of_decide_eq_true (by kernel_rfl)) (by unfold Func.isWrapper;first|(rw[if_pos (by decide +kernel)];kernel_rfl)|(rw[if_neg (by decide +kernel)];exact⟨rfl,rfl⟩))
  (fun os started H enc _ F=>by rw[OpenClaim.pre_eq_preRow];exact apC os started H enc F)
theorem plain(f:FuncId)(fn:Func)(hf:Tryz.pinned.checked.prog.funcNamed "watchword/watchwordlaw26.DatabasePlays"=some f)(hfn:Tryz.pinned.checked.prog.funcs[f]?=some fn) :
  true=Tryz.pinned.checked.prog.looks []∧∀(j:Nat) t,fn.params[j]?=some t→Tryz.pinned.checked.prog.wantsStandIn t=false:=by
 obtain rfl:f=3:=Option.some.inj ((show Tryz.prog.funcNamed "watchword/watchwordlaw26.DatabasePlays"=some 3 by kernel_rfl).symm.trans hf) |>.symm
 obtain rfl:fn=Tryz.f3:=(Option.some.inj (Tryz.func3.symm.trans hfn)).symm
 refine⟨by kernel_rfl,fun j t ht=>?_⟩
 rw[Tryz.params3]at ht
 have hm:=Array.mem_of_getElem? ht
 have:t=9∨t=22:=by simpa using hm
 rcases this with rfl|rfl
 ·exact(show Tryz.prog.wantsStandIn 9=false by kernel_rfl)
 ·exact(show Tryz.prog.wantsStandIn 22=false by kernel_rfl)
end Go.Proofs.YtfieenjdcpjmgaaGreatDoor.DatabasePlays
