/- A part of the proof. -/
import Derived.Test.YtfieenjdcpjmgaaGreatDoorA24
import Derived.Test.YtfieenjdcpjmgaaGreatDoorA35
import Derived.Test.YtfieenjdcpjmgaaGreatDoorA36
import Derived.Test.YtfieenjdcpjmgaaGreatDoorCards
import Derived.Test.YtfieenjdcpjmgaaGreatDoorTie
import Derived.Lib.LaidTab
import Derived.Lib.LaidPrint
import Derived.Stop.LaidErr
import Derived.ChangeMaps5
import Derived.Deep.DeepWitnessRowRef
set_option maxRecDepth 2000000
namespace Go.Proofs.YtfieenjdcpjmgaaGreatDoor
open Go.ChangeShapes Go.WideShapes Go.ChangeAt Go.RowKit Go.WW Go.Deep
theorem aoT{H:Type}{ds:List (DataW H)}(h:Rows.uptoSmall H ds=true):Rows.uptoBulkAll ds≤1048576:=of_decide_eq_true h
theorem own:ownKnob Tryz.prog.godebug=none:=by kernel_rfl
def aoU:DataW Unit→Value
 | .lit (.int k n)=>.int k n
 |_=>undef
def zO:DataW Unit→List Value
 | .agg l=>l.map aoU
 |_=>[]
def aoV:DataW Unit→List Value
 | .agg l=>l.flatMap zO
 |_=>[]
def zQ(cs:List Value):Obj→Obj
 | .cells _ t frozen=>.cells cs.toArray t frozen
 |o=>o
def aau(t:TypeId)(b:Nat):Obj→Obj
 | .cells _ u frozen=>.cells #[.iface t (.pointer (some ⟨b,0,none⟩))] u frozen
 |o=>o
def aav:Array Obj:=#[.cells #[.string ⟨#[118,97,108,117,101,32,111,117,116,32,111,102,32,114,97,110,103,101]⟩] 366,.cells #[.string ⟨#[105,110,118,97,108,105,100,32,115,121,110,116,97,120]⟩] 366]
noncomputable def laidWorld(os:Os):World:=
 {World.holding Tryz.prog os ⟨aav,#[],[]⟩with heap:=((((((((World.holding Tryz.prog os ⟨aav,#[],[]⟩).heap.modify 3 (zQ (zO Rows.laid_unicode_utf8_first))).modify 4 (zQ (aoV Rows.laid_unicode_utf8_acceptRanges))).modify 8 (zQ (zO Rows.laid_watchword_sha_start))).modify 9 (zQ (zO Rows.laid_watchword_sha_constants))).modify 6 (zQ (zO Rows.laid_math_bits_deBruijn32tab))).modify 7 (zQ (zO Rows.laid_math_bits_deBruijn64tab))).modify 5 (zQ (zO Rows.laid_internal_strconv_uint64pow10))).modify 2 (aau 364 (World.settled Tryz.prog os).heap.size) |>.modify 1 (aau 364 ((World.settled Tryz.prog os).heap.size+1))}
theorem aoW{W:World}(hlaid:laidMet Tryz.prog Rows.databaseCopiesUptoRow.laid W):uI Tryz.prog W:=by
 have h0:laidMet Tryz.prog Rows.databaseCopiesUptoRow.laid W:=hlaid
 exact Lib.tabIs_of_head (P:=Tryz.prog) (W:=W) (name:= "internal/strconv.uint64pow10") (k:=.u64) (zs:=Lib.pow10Tab) (g:=5) (t:=386) (e:=111) (n:=20) (by kernel_rfl) (by kernel_rfl) (by kernel_rfl) (by kernel_rfl) (by kernel_rfl) (by kernel_rfl) h0.tail.tail
end Go.Proofs.YtfieenjdcpjmgaaGreatDoor
namespace Go.Proofs.YtfieenjdcpjmgaaGreatDoor.DatabaseCopies
open Go.ChangeShapes Go.WideShapes Go.ChangeAt Go.RowKit Go.WW Go.Deep
theorem contract(H:Type)(enc:TypeId×Value→H)(W:World)(base:Nat)(args:Array Value)(ds gs:List (DataW H))(before:List MemPlace)
  (hval:∀(j:Nat) t v,Tryz.f4.params[j]?=some t→args[j]?=some v→Value.okWide Tryz.prog W .any base t v)
  (hW:DataW.Whole enc Tryz.prog Tryz.f4.params.toList Rows.databaseCopiesSpec.vars false W args.toList ds gs before) (hcond:Rows.uptoSmall H (ds++gs)=true) (hlaid:laidMet Tryz.prog Rows.databaseCopiesUptoRow.laid W) :
  Calls Tryz.prog 4 args W fun e W'=>∃v,e=.returned v∧Rows.databaseCopiesSpec.post enc Tryz.prog Tryz.f4 false true false false W args v W':=by
 have hW':=hW
 obtain⟨p,q,hA0,hV,rfl,hfz,hnd⟩:=hW
 have hA:DataW.TrodAll enc Tryz.prog W 0 (fun _=>true) true Tryz.f4.params.toList args.toList ds p:=hA0
 rw[Tryz.params4]at hA hval
 obtain⟨v0,vs0,d0,ds0,p0,q0,hargs,rfl,rfl,h0,r0⟩:=trodAll_cons hA
 obtain⟨v1,vs1,d1,ds1,p1,q1,rfl,rfl,rfl,h1,r1⟩:=trodAll_cons r0
 obtain⟨v2,vs2,d2,ds2,p2,q2,rfl,rfl,rfl,h2,r2⟩:=trodAll_cons r1
 obtain⟨rfl,rfl,rfl⟩:=trodAll_nil r2
 obtain rfl:args=#[v0,v1,v2]:=by cases args;simp_all
 obtain⟨rfl,rfl⟩:=trodVars_none hV
 have hb:=aoT hcond
 simp only[List.append_nil,Rows.uptoBulkAll]at hb
 obtain⟨ts0,tl0,rfl,th0⟩:=ak1 (hval 0 22 v0 rfl rfl) h0 (by omega)
 obtain⟨az1,ax1,rfl,ah1⟩:=XB (hval 1 52 v1 rfl rfl) h1 (by omega)
 obtain⟨az2,ax2,rfl,ah2⟩:=XB (hval 2 52 v2 rfl rfl) h2 (by omega)
 refine(aoK ts0.a ts0.cap tl0 az1 az2 ax1 ax2 W th0 ah1 ah2 (aoW hlaid)).mono fun e W' ⟨he',hbel⟩=>?_
 subst he'
 have hlt:=hW'.lt
 refine⟨_,rfl,ak2 hW' (fun _ _ _=>trodAll_cons_mk (shut_bool Tryz.underlying4 _) trodAll_mk0) (fun sp hsp=>?_) (fun _=>rfl) hbel (ok_one (by kernel_rfl) rfl (okWide_bool_mk Tryz.underlying4 _))⟩
 rw[Tryz.params4]
 have hT:=trodAll_cons_mk (stays akZ ak0 h0 hbel (fun x hx=>hlt x (by simp[hx])) (fun x hx=>hsp x (by simp[hx]))) (trodAll_cons_mk (stays Xz XA h1 hbel (fun x hx=>hlt x (by simp[hx])) (fun x hx=>hsp x (by simp[hx]))) (trodAll_cons_mk (stays Xz XA h2 hbel (fun x hx=>hlt x (by simp[hx])) (fun x hx=>hsp x (by simp[hx]))) trodAll_mk0))
 rw[show(p0++(p1++(p2++[])))++[]=p0++(p1++(p2++[])) from List.append_nil _]
 exact hT
def Jn:Array Value:=#[.slice none 0 0,.agg #[.int .u8 0,.slice none 0 0,.string ⟨#[]⟩,.slice none 0 0,.int .u32 0,.int .i64 0,.slice none 0 0,.string ⟨#[]⟩,.int .i64 0,.int .i64 0,.int .i64 0,.int .i64 0,.int .i64 0,.int .i64 0,.int .i64 0,.slice none 0 0,.slice none 0 0,.slice none 0 0,.slice none 0 0,.string ⟨#[]⟩,.int .i64 0,.int .i64 0,.int .i64 0,.string ⟨#[]⟩,.int .i64 0,.int .i64 0,.int .i64 0,.int .i64 0,.int .i64 0,.int .i64 0,.int .i64 0,.int .i64 0,.int .i64 0],.agg #[.int .u8 0,.slice none 0 0,.string ⟨#[]⟩,.slice none 0 0,.int .u32 0,.int .i64 0,.slice none 0 0,.string ⟨#[]⟩,.int .i64 0,.int .i64 0,.int .i64 0,.int .i64 0,.int .i64 0,.int .i64 0,.int .i64 0,.slice none 0 0,.slice none 0 0,.slice none 0 0,.slice none 0 0,.string ⟨#[]⟩,.int .i64 0,.int .i64 0,.int .i64 0,.string ⟨#[]⟩,.int .i64 0,.int .i64 0,.int .i64 0,.int .i64 0,.int .i64 0,.int .i64 0,.int .i64 0,.int .i64 0,.int .i64 0]]
theorem laid_met(os:Os):laidMet Tryz.prog Rows.databaseCopiesUptoRow.laid ((laidWorld os).forCall (fun _ _=>0) ⟨#[],Jn,[]⟩).memory:=
 laidMet_of_run' 8 (by kernel_rfl) (by kernel_rfl)
def ao5{H:Type}:List (DataW H):=[.nil,.agg [.lit (.int .u8 0),.agg [.agg [.nil,.lit (.string [])],.nil,.lit (.int .u32 0),.lit (.int .i64 0),.nil,.lit (.string []),.lit (.int .i64 0),.lit (.int .i64 0),.lit (.int .i64 0),.lit (.int .i64 0),.lit (.int .i64 0),.lit (.int .i64 0),.lit (.int .i64 0),.nil,.nil,.nil],.agg [.nil,.lit (.string [])],.agg [.lit (.int .i64 0),.lit (.int .i64 0),.lit (.int .i64 0)],.agg [.lit (.string []),.lit (.int .i64 0),.lit (.int .i64 0),.lit (.int .i64 0),.lit (.int .i64 0),.lit (.int .i64 0),.lit (.int .i64 0),.lit (.int .i64 0),.lit (.int .i64 0),.lit (.int .i64 0)]],.agg [.lit (.int .u8 0),.agg [.agg [.nil,.lit (.string [])],.nil,.lit (.int .u32 0),.lit (.int .i64 0),.nil,.lit (.string []),.lit (.int .i64 0),.lit (.int .i64 0),.lit (.int .i64 0),.lit (.int .i64 0),.lit (.int .i64 0),.lit (.int .i64 0),.lit (.int .i64 0),.nil,.nil,.nil],.agg [.nil,.lit (.string [])],.agg [.lit (.int .i64 0),.lit (.int .i64 0),.lit (.int .i64 0)],.agg [.lit (.string []),.lit (.int .i64 0),.lit (.int .i64 0),.lit (.int .i64 0),.lit (.int .i64 0),.lit (.int .i64 0),.lit (.int .i64 0),.lit (.int .i64 0),.lit (.int .i64 0),.lit (.int .i64 0)]]]
theorem reads(os:Os){H:Type}(enc:TypeId×Value→H):∃places,DataW.whole enc Tryz.prog ((laidWorld os).forCall (fun _ _=>0) ⟨#[],Jn,[]⟩).memory Tryz.f4.params.toList Rows.databaseCopiesSpec.vars false Jn.toList 8=some (ao5,[],places):=
 ⟨[],by kernel_rfl⟩
theorem ao6(os:Os)(started:os.Started)(H:Type)(enc:TypeId×Value→H)(F:Stop.Interp) :
  ReturnsInHanded {} Tryz.checked os 4 .any ((Rows.OpenSpec.upto Rows.databaseCopiesSpec).preRow enc Tryz.prog Tryz.f4 Rows.databaseCopiesUptoRow.domain false Rows.databaseCopiesUptoRow.laid) (((Rows.OpenSpec.upto Rows.databaseCopiesSpec).at F).post enc Tryz.prog Tryz.f4 false true false false):=by
 obtain⟨places,hx⟩:=reads os enc
 refine returnsInHanded_of_row (C:=Tryz.checked) (s:=Rows.OpenSpec.upto Rows.databaseCopiesSpec) own started (by kernel_rfl) Tryz.func4
  (witness_row_atRef (enc:=enc) (C:=Tryz.checked) false (laidWorld os) Jn rfl (by kernel_rfl) (by kernel_rfl) (by kernel_rfl)
   (OpenSpec.preRow_of_cond 8 hx (by kernel_rfl) (fun k hk=>by cases hk;kernel_rfl) (by kernel_rfl) (laid_met os))) ?_
 intro W base args ds gs before hval hW _ hcond _ hlaid _ _
 exact contract H enc W base args ds gs before hval hW (hcond _ rfl) hlaid
theorem ao7:Rows.DatabaseCopiesUptoSaid:=
 OpenClaim.holds_of_cond 4 Tryz.f4 rfl rfl rfl rfl rfl rfl rfl ⟨rfl,rfl,rfl,rfl,rfl⟩ rfl rfl rfl rfl rfl (by kernel_rfl) Tryz.func4 Facts.closed
  (of_decide_eq_true (by kernel_rfl)) (by unfold Func.isWrapper;first|(rw[if_pos (by decide +kernel)];kernel_rfl)|(rw[if_neg (by decide +kernel)];exact⟨rfl,rfl⟩))
  (fun os started H enc _ F=>by rw[OpenClaim.pre_eq_preRow];exact ao6 os started H enc F)
theorem plain(f:FuncId)(fn:Func)(hf:Tryz.pinned.checked.prog.funcNamed "watchword/watchwordlaw26.DatabaseCopies"=some f)(hfn:Tryz.pinned.checked.prog.funcs[f]?=some fn) :
  true=Tryz.pinned.checked.prog.looks []∧∀(j:Nat) t,fn.params[j]?=some t→Tryz.pinned.checked.prog.wantsStandIn t=false:=by
 obtain rfl:f=4:=Option.some.inj ((show Tryz.prog.funcNamed "watchword/watchwordlaw26.DatabaseCopies"=some 4 by kernel_rfl).symm.trans hf) |>.symm
 obtain rfl:fn=Tryz.f4:=(Option.some.inj (Tryz.func4.symm.trans hfn)).symm
 refine⟨by kernel_rfl,fun j t ht=>?_⟩
 rw[Tryz.params4]at ht
 have hm:=Array.mem_of_getElem? ht
 have:t=22∨t=52:=by simpa using hm
 rcases this with rfl|rfl
 ·exact(show Tryz.prog.wantsStandIn 22=false by kernel_rfl)
 ·exact(show Tryz.prog.wantsStandIn 52=false by kernel_rfl)
end Go.Proofs.YtfieenjdcpjmgaaGreatDoor.DatabaseCopies
