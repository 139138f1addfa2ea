/- A part of the proof. -/
import Derived.Test.YtaghcadlgbnbdaaGreatDoorA17
import Derived.Test.YtaghcadlgbnbdaaGreatDoorA10
import Derived.Test.YtaghcadlgbnbdaaGreatDoorA16
import Derived.Test.YtaghcadlgbnbdaaGreatDoorCards
import Derived.Test.YtaghcadlgbnbdaaGreatDoorTie
import Derived.Lib.LaidTab
import Derived.Deep.DeepWitnessRowRef
set_option maxRecDepth 2000000
namespace Go.Proofs.YtaghcadlgbnbdaaGreatDoor.Facts
open Go
theorem gG{a b:Bool}(h:a=true)(k:b=true):(a&&b)=true:=by rw[h,k];rfl
theorem closed:joinedFacts Tryz.prog 3 Tryz.f3 Rows.databaseLoopsSpec Rows.databaseLoopsUptoRow=true:=gG (gG (gG (gG (gG (gG (gG (gG (gG (gG (gG (gG (gG (gG (gG (gG (gG (gG (gG (gG (gG (gG (gG (gG (gG (gG (gG (gG (gG (gG (gG (j0) j1) j2) j3) j4) j5) j6) j7) j8) j9) j10) j11) j12) j13) j14) j15) j16) j17) j18) j19) j20) j21) j22) j23) j24) j25) j26) j27) j28) j29) j30) j31
end Go.Proofs.YtaghcadlgbnbdaaGreatDoor.Facts
namespace Go.Proofs.YtaghcadlgbnbdaaGreatDoor
open Go.ChangeShapes Go.WideShapes Go.ChangeAt Go.RowKit Go.WW Go.Deep
theorem aqv{H:Type}{ds:List (DataW H)}(h:Rows.uptoSmall H ds=true):Rows.uptoBulkAll ds≤1048576:=of_decide_eq_true h
theorem own:ownKnob Tryz.prog.godebug=none:=by kernel_rfl
def aqw:DataW Unit→Value
 | .lit (.int k n)=>.int k n
 |_=>undef
def Am:DataW Unit→List Value
 | .agg l=>l.map aqw
 |_=>[]
def aqx:DataW Unit→List Value
 | .agg l=>l.flatMap Am
 |_=>[]
def Ap(cs:List Value):Obj→Obj
 | .cells _ t frozen=>.cells cs.toArray t frozen
 |o=>o
def abj(t:TypeId)(b:Nat):Obj→Obj
 | .cells _ u frozen=>.cells #[.iface t (.pointer (some ⟨b,0,none⟩))] u frozen
 |o=>o
def abk:Array Obj:=#[.cells #[.string ⟨#[118,97,108,117,101,32,111,117,116,32,111,102,32,114,97,110,103,101]⟩] 369,.cells #[.string ⟨#[105,110,118,97,108,105,100,32,115,121,110,116,97,120]⟩] 369]
noncomputable def laidWorld(os:Os):World:=
 {World.holding Tryz.prog os ⟨abk,#[],[]⟩with heap:=((((((((World.holding Tryz.prog os ⟨abk,#[],[]⟩).heap.modify 3 (Ap (Am Rows.laid_unicode_utf8_first))).modify 4 (Ap (aqx Rows.laid_unicode_utf8_acceptRanges))).modify 8 (Ap (Am Rows.laid_watchword_sha_start))).modify 9 (Ap (Am Rows.laid_watchword_sha_constants))).modify 6 (Ap (Am Rows.laid_math_bits_deBruijn32tab))).modify 7 (Ap (Am Rows.laid_math_bits_deBruijn64tab))).modify 5 (Ap (Am Rows.laid_internal_strconv_uint64pow10))).modify 2 (abj 367 (World.settled Tryz.prog os).heap.size) |>.modify 1 (abj 367 ((World.settled Tryz.prog os).heap.size+1))}
end Go.Proofs.YtaghcadlgbnbdaaGreatDoor
namespace Go.Proofs.YtaghcadlgbnbdaaGreatDoor.DatabaseLoops
open Go.ChangeShapes Go.WideShapes Go.ChangeAt Go.RowKit Go.WW Go.Deep
theorem contract(H:Type)(enc:TypeId×Value→H)(W:World)(base:Nat)(args:Array Value)(ds gs:List (DataW H))(before:List MemPlace)
  (hval:∀(j:Nat) t v,Tryz.f3.params[j]?=some t→args[j]?=some v→Value.okWide Tryz.prog W .any base t v)
  (hW:DataW.Whole enc Tryz.prog Tryz.f3.params.toList Rows.databaseLoopsSpec.vars false W args.toList ds gs before) (hcond:Rows.uptoSmall H (ds++gs)=true) :
  Calls Tryz.prog 3 args W fun e W'=>∃v,e=.returned v∧Rows.databaseLoopsSpec.post enc Tryz.prog Tryz.f3 false true false false W args v W':=by
 have hW':=hW
 obtain⟨p,q,hA0,hV,rfl,hfz,hnd⟩:=hW
 have hA:DataW.TrodAll enc Tryz.prog W 0 (fun _=>true) true Tryz.f3.params.toList args.toList ds p:=hA0
 rw[Tryz.params3]at hA hval
 obtain⟨v0,vs0,d0,ds0,p0,q0,hargs,rfl,rfl,h0,r0⟩:=trodAll_cons hA
 obtain⟨v1,vs1,d1,ds1,p1,q1,rfl,rfl,rfl,h1,r1⟩:=trodAll_cons r0
 obtain⟨v2,vs2,d2,ds2,p2,q2,rfl,rfl,rfl,h2,r2⟩:=trodAll_cons r1
 obtain⟨rfl,rfl,rfl⟩:=trodAll_nil r2
 obtain rfl:args=#[v0,v1,v2]:=by cases args;simp_all
 obtain⟨rfl,rfl⟩:=trodVars_none hV
 have hb:=aqv hcond
 simp only[List.append_nil,Rows.uptoBulkAll]at hb
 obtain⟨ts0,tl0,rfl,th0⟩:=alW (hval 0 22 v0 rfl rfl) h0 (by omega)
 obtain⟨az1,ax1,rfl,ah1⟩:=alX (hval 1 37 v1 rfl rfl) h1 (by omega)
 have h2':=h2
 obtain⟨nv2,rfl,asy⟩:=open_int Tryz.underlying3 (hval 2 3 v2 rfl rfl) h2
 refine(aqa ts0.a ts0.cap tl0 az1 ax1 nv2 W th0 ah1).mono fun e W' ⟨he',hbel⟩=>?_
 subst he'
 have hlt:=hW'.lt
 refine⟨_,rfl,alY hW' (fun _ _ _=>trodAll_cons_mk (shut_bool Tryz.underlying4 _) trodAll_mk0) (fun sp hsp=>?_) (fun _=>rfl) hbel (ok_one (by kernel_rfl) rfl (okWide_bool_mk Tryz.underlying4 _))⟩
 rw[Tryz.params3]
 have hT:=trodAll_cons_mk (stays alR alU h0 hbel (fun x hx=>hlt x (by simp[hx])) (fun x hx=>hsp x (by simp[hx]))) (trodAll_cons_mk (stays alS alV h1 hbel (fun x hx=>hlt x (by simp[hx])) (fun x hx=>hsp x (by simp[hx]))) (trodAll_cons_mk (stays alT ltInt h2' hbel (fun x hx=>hlt x (by simp[hx])) (fun x hx=>hsp x (by simp[hx]))) trodAll_mk0))
 rw[show(p0++(p1++(p2++[])))++[]=p0++(p1++(p2++[])) from List.append_nil _]
 exact hT
def Lt:Array Value:=#[.slice none 0 0,.agg #[.int .u8 0,.slice none 0 0,.string ⟨#[]⟩,.slice none 0 0,.int .u32 0,.int .i64 0,.slice none 0 0,.string ⟨#[]⟩,.int .i64 0,.int .i64 0,.int .i64 0,.int .i64 0,.int .i64 0,.int .i64 0,.int .i64 0,.slice none 0 0,.slice none 0 0,.slice none 0 0,.slice none 0 0,.string ⟨#[]⟩,.int .i64 0,.int .i64 0,.int .i64 0,.string ⟨#[]⟩,.int .i64 0,.int .i64 0,.int .i64 0,.int .i64 0,.int .i64 0,.int .i64 0,.int .i64 0,.int .i64 0,.int .i64 0],.int .i64 0]
theorem laid_met(os:Os):laidMet Tryz.prog Rows.databaseLoopsUptoRow.laid ((laidWorld os).forCall (fun _ _=>0) ⟨#[],Lt,[]⟩).memory:=
 laidMet_of_run' 8 (by kernel_rfl) (by kernel_rfl)
def aqE{H:Type}:List (DataW H):=[.nil,.agg [.lit (.int .u8 0),.agg [.agg [.nil,.lit (.string [])],.nil,.lit (.int .u32 0),.lit (.int .i64 0),.nil,.lit (.string []),.lit (.int .i64 0),.lit (.int .i64 0),.lit (.int .i64 0),.lit (.int .i64 0),.lit (.int .i64 0),.lit (.int .i64 0),.lit (.int .i64 0),.nil,.nil,.nil],.agg [.nil,.lit (.string [])],.agg [.lit (.int .i64 0),.lit (.int .i64 0),.lit (.int .i64 0)],.agg [.lit (.string []),.lit (.int .i64 0),.lit (.int .i64 0),.lit (.int .i64 0),.lit (.int .i64 0),.lit (.int .i64 0),.lit (.int .i64 0),.lit (.int .i64 0),.lit (.int .i64 0),.lit (.int .i64 0)]],.lit (.int .i64 0)]
theorem reads(os:Os){H:Type}(enc:TypeId×Value→H):∃places,DataW.whole enc Tryz.prog ((laidWorld os).forCall (fun _ _=>0) ⟨#[],Lt,[]⟩).memory Tryz.f3.params.toList Rows.databaseLoopsSpec.vars false Lt.toList 8=some (aqE,[],places):=
 ⟨[],by kernel_rfl⟩
theorem aqF(os:Os)(started:os.Started)(H:Type)(enc:TypeId×Value→H)(F:Stop.Interp) :
  ReturnsInHanded {} Tryz.checked os 3 .any ((Rows.OpenSpec.upto Rows.databaseLoopsSpec).preRow enc Tryz.prog Tryz.f3 Rows.databaseLoopsUptoRow.domain false Rows.databaseLoopsUptoRow.laid) (((Rows.OpenSpec.upto Rows.databaseLoopsSpec).at F).post enc Tryz.prog Tryz.f3 false true false false):=by
 obtain⟨places,hx⟩:=reads os enc
 refine returnsInHanded_of_row (C:=Tryz.checked) (s:=Rows.OpenSpec.upto Rows.databaseLoopsSpec) own started (by kernel_rfl) Tryz.func3
  (witness_row_atRef (enc:=enc) (C:=Tryz.checked) false (laidWorld os) Lt rfl (by kernel_rfl) (by kernel_rfl) (by kernel_rfl)
   (OpenSpec.preRow_of_cond 8 hx (by kernel_rfl) (fun k hk=>by cases hk;kernel_rfl) (by kernel_rfl) (laid_met os))) ?_
 intro W base args ds gs before hval hW _ hcond _ _ _ _
 exact contract H enc W base args ds gs before hval hW (hcond _ rfl)
theorem aqG:Rows.DatabaseLoopsUptoSaid:=
 OpenClaim.holds_of_cond 3 Tryz.f3 rfl rfl rfl rfl rfl rfl rfl ⟨rfl,rfl,rfl,rfl,rfl⟩ rfl rfl rfl rfl rfl (by kernel_rfl) Tryz.func3 Facts.closed
  (of_decide_eq_true (by kernel_rfl)) (by unfold Func.isWrapper;first|(rw[if_pos (by decide +kernel)];kernel_rfl)|(rw[if_neg (by decide +kernel)];exact⟨rfl,rfl⟩))
  (fun os started H enc _ F=>by rw[OpenClaim.pre_eq_preRow];exact aqF os started H enc F)
theorem plain(f:FuncId)(fn:Func)(hf:Tryz.pinned.checked.prog.funcNamed "watchword/watchwordlaw26.DatabaseLoops"=some f)(hfn:Tryz.pinned.checked.prog.funcs[f]?=some fn) :
  true=Tryz.pinned.checked.prog.looks []∧∀(j:Nat) t,fn.params[j]?=some t→Tryz.pinned.checked.prog.wantsStandIn t=false:=by
 obtain rfl:f=3:=Option.some.inj ((show Tryz.prog.funcNamed "watchword/watchwordlaw26.DatabaseLoops"=some 3 by kernel_rfl).symm.trans hf) |>.symm
 obtain rfl:fn=Tryz.f3:=(Option.some.inj (Tryz.func3.symm.trans hfn)).symm
 refine⟨by kernel_rfl,fun j t ht=>?_⟩
 rw[Tryz.params3]at ht
 have hm:=Array.mem_of_getElem? ht
 have:t=22∨t=37∨t=3:=by simpa using hm
 rcases this with rfl|rfl|rfl
 ·exact(show Tryz.prog.wantsStandIn 22=false by kernel_rfl)
 ·exact(show Tryz.prog.wantsStandIn 37=false by kernel_rfl)
 ·exact(show Tryz.prog.wantsStandIn 3=false by kernel_rfl)
end Go.Proofs.YtaghcadlgbnbdaaGreatDoor.DatabaseLoops
