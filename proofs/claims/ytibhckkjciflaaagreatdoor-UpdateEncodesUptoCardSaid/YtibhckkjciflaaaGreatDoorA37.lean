/- UpdateEncodes is true of every two updates whose reading is of bulk at most 1048576, and the arguments read afterwards as they read before. Conditions: that bulk; the listed package-level variables hold what the program's text lays (the given tie). -/
import Derived.Test.YtibhckkjciflaaaGreatDoorA35
import Derived.Test.YtibhckkjciflaaaGreatDoorA36
import Derived.Test.YtibhckkjciflaaaGreatDoorCards
import Derived.Test.YtibhckkjciflaaaGreatDoorTie
import Derived.Lib.LaidTab
import Derived.Lib.LaidPrint
import Derived.Stop.LaidErr
import Derived.ChangeMaps5
import Derived.Deep.DeepWitnessRowRef
set_option maxRecDepth 2000000
namespace Go.Proofs.YtibhckkjciflaaaGreatDoor
open Go.ChangeShapes Go.WideShapes Go.ChangeAt Go.RowKit Go.WW Go.Deep
theorem own:ownKnob Tryz.prog.godebug=none:=by kernel_rfl
theorem alZ{H:Type}{ds:List (DataW H)}(h:Rows.uptoSmall H ds=true):Rows.uptoBulkAll ds≤1048576:=of_decide_eq_true h
def al0:DataW Unit→Value
 | .lit (.int k n)=>.int k n
 |_=>undef
def x8:DataW Unit→List Value
 | .agg l=>l.map al0
 |_=>[]
def al1:DataW Unit→List Value
 | .agg l=>l.flatMap x8
 |_=>[]
def x9(cs:List Value):Obj→Obj
 | .cells _ t frozen=>.cells cs.toArray t frozen
 |o=>o
def XG(t:TypeId)(b:Nat):Obj→Obj
 | .cells _ u frozen=>.cells #[.iface t (.pointer (some ⟨b,0,none⟩))] u frozen
 |o=>o
def XH:Array Obj:=#[.cells #[.string ⟨#[118,97,108,117,101,32,111,117,116,32,111,102,32,114,97,110,103,101]⟩] 410,.cells #[.string ⟨#[105,110,118,97,108,105,100,32,115,121,110,116,97,120]⟩] 410]
noncomputable def laidWorld(os:Os):World:=
 {World.holding Tryz.prog os ⟨XH,#[],[]⟩with heap:=((((((((World.holding Tryz.prog os ⟨XH,#[],[]⟩).heap.modify 2 (x9 (x8 Rows.laid_unicode_utf8_first))).modify 3 (x9 (al1 Rows.laid_unicode_utf8_acceptRanges))).modify 0 (x9 (x8 Rows.laid_watchword_sha_start))).modify 1 (x9 (x8 Rows.laid_watchword_sha_constants))).modify 8 (x9 (x8 Rows.laid_math_bits_deBruijn32tab))).modify 9 (x9 (x8 Rows.laid_math_bits_deBruijn64tab))).modify 5 (x9 (x8 Rows.laid_internal_strconv_uint64pow10))).modify 7 (XG 408 (World.settled Tryz.prog os).heap.size) |>.modify 6 (XG 408 ((World.settled Tryz.prog os).heap.size+1))}
theorem XI{W:World}(hsh:W.ShapedOpen Tryz.prog){name:String}{g:Nat}{zero arr:Array Value}{t:TypeId}(hg:Tryz.prog.globalNamed name=some g)(hlt:g<Tryz.prog.globals.size)(hz:((begin Tryz.prog (fun _ _=>0) default).world.heap[g]?).bind Obj.row?=some (zero,t))(hv:W.var? Tryz.prog name=some arr) :
  W.heap[g]?=some (.cells arr t (0,0)):=by
 obtain⟨cs,h1,-,-⟩:=hsh.1 g zero t hlt hz
 unfold World.var? at hv
 rw[hg]at hv
 simp only[Option.bind_some,h1,Option.some.injEq]at hv
 subst hv;exact h1
theorem al2{W:World}(hlaid:laidMet Tryz.prog Rows.updateEncodesUptoRow.laid W)(hshape:W.ShapedOpen Tryz.prog):xR W:=by
 have h0:laidMet Tryz.prog Rows.updateEncodesUptoRow.laid W:=hlaid
 have h4:=h0.tail.tail.tail.tail.tail.tail
 have t0:=Lib.tabIs_of_head (P:=Tryz.prog) (W:=W) (name:= "watchword/sha.start") (k:=.u32) (zs:=gQ.eH.l0.map fun(n:Nat)=>(n:Int)) (g:=0) (t:=131) (e:=27) (n:=8) (by kernel_rfl) (by kernel_rfl) (by kernel_rfl) (by kernel_rfl) (by kernel_rfl) (by kernel_rfl) h4
 have t1:=Lib.tabIs_of_head (P:=Tryz.prog) (W:=W) (name:= "watchword/sha.constants") (k:=.u32) (zs:=gQ.eH.l1.map fun(n:Nat)=>(n:Int)) (g:=1) (t:=176) (e:=27) (n:=64) (by kernel_rfl) (by kernel_rfl) (by kernel_rfl) (by kernel_rfl) (by kernel_rfl) (by kernel_rfl) h4.tail
 unfold Lib.TabIs at t0 t1
 rw[List.map_map]at t0 t1
 exact⟨XI (zero:=Array.replicate 8 (.int .u32 0)) hshape (by kernel_rfl) (of_decide_eq_true (by kernel_rfl)) (by kernel_rfl) t0,XI (zero:=Array.replicate 64 (.int .u32 0)) hshape (by kernel_rfl) (of_decide_eq_true (by kernel_rfl)) (by kernel_rfl) t1,Tryz.laysM219.s1_3 W hshape⟩
theorem al3{W:World}(hlaid:laidMet Tryz.prog Rows.updateEncodesUptoRow.laid W):uF Tryz.prog W:=by
 have h0:laidMet Tryz.prog Rows.updateEncodesUptoRow.laid W:=hlaid
 exact Lib.tabIs_of_head (P:=Tryz.prog) (W:=W) (name:= "internal/strconv.uint64pow10") (k:=.u64) (zs:=Lib.pow10Tab) (g:=5) (t:=371) (e:=174) (n:=20) (by kernel_rfl) (by kernel_rfl) (by kernel_rfl) (by kernel_rfl) (by kernel_rfl) (by kernel_rfl) h0.tail.tail
end Go.Proofs.YtibhckkjciflaaaGreatDoor
namespace Go.Proofs.YtibhckkjciflaaaGreatDoor.UpdateEncodes
open Go.ChangeShapes Go.WideShapes Go.ChangeAt Go.RowKit Go.WW Go.Deep
theorem contract(H:Type)(enc:TypeId×Value→H)(W:World)(base:Nat)(args:Array Value)(ds gs:List (DataW H))(before:List MemPlace)
  (hval:∀(j:Nat) t v,Tryz.f3.params[j]?=some t→args[j]?=some v→Value.okWide Tryz.prog W .any base t v)
  (hW:DataW.Whole enc Tryz.prog Tryz.f3.params.toList Rows.updateEncodesSpec.vars false W args.toList ds gs before) (hcond:Rows.uptoSmall H (ds++gs)=true) (hlaid:laidMet Tryz.prog Rows.updateEncodesUptoRow.laid W) (hshape:W.ShapedOpen Tryz.prog) :
  Calls Tryz.prog 3 args W fun e W'=>∃v,e=.returned v∧Rows.updateEncodesSpec.post enc Tryz.prog Tryz.f3 false true false false W args v W':=by
 have hW':=hW
 obtain⟨p,q,hA0,hV,rfl,hfz,hnd⟩:=hW
 have hA:DataW.TrodAll enc Tryz.prog W 0 (fun _=>true) true Tryz.f3.params.toList args.toList ds p:=hA0
 rw[Tryz.params3]at hA hval
 obtain⟨v0,vs0,d0,ds0,p0,q0,hargs,rfl,rfl,h0,r0⟩:=trodAll_cons hA
 obtain⟨v1,vs1,d1,ds1,p1,q1,rfl,rfl,rfl,h1,r1⟩:=trodAll_cons r0
 obtain⟨rfl,rfl,rfl⟩:=trodAll_nil r1
 obtain rfl:args=#[v0,v1]:=by cases args;simp_all
 obtain⟨rfl,rfl⟩:=trodVars_none hV
 have hb:=alZ hcond
 simp only[List.append_nil,Rows.uptoBulkAll]at hb
 obtain⟨x,s,r,rfl,mh0⟩:=XF (hval 0 36 v0 rfl rfl) h0 (by omega)
 obtain⟨y,u,q,rfl,mh1⟩:=XF (hval 1 36 v1 rfl rfl) h1 (by omega)
 refine(ali x y s u r q W mh0 mh1 (al2 hlaid hshape) (al3 hlaid)).mono fun e W' ⟨he',hbel⟩=>?_
 subst he'
 have hlt:=hW'.lt
 refine⟨_,rfl,alY hW' (fun _ _ _=>trodAll_cons_mk (shut_bool Tryz.underlying4 _) trodAll_mk0) (fun sp hsp=>?_) (fun _=>rfl) hbel (ok_one (by kernel_rfl) rfl (okWide_bool_mk Tryz.underlying4 _))⟩
 rw[Tryz.params3]
 have hT:=trodAll_cons_mk (stays XD XE h0 hbel (fun x hx=>hlt x (by simp[hx])) (fun x hx=>hsp x (by simp[hx]))) (trodAll_cons_mk (stays XD XE h1 hbel (fun x hx=>hlt x (by simp[hx])) (fun x hx=>hsp x (by simp[hx]))) trodAll_mk0)
 rw[show(p0++(p1++[]))++[]=p0++(p1++[]) from List.append_nil _]
 exact hT
def Ik:Array Value:=#[.agg #[.int .i64 0,.int .i64 0,.int .i64 0,.int .i64 0,.slice none 0 0,.string ⟨#[]⟩,.slice none 0 0,.string ⟨#[]⟩,.slice none 0 0,.int .u32 0,.int .i64 0,.slice none 0 0,.string ⟨#[]⟩,.int .i64 0,.int .i64 0,.int .i64 0,.int .i64 0,.int .i64 0,.int .i64 0,.int .i64 0,.slice none 0 0,.slice none 0 0,.slice none 0 0,.string ⟨#[]⟩,.int .i64 0,.int .i64 0,.int .i64 0,.int .i64 0,.int .i64 0,.int .i64 0,.int .i64 0,.int .i64 0,.int .i64 0,.string ⟨#[]⟩,.int .i64 0,.int .i64 0,.int .i64 0],.agg #[.int .i64 0,.int .i64 0,.int .i64 0,.int .i64 0,.slice none 0 0,.string ⟨#[]⟩,.slice none 0 0,.string ⟨#[]⟩,.slice none 0 0,.int .u32 0,.int .i64 0,.slice none 0 0,.string ⟨#[]⟩,.int .i64 0,.int .i64 0,.int .i64 0,.int .i64 0,.int .i64 0,.int .i64 0,.int .i64 0,.slice none 0 0,.slice none 0 0,.slice none 0 0,.string ⟨#[]⟩,.int .i64 0,.int .i64 0,.int .i64 0,.int .i64 0,.int .i64 0,.int .i64 0,.int .i64 0,.int .i64 0,.int .i64 0,.string ⟨#[]⟩,.int .i64 0,.int .i64 0,.int .i64 0]]
theorem laid_met(os:Os):laidMet Tryz.prog Rows.updateEncodesUptoRow.laid ((laidWorld os).forCall (fun _ _=>0) ⟨#[],Ik,[]⟩).memory:=
 laidMet_of_run' 8 (by kernel_rfl) (by kernel_rfl)
def al6{H:Type}:List (DataW H):=[.agg [.lit (.int .i64 0),.lit (.int .i64 0),.lit (.int .i64 0),.lit (.int .i64 0),.agg [.nil,.lit (.string [])],.agg [.agg [.nil,.lit (.string [])],.nil,.lit (.int .u32 0),.lit (.int .i64 0),.nil,.lit (.string []),.lit (.int .i64 0),.lit (.int .i64 0),.lit (.int .i64 0),.lit (.int .i64 0),.lit (.int .i64 0),.lit (.int .i64 0),.lit (.int .i64 0),.nil,.nil,.nil],.agg [.lit (.string []),.lit (.int .i64 0),.lit (.int .i64 0),.lit (.int .i64 0),.lit (.int .i64 0),.lit (.int .i64 0),.lit (.int .i64 0),.lit (.int .i64 0),.lit (.int .i64 0),.lit (.int .i64 0)],.lit (.string []),.lit (.int .i64 0),.lit (.int .i64 0),.lit (.int .i64 0)],.agg [.lit (.int .i64 0),.lit (.int .i64 0),.lit (.int .i64 0),.lit (.int .i64 0),.agg [.nil,.lit (.string [])],.agg [.agg [.nil,.lit (.string [])],.nil,.lit (.int .u32 0),.lit (.int .i64 0),.nil,.lit (.string []),.lit (.int .i64 0),.lit (.int .i64 0),.lit (.int .i64 0),.lit (.int .i64 0),.lit (.int .i64 0),.lit (.int .i64 0),.lit (.int .i64 0),.nil,.nil,.nil],.agg [.lit (.string []),.lit (.int .i64 0),.lit (.int .i64 0),.lit (.int .i64 0),.lit (.int .i64 0),.lit (.int .i64 0),.lit (.int .i64 0),.lit (.int .i64 0),.lit (.int .i64 0),.lit (.int .i64 0)],.lit (.string []),.lit (.int .i64 0),.lit (.int .i64 0),.lit (.int .i64 0)]]
theorem reads(os:Os){H:Type}(enc:TypeId×Value→H):∃places,DataW.whole enc Tryz.prog ((laidWorld os).forCall (fun _ _=>0) ⟨#[],Ik,[]⟩).memory Tryz.f3.params.toList Rows.updateEncodesSpec.vars false Ik.toList 8=some (al6,[],places):=
 ⟨[],by kernel_rfl⟩
theorem al7(os:Os)(started:os.Started)(H:Type)(enc:TypeId×Value→H)(F:Stop.Interp) :
  ReturnsInHanded {} Tryz.checked os 3 .any ((Rows.OpenSpec.upto Rows.updateEncodesSpec).preRow enc Tryz.prog Tryz.f3 Rows.updateEncodesUptoRow.domain false Rows.updateEncodesUptoRow.laid) (((Rows.OpenSpec.upto Rows.updateEncodesSpec).at F).post enc Tryz.prog Tryz.f3 false true false false):=by
 obtain⟨places,hx⟩:=reads os enc
 refine returnsInHanded_of_row (C:=Tryz.checked) (s:=Rows.OpenSpec.upto Rows.updateEncodesSpec) own started (by kernel_rfl) Tryz.func3
  (witness_row_atRef (enc:=enc) (C:=Tryz.checked) false (laidWorld os) Ik rfl (by kernel_rfl) (by kernel_rfl) (by kernel_rfl)
   (OpenSpec.preRow_of_cond 8 hx (by kernel_rfl) (fun k hk=>by cases hk;kernel_rfl) (by kernel_rfl) (laid_met os))) ?_
 intro W base args ds gs before hval hW _ hcond _ hlaid hshape _
 exact contract H enc W base args ds gs before hval hW (hcond _ rfl) hlaid hshape
theorem al8:Rows.UpdateEncodesUptoSaid:=
 OpenClaim.holds_of_cond 3 Tryz.f3 rfl rfl rfl rfl rfl rfl rfl ⟨rfl,rfl,rfl,rfl,rfl⟩ rfl rfl rfl rfl rfl (by kernel_rfl) Tryz.func3 Facts.closed
  (of_decide_eq_true (by kernel_rfl)) (by unfold Func.isWrapper;first|(rw[if_pos (by decide +kernel)];kernel_rfl)|(rw[if_neg (by decide +kernel)];exact⟨rfl,rfl⟩))
  (fun os started H enc _ F=>by rw[OpenClaim.pre_eq_preRow];exact al7 os started H enc F)
theorem plain(f:FuncId)(fn:Func)(hf:Tryz.pinned.checked.prog.funcNamed "watchword/watchwordlaw29.UpdateEncodes"=some f)(hfn:Tryz.pinned.checked.prog.funcs[f]?=some fn) :
  true=Tryz.pinned.checked.prog.looks []∧∀(j:Nat) t,fn.params[j]?=some t→Tryz.pinned.checked.prog.wantsStandIn t=false:=by
 obtain rfl:f=3:=Option.some.inj ((show Tryz.prog.funcNamed "watchword/watchwordlaw29.UpdateEncodes"=some 3 by kernel_rfl).symm.trans hf) |>.symm
 obtain rfl:fn=Tryz.f3:=(Option.some.inj (Tryz.func3.symm.trans hfn)).symm
 refine⟨by kernel_rfl,fun j t ht=>?_⟩
 rw[Tryz.params3]at ht
 have hm:=Array.mem_of_getElem? ht
 have:t=36:=by simpa using hm
 subst this
 exact(show Tryz.prog.wantsStandIn 36=false by kernel_rfl)
end Go.Proofs.YtibhckkjciflaaaGreatDoor.UpdateEncodes
