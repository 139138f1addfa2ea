/- A part of the proof. -/
import Derived.Test.YtpfifochimkpfaaGreatDoorA33
import Derived.Test.YtpfifochimkpfaaGreatDoorA34
import Derived.Test.YtpfifochimkpfaaGreatDoorCards
import Derived.Test.YtpfifochimkpfaaGreatDoorTie
import Derived.Lib.LaidTab
import Derived.Lib.LaidPrint
import Derived.Stop.LaidErr
import Derived.ChangeMaps5
import Derived.Deep.DeepWitnessRowRef
set_option maxRecDepth 2000000
namespace Go.Proofs.YtpfifochimkpfaaGreatDoor
open Go.ChangeShapes Go.WideShapes Go.ChangeAt Go.RowKit Go.WW Go.Deep
noncomputable def Pv(os:Os):World:=
 {World.holding Tryz.prog os ⟨#[],#[],[]⟩with heap:=(((((((World.holding Tryz.prog os ⟨#[],#[],[]⟩).heap.modify 2 (sJ (uQ Rows.laid_unicode_utf8_first))).modify 3 (sJ (YL Rows.laid_unicode_utf8_acceptRanges))).modify 6 (sJ (uQ Rows.laid_watchword_sha_start))).modify 7 (sJ (uQ Rows.laid_watchword_sha_constants))).modify 4 (sJ (uQ Rows.laid_math_bits_deBruijn32tab))).modify 5 (sJ (uQ Rows.laid_math_bits_deBruijn64tab))).modify 1 (sJ (uQ Rows.laid_internal_strconv_uint64pow10))}
theorem amR{W:World}(hlaid:laidMet Tryz.prog Rows.lockoutRecordsUptoRow.laid W):BJ Tryz.prog W:=by
 have h0:laidMet Tryz.prog Rows.lockoutRecordsUptoRow.laid W:=hlaid
 exact Lib.tabIs_of_head (P:=Tryz.prog) (W:=W) (name:= "internal/strconv.uint64pow10") (k:=.u64) (zs:=Lib.pow10Tab) (g:=1) (t:=263) (e:=102) (n:=20) (by kernel_rfl) (by kernel_rfl) (by kernel_rfl) (by kernel_rfl) (by kernel_rfl) (by kernel_rfl) h0.tail.tail
theorem amS:Tryz.prog.readableRec 24=true:=by kernel_rfl
theorem amT:24<Tryz.prog.types.size:=of_decide_eq_true (by kernel_rfl)
section
variable {H:Type} {enc:TypeId×Value→H}
theorem amU{W:World}{b0:Nat}{v:Value}{d:DataW H}{p:List MemPlace}(_hv:Value.okWide Tryz.prog W .any b0 24 v)(h:DataW.Trod enc Tryz.prog W 0 (fun _=>true) true 24 v d p)(hb:Rows.uptoBulk d≤1048576) :
  ∃(s:Sl) (l:List aH),v=.slice s.a l.length s.cap∧fQ W s.a l:=by
 obtain⟨a,len,cap,rfl⟩:=okWide_slice Tryz.underlying24 _hv
 obtain⟨fuel,hf⟩:=h
 exact Jf (x:=(d,p)) hf hb
end
end Go.Proofs.YtpfifochimkpfaaGreatDoor
namespace Go.Proofs.YtpfifochimkpfaaGreatDoor.Px
open Go.ChangeShapes Go.WideShapes Go.ChangeAt Go.RowKit Go.WW Go.Deep
theorem contract(H:Type)(enc:TypeId×Value→H)(W:World)(base:Nat)(args:Array Value)(ds gs:List (DataW H))(before:List MemPlace)
  (hval:∀(j:Nat) t v,Tryz.f3.params[j]?=some t→args[j]?=some v→Value.okWide Tryz.prog W .any base t v)
  (hW:DataW.Whole enc Tryz.prog Tryz.f3.params.toList Rows.lockoutRecordsSpec.vars false W args.toList ds gs before) (hcond:Rows.uptoSmall H (ds++gs)=true) (hlaid:laidMet Tryz.prog Rows.lockoutRecordsUptoRow.laid W) :
  Calls Tryz.prog 3 args W fun e W'=>∃v,e=.returned v∧Rows.lockoutRecordsSpec.post enc Tryz.prog Tryz.f3 false true false false W args v W':=by
 have hW':=hW
 obtain⟨p,q,hA0,hV,rfl,hfz,hnd⟩:=hW
 have hA:DataW.TrodAll enc Tryz.prog W 0 (fun _=>true) true Tryz.f3.params.toList args.toList ds p:=hA0
 rw[Tryz.params3]at hA hval
 obtain⟨v0,vs0,d0,ds0,p0,q0,hargs,rfl,rfl,h0,r0⟩:=trodAll_cons hA
 obtain⟨v1,vs1,d1,ds1,p1,q1,rfl,rfl,rfl,h1,r1⟩:=trodAll_cons r0
 obtain⟨v2,vs2,d2,ds2,p2,q2,rfl,rfl,rfl,h2,r2⟩:=trodAll_cons r1
 obtain⟨v3,vs3,d3,ds3,p3,q3,rfl,rfl,rfl,h3,r3⟩:=trodAll_cons r2
 obtain⟨rfl,rfl,rfl⟩:=trodAll_nil r3
 obtain rfl:args=#[v0,v1,v2,v3]:=by cases args;simp_all
 obtain⟨rfl,rfl⟩:=trodVars_none hV
 have hb:=amH hcond
 simp only[List.append_nil,Rows.uptoBulkAll]at hb
 obtain⟨ts0,tl0,rfl,th0⟩:=amP (hval 0 22 v0 rfl rfl) h0 (by omega)
 obtain⟨ts1,tl1,rfl,th1⟩:=amQ (hval 1 23 v1 rfl rfl) h1 (by omega)
 obtain⟨ts2,tl2,rfl,th2⟩:=amU (hval 2 24 v2 rfl rfl) h2 (by omega)
 obtain⟨ts3,tl3,rfl,th3⟩:=aml (hval 3 25 v3 rfl rfl) h3 (by omega)
 refine(amn _ _ _ _ _ _ _ _ _ _ _ _ W th0 th1 th2 th3 (amR hlaid)).mono fun e W' ⟨he',hbel⟩=>?_
 subst he'
 have hlt:=hW'.lt
 refine⟨_,rfl,amg hW' (fun _ _ _=>trodAll_cons_mk (shut_bool Tryz.underlying4 _) trodAll_mk0) (fun sp hsp=>?_) (fun _=>rfl) hbel (ok_one (by kernel_rfl) rfl (okWide_bool_mk Tryz.underlying4 _))⟩
 rw[Tryz.params3]
 have hT:=trodAll_cons_mk (stays amL amN h0 hbel (fun x hx=>hlt x (by simp[hx])) (fun x hx=>hsp x (by simp[hx]))) (trodAll_cons_mk (stays amM amO h1 hbel (fun x hx=>hlt x (by simp[hx])) (fun x hx=>hsp x (by simp[hx]))) (trodAll_cons_mk (stays amS amT h2 hbel (fun x hx=>hlt x (by simp[hx])) (fun x hx=>hsp x (by simp[hx]))) (trodAll_cons_mk (stays amh ami h3 hbel (fun x hx=>hlt x (by simp[hx])) (fun x hx=>hsp x (by simp[hx]))) trodAll_mk0)))
 rw[show(p0++(p1++(p2++(p3++[]))))++[]=p0++(p1++(p2++(p3++[]))) from List.append_nil _]
 exact hT
def Jm:Array Value:=#[.slice none 0 0,.slice none 0 0,.slice none 0 0,.slice none 0 0]
theorem laid_met(os:Os):laidMet Tryz.prog Rows.lockoutRecordsUptoRow.laid ((Pv os).forCall (fun _ _=>0) ⟨#[],Jm,[]⟩).memory:=
 laidMet_of_run' 8 (by kernel_rfl) (by kernel_rfl)
def amZ{H:Type}:List (DataW H):=[.nil,.nil,.nil,.nil]
theorem reads(os:Os){H:Type}(enc:TypeId×Value→H):∃places,DataW.whole enc Tryz.prog ((Pv os).forCall (fun _ _=>0) ⟨#[],Jm,[]⟩).memory Tryz.f3.params.toList Rows.lockoutRecordsSpec.vars false Jm.toList 8=some (amZ,[],places):=
 ⟨[],by kernel_rfl⟩
theorem am0(os:Os)(started:os.Started)(H:Type)(enc:TypeId×Value→H)(F:Stop.Interp) :
  ReturnsInHanded {} Tryz.checked os 3 .any ((Rows.OpenSpec.upto Rows.lockoutRecordsSpec).preRow enc Tryz.prog Tryz.f3 Rows.lockoutRecordsUptoRow.domain false Rows.lockoutRecordsUptoRow.laid) (((Rows.OpenSpec.upto Rows.lockoutRecordsSpec).at F).post enc Tryz.prog Tryz.f3 false true false false):=by
 obtain⟨places,hx⟩:=reads os enc
 refine returnsInHanded_of_row (C:=Tryz.checked) (s:=Rows.OpenSpec.upto Rows.lockoutRecordsSpec) own started (by kernel_rfl) Tryz.func3
  (witness_row_at (enc:=enc) (C:=Tryz.checked) false (Pv os) Jm rfl (by kernel_rfl) (by kernel_rfl) (by kernel_rfl)
   (OpenSpec.preRow_of_cond 8 hx (by kernel_rfl) (fun k hk=>by cases hk;kernel_rfl) (by kernel_rfl) (laid_met os))) ?_
 intro W base args ds gs before hval hW _ hcond _ hlaid _ _
 exact contract H enc W base args ds gs before hval hW (hcond _ rfl) hlaid
theorem am1:Rows.LockoutRecordsUptoSaid:=
 OpenClaim.holds_of_cond 3 Tryz.f3 rfl rfl rfl rfl rfl rfl rfl ⟨rfl,rfl,rfl,rfl,rfl⟩ rfl rfl rfl rfl rfl (by kernel_rfl) Tryz.func3 Facts.closed
  (of_decide_eq_true (by kernel_rfl)) (by unfold Func.isWrapper;first|(rw[if_pos (by decide +kernel)];kernel_rfl)|(rw[if_neg (by decide +kernel)];exact⟨rfl,rfl⟩))
  (fun os started H enc _ F=>by rw[OpenClaim.pre_eq_preRow];exact am0 os started H enc F)
theorem plain(f:FuncId)(fn:Func)(hf:Tryz.pinned.checked.prog.funcNamed "watchword/watchwordlaw28.LockoutRecords"=some f)(hfn:Tryz.pinned.checked.prog.funcs[f]?=some fn) :
  false=Tryz.pinned.checked.prog.looks []∧∀(j:Nat) t,fn.params[j]?=some t→Tryz.pinned.checked.prog.wantsStandIn t=false:=by
 obtain rfl:f=3:=Option.some.inj ((show Tryz.prog.funcNamed "watchword/watchwordlaw28.LockoutRecords"=some 3 by kernel_rfl).symm.trans hf) |>.symm
 obtain rfl:fn=Tryz.f3:=(Option.some.inj (Tryz.func3.symm.trans hfn)).symm
 refine⟨by kernel_rfl,fun j t ht=>?_⟩
 rw[Tryz.params3]at ht
 have hm:=Array.mem_of_getElem? ht
 have:t=22∨t=23∨t=24∨t=25:=by simpa using hm
 rcases this with rfl|rfl|rfl|rfl
 ·exact(show Tryz.prog.wantsStandIn 22=false by kernel_rfl)
 ·exact(show Tryz.prog.wantsStandIn 23=false by kernel_rfl)
 ·exact(show Tryz.prog.wantsStandIn 24=false by kernel_rfl)
 ·exact(show Tryz.prog.wantsStandIn 25=false by kernel_rfl)
end Go.Proofs.YtpfifochimkpfaaGreatDoor.Px
