/- A part of the proof. -/
import Derived.Test.YtpfifochimkpfaaGreatDoorA32
import Derived.Test.YtpfifochimkpfaaGreatDoorCards
import Derived.Test.YtpfifochimkpfaaGreatDoorTie
import Derived.Lib.LaidTab
import Derived.Test.YtpfifochimkpfaaGreatDoorA19
import Derived.Test.YtpfifochimkpfaaGreatDoorA01
set_option maxRecDepth 2000000
namespace Go.Proofs.YtpfifochimkpfaaGreatDoor
open Go.ChangeShapes Go.WideShapes Go.ChangeAt Go.RowKit Go.WW Go.Deep
theorem own:ownKnob Tryz.prog.godebug=none:=by kernel_rfl
theorem amH{H:Type}{ds:List (DataW H)}(h:Rows.uptoSmall H ds=true):Rows.uptoBulkAll ds≤1048576:=of_decide_eq_true h
def amI:DataW Unit→Value
 | .lit (.int k n)=>.int k n
 |_=>undef
def uQ:DataW Unit→List Value
 | .agg l=>l.map amI
 |_=>[]
def YL:DataW Unit→List Value
 | .agg l=>l.flatMap uQ
 |_=>[]
def sJ(cs:List Value):Obj→Obj
 | .cells _ t frozen=>.cells cs.toArray t frozen
 |o=>o
noncomputable def laidWorld(os:Os):World:=
 {World.holding Tryz.prog os ⟨#[],#[],[]⟩with heap:=((((World.holding Tryz.prog os ⟨#[],#[],[]⟩).heap.modify 0 (sJ (uQ Rows.laid_unicode_utf8_first))).modify 1 (sJ (YL Rows.laid_unicode_utf8_acceptRanges))).modify 3 (sJ (uQ Rows.laid_watchword_sha_start))).modify 4 (sJ (uQ Rows.laid_watchword_sha_constants))}
section
variable {H:Type} {enc:TypeId×Value→H} {w:World} {base:Nat} {spare:Nat→Bool} {held:Bool} {fuel:Nat} {x:DataW H×List MemPlace}
theorem amJ{v:Value}(h:DataW.trod enc Tryz.prog w base spare held fuel 22 [v]=some x)(hb:Rows.uptoBulk x.1≤1048576):∃(s:Sl) (l:List ah),v=.slice s.a l.length s.cap∧gQ w s.a l:=by
 obtain⟨s,n,hv,hn,hel⟩:=wK Tryz.underlying22 Yq (by omega) h hb
 obtain⟨l,hl,hr⟩:=uO (R:=fun i (a:ah)=>∃b o,s.a=some ⟨b,o,none⟩∧row? w b (o+i*10) 10=some (ak a)∧a.name.size≤lim) (n:=n) (fun i hi=>by
  obtain⟨b,o,cs,f',y,ha,hrow,ht,hby⟩:=hel i hi
  obtain⟨p,hcs,hp⟩:=amf ht hby
  exact⟨p,b,o,ha,by rw[hrow,←Array.toList_inj.1 hcs],hp⟩)
 refine⟨s,l,by rw[hl];exact hv,by rw[hl];exact uP hn,fun i hi=>?_⟩
 obtain⟨b,o,h1,h2,h3⟩:=hr i l[i] (List.getElem?_eq_getElem hi)
 exact⟨b,o,_,h1,h2,l[i],List.getElem?_eq_getElem hi,rfl,h3⟩
theorem amK{v:Value}(h:DataW.trod enc Tryz.prog w base spare held fuel 23 [v]=some x)(hb:Rows.uptoBulk x.1≤1048576):∃(s:Sl) (l:List EE),v=.slice s.a l.length s.cap∧qj w s.a l:=by
 obtain⟨s,n,hv,hn,hel⟩:=wK Tryz.underlying23 Yp (by omega) h hb
 obtain⟨l,hl,hr⟩:=uO (R:=fun i (a:EE)=>∃b o,s.a=some ⟨b,o,none⟩∧row? w b (o+i*17) 17=some (ae a.1 a.2)∧aS w a.1 a.2) (n:=n) (fun i hi=>by
  obtain⟨b,o,cs,f',y,ha,hrow,ht,hby⟩:=hel i hi
  obtain⟨r,d,hcs,hp⟩:=al6 ht hby
  exact⟨(r,d),b,o,ha,by rw[hrow,←Array.toList_inj.1 hcs],hp⟩)
 refine⟨s,l,by rw[hl];exact hv,⟨by rw[hl];exact uP hn,fun i hi=>?_⟩,fun y hy=>?_⟩
 ·obtain⟨b,o,h1,h2,h3⟩:=hr i l[i] (List.getElem?_eq_getElem hi)
  exact⟨b,o,_,h1,h2,l[i],List.getElem?_eq_getElem hi,rfl⟩
 ·obtain⟨i,hi,rfl⟩:=List.mem_iff_getElem.1 hy
  obtain⟨b,o,h1,h2,h3⟩:=hr i l[i] (List.getElem?_eq_getElem hi)
  exact h3
end
theorem amL:Tryz.prog.readableRec 22=true:=by kernel_rfl
theorem amM:Tryz.prog.readableRec 23=true:=by kernel_rfl
theorem amN:22<Tryz.prog.types.size:=of_decide_eq_true (by kernel_rfl)
theorem amO:23<Tryz.prog.types.size:=of_decide_eq_true (by kernel_rfl)
section
variable {H:Type} {enc:TypeId×Value→H}
theorem amP{W:World}{b0:Nat}{v:Value}{d:DataW H}{p:List MemPlace}(_hv:Value.okWide Tryz.prog W .any b0 22 v)(h:DataW.Trod enc Tryz.prog W 0 (fun _=>true) true 22 v d p)(hb:Rows.uptoBulk d≤1048576) :
  ∃(s:Sl) (l:List ah),v=.slice s.a l.length s.cap∧gQ W s.a l:=by
 obtain⟨a,len,cap,rfl⟩:=okWide_slice Tryz.underlying22 _hv
 obtain⟨fuel,hf⟩:=h
 exact amJ (x:=(d,p)) hf hb
theorem amQ{W:World}{b0:Nat}{v:Value}{d:DataW H}{p:List MemPlace}(_hv:Value.okWide Tryz.prog W .any b0 23 v)(h:DataW.Trod enc Tryz.prog W 0 (fun _=>true) true 23 v d p)(hb:Rows.uptoBulk d≤1048576) :
  ∃(s:Sl) (l:List EE),v=.slice s.a l.length s.cap∧qj W s.a l:=by
 obtain⟨a,len,cap,rfl⟩:=okWide_slice Tryz.underlying23 _hv
 obtain⟨fuel,hf⟩:=h
 exact amK (x:=(d,p)) hf hb
end
end Go.Proofs.YtpfifochimkpfaaGreatDoor
namespace Go.Proofs.YtpfifochimkpfaaGreatDoor.Facts
open Go
theorem ik{a b:Bool}(h:a=true)(k:b=true):(a&&b)=true:=by rw[h,k];rfl
theorem closed:joinedFacts Tryz.prog 3 Tryz.f3 Rows.lockoutRecordsSpec Rows.lockoutRecordsUptoRow=true:=ik (ik (ik (ik (ik (ik (ik (ik (ik (ik (ik (ik (ik (ik (ik (ik (ik (ik (ik (ik (ik (ik (ik (ik (ik (ik (ik (ik (ik (ik (ik (j0) j1) j2) j3) j4) j5) j6) j7) j8) j9) j10) j11) j12) j13) j14) j15) j16) j17) j18) j19) j20) j21) j22) j23) j24) j25) j26) j27) j28) j29) j30) j31
end Go.Proofs.YtpfifochimkpfaaGreatDoor.Facts
