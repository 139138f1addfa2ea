/- A part of the proof. -/
import Derived.Test.YtpfifochimkpfaaGreatDoorA14
import Derived.Test.YtpfifochimkpfaaGreatDoorA03
import Derived.Test.YtpfifochimkpfaaGreatDoorA11
import Derived.Test.YtpfifochimkpfaaGreatDoorA12
import Derived.Test.YtpfifochimkpfaaGreatDoorA10
import Derived.Test.YtpfifochimkpfaaGreatDoorA05
import Derived.Deep.Upon
set_option maxRecDepth 100000
set_option maxHeartbeats 6000000
namespace Go.WW
open Go.RowKit
def span(m c:Nat):Nat→Prop:=fun b=>m≤b∧b<c
def KL{α:Type}(P:Program)(g:Nat)(lb:Array Value)(S:Nat→Prop)(xs:List α)(V:Nat→α→Array Value→World→World→Prop)(w:World):Prop:=
 ∀(l:Nat) (J Jx:Nat→Nat→World→Prop) (W:World),Below w.heap.size w W→w.heap.size≤l→l<W.heap.size→
  (∀c1 W1,W.heap.size≤c1→c1≤W1.heap.size→Below W.heap.size W W1→J c1 0 W1)→
  (∀c1 k W1 W2,J c1 k W1→But (span W.heap.size c1) W1 W2→J c1 k W2)→
  (∀c1 k W1 W2,Jx c1 k W1→But (span W.heap.size c1) W1 W2→Jx c1 k W2)→
  (∀c1 k x v W0 W1,xs[k]?=some x→J c1 k W0→But (span W.heap.size c1) W0 W1→V c1 x v W0 W1→W.heap.size≤c1→c1≤W0.heap.size→YieldAt Fence.wide 0 P l v W1 fun e W'=>
   But (fun b=>(S b∨b=l)∨c1≤b) W1 W'∧((e=.returned (.bool true)∧J c1 (k+1) W')∨(e=.returned (.bool false)∧Jx c1 (k+1) W')))→
  Calls P g (#[.func (.yield l) #[] #[]]++lb) W fun e W'=>(∃v,e=.returned v)∧((∃c1,J c1 xs.length W')∨(∃c1 k,Jx c1 k W'))
def afv(S:Nat→Prop)(I:Nat→Nat→World→Prop)(Ix:Code→Nat→Nat→World→Prop)(c1 k:Nat)(U:World):Exit→Act→World→Prop
 | .normal,_,X=>But (fun b=>S b∨c1≤b) U X∧I c1 k X
 | .ret,_,X=>But (fun b=>S b∨c1≤b) U X∧Ix .ret c1 k X
 | .exit id,_,X=>But (fun b=>S b∨c1≤b) U X∧Ix (.exit id) c1 k X
 | .goto t,_,X=>But (fun b=>S b∨c1≤b) U X∧Ix (.goto t) c1 k X
 |_,_,_=>False
theorem But.putObj{w:World}{l:Nat}(o:Obj):But (one l) w (w.putObj l o):=BV o
theorem Gm{α:Type}{P:Program}{g:Operand}{ps:Array Tmp}{assign body:Code}{Q:Exit→Act→World→Prop}{a:Act}{w:World}
  {gf:Nat} {lb:Array Value} (hg:a.eval g=.func (.func gf) #[] lb) (eg:∀args w,(callFunc gf args).run P w=.ok (.enter gf args) w)
  {S:Nat→Prop} (hS:∀b,S b→b<w.heap.size) {xs:List α} {V:Nat→α→Array Value→World→World→Prop} (hps:∀c1 x v W0 W,V c1 x v W0 W→v.size=ps.size)
  (hseq:KL P gf lb S xs V w) (I:Nat→Nat→World→Prop) (Ix:Code→Nat→Nat→World→Prop)
  (hI0:∀c1 W,w.heap.size<c1→c1≤W.heap.size→Below w.heap.size w W→I c1 0 W)
  (hIs:∀c1 k W W',I c1 k W→But (span w.heap.size c1) W W'→I c1 k W')
  (Dn:∀c c1 k W W',Ix c c1 k W→But (span w.heap.size c1) W W'→Ix c c1 k W')
  (afw:∀c1 k x v W0 W,xs[k]?=some x→V c1 x v W0 W→I c1 k W0→But (span w.heap.size c1) W0 W→w.heap.size+1<c1→c1≤W0.heap.size→
   assign.wpIn (Fence.wide.inRound (w.heap.size+1)) 0 P (Exit.then (fun a' W'=>Below W.heap.size W W'∧∀U,But (one (w.heap.size+1)) W' U→body.wpIn (Fence.wide.inRound (w.heap.size+1)) 0 P (afv S I Ix c1 (k+1) U) a' U) (fun _ _ _=>False))
    {tmps:=(ps.zip v).foldl (fun t (p,v)=>t.setIfInBounds p v) a.tmps,defers:=[]} W)
  (hdone:∀c1 W,I c1 xs.length W→W.heap[w.heap.size]?=some (.deferred (some []))→Q .normal {a with defers:={target:=.collected w.heap.size,args:=#[]}::a.defers} W)
  (hstop:∀c c1 k W,Ix c c1 k W→W.heap[w.heap.size]?=some (.deferred (some []))→c.wp P Q {a with defers:={target:=.collected w.heap.size,args:=#[]}::a.defers} W) :
  (Code.rangeFunc g ps assign body).wp P Q a w:=by
 refine(wpIn_wide (n:=0)).1 (wpIn_rangeFunc ?_)
 intro fn hfn
 show ∃l mark w₁ d w₁' f args w₂,_
 obtain⟨lp,hlp⟩:∃lp:LoopState→Option Code→Loop,lp=fun st pe=>{state:=st,pending:=pe,fn,tmps:=a.tmps,params:=ps,assign,body,defers:=w.heap.size}:=⟨_,rfl⟩
 obtain⟨A,hA⟩:∃A,(w.alloc (.deferred (some []))).alloc (.loop (lp .ready none))=A:=⟨_,rfl⟩
 have hL:A.heap[w.heap.size+1]?=some (.loop (lp .ready none)):=by
  have:=World.alloc_heap_new (w.alloc (.deferred (some []))) (.loop (lp .ready none))
  rw[World.size_alloc,hA]at this;exact this
 have hD:A.heap[w.heap.size]?=some (.deferred (some [])):=by
  rw[←hA];exact(Below.heap_alloc _ _ _ (by simp)).trans (World.alloc_heap_new w _)
 have hB:Below w.heap.size w A:=by
  rw[←hA];exact((Below.refl _ w).alloc (Nat.le_refl _) _).alloc (by simp) _
 have hsz:A.heap.size=w.heap.size+1+1:=by rw[←hA];simp
 refine⟨w.heap.size+1,[{target:=.collected w.heap.size,args:=#[]}],A,{target:=.fn (.func gf) lb,args:=#[.func (.yield (w.heap.size+1)) #[] #[]]},A,gf,
  #[.func (.yield (w.heap.size+1)) #[] #[]]++lb,A,?_,?_,?_,?_,fun e=>(by cases e),?_⟩
 ·rw[←hA,hlp];exact run_enterLoop_outer _ _ _ _ _
 ·simp only[resolve,hg];simp[go_sem]
 ·intro f' hf';trivial
 ·simp[invoke,go_sem,eg]
 ·have wide:∀{c1 b:Nat},span A.heap.size c1 b→span w.heap.size c1 b:=fun h=>⟨by have:=h.1;omega,h.2⟩
  have keep:∀{c1 b:Nat} {X Y:World},But (span A.heap.size c1) X Y→b<A.heap.size→b<X.heap.size→Y.heap[b]?=X.heap[b]?:=fun h hb hx=>h.block _ hx (fun e=>by have:=e.1;omega)
  refine(callsIn_wide (n:=0)).2 (Calls.mono (hseq (w.heap.size+1)
   (fun c1 k W=>w.heap.size+1<c1∧I c1 k W∧W.heap[w.heap.size+1]?=some (.loop (lp .ready none))∧W.heap[w.heap.size]?=some (.deferred (some [])))
   (fun c1 k W=>w.heap.size+1<c1∧∃c,Ix c c1 k W∧W.heap[w.heap.size+1]?=some (.loop (lp .done (some c)))∧W.heap[w.heap.size]?=some (.deferred (some [])))
   A hB (by omega) (by omega) ?_ ?_ ?_ ?_) ?_)
  ·intro c1 W1 h1 h2 hb
   exact⟨by omega,hI0 c1 W1 (by omega) h2 (hB.trans (hb.mono hB.size)),(hb.block _ (by omega)).trans hL,(hb.block _ (by omega)).trans hD⟩
  ·rintro c1 k W1 W2 ⟨hc,hi,hl,hk⟩ hb
   exact⟨hc,hIs _ _ _ _ hi (hb.mono fun _=>wide),(keep hb (by omega) (Array.getElem?_eq_some_iff.1 hl).1).trans hl,(keep hb (by omega) (Array.getElem?_eq_some_iff.1 hk).1).trans hk⟩
  ·rintro c1 k W1 W2 ⟨hc,c,hi,hl,hk⟩ hb
   exact⟨hc,c,Dn _ _ _ _ _ hi (hb.mono fun _=>wide),(keep hb (by omega) (Array.getElem?_eq_some_iff.1 hl).1).trans hl,(keep hb (by omega) (Array.getElem?_eq_some_iff.1 hk).1).trans hk⟩
  ·rintro c1 k x v W0 W hx ⟨_,hi,hl0,hk0⟩ hbs hv hc0 hc1
   have hl:=(keep hbs (by omega) (Array.getElem?_eq_some_iff.1 hl0).1).trans hl0
   have hk:=(keep hbs (by omega) (Array.getElem?_eq_some_iff.1 hk0).1).trans hk0
   have hlt:w.heap.size+1<W.heap.size:=(Array.getElem?_eq_some_iff.1 hl).1
   have hy:=run_yield (P:=P) (args:=v) hl (by rw[hlp];exact hps _ _ _ _ _ hv)
   rw[hlp]at hy
   refine⟨fn,_,assign,body,hy,roundIn_of_wpIn hfn (wpIn_mono (afw c1 k x v W0 W hx hv hi (hbs.mono fun _=>wide) (by omega) hc1) ?_)⟩
   rintro e a' W' he
   cases e with
   |normal=>
    obtain⟨hbW,hbody⟩:=he
    have hl1:=(hbW.block _ hlt).trans hl
    have hk1:=(hbW.block _ (by omega)).trans hk
    refine⟨_,run_beginRound hl1 (by rw[hlp]),?_⟩
    obtain⟨U,hU⟩:∃U,W'.putObj (w.heap.size+1) (.loop {lp .ready none with state:=.busy})=U:=⟨_,rfl⟩
    have iE:But (one (w.heap.size+1)) W' U:=by rw[←hU];exact But.putObj _
    have TR:U.heap[w.heap.size+1]?=some (.loop {lp .ready none with state:=.busy}):=by rw[←hU];exact World.putObj_heap_same (Array.getElem?_eq_some_iff.1 hl1).1
    have TS:U.heap[w.heap.size]?=some (.deferred (some [])):=(iE.block _ (Array.getElem?_eq_some_iff.1 hk1).1 (bU (by omega))).trans hk1
    rw[hU]
    refine wpIn_mono (hbody U iE) ?_
    have afx:But (fun b=>(S b∨b=w.heap.size+1)∨c1≤b) W U:=(But.of_below hbW).trans (iE.mono fun _ e=>.inl (.inr e))
    have over:∀(jump:Option Code) (X:World),But (fun b=>S b∨c1≤b) U X→
      (Instr.endRound (w.heap.size+1) jump).run P X=.ok (.bool jump.isNone) (X.putObj (w.heap.size+1) (.loop (lp (if jump.isNone then .ready else .done) jump)))∧
      (X.putObj (w.heap.size+1) (.loop (lp (if jump.isNone then .ready else .done) jump))).heap[w.heap.size+1]?=some (.loop (lp (if jump.isNone then .ready else .done) jump))∧
      (X.putObj (w.heap.size+1) (.loop (lp (if jump.isNone then .ready else .done) jump))).heap[w.heap.size]?=some (.deferred (some []))∧
      But (fun b=>(S b∨b=w.heap.size+1)∨c1≤b) W (X.putObj (w.heap.size+1) (.loop (lp (if jump.isNone then .ready else .done) jump)))∧
      But (span w.heap.size c1) X (X.putObj (w.heap.size+1) (.loop (lp (if jump.isNone then .ready else .done) jump))):=fun jump X hX=>by
     have hl3:=(hX.block _ (Array.getElem?_eq_some_iff.1 TR).1 (fun e=>e.elim (fun e=>by have:=hS _ e;omega) (fun e=>by omega))).trans TR
     have hk3:=(hX.block _ (Array.getElem?_eq_some_iff.1 TS).1 (fun e=>e.elim (fun e=>by have:=hS _ e;omega) (fun e=>by omega))).trans TS
     have hr:=run_endRound (P:=P) jump hl3
     have hp:But (one (w.heap.size+1)) X (X.putObj (w.heap.size+1) (.loop (lp (if jump.isNone then .ready else .done) jump))):=But.putObj _
     refine⟨?_,World.putObj_heap_same (Array.getElem?_eq_some_iff.1 hl3).1,(hp.block _ (Array.getElem?_eq_some_iff.1 hk3).1 (bU (by omega))).trans hk3,(afx.trans (hX.mono fun _ e=>e.imp .inl id)).trans (hp.mono fun _ e=>.inl (.inr e)),hp.mono fun b e=>?_⟩
     ·rw[hlp]at hr ⊢;exact hr
     ·obtain rfl:b=w.heap.size+1:=e
      exact⟨by omega,by omega⟩
    rintro e a3 X hp
    cases e with
    |normal=>
     obtain⟨hX,qM⟩:=hp
     obtain⟨hr,hl4,hk4,hbX,yQ⟩:=over none X hX
     exact⟨_,_,hr,hbX,.inl ⟨rfl,by omega,hIs _ _ _ _ qM yQ,hl4,hk4⟩⟩
    |ret=>
     obtain⟨hX,qM⟩:=hp
     obtain⟨hr,hl4,hk4,hbX,yQ⟩:=over (some .ret) X hX
     exact⟨_,_,hr,hbX,.inr ⟨rfl,by omega,.ret,Dn _ _ _ _ _ qM yQ,hl4,hk4⟩⟩
    |exit id=>
     obtain⟨hX,qM⟩:=hp
     obtain⟨hr,hl4,hk4,hbX,yQ⟩:=over (some (.exit id)) X hX
     exact⟨_,_,hr,hbX,.inr ⟨rfl,by omega,.exit id,Dn _ _ _ _ _ qM yQ,hl4,hk4⟩⟩
    |goto t=>
     obtain⟨hX,qM⟩:=hp
     obtain⟨hr,hl4,hk4,hbX,yQ⟩:=over (some (.goto t)) X hX
     exact⟨_,_,hr,hbX,.inr ⟨rfl,by omega,.goto t,Dn _ _ _ _ _ qM yQ,hl4,hk4⟩⟩
    |panic ch=>exact hp.elim
    |outgrown=>exact hp.elim
   |ret=>exact he.elim
   |exit id=>exact he.elim
   |goto t=>exact he.elim
   |panic ch=>exact he.elim
   |outgrown=>exact he.elim
  ·have fin:∀{c1:Nat} {X:World} (o:Obj),w.heap.size+1<c1→But (span w.heap.size c1) X (X.putObj (w.heap.size+1) o):=fun o h=>(But.putObj o).mono fun b e=>by
    obtain rfl:b=w.heap.size+1:=e
    exact⟨by omega,h⟩
   rintro e X ⟨⟨v,rfl⟩,(⟨c1,hc,hi,hl,hk⟩|⟨c1,k,hc,c,hi,hl,hk⟩)⟩
   ·refine⟨none,_,by have:=run_endLoop (P:=P) hl (by rw[hlp];simp);rw[hlp]at this;exact this,hdone c1 _ (hIs _ _ _ _ hi (fin _ hc)) ((World.putObj_heap_other (by omega)).trans hk)⟩
   ·refine⟨some c,_,by have:=run_endLoop (P:=P) hl (by rw[hlp];simp);rw[hlp]at this;exact this,(wpIn_wide (n:=0)).2 (hstop c c1 k _ (Dn _ _ _ _ _ hi (fin _ hc)) ((World.putObj_heap_other (by omega)).trans hk))⟩
abbrev PP:=Sl×aH
def yR(x:PP):Array Value:=az x.1 x.2
structure tV(w:World)(a:Option Addr)(X:List PP):Prop where
 len:X.length≤lim+1
 rows:∀i (hi:i<X.length),∃b o,a=some ⟨b,o,none⟩∧row? w b (o+i*2) 2=some (yR X[i])
 each:∀x∈X,bK w x.1 x.2
abbrev Off(S:Nat→Prop)(w:World):Nat→Prop:=fun k=>S k∨w.heap.size≤k
def TT(S:Nat→Prop)(w:World)(_:Nat)(x:PP)(v:Array Value)(_ _:World):Prop:=v=#[.agg (yR x)]∧∀y,But (Off S w) w y→bK y x.1 x.2
end Go.WW
namespace Go.Proofs.YtpfifochimkpfaaGreatDoor
open Go.RowKit Go.WW
attribute [local go_sem] Oper.semAt_some
theorem afy(a:Option Addr)(n cap:Nat)(w:World):Calls Tryz.prog 132 #[.slice a n cap] w fun e w'=>e=.returned (.func (.func 177) #[] #[.pointer (some ⟨w.heap.size,0,none⟩)])∧w'=w.alloc (.cells #[.slice a n cap] 24):=by
 go_enter Tryz.func132,Tryz.ntmps132
 go_wp2
 go_ret
 exact⟨rfl,rfl⟩
theorem afz(b cap:Nat)(a:Option Addr)(X:List PP)(S:Nat→Prop)(w:World)(hc:w.cell? ⟨b,0,none⟩=some (.slice a X.length cap))(hL:∀y,But (Off S w) w y→tV y a X) :
  KL Tryz.prog 177 #[.pointer (some ⟨b,0,none⟩)] S X (TT S w) w:=by
 intro l J Jx W hW hl1 hl2 h0 hJ hJx hY
 have hn:X.length≤4294967001:=(hL w (But.refl _ _)).len
 have hcW:W.cell? ⟨b,0,none⟩=some (.slice a X.length cap):=(hW.cell (World.block_lt_of_cell? w _ hc)).trans hc
 have hWB:But (Off S w) w W:=But.of_below hW
 have HJ:=Lib.hid hJ
 have KN:=Lib.hid hJx
 have HY:=Lib.hid hY
 have HL:=Lib.hid hL
 have H0:=Lib.hid (h0 W.heap.size W (Nat.le_refl _) (Nat.le_refl _) (Below.refl _ _))
 clear hJ hJx hY hL h0
 refine(callsIn_wide (n:=0)).1 ?_
 refine callsIn_of_wp Tryz.func177 rfl trivial ?_ rfl
 simp only[Tryz.ntmps177,List.size_toArray,List.length_cons,List.length_nil,Nat.reduceAdd,Nat.reduceSub,Array.replicate_succ,Array.replicate_zero,List.push_toArray,List.append_toArray,List.nil_append,List.cons_append]
 rcases Nat.eq_zero_or_pos X.length with hX|hX
 ·obtain rfl:X=[]:=List.eq_nil_of_length_eq_zero hX
  gi_wp2
  refine wpIn_loop_rounds 1 ?_
  rw[roundsIn_succ]
  gi_wp2
  go_end0
  exact⟨⟨_,rfl⟩,.inl ⟨_,H0.out⟩⟩
 obtain⟨B,o,rfl,-⟩:=(HL.out w (But.refl _ _)).rows 0 hX
 gi_wp2
 gi_loopw [7] (fun iv wr=>∃i:Nat,i≤X.length∧iv=.int .i64 i∧Hid (J W.heap.size i wr)∧Hid (But (Off S w) w wr)∧W.heap.size≤wr.heap.size) (fun iv _=>X.length-(intOf iv).toNat)
 case atStart=>exact⟨0,Nat.zero_le _,rfl,H0,hWB,Nat.le_refl _⟩
 case round=>
  obtain⟨i,hi,rfl,hj,hbu,hsz⟩:=hrel
  by_cases hlt:i<X.length
  ·have hki:(i:Int)<(X.length:Int):=by omega
   obtain⟨B',o',e,hr⟩:=(HL.out wr hbu.out).rows i hlt
   cases e
   have HP:=Lib.hid (fun y hy=>(HL.out y hy).each _ (List.getElem_mem hlt))
   have hx:X[i]?=some X[i]:=by simp[hlt]
   generalize X[i]=x at *
   obtain⟨s,p⟩:=x
   have hr':row? wr B (o+i*2) 2=some (az s p):=hr
   clear hr
   have hal:But (Off S w) w (wr.alloc (.cells (az s p) 35)):=hbu.out.trans (But.of_below ((Below.refl _ wr).alloc (Nat.le_refl _) _))
   obtain⟨fn,tmps,assign,body,hy,hR⟩:=HY.out W.heap.size i (s,p) #[.agg (az s p)] wr (wr.alloc (.cells (az s p) 35)) hx hj.out (But.of_below ((Below.refl _ wr).alloc (Nat.le_refl _) _)) ⟨rfl,HP.out⟩ (Nat.le_refl _) hsz
   gi_wp2
   refine⟨rfl,hR.mono ?_⟩
   rintro e W3 ⟨hb3,h3⟩
   have HB3:=Lib.hid (show But (Off S w) w W3 from hal.trans (hb3.mono fun k hk=>by
    rcases hk with(hk|rfl)|hk
    ·exact .inl hk
    ·exact .inr hl1
    ·exact .inr (Nat.le_trans hW.size hk)))
   have Dl:W.heap.size≤W3.heap.size:=by have:=hb3.size;simp at this;omega
   clear hal hy hR hb3
   rcases h3 with⟨rfl,hj3⟩|⟨rfl,hx3⟩
   ·have KO:=Lib.hid hj3
    clear hj3
    gi_wp2
    go_roundw
    case rel=>exact⟨i+1,by omega,by go_num,KO.out,HB3.out,Dl⟩
    case measure=>simp[intOf];omega
   ·have KO:=Lib.hid hx3
    clear hx3
    gi_wp2
    refine bodyPost_ret (results_none rfl _ _ _) rfl ?_
    exact⟨⟨_,rfl⟩,.inr ⟨_,_,KO.out⟩⟩
  ·obtain rfl:i=X.length:=by omega
   gi_wp2
   go_end0
   exact⟨⟨_,rfl⟩,.inl ⟨_,hj.out⟩⟩
end Go.Proofs.YtpfifochimkpfaaGreatDoor
namespace Go.WW
open Go.RowKit
section
variable {P:Program} {ops:Array Oper}
def gB(vs:Nat→Value):List (Nat×Tmp)→Act→Act
 | [],a=>a
 |x::r,a=>gB vs r (a.put (some x.2) (vs x.1))
theorem KP(vs:Nat→Value)(L M:List (Nat×Tmp)):∀a,gB vs (L++M) a=gB vs M (gB vs L a):=by
 induction L with
 |nil=>intro a;rfl
 |cons x r ih=>intro a;exact ih _
theorem Gn{vs vs':Nat→Value}{L:List (Nat×Tmp)}(h:∀x∈L,vs x.1=vs' x.1):∀a,gB vs L a=gB vs' L a:=by
 induction L with
 |nil=>intro a;rfl
 |cons x r ih=>
  intro a
  show gB vs r _=gB vs' r _
  rw[h x (by simp),ih fun y hy=>h y (by simp[hy])]
theorem afB{vs:Nat→Value}{L M:List (Nat×Tmp)}(h:L.Perm M):(L.map (·.2)).Nodup→∀a,gB vs L a=gB vs M a:=by
 induction h with
 |nil=>intro _ a;rfl
 |cons x _ ih=>intro hd a;exact ih (List.nodup_cons.1 hd).2 _
 |swap x y l=>
  intro hd a
  show gB vs l _=gB vs l _
  have hne:y.2≠x.2:=by
   intro e
   have:=(List.nodup_cons.1 hd).1
   simp[e]at this
  rw[Act.put_comm a (vs y.1) (vs x.1) (fun d e1 e2=>hne (by simp at e1 e2;rw[e1,e2]))]
 |trans h1 _ ih1 ih2=>intro hd a;exact(ih1 hd a).trans (ih2 ((h1.map _).nodup_iff.1 hd) a)
theorem afC{o:Oper}{vs:Nat→Value}{L:List (Nat×Tmp)}(hs:∀cs b,o.op≠.select cs b)(h:∀x∈L,x.2∉o.looksAt ops∧o.dst≠some x.2){w:World} :
  ∀(a:Act) (K:Act→World→Prop),o.wp P (gB vs L a) w K never↔o.wp P a w (fun a' w'=>K (gB vs L a') w') never:=by
 induction L with
 |nil=>intro a K;exact Iff.rfl
 |cons x r ih=>
  intro a K
  refine(ih (fun y hy=>h y (by simp[hy])) _ K).trans ?_
  exact nZ (ops:=ops) hs (fun d e=>by cases e;exact(h x (by simp)).1) (fun d e=>by cases e;exact(h x (by simp)).2)
def Dp(A:Nat→Value→World→Prop)(vs:Nat→Value)(w:World):List (Nat×Tmp)→Prop
 | []=>True
 |x::r=>A x.1 (vs x.1) w∧Dp A vs w r
theorem TU{A:Nat→Value→World→Prop}{vs:Nat→Value}{w:World}:∀{L:List (Nat×Tmp)},(∀x∈L,A x.1 (vs x.1) w)→Dp A vs w L
 | [],_=>trivial
 |x::_,h=>⟨h x (by simp),TU fun y hy=>h y (by simp[hy])⟩
def Gp(P:Program)(A:Nat→Value→World→Prop)(W:World)(a0:Act)(i:Nat)(o:Oper)(d:List (Nat×Tmp)):Prop:=
 ∀(vs:Nat→Value) (w:World),Below W.heap.size W w→Dp A vs w d→∀K:Act→World→Prop,(∀v a' w',a'=(gB vs d a0).put o.dst v→A i v w'→Below w.heap.size w w'→K a' w')→o.wp P (gB vs d a0) w K never
def Dq(P:Program)(A:Nat→Value→World→Prop)(W:World)(a0:Act)(Q:Act→World→Prop)(o:Oper)(d:List (Nat×Tmp)):Prop:=
 ∀(vs:Nat→Value) (w:World),Below W.heap.size W w→Dp A vs w d→o.wp P (gB vs d a0) w Q never
def Each(P:Program)(A:Nat→Value→World→Prop)(W:World)(a0:Act)(Q:Act→World→Prop):Nat→List Oper→List (List (Nat×Tmp))→Prop
 |_,[],_=>True
 |_,[o],D=>Dq P A W a0 Q o (D.headD [])
 |i,o::o2::rest,D=>Gp P A W a0 i o (D.headD [])∧Each P A W a0 Q (i+1) (o2::rest) D.tail
theorem vJ{A:Nat→Value→World→Prop}{W:World}{a0:Act}{Q:Act→World→Prop}{i:Nat}{o o2:Oper}{rest:List Oper}{d:List (Nat×Tmp)}{D:List (List (Nat×Tmp))}(h:Gp P A W a0 i o d)(hr:Each P A W a0 Q (i+1) (o2::rest) D):Each P A W a0 Q i (o::o2::rest) (d::D):=⟨h,hr⟩
theorem afD{A:Nat→Value→World→Prop}{W:World}{a0:Act}{Q:Act→World→Prop}{i:Nat}{o:Oper}{d:List (Nat×Tmp)}(h:Dq P A W a0 Q o d):Each P A W a0 Q i [o] [d]:=h
theorem Each.get{A:Nat→Value→World→Prop}{W:World}{a0:Act}{Q:Act→World→Prop}:∀(l:List Oper) (D:List (List (Nat×Tmp))) (k:Nat),Each P A W a0 Q k l D→∀i o,l[i]?=some o→
  (i+1<l.length→Gp P A W a0 (k+i) o (D.getD i []))∧(i+1=l.length→Dq P A W a0 Q o (D.getD i []))
 | [],_,_,_,i,o,h=>by simp at h
 | [o1],D,k,hE,i,o,h=>by
  cases i with
  |zero=>
   simp at h;subst h
   refine⟨fun h=>by simp at h,fun _=>?_⟩
   cases D<;>exact hE
  |succ i=>simp at h
 |o1::o2::rest,D,k,hE,i,o,h=>by
  cases i with
  |zero=>
   simp at h;subst h
   refine⟨fun _=>?_,fun h=>by simp at h⟩
   cases D<;>exact hE.1
  |succ i=>
   have:=Each.get (o2::rest) D.tail (k+1) hE.2 i o (by simpa using h)
   have e:D.tail.getD i []=D.getD (i+1) []:=by cases D<;>simp
   rw[e]at this
   refine⟨fun hi=>?_,fun hi=>this.2 (by simpa using hi)⟩
   have:=this.1 (by simpa using hi)
   rwa[show k+1+i=k+(i+1) by omega]at this
structure KQ(ops:Array Oper)(D:List (List (Nat×Tmp))):Prop where
 jy:Region.noSelect ops=true
 guard:∀(j:Nat) (oj:Oper),ops[j]?=some oj→oj.guard=none
 back:∀(j:Nat) (oj:Oper),ops[j]?=some oj→∀e∈oj.after,Region.binds .any e=true→e.on<j
 TV:∀(j:Nat) (oj:Oper),ops[j]?=some oj→∀(i:Nat) (oi:Oper),ops[i]?=some oi→i≠j→∀d,oi.dst=some d→oj.dst≠some d
 deps:∀(j:Nat) (oj:Oper),ops[j]?=some oj→∀x∈D.getD j [],(∃o:Oper,ops[x.1]?=some o∧o.dst=some x.2)∧∃e∈oj.after,Region.binds .any e=true∧e.on=x.1
 nodup:∀(j:Nat) (oj:Oper),ops[j]?=some oj→(D.getD j []).Nodup
 looks:∀(j:Nat) (oj:Oper),ops[j]?=some oj→∀(i:Nat) (oi:Oper),ops[i]?=some oi→i≠j→∀d,oi.dst=some d→(i,d)∈D.getD j []∨(d∉oj.looksAt ops∧j+1<ops.size)
 last:∀(j:Nat) (oj:Oper),ops[j]?=some oj→j+1=ops.size→∀i,i<j→∃e∈oj.after,Region.binds .any e=true∧e.on=i
def KR(ops:Array Oper)(D:List (List (Nat×Tmp))):Bool:=
 Region.noSelect ops&&(List.range ops.size).all fun j=>match ops[j]? with
  |none=>true
  |some oj=>
   oj.guard.isNone&&
   oj.after.toList.all (fun e=>!Region.binds .any e || decide (e.on<j))&&
   (D.getD j []).all (fun x=>(match ops[x.1]? with|none=>false|some o=>o.dst == some x.2)&&oj.after.toList.any fun e=>Region.binds .any e&&e.on == x.1)&&
   decide ((D.getD j []).Nodup)&&
   ((List.range ops.size).all fun i=>i == j || match ops[i]? with
    |none=>true
    |some oi=>match oi.dst with
     |none=>true
     |some d=>oj.dst != some d&&((D.getD j []).contains (i,d) || (!(oj.looksAt ops).contains d&&decide (j+1<ops.size))))&&
   (decide (j+1<ops.size) || (List.range j).all fun i=>oj.after.toList.any fun e=>Region.binds .any e&&e.on == i)
theorem afE{D:List (List (Nat×Tmp))}(h:KR ops D=true):KQ ops D:=by
 unfold KR at h
 simp only[Bool.and_eq_true,List.all_eq_true,List.mem_range]at h
 obtain⟨hs,h⟩:=h
 have lt:∀{j:Nat} {oj:Oper},ops[j]?=some oj→j<ops.size:=fun hj=>(Array.getElem?_eq_some_iff.1 hj).1
 refine⟨hs,fun j oj hj=>?_,fun j oj hj=>?_,fun j oj hj=>?_,fun j oj hj=>?_,fun j oj hj=>?_,fun j oj hj=>?_,fun j oj hj=>?_⟩
 all_goals
  have hh:=h j (lt hj)
  simp only[hj,Bool.and_eq_true,List.all_eq_true,List.mem_range]at hh
  obtain⟨⟨⟨⟨⟨h1,h2⟩,h3⟩,h4⟩,h5⟩,h6⟩:=hh
 ·simpa using h1
 ·intro e he hb
  have:=h2 e (by simpa using he)
  simpa[hb]using this
 ·intro i oi hi hne d hd
  have:=h5 i (lt hi)
  simp only[hi,hd,Bool.or_eq_true,beq_iff_eq,Bool.and_eq_true,bne_iff_ne]at this
  rcases this with h'|h'
  ·exact absurd h' hne
  ·exact h'.1
 ·intro x hx
  have:=h3 x hx
  obtain⟨ha,hb⟩:=this
  simp only[List.any_eq_true,Bool.and_eq_true,beq_iff_eq]at hb
  obtain⟨e,he,hbe⟩:=hb
  refine⟨?_,e,by simpa using he,hbe⟩
  cases hx1:ops[x.1]? with
  |none=>simp[hx1]at ha
  |some o=>simp[hx1]at ha;exact⟨o,rfl,ha⟩
 ·simpa using h4
 ·intro i oi hi hne d hd
  have:=h5 i (lt hi)
  simp only[hi,hd,Bool.or_eq_true,beq_iff_eq,Bool.and_eq_true,bne_iff_ne,List.contains_iff_mem,Bool.not_eq_true',decide_eq_true_eq]at this
  rcases this with h'|⟨_,h'|⟨h',h''⟩⟩
  ·exact absurd h' hne
  ·exact .inl h'
  ·exact .inr ⟨by simpa using h',h''⟩
 ·intro hlast i hi
  simp only[Bool.or_eq_true,decide_eq_true_eq,List.all_eq_true,List.mem_range]at h6
  rcases h6 with h6|h6
  ·omega
  ·have:=h6 i hi
   simp only[List.any_eq_true,Bool.and_eq_true,beq_iff_eq]at this
   obtain⟨e,he,hb⟩:=this
   exact⟨e,by simpa using he,hb⟩
structure Came(ops:Array Oper)(A:Nat→Value→World→Prop)(W:World)(a0:Act)(listed:Array Bool)(a:Act)(w:World)(vs:Nat→Value)(L:List (Nat×Tmp)):Prop where
 base:Below W.heap.size W w
 nodup:L.Nodup
 mem:∀x,x∈L↔listed.getD x.1 false=true∧∃o:Oper,ops[x.1]?=some o∧o.dst=some x.2
 act:a=gB vs L a0
 each:∀i,listed.getD i false=true→A i (vs i) w
theorem afF{D:List (List (Nat×Tmp))}(hok:KQ ops D){L:List (Nat×Tmp)}(h:L.Nodup)(hm:∀x∈L,∃o:Oper,ops[x.1]?=some o∧o.dst=some x.2):(L.map (·.2)).Nodup:=by
 refine List.pairwise_map.2 (List.Pairwise.imp_of_mem (fun{x y} hx hy hne=>?_) h)
 intro e
 obtain⟨ox,hx1,hx2⟩:=hm x hx
 obtain⟨oy,hy1,hy2⟩:=hm y hy
 by_cases h1:x.1=y.1
 ·exact hne (Prod.ext h1 e)
 ·exact hok.TV y.1 oy hy1 x.1 ox hx1 h1 x.2 hx2 (by rw[hy2,e])
theorem afG{Q':Exit→Act→World→Prop}{A:Nat→Value→World→Prop}{W:World}{a0:Act}{D:List (List (Nat×Tmp))}(hok:KQ ops D)(hst:∀i v w w',A i v w→Below w.heap.size w w'→A i v w')
  (hstep:∀(i:Nat) (o:Oper),ops[i]?=some o→i+1<ops.size→Gp P A W a0 i o (D.getD i [])) (hend:∀(i:Nat) (o:Oper),ops[i]?=some o→i+1=ops.size→Dq P A W a0 (fun a' w'=>Q' .normal a' w') o (D.getD i [])) :
  ∀(n:Nat) (U:List Nat) (listed:Array Bool) (a:Act) (w:World),U.length=n+1→U.Pairwise (· < ·)→listed.size=ops.size→(∀j,j∈U↔j<ops.size∧listed.getD j true=false)→(∃vs L,Came ops A W a0 listed a w vs L)→ops.size-1∈U→wpAny P .any ops Q' (n+1) listed a w:=by
 intro n
 induction n using Nat.strongRecOn with
 |_ n ih=>
  intro U listed a w hn hsort hsz hU hI hlu
  obtain⟨vs,L,hC⟩:=hI
  have KT:∀{j:Nat},j<ops.size→(listed.getD j false=true↔¬listed.getD j true=false):=fun{j} hj=>by
   have:j<listed.size:=by omega
   simp[this]
  refine⟨fun hr=>?_,fun i hi=>?_⟩
  ·exfalso
   cases U with
   |nil=>simp at hn
   |cons j U=>
    obtain⟨hj,hjl⟩:=(hU j).1 (by simp)
    have hoj:ops[j]?=some ops[j]:=by simp[hj]
    have:j∈Region.ready .any ops listed:=by
     refine mem_ready.2 ⟨hjl,_,hoj,fun e he hb=>?_⟩
     have hlt:=hok.back j _ hoj e he hb
     have hnot:e.on∉j::U:=by
      intro hmem
      rcases List.mem_cons.1 hmem with h1|h1
      ·omega
      ·have:=(List.pairwise_cons.1 hsort).1 _ h1;omega
     exact(KT (by omega)).2 fun hf=>hnot ((hU e.on).2 ⟨by omega,hf⟩)
    rw[hr]at this;cases this
  ·obtain⟨h0,o,ho,hall⟩:=mem_ready.1 hi
   have his:i<ops.size:=(Array.getElem?_eq_some_iff.1 ho).1
   have hiU:i∈U:=(hU i).2 ⟨his,h0⟩
   have hil:¬listed.getD i false=true:=fun h=>(KT his).1 h h0
   have hsel:=(Region.noSelect_spec hok.jy i o · · ho)
   have hdl:∀x∈D.getD i [],listed.getD x.1 false=true∧∃o:Oper,ops[x.1]?=some o∧o.dst=some x.2:=fun x hx=>by
    obtain⟨h1,e,he,hb,e1⟩:=hok.deps i o ho x hx
    exact⟨e1▸hall e he hb,h1⟩
   have hwant:Region.wanted o (yielded ops a.tmps)=true:=by simp[Region.wanted,hok.guard i o ho]
   obtain⟨R,hR⟩:∃R,R=L.filter (fun x=>decide (x∉D.getD i [])):=⟨_,rfl⟩
   have Gq:∀x,x∈R↔x∈L∧x∉D.getD i []:=fun x=>by rw[hR,List.mem_filter];simp
   have hnd:(D.getD i []++R).Nodup:=by
    refine List.nodup_append.2 ⟨hok.nodup i o ho,by rw[hR];exact hC.nodup.filter _,fun x hx y hy e=>?_⟩
    subst e
    exact((Gq x).1 hy).2 hx
   have hmem:∀x,x∈D.getD i []++R↔x∈L:=fun x=>by
    rw[List.mem_append,Gq,hC.mem]
    constructor
    ·rintro(h|h)
     ·exact hdl x h
     ·exact h.1
    ·intro h
     by_cases hx:x∈D.getD i []
     ·exact .inl hx
     ·exact .inr ⟨h,hx⟩
   have hperm:L.Perm (D.getD i []++R):=(List.perm_ext_iff_of_nodup hC.nodup hnd).2 fun x=>(hmem x).symm
   have hact:a=gB vs R (gB vs (D.getD i []) a0):=by
    rw[hC.act,afB hperm (afF hok hC.nodup fun x hx=>((hC.mem x).1 hx).2),KP]
   have TW:Dp A vs w (D.getD i []):=TU fun x hx=>hC.each x.1 (hdl x hx).1
   unfold wpOp
   simp only[ho,hwant,if_true]
   refine .inl (wQ ?_)
   rw[hact]
   rcases Nat.lt_or_ge (i+1) ops.size with hlt|hge
   ·have hR1:∀x∈R,x.2∉o.looksAt ops∧o.dst≠some x.2:=fun x hx=>by
     obtain⟨hxL,KU⟩:=(Gq x).1 hx
     obtain⟨hxl,ox,hox,Gs⟩:=(hC.mem x).1 hxL
     have hne:x.1≠i:=fun e=>hil (e▸hxl)
     refine⟨?_,hok.TV i o ho x.1 ox hox hne x.2 Gs⟩
     rcases hok.looks i o ho x.1 ox hox hne x.2 Gs with h1|h1
     ·exact absurd h1 KU
     ·exact h1.1
    refine(afC (P:=P) (ops:=ops) hsel hR1 _ _).2 (hstep i o ho hlt vs w hC.base TW _ fun v a' w' ha' hv hb=>?_)
    subst ha'
    have hiL:∀x∈D.getD i []++R,x.1≠i:=fun x hx e=>hil (e▸((hC.mem x).1 ((hmem x).1 hx)).1)
    obtain⟨U1,U2,rfl⟩:=List.append_of_mem hiU
    have dW:=List.pairwise_append.1 hsort
    have hlt1:∀x∈U1,x<i:=fun x hx=>dW.2.2 x hx i (by simp)
    have hgt2:∀x∈U2,i<x:=fun x hx=>(List.pairwise_cons.1 dW.2.1).1 x hx
    have TY:ops.size-1∈U1++U2:=by
     rcases List.mem_append.1 hlu with h|h
     ·simp[h]
     ·rcases List.mem_cons.1 h with h|h
      ·omega
      ·simp[h]
    have hpos:0<(U1++U2).length:=List.length_pos_of_mem TY
    obtain⟨m,rfl⟩:∃m,n=m+1:=⟨n-1,by simp at hn hpos;omega⟩
    refine ih m (by omega) (U1++U2) _ _ _ (by simp at hn ⊢;omega) ?_ (by simpa using hsz) ?_ ?_ TY
    ·exact List.pairwise_append.2 ⟨dW.1,(List.pairwise_cons.1 dW.2.1).2,fun x hx y hy=>dW.2.2 x hx y (by simp[hy])⟩
    ·intro j
     by_cases hji:j=i
     ·subst hji
      constructor
      ·intro hm
       exfalso
       rcases List.mem_append.1 hm with h1|h1
       ·have:=hlt1 _ h1;omega
       ·have:=hgt2 _ h1;omega
      ·rintro⟨_,hf⟩
       have:j<listed.size:=by omega
       simp[this]at hf
     ·rw[getD_set_ne true (Ne.symm hji),←hU j]
      simp[hji]
    ·obtain⟨vs',hvs⟩:∃vs':Nat→Value,vs'=fun k=>if k=i then v else vs k:=⟨_,rfl⟩
     have hsame:∀k,k≠i→vs k=vs' k:=fun k hk=>by rw[hvs];simp[hk]
     have TZ:vs' i=v:=by rw[hvs];simp
     have hl':∀k,(listed.setIfInBounds i true).getD k false=true↔(k=i∨listed.getD k false=true):=fun k=>by
      by_cases hk:k=i
      ·subst hk
       have:k<listed.size:=by omega
       simp[this]
      ·rw[getD_set_ne false (Ne.symm hk)];simp[hk]
     have Ua:∀k,(listed.setIfInBounds i true).getD k false=true→A k (vs' k) w':=fun k hk=>by
      rcases(hl' k).1 hk with rfl|hk1
      ·rw[TZ];exact hv
      ·by_cases e:k=i
       ·subst e;exact absurd hk1 hil
       ·rw[←hsame k e];exact hst _ _ _ _ (hC.each k hk1) hb
     cases hd:o.dst with
     |none=>
      refine⟨vs',D.getD i []++R,ag hC.base hb,hnd,fun x=>?_,?_,Ua⟩
      ·rw[hmem,hC.mem,hl']
       constructor
       ·exact fun h=>⟨.inr h.1,h.2⟩
       ·rintro⟨rfl|h1,h2⟩
        ·obtain⟨o',ho',hd'⟩:=h2
         rw[ho]at ho';cases ho'
         rw[hd]at hd';cases hd'
        ·exact⟨h1,h2⟩
      ·rw[KP,←Gn (L:=D.getD i []) fun x hx=>hsame _ (hiL x (List.mem_append_left _ hx)),←Gn (L:=R) fun x hx=>hsame _ (hiL x (List.mem_append_right _ hx))]
       rfl
     |some d=>
      have hnew:(i,d)∉D.getD i []++R:=fun h=>hiL _ h rfl
      refine⟨vs',D.getD i []++(i,d)::R,ag hC.base hb,?_,fun x=>?_,?_,Ua⟩
      ·have hp:((i,d)::(D.getD i []++R)).Perm (D.getD i []++(i,d)::R):=List.perm_middle.symm
       exact hp.nodup_iff.1 (List.nodup_cons.2 ⟨hnew,hnd⟩)
      ·have:x∈D.getD i []++(i,d)::R↔x=(i,d)∨x∈D.getD i []++R:=by
        simp only[List.mem_append,List.mem_cons]
        constructor
        iterate 2
         ·rintro(h|h|h)
          ·exact .inr (.inl h)
          ·exact .inl h
          ·exact .inr (.inr h)
       rw[this,hmem,hC.mem,hl']
       constructor
       ·rintro(rfl|h)
        ·exact⟨.inl rfl,o,ho,hd⟩
        ·exact⟨.inr h.1,h.2⟩
       ·rintro⟨h1|h1,h2⟩
        ·obtain⟨o',ho',hd'⟩:=h2
         rw[h1,ho]at ho';cases ho'
         rw[hd]at hd';cases hd'
         exact .inl (Prod.ext h1 rfl)
        ·exact .inr ⟨h1,h2⟩
      ·rw[KP,←Gn (L:=D.getD i []) fun x hx=>hsame _ (hiL x (List.mem_append_left _ hx))]
       show _=gB vs' R ((gB vs (D.getD i []) a0).put (some d) (vs' i))
       rw[TZ,←Gn (L:=R) fun x hx=>hsame _ (hiL x (List.mem_append_right _ hx))]
   ·have Ub:i+1=ops.size:=by omega
    have hR0:R=[]:=by
     refine List.eq_nil_iff_forall_not_mem.2 fun x hx=>?_
     obtain⟨hxL,KU⟩:=(Gq x).1 hx
     obtain⟨hxl,ox,hox,Gs⟩:=(hC.mem x).1 hxL
     rcases hok.looks i o ho x.1 ox hox (fun e=>hil (e▸hxl)) x.2 Gs with h1|h1
     ·exact KU h1
     ·omega
    have Uc:∀j∈U,j=i:=fun j hj=>by
     obtain⟨h1,h2⟩:=(hU j).1 hj
     rcases Nat.lt_or_ge j i with h3|h3
     ·obtain⟨e,he,hb,rfl⟩:=hok.last i o ho Ub j h3
      exact absurd h2 ((KT h1).1 (hall e he hb))
     ·omega
    obtain rfl:n=0:=by
     match U,hn,hsort,Uc with
     | [],hn,_,_=>simp at hn
     | [_],hn,_,_=>simp at hn;exact hn
     |x::y::r,_,hs,hu=>
      have h1:=hu x (by simp)
      have h2:=hu y (by simp)
      have:=(List.pairwise_cons.1 hs).1 y (by simp)
      omega
    rw[hR0]
    refine Oper.wp_mono (fun a' w' hq=>⟨?_,hq⟩) (hend i o ho Ub vs w hC.base TW)
    cases hr:Region.ready .any ops (listed.setIfInBounds i true)with
    |nil=>rfl
    |cons j r=>
     have hj:j∈Region.ready .any ops (listed.setIfInBounds i true):=by rw[hr];simp
     obtain⟨hj0,oj,hoj,_⟩:=mem_ready.1 hj
     have hjs:j<ops.size:=(Array.getElem?_eq_some_iff.1 hoj).1
     by_cases hji:j=i
     ·subst hji
      have:j<listed.size:=by omega
      simp[this]at hj0
     ·rw[getD_set_ne true (Ne.symm hji)]at hj0
      exact absurd (Uc j ((hU j).2 ⟨hjs,hj0⟩)) hji
theorem afJ{id:Nat}{Q':Exit→Act→World→Prop}{a:Act}{W w:World}{l:List Oper}(A:Nat→Value→World→Prop)(D:List (List (Nat×Tmp)))(hW:Below W.heap.size W w)(hm:P.follows .mixedOrders=true)(hB:KR l.toArray D=true)(hp:0<l.length)
  (hst:∀i v w w',A i v w→Below w.heap.size w w'→A i v w') (h:Each P A W a (fun a' w'=>Q' .normal a' w') 0 l D):(Code.region id l.toArray true).wp P Q' a w:=by
 refine wp_region_any hm ?_
 have hg:=Each.get l D 0 h
 obtain⟨n,hn⟩:∃n,l.length=n+1:=⟨l.length-1,by omega⟩
 have:=afG (P:=P) (Q':=Q') (afE hB) hst (fun i o ho hi=>by have:=(hg i o (by simpa using ho)).1 (by simpa using hi);rwa[Nat.zero_add]at this) (fun i o ho hi=>(hg i o (by simpa using ho)).2 (by simpa using hi)) n (List.range l.toArray.size) (Array.replicate l.toArray.size false) a w.drew
  (by simp[hn]) List.pairwise_lt_range (by simp) (by intro j;simp;intro h;simp[h]) ⟨fun _=>undef,[],hW.drew,List.nodup_nil,fun x=>?_,rfl,fun i hi=>?_⟩ (by simp;omega)
 ·rw[show n+1=l.toArray.size by simp[hn]]at this;exact this
 ·simp only[List.not_mem_nil,false_iff]
  rintro⟨hi,-⟩
  rw[Array.getD_eq_getD_getElem?,Array.getElem?_replicate]at hi;split at hi<;>simp at hi
 ·rw[Array.getD_eq_getD_getElem?,Array.getElem?_replicate]at hi;split at hi<;>simp at hi
end
end Go.WW
namespace Go.WW
open Go.RowKit
theorem Below.afK{w w':World}{row:Option Nat}(h:w.grownBy w' row)(hr:∀k,k<w.heap.size→row=some k→w'.heap[k]?=w.heap[k]?):Below w.heap.size w w':=
 But.below (S:=fun _=>False) ⟨h.os,h.tape,h.output,h.size,fun k hk _=>by
  by_cases e:row=some k
  ·exact hr k hk e
  ·exact h.block k hk fun e'=>e e'.symm⟩ (Nat.le_refl _) (fun k hk=>hk.elim)
theorem afL{P:Program}{o:Oper}{a:Act}{w:World}{K:Act→World→Prop}{Q:Exit→Act→World→Prop}(x y:Operand)(t:TypeId)(ho:o.op=.call {callee:=.builtin .append,args:=#[x,y],argTypes:=#[t,t]})
  {e:TypeId} {k bytes:Nat} (he:fV P t e k bytes) {base:Nat} {s:Sl} {rows:List (Array Value)} (hx:a.eval x=.slice s.a rows.length s.cap) (h:Own w base e k s rows) {A:Option Addr} {news:List (Array Value)} {m c:Nat}
  (hy:a.eval y=.slice A m c) (hm:m=news.length) (hs:cO w k A news) (hlen:(rows.length+news.length)*(bytes+1)≤140737488355328) (hbase:base≤w.heap.size) (hfull:s.cap<rows.length+news.length∨news=[])
  (hK:∀(s':Sl) w',Own w' base e k s' (rows++news)→Below w.heap.size w w'→K (a.put o.dst (.slice s'.a (rows.length+news.length) s'.cap)) w'):o.wp P a w K Q:=by
 subst hm
 obtain⟨s',w',hrun,h2,h3,h4⟩:=Qn (ty:=o.type) he w h c hs hlen hbase
 have hB:Below w.heap.size w w':=by
  refine Below.afK h3 fun k hk hbk=>?_
  obtain⟨i,z,hi,hz,h1,hby,hzs⟩:=he.info
  rcases Nat.eq_zero_or_pos news.length with hn|hn
  ·obtain rfl:news=[]:=List.eq_nil_of_length_eq_zero hn
   have hle:rows.length≤s.cap:=by
    rcases h.own.2 with⟨hv,hn⟩|⟨g,cap,cur,hv,_,_,hnc,_⟩
    ·omega
    ·injection hv with _ _ hc;omega
   have hr:=run_append_nothing (P:=P) w t t o.type e i he.und hi s.a rows.length s.cap hle (.slice A 0 c) (by
    cases A with
    |none=>exact Src.ofNil w he.und c
    |some ad=>exact Src.ofSlice w he.und ad 0 c [] (by simp) (by simp) (by simp))
   have hrun':=hr.symm.trans hrun
   injection hrun' with _ e2
   rw[←e2]
  ·rcases hfull with hfull|rfl
   ·obtain⟨b,ob,hA,hcs⟩:=hs.cells he.pos hn
    rcases h.own.2 with⟨hv,_⟩|⟨g,cap,cur,hv,h5⟩
    ·have:s.a=none:=by injection hv
     simp[Sl.blk,this]at hbk
    ·have ha:s.a=some ⟨g,0,none⟩:=by injection hv
     have holds:∀j u,(flat rows)[j]?=some u→w.cell? ((⟨g,0,none⟩:Addr).add j)=some u:=h.own.cells (g:=g) (by rw[yt];simp[Sl.blk,ha])
     have hr:=run_append_grow (P:=P) w t o.type e i z he.und hi hz ⟨g,0,none⟩ rows.length s.cap (flat rows) (by rw[h1];exact h.own.1) holds ⟨b,ob,none⟩ news.length c (flat news) (by rw[h1];exact flat_length hs.size) hcs hfull (by
      have:rows.length+news.length≤(rows.length+news.length)*(bytes+1):=Nat.le_mul_of_pos_right _ (by omega)
      omega) (growslice_fits (by omega) (by rw[hby];exact Nat.le_trans (Nat.mul_le_mul_left _ (by omega)) hlen))
     rw[←ha,←hA,hrun]at hr
     injection hr with _ e2
     rw[e2]
     exact(heap_alloc_old w.drew _ hk).trans rfl
   ·simp at hn
 unfold Oper.wp execOp
 simp only[ho,resolve,invoke,builtin,Sem.run_bind,Sem.run_pure,Result.andThen_ok,List.map_toArray,List.map_cons,List.map_nil,hx,hy,hrun]
 exact hK s' w' h2 hB
theorem afM{s s':Sl}{p:aH}(h:az s p=az s' p):s=s':=by
 have:=congrArg (·[0]?) h
 simp[az]at this
 cases s;cases s';simp at this;simp[this]
theorem afN{w:World}{S:Nat→Prop}{a:Option Addr}{l:List aH}(h:bu w S (fun x=>fQ x a l)):∃X:List PP,X.map (·.2)=l∧bu w S (fun x=>tV x a X):=by
 rcases Nat.eq_zero_or_pos l.length with h0|h0
 ·obtain rfl:l=[]:=List.eq_nil_of_length_eq_zero h0
  exact⟨[],rfl,fun x _=>⟨by simp,by simp,by simp⟩⟩
 obtain⟨b,o,s0,rfl,hr0,_⟩:=h.out.get 0 h0
 have hSb:S b:=by
  refine Classical.byContradiction fun hn=>?_
  have hx:=h (w.putObj b (.deferred none)) fun k hk=>World.putObj_heap_other (fun e=>hn (e▸hk))
  obtain⟨s,hr,_⟩:=hx.at 0 h0
  unfold row? at hr
  rw[World.putObj_heap_same (fA hr0)]at hr
  cases hr
 have hs:∀i:Fin l.length,∃s,row? w b (o+i.1*2) 2=some (az s l[i.1])∧bK w s l[i.1]:=fun i=>h.out.at i.1 i.2
 obtain⟨f,hf⟩:=Classical.axiomOfChoice hs
 refine⟨List.ofFn (fun i:Fin l.length=>(f i,l[i.1])),?_,fun x hx=>?_⟩
 ·rw[List.map_ofFn]
  exact List.ofFn_getElem
 ·have hp:=h x hx
  have hrow:∀i (hi:i<l.length),row? x b (o+i*2) 2=some (az (f ⟨i,hi⟩) l[i]):=fun i hi=>(fG (hx b hSb) _ _).trans (hf ⟨i,hi⟩).1
  refine⟨by have:=hp.1;simp;omega,fun i hi=>⟨b,o,rfl,?_⟩,fun y hy=>?_⟩
  ·simp at hi
   rw[hrow i hi]
   simp[yR]
  ·obtain⟨i,hi,rfl⟩:=List.getElem_of_mem hy
   simp at hi
   obtain⟨s,h1,h2⟩:=hp.at i hi
   rw[hrow i hi]at h1
   have:=afM (Option.some.inj h1)
   simp[this]
   exact h2
theorem tV.box{y x:World}{a:Option Addr}{X:List PP}{b:Nat}{t:TypeId}(h:tV y a X)(hb:y.heap[b]?=some (.cells #[.slice none 0 0] t))(hx:∀k,k≠b→x.heap[k]?=y.heap[k]?):tV x a X:=by
 refine⟨h.len,fun i hi=>?_,fun p hp=>?_⟩
 ·obtain⟨g,o,ha,hr⟩:=h.rows i hi
  refine⟨g,o,ha,(fG (hx g ?_) _ _).trans hr⟩
  rintro rfl
  rw[dI hb]at hr
  unfold gy at hr
  rw[if_neg (by simp)]at hr
  cases hr
 ·obtain⟨⟨h1,h2⟩,h3⟩:=h.each p hp
  refine⟨⟨h1,fun i hi=>?_⟩,h3⟩
  obtain⟨g,o,v,ha,hc,s,hs,rfl,hl⟩:=h2 i hi
  refine⟨g,o,_,ha,(World.cell?_of_block (a:=⟨g,o+i,none⟩) (hx g ?_)).trans hc,s,hs,rfl,hl⟩
  rintro rfl
  obtain⟨hcc,-⟩:=ax hb
  have:=(hcc (o+i)).symm.trans hc
  rcases Nat.eq_zero_or_pos (o+i)with e|e
  ·rw[e]at this;cases this
  ·rw[Array.getElem?_eq_none (by simp;omega)]at this;cases this
theorem own_base{w:World}{base base':Nat}{e:TypeId}{k:Nat}{v:Value}{n:Nat}{xs:List Value}(h:w.ownsRow base e k v n xs)(hb:base'≤base):w.ownsRow base' e k v n xs:=by
 refine⟨h.1,?_⟩
 rcases h.2 with h|⟨g,cap,cur,h1,h2,h3⟩
 ·exact .inl h
 ·exact .inr ⟨g,cap,cur,h1,Nat.le_trans hb h2,h3⟩
end Go.WW
namespace Go.Proofs.YtpfifochimkpfaaGreatDoor
open Go.RowKit Go.WW
def xn(W:World)(B:Nat)(r:aK)(d:Entry):Nat→Value→World→Prop
 |0,v,_=>v=.pointer (some ⟨B,0,none⟩)
 |1,v,_=>v=.agg (az r.parts d.name)
 |2,v,y=>∃s,v=.agg (az s d.name)∧bu y (fresh W.heap.size y) (fun x=>bK x s d.name)
 |3,v,y=>∃s g,v=.slice (some ⟨g,0,none⟩) 1 1∧Go.WW.Own y W.heap.size 35 2 ⟨some ⟨g,0,none⟩,1⟩ [az s d.name]∧bu y (fresh W.heap.size y) (fun x=>bK x s d.name)
 |4,v,_=>v=.pointer (some ⟨B,2,none⟩)
 |5,v,_=>v=.slice r.aliases.a d.aliases.length r.aliases.cap
 |6,v,y=>∃s:Sl,v=.slice s.a d.aliases.length s.cap∧bu y (fresh W.heap.size y) (fun x=>fQ x s.a d.aliases)
 |7,v,y=>∃(s:Sl) (X:List PP),v=.slice s.a X.length s.cap∧X.map (·.2)=d.name::d.aliases∧bu y (fresh W.heap.size y) (fun x=>tV x s.a X)
 |8,v,y=>∃b,v=.pointer (some ⟨b,0,none⟩)∧W.heap.size≤b∧y.heap[b]?=some (.cells #[.slice none 0 0] 24)
 |_,_,_=>True
theorem yS{W y y':World}{Φ:World→Prop}(h:bu y (fresh W.heap.size y) Φ)(hb:Below y.heap.size y y'):bu y' (fresh W.heap.size y') Φ:=
 h.to (fun k hk=>hb.block k hk.2) (fun _ hk=>⟨hk.1,Nat.lt_of_lt_of_le hk.2 hb.size⟩)
theorem afO(W:World)(B:Nat)(r:aK)(d:Entry):∀i v w w',xn W B r d i v w→Below w.heap.size w w'→xn W B r d i v w'
 |0,_,_,_,h,_=>h
 |1,_,_,_,h,_=>h
 |2,_,_,_,⟨s,h1,h2⟩,hb=>⟨s,h1,yS h2 hb⟩
 |3,_,_,_,⟨s,g,h1,h2,h3⟩,hb=>⟨s,g,h1,h2.kept fun _ hk=>hb.block _ (h2.base hk).2,yS h3 hb⟩
 |4,_,_,_,h,_=>h
 |5,_,_,_,h,_=>h
 |6,_,_,_,⟨s,h1,h2⟩,hb=>⟨s,h1,yS h2 hb⟩
 |7,_,_,_,⟨s,X,h1,h2,h3⟩,hb=>⟨s,X,h1,h2,yS h3 hb⟩
 |8,_,_,_,⟨b,h1,h2,h3⟩,hb=>⟨b,h1,h2,aI hb h3⟩
 |_+9,_,_,_,_,_=>trivial
theorem afP{W:World}{B:Nat}{r:aK}{d:Entry}{a0:Act}{Q:Act→World→Prop}{o:Oper}
  (h:∀vs y (s:Sl) (X:List PP) b,Below W.heap.size W y→vs 7=.slice s.a X.length s.cap→X.map (·.2)=d.name::d.aliases→bu y (fresh W.heap.size y) (fun x=>tV x s.a X)→vs 8=.pointer (some ⟨b,0,none⟩)→W.heap.size≤b→y.heap[b]?=some (.cells #[.slice none 0 0] 24)→
   o.wp Tryz.prog (gB vs [(0,4),(1,5),(2,6),(3,7),(4,8),(5,9),(6,10),(7,11),(8,3)] a0) y Q never):Dq Tryz.prog (xn W B r d) W a0 Q o [(0,4),(1,5),(2,6),(3,7),(4,8),(5,9),(6,10),(7,11),(8,3)]:=by
 intro vs y hy hA
 obtain⟨s,X,h7,Gt,hd⟩:=hA.2.2.2.2.2.2.2.1
 obtain⟨b,h8,Ud,hb8⟩:=hA.2.2.2.2.2.2.2.2.1
 exact h vs y s X b hy h7 Gt hd h8 Ud hb8
theorem KW(r:aK)(d:Entry)(w:World)(he:aS w r d):Calls Tryz.prog 71 #[.agg (ae r d)] w fun e w'=>∃(b:Nat) (s:Sl) (X:List PP),e=.returned (.func (.func 131) #[] #[.pointer (some ⟨b,0,none⟩)])∧Below w.heap.size w w'∧w.heap.size≤b∧w'.heap[b]?=some (.cells #[.slice s.a X.length s.cap] 24)∧X.map (·.2)=d.name::d.aliases∧bu w' (fresh w.heap.size w') (fun x=>tV x s.a X):=by
 have hB:Below w.heap.size w (w.alloc (.cells (ae r d) 44)):=(Below.refl _ _).alloc (Nat.le_refl _) _
 have hx3:(w.alloc (.cells (ae r d) 44)).heap[w.heap.size]?=some (.cells (ae r d) 44):=World.alloc_heap_new _ _
 have hW:w.heap.size<(w.alloc (.cells (ae r d) 44)).heap.size:=by simp
 go_enter Tryz.func71,Tryz.ntmps71
 go_wp2_with fail
 have he':=he.later hB
 generalize (w.alloc (.cells (ae r d) 44))=W at *
 have hx2:row? W w.heap.size 0 2=some (az r.parts d.name):=by rw[dI hx3];rfl
 obtain⟨hc0,hf0,hr0,hl0⟩:=ax hx3
 refine afJ (xn W w.heap.size r d) [[],[(0,4)],[(1,5)],[(2,6)],[],[(4,8)],[(5,9)],[(3,7),(6,10)],[],[(0,4),(1,5),(2,6),(3,7),(4,8),(5,9),(6,10),(7,11),(8,3)]] (Below.refl _ W) (by kernel_rfl) (by kernel_rfl) (by simp) (afO _ _ _ _) ?_
 refine vJ ?_ (vJ ?_ (vJ ?_ (vJ ?_ (vJ ?_ (vJ ?_ (vJ ?_ (vJ ?_ (vJ ?_ (afD ?_)))))))))
 ·intro vs y hy hA K hK
  simp only[gB]at hK ⊢
  go_wp2_with fail
  exact hK _ _ _ rfl rfl (Below.refl _ _)
 ·intro vs y hy hA K hK
  have h0:=hA.1
  simp only[gB]at hK ⊢
  simp only[xn]at h0
  rw[h0]at hK ⊢
  have hr2:=(fG (hy.block _ hW) _ _).trans hx2
  clear hx2
  go_wp2_with fail
  exact hK _ _ _ rfl rfl (Below.refl _ _)
 ·intro vs y hy hA K hK
  have h0:=hA.1
  simp only[gB]at hK ⊢
  simp only[xn]at h0
  rw[h0]at hK ⊢
  go_wp2_with fail
  refine(SH _ _ _ (he'.name.later hy)).mono ?_
  rintro e y2 ⟨s,rfl,hb,hd⟩
  dsimp only
  exact hK _ _ _ rfl ⟨s,rfl,hd.to (fun _ _=>rfl) (fun k hk=>⟨Nat.le_trans hy.size hk.1,hk.2⟩)⟩ hb
 ·intro vs y hy hA K hK
  obtain⟨s,h0,hd⟩:=hA.1
  simp only[gB]at hK ⊢
  rw[h0]at hK ⊢
  go_wp2_with fail
  have ho:=Own.one y (az s d.name) 35 2 (by simp[go_sem])
  exact hK _ _ _ rfl ⟨s,y.heap.size,rfl,⟨own_base ho.own hy.size,ho.size⟩,yS hd ((Below.refl _ _).alloc (Nat.le_refl _) _)⟩ ((Below.refl _ _).alloc (Nat.le_refl _) _)
 ·intro vs y hy hA K hK
  simp only[gB]at hK ⊢
  go_wp2_with fail
  exact hK _ _ _ rfl rfl (Below.refl _ _)
 ·intro vs y hy hA K hK
  have h0:=hA.1
  simp only[gB]at hK ⊢
  simp only[xn]at h0
  rw[h0]at hK ⊢
  obtain⟨hc,hf,hr⟩:=aQ hy
  go_wp2_with fail
  exact hK _ _ _ rfl rfl (Below.refl _ _)
 ·intro vs y hy hA K hK
  have h0:=hA.1
  simp only[gB]at hK ⊢
  simp only[xn]at h0
  rw[h0]at hK ⊢
  go_wp2_with fail
  refine(Kq _ _ _ _ (he'.aliases.later hy)).mono ?_
  rintro e y2 ⟨s,rfl,hb,hd⟩
  dsimp only
  exact hK _ _ _ rfl ⟨s,rfl,hd.to (fun _ _=>rfl) (fun k hk=>⟨Nat.le_trans hy.size hk.1,hk.2⟩)⟩ hb
 ·intro vs y hy hA K hK
  obtain⟨s,g,h0,hown,hd⟩:=hA.1
  obtain⟨s6,h6,hd6⟩:=hA.2.1
  simp only[gB]at hK ⊢
  rw[h0,h6]at hK ⊢
  obtain⟨X6,Ue,KX⟩:=afN hd6
  have Gu:d.aliases.length=X6.length:=by rw[←Ue];simp
  refine afL (.tmp 7) (.tmp 10) 24 rfl Su (s:=⟨some ⟨g,0,none⟩,1⟩) (rows:=[az s d.name]) rfl hown (A:=s6.a) (news:=X6.map yR) (m:=d.aliases.length) (c:=s6.cap) rfl (by simp[Gu]) ⟨?_,?_,?_⟩ ?_ hy.size ?_ ?_
  iterate 2
   ·intro q hq
    obtain⟨p,_,rfl⟩:=List.mem_map.1 hq
    simp[yR,go_sem]
  ·intro i hi
   obtain⟨b,o,e1,e2⟩:=KX.out.rows i (by simpa using hi)
   exact⟨b,o,e1,by simpa using e2⟩
  ·have:=KX.out.len
   simp[lim]at this ⊢
   omega
  ·rcases Nat.eq_zero_or_pos X6.length with e|e
   ·right
    rw[List.eq_nil_of_length_eq_zero e];rfl
   ·left
    simp;omega
  ·intro s' y2 hown' hb
   refine hK (.slice s'.a ([az s d.name].length+(X6.map yR).length) s'.cap) _ _ rfl ⟨s',(s,d.name)::X6,by simp[Nat.add_comm],by simp[Ue],fun x hx=>⟨?_,fun i hi=>?_,fun p hp=>?_⟩⟩ hb
   ·have:=hd6.out.1
    rw[Gu]at this
    simp;omega
   ·obtain⟨gg,e1,-,e2⟩:=(hown'.kept fun k hk=>hx k (hown'.base hk)).row i (by simp at hi ⊢;omega)
    refine⟨gg,0,e1,e2.trans ?_⟩
    cases i with
    |zero=>rfl
    |succ i=>simp
   ·rcases List.mem_cons.1 hp with rfl|hp
    ·exact yS hd hb x hx
    ·exact(yS KX hb x hx).each p hp
 ·intro vs y hy hA K hK
  simp only[gB]at hK ⊢
  go_wp2_with fail
  exact hK _ _ _ rfl ⟨y.heap.size,rfl,hy.size,World.alloc_heap_new _ _⟩ ((Below.refl _ _).alloc (Nat.le_refl _) _)
 ·refine afP ?_
  intro vs y s X b hy h7 Gt hd h8 Ud hb8
  simp only[gB]
  rw[h7,h8]
  have hc:=(ax hb8).1
  have hf:=(ax hb8).2.1
  have hl:=(ax hb8).2.2.2
  clear hc0 hf0 hr0 hl0
  go_wp2_with fail
  have hWs:=hB.size
  have hset:=dH (o:=0) (.slice s.a X.length s.cap) hb8
  have hoth:∀k,k≠b→(y.setCell ⟨b,0,none⟩ (.slice s.a X.length s.cap)).heap[k]?=y.heap[k]?:=fun k hk=>Below.heap_setCell _ _ _ _ hk
  have hbel:Below w.heap.size w (y.setCell ⟨b,0,none⟩ (.slice s.a X.length s.cap)):=(ag hB hy).setCell (show w.heap.size≤b by omega) _
  have hsz:(y.setCell ⟨b,0,none⟩ (.slice s.a X.length s.cap)).heap.size=y.heap.size:=by simp[World.setCell]
  go_ret
  refine⟨b,s,X,rfl,hbel,by omega,hset,Gt,fun x hx=>?_⟩
  have hxb:x.heap[b]?=some (.cells #[.slice s.a X.length s.cap] 24):=(hx b ⟨by omega,by omega⟩).trans hset
  have hxl:b<x.heap.size:=(Array.getElem?_eq_some_iff.1 hxb).1
  refine tV.box (b:=b) (t:=24) (hd (x.putObj b (.cells #[.slice none 0 0] 24)) fun k hk=>?_) (World.putObj_heap_same hxl) (fun k hk=>(World.putObj_heap_other hk).symm)
  by_cases e:k=b
  ·subst e;rw[World.putObj_heap_same hxl];exact hb8.symm
  ·rw[World.putObj_heap_other e,hx k ⟨by have:=hk.1;omega,by have:=hk.2;omega⟩];exact hoth k e
end Go.Proofs.YtpfifochimkpfaaGreatDoor
