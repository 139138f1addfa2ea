/- A part of the proof. -/
import Derived.Test.YtpfifochimkpfaaGreatDoorA03
import Derived.RangeFuncNested
import Derived.RangeFuncBound
import Derived.RangeFuncCalls
import Derived.RangeFuncLeaves
import Derived.Shelf.Abstract
import Derived.Shelf.RegionOpen
import Derived.OwnWalkIn
import Derived.TacticsInMore
import Derived.LoopNIn
import Derived.LoopIn
import Derived.Scope
import Derived.Test.YtpfifochimkpfaaGreatDoorA14
import Derived.Test.YtpfifochimkpfaaGreatDoorA15
import Derived.Test.YtpfifochimkpfaaGreatDoorA13
import Derived.Test.YtpfifochimkpfaaGreatDoorA12
set_option maxRecDepth 100000
set_option maxHeartbeats 2000000
namespace Go.WW
open Go.RowKit
variable {F:Fence} {n:Nat} {P:Program}
section
variable {b:Frame} {a:Act} {k:List Item} {cs:List Frame} {w:World} {Q:Exit→Act→World→Prop}
theorem AZ{c:Code}:step P (lone (b.atR a (.code (.scope c)::k)) cs w)=.next (lone (b.atR a (.code c::.inScope c::k)) cs w):=
 step_lone_go (by simp[stepG,stepG.exec,Frame.atR])
theorem afQ{c:Code}:step P (lone (b.atR a (.inScope c::k)) cs w)=.next (lone (b.atR a k) cs w):=
 step_lone_go (by simp[stepG,stepG.exec,Frame.atR])
theorem afR{c:Code}(h:c.wpIn F n P (Exit.noGoto Q) a w):(Code.scope c).wpIn F n P Q a w:=by
 intro b k cs hro hb hr
 have h0:(lone (b.atR a (.code (.scope c)::k)) cs w).fenced P F:=fenced_calm hb hr rfl
 obtain⟨e,a₁,w₁,hq,harr⟩:=h b (.inScope c::k) cs hro hb hr
 cases e with
 |normal=>exact⟨.normal,a₁,w₁,hq,.head h0 AZ (StepsIn.trans harr (.one (fenced_calm hb hr rfl) afQ))⟩
 |exit id=>
  have hx:exitTo id (.inScope c::k)=exitTo id k:=by simp[exitTo]
  exact⟨.exit id,a₁,w₁,hq,fun k' hk=>.head h0 AZ (harr.1 k' (by rw[hx];exact hk)),fun hr' hk=>let⟨k₁,h1,h2⟩:=harr.2 hr' (by rw[hx];exact hk);⟨k₁,h1,.head h0 AZ h2⟩⟩
 |goto l=>exact hq.elim
 |ret=>exact⟨_,a₁,w₁,hq,.of_steps (.one h0 AZ) harr⟩
 |panic ch=>exact⟨_,a₁,w₁,hq,.of_steps (.one h0 AZ) harr⟩
 |outgrown=>exact⟨_,a₁,w₁,hq,.of_steps (.one h0 AZ) harr⟩
end
end Go.WW
namespace Go.WW.TI
open Go.RowKit
def oG(T:TypeId)(o:Oper):Bool:=iJ o&&(match o.op with | .load t _=>t != T|_=>true)
theorem afS{T:TypeId}{o:Oper}(h:oG T o=true):iJ o=true:=by
 unfold oG at h
 simp only[Bool.and_eq_true]at h
 exact h.1
section
variable {F:Fence} {P:Program} {ops:Array Oper} {S:World→Prop} {T:TypeId} {Q:Act→World→Prop}
theorem KY{o:Oper}{rest:List Oper}{a:Act}{w:World}(hw:Region.wanted o (yielded ops a.tmps)=true)(hs:oG T o=true)
  (h:∀K:Act→Prop,(∀a',aG F P ops (oG T) S Q rest a' w→K a')→o.quiet P a S K):aG F P ops (oG T) S Q (o::rest) a w:=by
 rw[bF,if_pos hw,if_pos hs]
 obtain⟨v,hv,hh⟩:=h _ (fun _ x=>x)
 refine⟨v,fun w' hw'=>?_,hh⟩
 have:=hv w' hw'
 unfold Oper.quietAt at this
 rcases Jw (P:=P) (afS hs) a.eval w' with⟨u,w'',e⟩|⟨x,w'',e⟩
 ·rw[e]at this ⊢
  obtain⟨rfl,rfl⟩:=this
  rfl
 ·rw[e]at this
  exact this.elim
theorem Uf{l:Nat}{o:Oper}{rest:List Oper}{a:Act}{w:World}(hw:Region.wanted o (yielded ops a.tmps)=true)(hs:oG T o=false)(hnd:AY o=false)
  (h:∀K:Act→World→Prop,(∀a' w',S w'→aG (Fence.wide.inRound l) P ops (oG T) S Q rest a' w'→K a' w')→o.wp P a w K never):aG (Fence.wide.inRound l) P ops (oG T) S Q (o::rest) a w:=by
 rw[bF,if_pos hw,if_neg (by simp[hs])]
 exact TQ (fun c hc=>by simp[AY,hc]at hnd) (h _ (fun _ _ x y=>⟨x,y⟩))
theorem afT{l:Nat}{o:Oper}{rest:List Oper}{a:Act}{w:World}(hw:Region.wanted o (yielded ops a.tmps)=true)(hs:oG T o=false)
  (h:∀K:Act→World→Prop,(∀a' w',S w'→aG (Fence.wide.inRound l) P ops (oG T) S Q rest a' w'→K a' w')→o.wpIn (Fence.wide.inRound l) 0 P a w K never):aG (Fence.wide.inRound l) P ops (oG T) S Q (o::rest) a w:=by
 rw[bF,if_pos hw,if_neg (by simp[hs])]
 exact h _ (fun _ _ x y=>⟨x,y⟩)
end
theorem afU{P:Program}{id l:Nat}{Q':Exit→Act→World→Prop}{a:Act}{W w:World}{ops:List Oper}(T:TypeId)(S:Nat→Prop)(hW:But S W w)(hm:P.follows .mixedOrders=true)(hB:ny (oG T) ops.toArray=true)(hnd:Gj ops=true)
  (h:aG (Fence.wide.inRound l) P ops.toArray (oG T) (uU S W) (fun a' w'=>Q' .normal a' w') ops a w.drew):(Code.region id ops.toArray true).wpIn (Fence.wide.inRound l) 0 P Q' a w:=
 TP (fun _=>trivial) rfl (uU S W) (oG T) hm hB hnd ⟨⟨w.drew,hW.drew⟩,rfl⟩ h
end Go.WW.TI
namespace Go.WW
open Go.RowKit
def VN(_:Nat)(x:PP)(v:Array Value)(W0 W1:World):Prop:=∃s,v=#[.agg (az s x.2)]∧bu W1 (fresh W0.heap.size W1) (fun y=>bK y s x.2)
end Go.WW
namespace Go.Proofs.YtpfifochimkpfaaGreatDoor
open Go.RowKit Go.WW
attribute [local go_sem] Oper.semAt_some
theorem KZ(b:Nat)(s:Sl)(X:List PP)(S:Nat→Prop)(w:World)(hc:w.heap[b]?=some (.cells #[.slice s.a X.length s.cap] 24))(hS:∀k,S k→k<w.heap.size)(hL:∀y,But (Off S w) w y→tV y s.a X) :
  KL Tryz.prog 131 #[.pointer (some ⟨b,0,none⟩)] S X VN w:=by
 intro l J Jx W hW hl1 hl2 h0 hJ hJx hY
 have hWc:W.cell? ⟨b,0,none⟩=some (.slice s.a X.length s.cap):=(ax (aI hW hc)).1 0
 have hbl:b<W.heap.size:=World.block_lt_of_cell? W _ hWc
 have HJ:=Lib.hid hJ
 have KN:=Lib.hid hJx
 have HY:=Lib.hid hY
 have HL:=Lib.hid hL
 have H0:=Lib.hid h0
 clear hJ hJx hY hL h0
 obtain⟨W1,hW1⟩:∃W1,W1=W.alloc (.cells #[.func (.yield l) #[] #[]] 48):=⟨_,rfl⟩
 obtain⟨W2,hW2⟩:∃W2,W2=W1.alloc (.cells #[.slice s.a X.length s.cap] 24):=⟨_,rfl⟩
 have hs1:W1.heap.size=W.heap.size+1:=by rw[hW1];simp
 have hb1:Below W.heap.size W W1:=by rw[hW1];exact(Below.refl _ _).alloc (Nat.le_refl _) _
 have hb2:Below W.heap.size W W2:=by rw[hW2];exact hb1.alloc hb1.size _
 have hs2:W2.heap.size=W.heap.size+2:=by rw[hW2];simp[hs1]
 have hy1:W2.heap[W.heap.size]?=some (.cells #[.func (.yield l) #[] #[]] 48):=by
  rw[hW2,Below.heap_alloc _ _ _ (by omega),hW1];exact World.alloc_heap_new _ _
 have hy2:W2.cell? ⟨W.heap.size+1,0,none⟩=some (.slice s.a X.length s.cap):=by
  have:=World.alloc_heap_new W1 (.cells #[.slice s.a X.length s.cap] 24)
  rw[←hW2,hs1]at this
  exact(ax this).1 0
 refine(callsIn_wide (n:=0)).1 ?_
 refine callsIn_of_wp_marks Tryz.func131 rfl trivial ?_ rfl
 simp only[Tryz.ntmps131,List.size_toArray,List.length_cons,List.length_nil,Nat.reduceAdd,Nat.reduceSub,Array.replicate_succ,Array.replicate_zero,List.push_toArray,List.append_toArray,List.nil_append,List.cons_append]
 gi_wp2
 refine afR ?_
 gi_wp2
 refine wpIn_label ?_
 gi_wp2
 refine⟨trivial,rfl,(callsIn_wide.2 (afy _ _ _ _)).mono ?_⟩
 rintro e w' ⟨rfl,rfl⟩
 rw[←hW1,hs1,←hW2]
 clear hW1 hW2
 gi_wp2
 have hwW:=hW.size
 refine(wpIn_wide (n:=0)).2 ?_
 refine Gm (gf:=177) (lb:=#[.pointer (some ⟨W.heap.size+1,0,none⟩)]) (by simp[go_sem]) (enters_of Tryz.func177 (by kernel_rfl) rfl) (S:=fun k=>S k∨k=l) ?_ (xs:=X) (V:=TT (fun k=>S k∨k=l) W2) ?_ (afz _ s.cap s.a X _ W2 hy2 ?_)
  (fun c1 k Wc=>J c1 k Wc∧Wc.heap[W.heap.size]?=some (.cells #[.func (.yield l) #[] #[]] 48)∧But (Off (fun k=>S k∨k=l) W2) W2 Wc∧W2.heap.size<c1) (fun c c1 k Wc=>c=.exit 0∧Jx c1 k Wc∧W2.heap.size<c1) ?_ ?_ ?_ ?_ ?_ ?_
 ·rintro k (hk|rfl)
  ·have:=hS k hk;omega
  ·omega
 ·rintro c1 x v W0 Wc ⟨rfl,_⟩;rfl
 ·intro y hy
  refine HL.out y ((But.of_below (ag hW hb2)).trans (hy.mono fun k hk=>?_))
  rcases hk with(hk|rfl)|hk
  ·exact .inl hk
  ·exact .inr hl1
  ·exact .inr (by omega)
 ·intro c1 Wc h1 h2 hb
  exact⟨H0.out c1 Wc (by omega) h2 (ag hb2 hb),aI hb hy1,But.of_below hb,h1⟩
 ·rintro c1 k Wc yT ⟨h1,h2,h3,h4⟩ hb
  exact⟨HJ.out _ _ _ _ h1 (hb.mono fun k hk=>⟨by have:=hk.1;omega,hk.2⟩),(hb.block _ (Array.getElem?_eq_some_iff.1 h2).1 (fun h=>by have:=h.1;omega)).trans h2,h3.trans (hb.mono fun k hk=>.inr (by have:=hk.1;omega)),h4⟩
 ·rintro c c1 k Wc yT ⟨rfl,h1,h2⟩ hb
  exact⟨rfl,KN.out _ _ _ _ h1 (hb.mono fun k hk=>⟨by have:=hk.1;omega,hk.2⟩),h2⟩
 ·rintro c1 k x v W0 Wc hx ⟨rfl,hp⟩ ⟨hj,La,ry,hc0⟩ hbs hc1 xq
  have hsW:=hbs.size
  have hc2:c1≤Wc.heap.size:=Nat.le_trans xq hsW
  have Lc:=(hbs.block _ (Array.getElem?_eq_some_iff.1 La).1 (fun h=>by have:=h.1;omega)).trans La
  have hbu:=ry.trans (hbs.mono fun k hk=>(.inr (by have:=hk.1;omega):Off (fun k=>S k∨k=l) W2 k))
  have afV:But (span W.heap.size c1) W0 Wc:=hbs.mono fun k hk=>⟨by have:=hk.1;omega,hk.2⟩
  obtain⟨s0,p⟩:=x
  have HP:=Lib.hid hp
  have HJ0:=Lib.hid hj
  clear hp hj
  simp only[yR]
  gi_wp2
  have hcl:W.heap.size<Wc.heap.size:=(Array.getElem?_eq_some_iff.1 Lc).1
  have hal:Below Wc.heap.size Wc (Wc.alloc (.cells (az s0 p) 35)):=(Below.refl _ _).alloc (Nat.le_refl _) _
  refine⟨hal,fun U hU=>?_⟩
  have qg:U.heap[Wc.heap.size]?=some (.cells (az s0 p) 35):=(hU.block _ (by simp) (bU (by omega))).trans (World.alloc_heap_new _ _)
  have Ld:U.heap[W.heap.size]?=some (.cells #[.func (.yield l) #[] #[]] 48):=(hU.block _ (by simp;omega) (bU (by omega))).trans (aI hal Lc)
  have lV:But (Off (fun k=>S k∨k=l) W2) W2 U:=(hbu.trans (But.of_below hal)).trans (hU.mono fun k hk=>.inr (by have:k=_:=hk;omega))
  have vK:=HP.out U lV
  have afX:But (span W.heap.size c1) W0 U:=afV.trans ((But.of_below hal).trans (hU.mono fun k hk=>(⟨by have:k=_:=hk;omega,by have:k=_:=hk;omega⟩:span W.heap.size c1 k)))
  have Le:Wc.heap.size<U.heap.size:=(Array.getElem?_eq_some_iff.1 qg).1
  have hnW:¬((S W.heap.size∨W.heap.size=l)∨c1≤W.heap.size):=by
   rintro((h|h)|h)
   ·have:=hS _ h;omega
   ·omega
   ·omega
  have hcy:U.cell? ⟨W.heap.size,0,none⟩=some (.func (.yield l) #[] #[]):=(ax Ld).1 0
  have hWU:W.heap.size<U.heap.size:=by omega
  have kW:row? U Wc.heap.size 0 2=some (az s0 p):=by rw[dI qg];exact gI (by simp[go_sem])
  clear hal hU hbu HP Lc La ry hbs
  gi_wp2
  refine TI.afU 35 (fun k=>(S k∨k=l)∨c1≤k) (But.refl _ U) (by kernel_rfl) (by kernel_rfl) (by kernel_rfl) ?_
  repeat (first|(refine TI.ai (by rfl) ?_)|(refine TI.KY (by rfl) (by rfl) (fun K hK=>?_);go_big_quiet_op;refine hK _ ?_;clear hK K))
  refine TI.Uf (by rfl) (by rfl) (by rfl) (fun K hK=>?_)
  go_wp2_with fail
  refine hK _ _ (fU (But.refl _ U).drew) ?_
  clear hK K
  refine TI.Uf (by rfl) (by rfl) (by rfl) (fun K hK=>?_)
  go_wp2_with fail
  refine(SH _ _ U.drew (vK.later (Below.refl _ _).drew)).mono ?_
  rintro e U2 ⟨s2,rfl,hb2',hd2⟩
  dsimp only
  have hbb:Below U.heap.size U U2:=(Below.refl _ U).drew.trans hb2'
  refine hK _ _ (fU (But.of_below hbb)) ?_
  clear hK K
  have hbs:=hbb.size
  obtain⟨fn,tmps,assign,body,hy,hR⟩:=HY.out c1 k (s0,p) #[.agg (az s2 p)] W0 U2 hx HJ0.out (afX.trans (But.of_below hbb)) ⟨s2,rfl,hd2.to (fun _ _=>rfl) (fun j hj=>⟨by have h1:U.drew.heap.size≤j:=hj.1;have h2:U.drew.heap.size=U.heap.size:=rfl;omega,hj.2⟩)⟩ (by omega) xq
  refine TI.afT (by rfl) (by rfl) (fun K hK=>?_)
  gi_wp2
  refine⟨rfl,RoundIn.mono (F:=Fence.wide.inRound (W.heap.size+2+1)) hR ?_⟩
  rintro e W3 ⟨hb3,h3⟩
  have iW:But (fun k=>(S k∨k=l)∨c1≤k) U W3:=(But.of_below hbb).trans hb3
  have hy3:W3.heap[W.heap.size]?=some (.cells #[.func (.yield l) #[] #[]] 48):=(iW.block _ hWU hnW).trans Ld
  have af0:But (Off (fun k=>S k∨k=l) W2) W2 W3:=lV.trans (iW.mono fun k hk=>hk.imp id (fun h=>by omega))
  clear hy hR hd2 hcy kW qg Ld lV vK
  rcases h3 with⟨rfl,hj3⟩|⟨rfl,hx3⟩
  ·dsimp only
   refine hK _ _ (fU iW) ?_
   clear hK K
   repeat (first|(refine TI.ai (by rfl) ?_)|(refine TI.KY (by rfl) (by rfl) (fun K hK=>?_);go_big_quiet_op;refine hK _ ?_;clear hK K))
   refine TI.bz ?_
   gi_wp2
   exact⟨iW,hj3,hy3,af0,by omega⟩
  ·dsimp only
   refine hK _ _ (fU iW) ?_
   clear hK K
   repeat (first|(refine TI.ai (by rfl) ?_)|(refine TI.KY (by rfl) (by rfl) (fun K hK=>?_);go_big_quiet_op;refine hK _ ?_;clear hK K))
   refine TI.bz ?_
   gi_wp2
   exact⟨iW,rfl,hx3,by omega⟩
 ·intro c1 Wc ⟨hj,_,_,hc0⟩ hD
  gi_wp2
  refine⟨by simp,.inl ⟨_,_,rfl,run_takeDeferred hD,?_⟩⟩
  refine⟨.tuple #[],by simp[results,Tryz.f131,go_sem],⟨_,rfl⟩,.inl ⟨c1,HJ.out _ _ _ _ hj ((But.putObj _).mono fun k hk=>?_)⟩⟩
  have:k=_:=hk
  exact⟨by omega,by omega⟩
 ·rintro c c1 k Wc ⟨rfl,hx,hc0⟩ hD
  refine(wpIn_wide (n:=0)).1 ?_
  gi_wp2
  refine⟨by simp,.inl ⟨_,_,rfl,run_takeDeferred hD,?_⟩⟩
  refine⟨.tuple #[],by simp[results,Tryz.f131,go_sem],⟨_,rfl⟩,.inr ⟨c1,k,KN.out _ _ _ _ hx ((But.putObj _).mono fun k hk=>?_)⟩⟩
  have:k=_:=hk
  exact⟨by omega,by omega⟩
end Go.Proofs.YtpfifochimkpfaaGreatDoor
namespace Go.WW
open Go.RowKit
def vM(N:List (ByteArray×Value))(ps:List aH):List (ByteArray×Value):=ps.foldl (fun m p=>mi m (textOf p)) N
theorem af1(N:List (ByteArray×Value))(ps:List aH)(p:aH):vM N (ps++[p])=mi (vM N ps) (textOf p):=by simp[vM]
theorem take_snoc{α:Type}{l:List α}{k:Nat}{x:α}(h:l[k]?=some x):l.take (k+1)=l.take k++[x]:=by rw[List.take_add_one,h];rfl
def tX(E:List EE)(k:ByteArray):List EE:=E.filter fun y=>decide (textOf y.2.name≠k)
theorem af2(E:List EE)(k:ByteArray):mi (E.map fun x=>(textOf x.2.name,Value.agg (cZ x))) k=(tX E k).map fun x=>(textOf x.2.name,Value.agg (cZ x)):=by
 unfold mi tX
 rw[List.filter_map]
 rfl
theorem But.past{S T:Nat→Prop}{w a b:World}(h:But S w a)(k:But T a b)(hT:∀j,T j→w.heap.size≤j):But S w b:=
 ⟨k.os.trans h.os,k.tape.trans h.tape,k.output.trans h.output,Nat.le_trans h.size k.size,fun j hj hn=>(k.block j (Nat.lt_of_lt_of_le hj h.size) (fun t=>by have:=hT j t;omega)).trans (h.block j hj hn)⟩
end Go.WW
namespace Go.Proofs.YtpfifochimkpfaaGreatDoor
open Go.RowKit Go.WW
theorem Gv{w:World}{e:Nat}{E:List EE}(h:MapOf w e (E.map fun x=>(textOf x.2.name,Value.agg (cZ x))))(x:EE)(hx:x∈E):(Instr.lookup 95 (.map (some e)) (.string (textOf x.2.name)) true).run Tryz.prog w=.ok (.tuple #[.agg (ae x.1 x.2),.bool true]) w:=by
 have:=EU (P:=Tryz.prog) true Tryz.underlying95 Tryz.underlying9 h (List.mem_map.2 ⟨x,hx,rfl⟩)
 exact this
attribute [local go_sem] Oper.semAt_some
theorem af4(b n e p:Nat)(re:ByteArray)(s:Int)(N:List (ByteArray×Value))(E:List EE)(P:List ah)(x:EE)(w:World)(h:dG w b n e p re s N E P)(hx:x∈E)(he:aS w x.1 x.2)(hok:∀q∈x.2.name::x.2.aliases,aZ q=true) :
  Calls Tryz.prog 134 #[.pointer (some ⟨b,0,none⟩),.string (textOf x.2.name)] w fun r w'=>r=.returned (.tuple #[])∧But (aW b n e p) w w'∧dG w' b n e p re s (vM N (x.2.name::x.2.aliases)) (tX E (textOf x.2.name)) P:=by
 have hB:Below w.heap.size w (w.alloc (.cells #[.pointer (some ⟨b,0,none⟩)] 138)):=(Below.refl _ _).alloc (Nat.le_refl _) _
 have h':=h.later hB
 have hx3:(w.alloc (.cells #[.pointer (some ⟨b,0,none⟩)] 138)).heap[w.heap.size]?=some (.cells #[.pointer (some ⟨b,0,none⟩)] 138):=World.alloc_heap_new _ _
 refine(callsIn_wide (n:=0)).1 ?_
 refine callsIn_of_wp_marks Tryz.func134 rfl trivial ?_ rfl
 simp only[Tryz.ntmps134,List.size_toArray,List.length_cons,List.length_nil,Nat.reduceAdd,Nat.reduceSub,Array.replicate_succ,Array.replicate_zero,List.push_toArray,List.append_toArray,List.nil_append,List.cons_append]
 have hlk:=Gv h'.em x hx
 obtain⟨c0,c1,c2,c3,c4,f1,hl⟩:=gm h'.box
 have hWs:(w.alloc (.cells #[.pointer (some ⟨b,0,none⟩)] 138)).heap.size=w.heap.size+1:=by simp
 have hct:(w.alloc (.cells #[.pointer (some ⟨b,0,none⟩)] 138)).cell? ⟨w.heap.size,0,none⟩=some (.pointer (some ⟨b,0,none⟩)):=(ax hx3).1 0
 gi_wp2
 have hB2:Below w.heap.size w ((w.alloc (.cells #[.pointer (some ⟨b,0,none⟩)] 138)).alloc (.cells (ae x.1 x.2) 44)):=ay hB _
 have ht2:((w.alloc (.cells #[.pointer (some ⟨b,0,none⟩)] 138)).alloc (.cells (ae x.1 x.2) 44)).heap[w.heap.size]?=some (.cells #[.pointer (some ⟨b,0,none⟩)] 138):=(Below.heap_alloc _ _ _ (by simp)).trans hx3
 have hs2:w.heap.size<((w.alloc (.cells #[.pointer (some ⟨b,0,none⟩)] 138)).alloc (.cells (ae x.1 x.2) 44)).heap.size:=by simp;omega
 clear hB h' hx3 hlk c0 c1 c2 c3 c4 f1 hl hWs hct
 generalize (w.alloc (.cells #[.pointer (some ⟨b,0,none⟩)] 138)).alloc (.cells (ae x.1 x.2) 44)=W2 at *
 refine⟨trivial,rfl,(callsIn_wide.2 (KW _ _ _ (he.later hB2))).mono ?_⟩
 rintro r w3 ⟨bN,sN,X,rfl,hb3,hbN,Dt,hX,hd⟩
 have hB3:=ag hB2 hb3
 have h3:=h.later hB3
 have ht3:=aI hb3 ht2
 have hs3:=hb3.size
 have hnl:=h.nm.lt
 have hws:=hB3.size
 dsimp only
 gi_wp2
 refine(wpIn_wide (n:=0)).2 ?_
 refine Gm (gf:=131) (lb:=#[.pointer (some ⟨bN,0,none⟩)]) (by simp[go_sem]) (enters_of Tryz.func131 (by kernel_rfl) rfl) (S:=one n) ?_ (xs:=X) (V:=VN) ?_ (KZ bN sN X (one n) w3 Dt ?_ ?_)
  (fun c1 k Wc=>But (one n) w3 Wc∧MapOf Wc n (vM N ((X.map (·.2)).take k))∧w3.heap.size<c1) (fun _ _ _ _=>False) ?_ ?_ ?_ ?_ ?_ ?_
 ·rintro k (rfl:k=n);omega
 ·rintro c1 xx v W0 Wc ⟨s',rfl,_⟩;rfl
 ·rintro k (rfl:k=n);omega
 ·intro y hy
  exact hd y fun k hk=>hy.block k hk.2 fun hk'=>by
   rcases hk' with(e:k=n)|e
   ·have:=hk.1;have:=hB2.size;omega
   ·have:=hk.2;omega
 ·intro c1 Wc h1 h2 hb
  exact⟨But.of_below hb,h3.nm.at (hb.block n h3.nm.lt),h1⟩
 ·rintro c1 k Wc yT ⟨h1,h2,h4⟩ hb
  refine⟨h1.past hb (fun j hj=>hj.1),h2.at (hb.block n h2.lt fun hj=>?_),h4⟩
  have:=hj.1
  have:=h3.nm.lt
  omega
 ·rintro c c1 k Wc yT hf
  exact hf.elim
 ·rintro c1 k xx v W0 Wc hxx ⟨s',rfl,hp⟩ ⟨ry,hm0,hc0⟩ hbs hc1 xq
  have hsW:=hbs.size
  have hc2:c1≤Wc.heap.size:=Nat.le_trans xq hsW
  have hbu:But (one n) w3 Wc:=ry.past hbs (fun j hj=>hj.1)
  have hm:=hm0.at (hbs.block n hm0.lt (fun hj=>by have:=hj.1;have:=h3.nm.lt;omega))
  clear ry hm0 hbs
  obtain⟨s0,q⟩:=xx
  have hqm:(X.map (·.2))[k]?=some q:=by rw[List.getElem?_map,hxx];rfl
  have A7:aZ q=true:=hok q (by rw[←hX];exact List.mem_of_getElem? hqm)
  have HP:=Lib.hid hp
  clear hp
  dsimp only
  gi_wp2
  have hal:Below Wc.heap.size Wc (Wc.alloc (.cells (az s' q) 35)):=(Below.refl _ _).alloc (Nat.le_refl _) _
  refine⟨hal,fun U hU=>?_⟩
  have qg:U.heap[Wc.heap.size]?=some (.cells (az s' q) 35):=(hU.block _ (by simp) (bU (by omega))).trans (World.alloc_heap_new _ _)
  have Le:Wc.heap.size<U.heap.size:=(Array.getElem?_eq_some_iff.1 qg).1
  have lV:But (one n) w3 U:=(hbu.trans (But.of_below hal)).past hU (fun j hj=>by have:j=_:=hj;omega)
  have rf:MapOf U n (vM N ((X.map (·.2)).take k)):=hm.at ((hU.block n (by have:=hm.lt;simp;omega) (bU (by have:=h3.nm.lt;omega))).trans (hal.block n hm.lt))
  have vK:bK U s' q:=HP.out U fun j hj=>(hU.block j (by have:=hj.2;simp;omega) (bU (by have:=hj.1;omega))).trans (hal.block j hj.2)
  have hbn:b≠n:=jo h3.box h3.nm
  have htn:w.heap.size≠n:=by omega
  have ku:U.heap[b]?=some (.cells (lN re s n e p) 100):=(lV.block b (Array.getElem?_eq_some_iff.1 h3.box).1 (bU hbn)).trans h3.box
  have yU:U.heap[w.heap.size]?=some (.cells #[.pointer (some ⟨b,0,none⟩)] 138):=(lV.block _ (Array.getElem?_eq_some_iff.1 ht3).1 (bU htn)).trans ht3
  clear hal hU hbu HP hm hsW
  obtain⟨c0,c1',c2,c3,c4,f1,hl⟩:=gm ku
  have hct:U.cell? ⟨w.heap.size,0,none⟩=some (.pointer (some ⟨b,0,none⟩)):=(ax yU).1 0
  have hlt:w.heap.size<U.heap.size:=(Array.getElem?_eq_some_iff.1 yU).1
  have kW:row? U Wc.heap.size 0 2=some (az s' q):=by rw[dI qg];exact gI (by simp[go_sem])
  have n1:=bU hbn
  have n2:=bU htn
  have n3:¬one n Wc.heap.size:=bU (by have:=h3.nm.lt;omega)
  gi_wp2
  refine TI.Gl (one n) (But.refl _ U) (by kernel_rfl) (by kernel_rfl) (by kernel_rfl) ?_
  repeat (first|(refine TI.ai (by rfl) ?_)|(refine TI.au (by rfl) (by rfl) (fun K hK=>?_);go_big_quiet_op;refine hK _ ?_;clear hK K))
  refine TI.aB (by rfl) (by rfl) (by rfl) (fun K hK=>?_)
  go_wp2_with fail
  refine(qW _ _ U.drew (vK.later (Below.refl _ _).drew) A7).mono ?_
  rintro r U2 ⟨rfl,hbk⟩
  dsimp only
  have hbb:Below U.heap.size U U2:=(Below.refl _ U).drew.trans hbk
  refine hK _ _ (fU (But.of_below hbb)) ?_
  clear hK K
  obtain⟨U3,hrun,yV,iW,Ug⟩:=P5 (P:=Tryz.prog) (k:=textOf q) (ty:=0) (oU:=#[94,9]) rfl Tryz.underlying94 Tryz.underlying9 (rf.at (hbb.block n rf.lt))
  have yX:But (one n) U U3:=(But.of_below hbb).trans ⟨iW.os,iW.tape,iW.output,iW.size,iW.block⟩
  refine TI.aB (by rfl) (by rfl) (by rfl) (fun K hK=>?_)
  go_wp2_with fail
  refine hK _ _ (fU yX) ?_
  clear hK K
  refine TI.bz ?_
  gi_wp2
  refine⟨yX.mono fun _ h=>.inl h,lV.trans yX,?_,by omega⟩
  rw[←hX,take_snoc hqm,af1]
  exact yV
 ·rintro c1 Wc ⟨hbu,hm,hc0⟩ hD
  rw[List.take_of_length_le (by simp),hX]at hm
  have hbn:b≠n:=jo h3.box h3.nm
  have htn:w.heap.size≠n:=by omega
  have hen:e≠n:=fun e'=>h.ne.1 e'.symm
  have ku:Wc.heap[b]?=some (.cells (lN re s n e p) 100):=(hbu.block b (Array.getElem?_eq_some_iff.1 h3.box).1 (bU hbn)).trans h3.box
  have yU:Wc.heap[w.heap.size]?=some (.cells #[.pointer (some ⟨b,0,none⟩)] 138):=(hbu.block _ (Array.getElem?_eq_some_iff.1 ht3).1 (bU htn)).trans ht3
  have hme:=h3.em.at (hbu.block e h3.em.lt (bU hen))
  obtain⟨U3,hrun,yV,iW,Ug⟩:=P5 (P:=Tryz.prog) (k:=textOf x.2.name) (ty:=0) (oU:=#[95,9]) rfl Tryz.underlying95 Tryz.underlying9 hme
  rw[af2]at yV
  obtain⟨k0,k1,k2,k3,k4,f1,hl⟩:=gm ku
  have hct:Wc.cell? ⟨w.heap.size,0,none⟩=some (.pointer (some ⟨b,0,none⟩)):=(ax yU).1 0
  gi_wp2
  have hD3:U3.heap[w3.heap.size]?=some (.deferred (some [])):=(iW.block _ (Array.getElem?_eq_some_iff.1 hD).1 (by have:=h3.em.lt;omega)).trans hD
  refine⟨by simp,.inl ⟨_,_,rfl,run_takeDeferred hD3,?_⟩⟩
  have hfin:But (one w3.heap.size) U3 (U3.putObj w3.heap.size (.deferred none)):=But.putObj _
  have he3:=h3.em.lt
  have hn3:=h3.nm.lt
  have hp3:=h3.pm.lt
  have hall:But (aW b n e p) w U3:=((But.of_below hB3).trans (hbu.mono fun k (hk:k=n)=>.inr (.inl hk))).trans (iW.mono fun k (hk:k=e)=>.inr (.inr (.inl hk)))
  have hbe:b≠e:=jo h3.box h3.em
  refine⟨.tuple #[],by simp[results,Tryz.f134,go_sem],rfl,hall.past hfin (fun j hj=>by have:j=_:=hj;omega),?_,?_,?_,?_,h.ne⟩
  ·exact(hfin.block b (by have:=iW.size;omega) (bU (by have:=(Array.getElem?_eq_some_iff.1 h3.box).1;omega))).trans ((iW.block b hl hbe).trans ku)
  ·exact hm.at ((hfin.block n (by have:=iW.size;have:=hm.lt;omega) (bU (by omega))).trans (iW.block n hm.lt (fun e'=>h.ne.1 e')))
  ·exact yV.at (hfin.block e yV.lt (bU (by omega)))
  ·have hpm:=h3.pm.at (hbu.block p h3.pm.lt (bU (fun e'=>h.ne.2.1 e'.symm)))
   exact hpm.at ((hfin.block p (by have:=iW.size;have:=hpm.lt;omega) (bU (by omega))).trans (iW.block p hpm.lt (fun e'=>h.ne.2.2 e'.symm)))
 ·intro c c1 k Wc hf
  exact hf.elim
end Go.Proofs.YtpfifochimkpfaaGreatDoor
namespace Go.WW
open Go.RowKit
def vN(N:List (ByteArray×Value))(E:List EE)(k:ByteArray)(N1:List (ByteArray×Value))(E1:List EE):Prop:=
 (∃x∈E,textOf x.2.name=k∧N1=vM N (x.2.name::x.2.aliases)∧E1=tX E k)∨((∀x∈E,textOf x.2.name≠k)∧N1=N∧E1=E)
theorem vN.no{N N1:List (ByteArray×Value)}{E E1:List EE}{k:ByteArray}(h:vN N E k N1 E1):∀y∈E1,textOf y.2.name≠k:=by
 rcases h with⟨x,hx,rfl,rfl,rfl⟩|⟨h,rfl,rfl⟩
 ·intro y hy
  simpa[tX]using(List.mem_filter.1 hy).2
 ·exact h
def rC(N:List (ByteArray×Value))(k:ByteArray)(ps:List aH):List (ByteArray×Value):=ps.foldl (fun m p=>ou m (textOf p) (.string k)) N
theorem af5(N:List (ByteArray×Value))(k:ByteArray)(ps:List aH)(p:aH):rC N k (ps++[p])=ou (rC N k ps) (textOf p) (.string k):=by simp[rC]
theorem af6(E:List EE)(x:EE)(h:∀y∈E,textOf y.2.name≠textOf x.2.name):ou (E.map fun x=>(textOf x.2.name,Value.agg (cZ x))) (textOf x.2.name) (.agg (cZ x))=(E++[x]).map fun x=>(textOf x.2.name,Value.agg (cZ x)):=by
 have hk:hasK (E.map fun x=>(textOf x.2.name,Value.agg (cZ x))) (textOf x.2.name)=false:=by
  unfold hasK
  rw[List.any_eq_false]
  intro y hy
  obtain⟨z,hz,rfl⟩:=List.mem_map.1 hy
  simpa using h z hz
 unfold ou
 rw[hk]
 simp
def lG(S:Nat→Prop)(w:World)(x:EE):Prop:=∀y,But S w y→aS y x.1 x.2
theorem lG.on{S:Nat→Prop}{w w':World}{x:EE}(h:lG S w x)(hb:But S w w'):lG S w' x:=fun y hy=>h y (hb.trans hy)
theorem lG.out{S:Nat→Prop}{w:World}{x:EE}(h:lG S w x):aS w x.1 x.2:=h w (But.refl _ _)
def Du(d:Entry):Prop:=∀q∈d.name::d.aliases,aZ q=true
end Go.WW
namespace Go.Proofs.YtpfifochimkpfaaGreatDoor
open Go.RowKit Go.WW
theorem Gw{w:World}{e:Nat}{E:List EE}(h:MapOf w e (E.map fun x=>(textOf x.2.name,Value.agg (cZ x))))(k:ByteArray)(hk:∀x∈E,textOf x.2.name≠k):(Instr.lookup 95 (.map (some e)) (.string k) true).run Tryz.prog w=.ok (.tuple #[.agg (ae bg aV),.bool false]) w:=by
 have hn:k∉(E.map fun x=>(textOf x.2.name,Value.agg (cZ x))).map (·.1):=by
  intro hk'
  rw[List.map_map]at hk'
  obtain⟨x,hx,e⟩:=List.mem_map.1 hk'
  exact hk x hx e
 have:=EW (P:=Tryz.prog) (z:=.agg (ae bg aV)) true Tryz.underlying95 Tryz.underlying9 h (by kernel_rfl) hn
 simpa using this
theorem af7(b n e p:Nat)(re:ByteArray)(s:Int)(N:List (ByteArray×Value))(E:List EE)(P:List ah)(k:ByteArray)(w:World)(h:dG w b n e p re s N E P)(hk:∀x∈E,textOf x.2.name≠k) :
  Calls Tryz.prog 134 #[.pointer (some ⟨b,0,none⟩),.string k] w fun r w'=>r=.returned (.tuple #[])∧Below w.heap.size w w':=by
 have hB:Below w.heap.size w (w.alloc (.cells #[.pointer (some ⟨b,0,none⟩)] 138)):=(Below.refl _ _).alloc (Nat.le_refl _) _
 have h':=h.later hB
 have hlk:=Gw h'.em k hk
 obtain⟨c0,c1,c2,c3,c4,f1,hl⟩:=gm h'.box
 go_enter Tryz.func134,Tryz.ntmps134
 go_wp2_with fail
 refine bodyPost_ret (results_none rfl _ _ _) rfl ⟨rfl,ay hB _⟩
theorem af8(b n e p:Nat)(re:ByteArray)(s:Int)(N N1:List (ByteArray×Value))(E E1:List EE)(P:List ah)(k:ByteArray)(w:World)(h:dG w b n e p re s N E P)(hE:∀x∈E,lG (aW b n e p) w x∧Du x.2)(hR:vN N E k N1 E1) :
  Calls Tryz.prog 134 #[.pointer (some ⟨b,0,none⟩),.string k] w fun r w'=>r=.returned (.tuple #[])∧But (aW b n e p) w w'∧dG w' b n e p re s N1 E1 P:=by
 rcases hR with⟨x,hx,rfl,rfl,rfl⟩|⟨hk,rfl,rfl⟩
 ·exact af4 b n e p re s N E P x w h hx (hE x hx).1.out (hE x hx).2
 ·refine(af7 b n e p re s _ _ P k w h hk).mono ?_
  rintro r w' ⟨rfl,hb⟩
  exact⟨rfl,But.of_below hb,h.later hb⟩
attribute [local go_sem] Oper.semAt_some
theorem af9(b n e p:Nat)(re:ByteArray)(s:Int)(N N1:List (ByteArray×Value))(E E1:List EE)(P:List ah)(r:aK)(d:Entry)(w:World)(h:dG w b n e p re s N E P)(hE:∀x∈E,lG (aW b n e p) w x∧Du x.2)(hR:vN N E (textOf d.name) N1 E1)(he:lG (aW b n e p) w (r,d))(hok:Du d) :
  Calls Tryz.prog 73 #[.pointer (some ⟨b,0,none⟩),.agg (ae r d)] w fun q w'=>q=.returned (.tuple #[])∧But (aW b n e p) w w'∧dG w' b n e p re s (rC N1 (textOf d.name) (d.name::d.aliases)) (E1++[(r,d)]) P:=by
 have hB:Below w.heap.size w ((w.alloc (.cells #[.pointer (some ⟨b,0,none⟩)] 138)).alloc (.cells (ae r d) 44)):=ay ((Below.refl _ _).alloc (Nat.le_refl _) _) _
 have ht0:((w.alloc (.cells #[.pointer (some ⟨b,0,none⟩)] 138)).alloc (.cells (ae r d) 44)).heap[w.heap.size]?=some (.cells #[.pointer (some ⟨b,0,none⟩)] 138):=kS _ _ _
 have he0:((w.alloc (.cells #[.pointer (some ⟨b,0,none⟩)] 138)).alloc (.cells (ae r d) 44)).heap[w.heap.size+1]?=some (.cells (ae r d) 44):=by
  have:=World.alloc_heap_new (w.alloc (.cells #[.pointer (some ⟨b,0,none⟩)] 138)) (.cells (ae r d) 44)
  rwa[World.size_alloc]at this
 refine(callsIn_wide (n:=0)).1 ?_
 refine callsIn_of_wp_marks Tryz.func73 rfl trivial ?_ rfl
 simp only[Tryz.ntmps73,List.size_toArray,List.length_cons,List.length_nil,Nat.reduceAdd,Nat.reduceSub,Array.replicate_succ,Array.replicate_zero,List.push_toArray,List.append_toArray,List.nil_append,List.cons_append]
 gi_wp2
 generalize (w.alloc (.cells #[.pointer (some ⟨b,0,none⟩)] 138)).alloc (.cells (ae r d) 44)=W at *
 have h1:=h.later hB
 have hnb:∀k,w.heap.size≤k→¬aW b n e p k:=fun k hk hd=>by
  have q1:=(Array.getElem?_eq_some_iff.1 h.box).1
  have q2:=h.nm.lt
  have q3:=h.em.lt
  have q4:=h.pm.lt
  rcases hd with rfl|rfl|rfl|rfl<;>omega
 have n0:=hnb w.heap.size (Nat.le_refl _)
 have n1:=hnb (w.heap.size+1) (by omega)
 have hct:W.cell? ⟨w.heap.size,0,none⟩=some (.pointer (some ⟨b,0,none⟩)):=(ax ht0).1 0
 have hl0:w.heap.size<W.heap.size:=(Array.getElem?_eq_some_iff.1 ht0).1
 have hl1:w.heap.size+1<W.heap.size:=(Array.getElem?_eq_some_iff.1 he0).1
 have hre:row? W (w.heap.size+1) 0 17=some (ae r d):=by rw[dI he0];exact gI (by simp[go_sem])
 have hrn:=uY hre
 have hno:∀q,q=d.name→aZ q=true:=fun q hq=>hok q (by simp[hq])
 refine(wpIn_wide (n:=0)).2 ?_
 refine oV (aW b n e p) (But.refl _ W) (by kernel_rfl) (by kernel_rfl) ?_
 repeat (first|(refine ai (by rfl) ?_)|(refine bC (by rfl) (by rfl) (fun K hK=>?_);go_big_quiet_op;refine hK _ ?_;clear hK K))
 refine bZ (by rfl) (by rfl) (fun K hK=>?_)
 go_wp2_with fail
 refine(qW _ _ W.drew ((he.out.name.later hB).later (Below.refl _ _).drew) (hno _ rfl)).mono ?_
 rintro q W1 ⟨rfl,hbk⟩
 dsimp only
 have hb1:Below W.heap.size W W1:=(Below.refl _ W).drew.trans hbk
 refine hK _ _ (fU (But.of_below hb1)) ?_
 clear hK K
 repeat (first|(refine ai (by rfl) ?_)|(refine bC (by rfl) (by rfl) (fun K hK=>?_);go_big_quiet_op;refine hK _ ?_;clear hK K))
 refine bZ (by rfl) (by rfl) (fun K hK=>?_)
 go_wp2_with fail
 have hBW1:=ag hB hb1
 refine(af8 b n e p re s N N1 E E1 P _ W1 (h1.later hb1) (fun x hx=>⟨(hE x hx).1.on (But.of_below hBW1),(hE x hx).2⟩) hR).mono ?_
 rintro q W2 ⟨rfl,hb2,h2⟩
 dsimp only
 have hbW2:But (aW b n e p) W W2:=(But.of_below hb1).trans hb2
 refine hK _ _ (fU hbW2) ?_
 clear hK K
 refine bz ?_
 have qP:But (aW b n e p) w W2:=(But.of_below hB).trans hbW2
 have ht2:W2.heap[w.heap.size]?=some (.cells #[.pointer (some ⟨b,0,none⟩)] 138):=(hbW2.block _ hl0 n0).trans ht0
 have he2:W2.heap[w.heap.size+1]?=some (.cells (ae r d) 44):=(hbW2.block _ hl1 n1).trans he0
 clear hct hl0 hl1 hre hrn ht0 he0 hb1 hbk hBW1 hb2 hbW2 hB h1
 have hws:w.heap.size≤W2.heap.size:=qP.size
 obtain⟨c0,c1,c2,c3,c4,f1,hl⟩:=gm h2.box
 have hct:W2.cell? ⟨w.heap.size,0,none⟩=some (.pointer (some ⟨b,0,none⟩)):=(ax ht2).1 0
 have hl0:w.heap.size<W2.heap.size:=(Array.getElem?_eq_some_iff.1 ht2).1
 have hl1:w.heap.size+1<W2.heap.size:=(Array.getElem?_eq_some_iff.1 he2).1
 have hre:row? W2 (w.heap.size+1) 0 17=some (ae r d):=by rw[dI he2];exact gI (by simp[go_sem])
 have hrn:=uY hre
 have hel:=h.em.lt
 have m0:¬one e w.heap.size:=bU (by omega)
 have m1:¬one e (w.heap.size+1):=bU (by omega)
 have m2:¬one e b:=bU (jo h.box h.em)
 gi_wp2
 refine(wpIn_wide (n:=0)).2 ?_
 refine oV (one e) (But.refl _ W2) (by kernel_rfl) (by kernel_rfl) ?_
 repeat (first|(refine ai (by rfl) ?_)|(refine bC (by rfl) (by rfl) (fun K hK=>?_);go_big_quiet_op;refine hK _ ?_;clear hK K))
 refine bZ (by rfl) (by rfl) (fun K hK=>?_)
 go_wp2_with fail
 refine(qW _ _ W2.drew ((he W2 qP).name.later (Below.refl _ _).drew) (hno _ rfl)).mono ?_
 rintro q W3 ⟨rfl,hbk⟩
 dsimp only
 have hb3:Below W2.heap.size W2 W3:=(Below.refl _ W2).drew.trans hbk
 refine hK _ _ (fU (But.of_below hb3)) ?_
 clear hK K
 repeat (first|(refine ai (by rfl) ?_)|(refine bC (by rfl) (by rfl) (fun K hK=>?_);go_big_quiet_op;refine hK _ ?_;clear hK K))
 obtain⟨W4,hrun,Lh,hb4,hs4⟩:=Am (P:=Tryz.prog) (k:=textOf d.name) (v:=.agg (ae r d)) Tryz.underlying95 Tryz.underlying9 (h2.em.at (hb3.block e h2.em.lt))
 rw[show Value.agg (ae r d)=Value.agg (cZ (r,d)) from rfl,af6 E1 (r,d) hR.no]at Lh
 have iV:But (one e) W2 W4:=(But.of_below hb3).trans ⟨hb4.os,hb4.tape,hb4.output,hb4.size,hb4.block⟩
 refine bZ (by rfl) (by rfl) (fun K hK=>?_)
 go_wp2_with fail
 refine hK _ _ (fU iV) ?_
 clear hK K
 refine bz ?_
 have Ll:But (aW b n e p) w W4:=qP.trans (iV.mono fun k hk=>.inr (.inr (.inl hk)))
 have Uh:W4.heap[w.heap.size]?=some (.cells #[.pointer (some ⟨b,0,none⟩)] 138):=(iV.block _ hl0 m0).trans ht2
 have he4:W4.heap[w.heap.size+1]?=some (.cells (ae r d) 44):=(iV.block _ hl1 m1).trans he2
 have h4:dG W4 b n e p re s N1 (E1++[(r,d)]) P:=⟨(iV.block b hl m2).trans h2.box,h2.nm.at (iV.block n h2.nm.lt (bU h.ne.1)),Lh,h2.pm.at (iV.block p h2.pm.lt (bU (fun e'=>h.ne.2.2 e'.symm))),h.ne⟩
 clear hct hl0 hl1 hre hrn c0 c1 c2 c3 c4 f1 hl hrun Lh hb4 hs4 hbk hb3 iV
 have hct:W4.cell? ⟨w.heap.size,0,none⟩=some (.pointer (some ⟨b,0,none⟩)):=(ax Uh).1 0
 have hl1:w.heap.size+1<W4.heap.size:=(Array.getElem?_eq_some_iff.1 he4).1
 have hre:row? W4 (w.heap.size+1) 0 17=some (ae r d):=by rw[dI he4];exact gI (by simp[go_sem])
 gi_wp2
 refine⟨trivial,rfl,(callsIn_wide.2 (KW _ _ _ (he W4 Ll))).mono ?_⟩
 rintro q w3 ⟨bN,sN,X,rfl,hb3,hbN,Dt,hX,hd⟩
 have h3:=h4.later hb3
 have Aw:But (aW b n e p) w w3:=Ll.trans (But.of_below hb3)
 have ht3:=aI hb3 Uh
 have he3:=aI hb3 he4
 have hs3:=hb3.size
 have hnl:=h.nm.lt
 have hw4:=Ll.size
 clear hct hl1 hre ht2 he2 h2 qP
 dsimp only
 gi_wp2
 refine(wpIn_wide (n:=0)).2 ?_
 refine Gm (gf:=131) (lb:=#[.pointer (some ⟨bN,0,none⟩)]) (by simp[go_sem]) (enters_of Tryz.func131 (by kernel_rfl) rfl) (S:=one n) ?_ (xs:=X) (V:=VN) ?_ (KZ bN sN X (one n) w3 Dt ?_ ?_)
  (fun c1 k Wc=>But (one n) w3 Wc∧MapOf Wc n (rC N1 (textOf d.name) ((X.map (·.2)).take k))∧w3.heap.size<c1) (fun _ _ _ _=>False) ?_ ?_ ?_ ?_ ?_ ?_
 ·rintro k (rfl:k=n);omega
 ·rintro c1 xx v W0 Wc ⟨s',rfl,_⟩;rfl
 ·rintro k (rfl:k=n);omega
 ·intro y hy
  exact hd y fun k hk=>hy.block k hk.2 fun hk'=>by
   rcases hk' with(e:k=n)|e
   ·have:=hk.1;omega
   ·have:=hk.2;omega
 ·intro c1 Wc h1 h2 hb
  exact⟨But.of_below hb,h3.nm.at (hb.block n h3.nm.lt),h1⟩
 ·rintro c1 k Wc yT ⟨h1,h2,h4⟩ hb
  refine⟨h1.past hb (fun j hj=>hj.1),h2.at (hb.block n h2.lt fun hj=>?_),h4⟩
  have:=hj.1
  have:=h3.nm.lt
  omega
 ·rintro c c1 k Wc yT hf
  exact hf.elim
 ·rintro c1 k xx v W0 Wc hxx ⟨s',rfl,hp⟩ ⟨ry,hm0,hc0⟩ hbs hc1 xq
  have hsW:=hbs.size
  have hc2:c1≤Wc.heap.size:=Nat.le_trans xq hsW
  have hbu:But (one n) w3 Wc:=ry.past hbs (fun j hj=>hj.1)
  have hm:=hm0.at (hbs.block n hm0.lt (fun hj=>by have:=hj.1;have:=h3.nm.lt;omega))
  clear ry hm0 hbs
  obtain⟨s0,q⟩:=xx
  have hqm:(X.map (·.2))[k]?=some q:=by rw[List.getElem?_map,hxx];rfl
  have A7:aZ q=true:=hok q (by rw[←hX];exact List.mem_of_getElem? hqm)
  have HP:=Lib.hid hp
  clear hp
  dsimp only
  gi_wp2
  have hal:Below Wc.heap.size Wc (Wc.alloc (.cells (az s' q) 35)):=(Below.refl _ _).alloc (Nat.le_refl _) _
  refine⟨hal,fun U hU=>?_⟩
  have qg:U.heap[Wc.heap.size]?=some (.cells (az s' q) 35):=(hU.block _ (by simp) (bU (by omega))).trans (World.alloc_heap_new _ _)
  have Le:Wc.heap.size<U.heap.size:=(Array.getElem?_eq_some_iff.1 qg).1
  have lV:But (one n) w3 U:=(hbu.trans (But.of_below hal)).past hU (fun j hj=>by have:j=_:=hj;omega)
  have rf:MapOf U n (rC N1 (textOf d.name) ((X.map (·.2)).take k)):=hm.at ((hU.block n (by have:=hm.lt;simp;omega) (bU (by have:=h3.nm.lt;omega))).trans (hal.block n hm.lt))
  have vK:bK U s' q:=HP.out U fun j hj=>(hU.block j (by have:=hj.2;simp;omega) (bU (by have:=hj.1;omega))).trans (hal.block j hj.2)
  have Lm:bK U r.parts d.name:=(he U (Aw.trans (lV.mono fun j hj=>.inr (.inl hj)))).name
  have hbn:b≠n:=jo h3.box h3.nm
  have htn:w.heap.size≠n:=by omega
  have Ui:w.heap.size+1≠n:=by omega
  have ku:U.heap[b]?=some (.cells (lN re s n e p) 100):=(lV.block b (Array.getElem?_eq_some_iff.1 h3.box).1 (bU hbn)).trans h3.box
  have yU:U.heap[w.heap.size]?=some (.cells #[.pointer (some ⟨b,0,none⟩)] 138):=(lV.block _ (Array.getElem?_eq_some_iff.1 ht3).1 (bU htn)).trans ht3
  have Uj:U.heap[w.heap.size+1]?=some (.cells (ae r d) 44):=(lV.block _ (Array.getElem?_eq_some_iff.1 he3).1 (bU Ui)).trans he3
  clear hal hU hbu HP hm hsW
  obtain⟨c0,c1',c2,c3,c4,f1,hl⟩:=gm ku
  have hct:U.cell? ⟨w.heap.size,0,none⟩=some (.pointer (some ⟨b,0,none⟩)):=(ax yU).1 0
  have hlt:w.heap.size<U.heap.size:=(Array.getElem?_eq_some_iff.1 yU).1
  have hlt1:w.heap.size+1<U.heap.size:=(Array.getElem?_eq_some_iff.1 Uj).1
  have kW:row? U Wc.heap.size 0 2=some (az s' q):=by rw[dI qg];exact gI (by simp[go_sem])
  have hrn:row? U (w.heap.size+1) 0 2=some (az r.parts d.name):=uY (d:=d) (by rw[dI Uj];exact gI (by simp[go_sem]))
  have o1:=bU hbn
  have o2:=bU htn
  have o4:=bU Ui
  have o3:¬one n Wc.heap.size:=bU (by have:=h3.nm.lt;omega)
  gi_wp2
  refine TI.Gl (one n) (But.refl _ U) (by kernel_rfl) (by kernel_rfl) (by kernel_rfl) ?_
  repeat (first|(refine TI.ai (by rfl) ?_)|(refine TI.au (by rfl) (by rfl) (fun K hK=>?_);go_big_quiet_op;refine hK _ ?_;clear hK K))
  refine TI.aB (by rfl) (by rfl) (by rfl) (fun K hK=>?_)
  go_wp2_with fail
  refine(qW _ _ U.drew (vK.later (Below.refl _ _).drew) A7).mono ?_
  rintro z U2 ⟨rfl,hbk⟩
  dsimp only
  have hbb:Below U.heap.size U U2:=(Below.refl _ U).drew.trans hbk
  refine hK _ _ (fU (But.of_below hbb)) ?_
  clear hK K
  repeat (first|(refine TI.ai (by rfl) ?_)|(refine TI.au (by rfl) (by rfl) (fun K hK=>?_);go_big_quiet_op;refine hK _ ?_;clear hK K))
  refine TI.aB (by rfl) (by rfl) (by rfl) (fun K hK=>?_)
  go_wp2_with fail
  refine(qW _ _ U2 (Lm.later hbb) (hno _ rfl)).mono ?_
  rintro z U2' ⟨rfl,hbk'⟩
  dsimp only
  have Lp:=ag hbb hbk'
  refine hK _ _ (fU (But.of_below Lp)) ?_
  clear hK K
  obtain⟨U3,hrun,yV,iW,Ug⟩:=Am (P:=Tryz.prog) (k:=textOf q) (v:=.string (textOf d.name)) Tryz.underlying94 Tryz.underlying9 (rf.at (Lp.block n rf.lt))
  have yX:But (one n) U U3:=(But.of_below Lp).trans ⟨iW.os,iW.tape,iW.output,iW.size,iW.block⟩
  refine TI.aB (by rfl) (by rfl) (by rfl) (fun K hK=>?_)
  go_wp2_with fail
  refine hK _ _ (fU yX) ?_
  clear hK K
  refine TI.bz ?_
  gi_wp2
  refine⟨yX.mono fun _ h=>.inl h,lV.trans yX,?_,by omega⟩
  rw[←hX,take_snoc hqm,af5]
  exact yV
 ·rintro c1 Wc ⟨hbu,hm,hc0⟩ hD
  rw[List.take_of_length_le (by simp),hX]at hm
  have hbn:b≠n:=jo h3.box h3.nm
  gi_wp2
  refine⟨by simp,.inl ⟨_,_,rfl,run_takeDeferred hD,?_⟩⟩
  have hfin:But (one w3.heap.size) Wc (Wc.putObj w3.heap.size (.deferred none)):=But.putObj _
  have hbs:=hbu.size
  have mG:=(Array.getElem?_eq_some_iff.1 h3.box).1
  have aga:=h3.em.lt
  have anh:=h3.nm.lt
  have agb:=h3.pm.lt
  have hall:But (aW b n e p) w Wc:=Aw.trans (hbu.mono fun k hk=>.inr (.inl hk))
  refine⟨.tuple #[],by simp[results,Tryz.f73,go_sem],rfl,hall.past hfin (fun j hj=>by have:j=_:=hj;omega),?_,?_,?_,?_,h.ne⟩
  ·exact(hfin.block b (by omega) (bU (by omega))).trans ((hbu.block b mG (bU hbn)).trans h3.box)
  ·exact hm.at (hfin.block n hm.lt (bU (by omega)))
  ·exact h3.em.at ((hfin.block e (by omega) (bU (by omega))).trans (hbu.block e aga (bU (fun e'=>h.ne.1 e'.symm))))
  ·exact h3.pm.at ((hfin.block p (by omega) (bU (by omega))).trans (hbu.block p agb (bU (fun e'=>h.ne.2.1 e'.symm))))
 ·intro c c1 k Wc hf
  exact hf.elim
end Go.Proofs.YtpfifochimkpfaaGreatDoor
