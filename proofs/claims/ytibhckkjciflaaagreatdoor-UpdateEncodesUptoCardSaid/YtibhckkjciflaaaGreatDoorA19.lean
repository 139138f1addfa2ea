/- A part of the proof. -/
import Derived.Test.YtibhckkjciflaaaGreatDoorA18
set_option maxRecDepth 100000
set_option maxHeartbeats 8000000
namespace Go.WW
open Go.RowKit
theorem abU{l:List (List UInt8)}{k:Nat}(h:k<l.length){M:List UInt8}(hM:M=(l.take k).flatten):(l.take (k+1)).flatten=M++l[k]:=by rw[Et h,hM]
def RH(l:List (List UInt8))(x:World)(i:Nat)(cs:Array Value):Prop:=∃v,cs=#[v]∧∃p,∃s:Sl,l[i]?=some p∧v=.slice s.a p.length s.cap∧BytesAt x s.a p
structure fE(T:TypeId)(W wr:World)(so:Sl)(l:List (List UInt8)):Prop where
 b:Below W.heap.size W wr
 c:∃rows:List (Array Value),rows.length=l.length∧jB T 1 (RH l) wr W.heap.size so rows
theorem fE.none(T:TypeId){W wr:World}(h:Below W.heap.size W wr):fE T W wr ⟨Option.none,0⟩ []:=⟨h,[],rfl,jB.nil T 1 (RH []) W W.heap.size |> fun c=>⟨Own.nil _ _ _ _,fun i hi=>by simp at hi⟩⟩
theorem RH.more{l:List (List UInt8)}{x:World}{i:Nat}{cs:Array Value}(p:List UInt8)(h:RH l x i cs):RH (l++[p]) x i cs:=by
 obtain⟨v,h1,q,s,h2,h3⟩:=h
 have hi:i<l.length:=(List.getElem?_eq_some_iff.1 h2).1
 exact⟨v,h1,q,s,by rw[List.getElem?_append_left hi];exact h2,h3⟩
theorem fE.kept{T:TypeId}{W wr w':World}{so:Sl}{l:List (List UInt8)}(h:fE T W wr so l)(hb:Below wr.heap.size wr w'):fE T W w' so l:=by
 obtain⟨rows,h1,h2⟩:=h.c
 refine⟨af h.b hb,rows,h1,h2.own.kept fun g hg=>hb.block g (h2.own.base hg).2,fun i hi=>(h2.each i hi).to (fun k hk=>hb.block k hk.2.1) (fun k hk=>⟨hk.1,Nat.lt_of_lt_of_le hk.2.1 hb.size,hk.2.2⟩)⟩
theorem fE.hist{T:TypeId}{W wr:World}{so:Sl}{l:List (List UInt8)}(h:fE T W wr so l)(hl:l.length≤lim):bg wr (fresh W.heap.size wr) (fun x=>dH x so.a l):=by
 obtain⟨rows,h1,h2⟩:=h.c
 exact fun x hx=>eu.lQ (h2.own.fresh hx) h1 hl (fun i hi=>(h2.each i hi) x (fun k hk=>hx k ⟨hk.1,hk.2.1⟩))
theorem lg{P:Program}{ops:Array Oper}{rest:List Oper}{o:Oper}{a:Act}{w2:World}{Q:Exit→Act→World→Prop}(hgd:o.guard=Option.none)(x y:Operand)(t:TypeId)(ho:o.op=.call {callee:=.builtin .append,args:=#[x,y],argTypes:=#[t,t]})
  {T T':TypeId} (he:ik P t T 1 24) {W wr:World} {s s':Sl} {l L:List (List UInt8)} {p:List UInt8} (h:fE T W wr s l) (hb:Below wr.heap.size wr w2) (hd:bg w2 (fresh wr.heap.size w2) (fun x=>BytesAt x s'.a p))
  {n:Nat} (hx:a.eval x=.slice s.a n s.cap) (hn:n=l.length) {k c:Nat} (hy:a.eval y=.slice (some ⟨k,0,Option.none⟩) 1 c) (hk:k=w2.heap.size) (hL:L=l++[p]) (hlen:L.length≤1000000)
  (hK:∀(s3:Sl) w3,fE T W w3 s3 L→wpList P ops Q rest (a.put o.dst (.slice s3.a L.length s3.cap)) w3):wpList P ops Q (o::rest) a (w2.alloc (.cells #[.slice s'.a p.length s'.cap] T')):=by
 subst hn hk hL
 obtain⟨rows,hr,hC⟩:=h.c
 rw[List.length_append,List.length_singleton]at hlen hK
 have hown:=hC.carry hb (.cells #[.slice s'.a p.length s'.cap] T')
 refine kZ hgd x y t ho he hx hr.symm hown hy rfl (eF.new w2 #[.slice s'.a p.length s'.cap] T' 1 (by simp) (by simp[dG,Value.oneCell'])) (by rw[hr];simp;omega) (by have h1:=h.b.size;have h2:=hb.size;simp;omega) ?_
 intro s3 w3 hown3 hg3 jh
 refine hK s3 w3 ⟨?_,_,?_,jB.step (R:=RH (l++[p])) ⟨hC.own,fun i hi=>?_⟩ (Below.refl _ _) hb (o:=.cells #[.slice s'.a p.length s'.cap] T') (fun x hx=>⟨_,rfl,p,s',by rw[hr];simp,rfl,hd x hx⟩) hown3 hg3 jh h.b.size⟩
 ·exact AV hC h.b (Below.refl _ _) hb hg3
 ·simp[hr]
 ·exact fun x hx=>(hC.each i hi x hx).more p
theorem dH.lit{w:World}{k:Nat}(items:List (Sl×List UInt8)){cs:Array Value}{t:TypeId}(hk:k=w.heap.size)(hcs:cs=(items.map fun x=>Value.slice x.1.a x.2.length x.1.cap).toArray)(hb:∀x∈items,BytesAt w x.1.a x.2)(hl:items.length≤lim) :
  dH (w.alloc (.cells cs t)) (some ⟨k,0,Option.none⟩) (items.map (·.2)):=by
 subst hk hcs
 refine⟨by simpa using hl,fun i hi=>?_⟩
 have hi':i<items.length:=by simpa using hi
 refine⟨w.heap.size,0,.slice items[i].1.a items[i].2.length items[i].1.cap,rfl,?_,items[i].2,items[i].1,by simp[hi'],rfl,(hb _ (List.getElem_mem hi')).later (az (Below.refl _ _) _)⟩
 rw[cell_of_row _ _ _ _ _ _ (World.alloc_heap_new _ _)]
 simp[hi']
structure Ps(W w:World)(items:List (Sl×List UInt8)):Prop where
 b:Below W.heap.size W w
 at_:∀x∈items,BytesAt w x.1.a x.2
theorem Ps.mid{W w w':World}{items:List (Sl×List UInt8)}(h:Ps W w items)(hb:Below w.heap.size w w'):Ps W w' items:=⟨af h.b hb,fun x hx=>(h.at_ x hx).later hb⟩
theorem Ps.add{W w w':World}{items:List (Sl×List UInt8)}(h:Ps W w items)(hb:Below w.heap.size w w'){s:Sl}{l:List UInt8}(hB:BytesAt w' s.a l):Ps W w' (items++[(s,l)]):=
 ⟨af h.b hb,fun x hx=>by
  rcases List.mem_append.1 hx with hx|hx
  ·exact(h.at_ x hx).later hb
  ·simp only[List.mem_cons,List.not_mem_nil,or_false]at hx;subst hx;exact hB⟩
end Go.WW
namespace Go.Proofs.YtibhckkjciflaaaGreatDoor
open Go.RowKit Go.WW
theorem lU(a:Option Addr)(cap:Nat)(l:List (List UInt8))(w:World)(h:dH w a l)(hn:l.flatten.length≤1000000):Calls Tryz.prog 52 #[.slice a l.length cap] w (aU w (dE l)):=by
 have hpl:l.length≤4294967000:=h.1
 have HS:=Lib.hid (show dE l=tlv 48 l.flatten from rfl)
 rw[HS.out]
 rcases eu.addr h with h0|⟨b,o,rfl,hb⟩
 ·obtain rfl:l=[]:=List.eq_nil_of_length_eq_zero h0
  go_enter Tryz.func52,Tryz.ntmps52
  go_wp2_with fail
  refine wp_loop_rounds 1 ?_
  rw[rounds_succ]
  go_wp2_with fail
  refine(qZ 48 48 _ 0 [] _ rfl (by exact⟨by simp[lim],fun i hi=>by simp at hi⟩) (by simp)).mono ?_
  rintro e w4 ⟨s4,rfl,hb4,hB4⟩
  go_wp2_with fail
  go_ret
  exact⟨s4,rfl,hb4,hB4⟩
 ·go_enter Tryz.func52,Tryz.ntmps52
  go_wp2_with fail
  go_loopw [3,4] (fun bv iv wr=>∃(k:Nat) (sb:Sl) (M:List UInt8),k≤l.length∧iv=.int .i64 k∧bv=.slice sb.a M.length sb.cap∧gz 5 w wr sb M∧Hid (M=(l.take k).flatten)) (fun _ i _=>l.length-(intOf i).toNat)
  case atStart=>exact⟨0,⟨none,0⟩,[],Nat.zero_le _,rfl,rfl,gz.none _ (Below.refl _ _),rfl⟩
  case round=>
   obtain⟨k,sb,M,hk,rfl,rfl,hR,HM⟩:=hrel
   by_cases hlt:k<l.length
   ·obtain⟨s,hc,hbk⟩:=(h.later hR.b).at k hlt
    obtain⟨M',hM'⟩:∃M',M'=(l.take (k+1)).flatten:=⟨_,rfl⟩
    have HA:=Lib.hid (show M'=M++l[k] by rw[hM',abU hlt HM.out])
    have yB:M'.length≤100000000:=by have:=Jm l (k+1);rw[hM'];omega
    have yC:=Lib.hid hM'
    clear hM'
    go_wp2_with (at_builtin;refine ji (L:=M') rfl _ _ _ rfl gy b8 hR rfl rfl rfl rfl hbk HA.out yB ?_;intro s3 w3 iD)
    go_roundw
    case rel=>exact⟨k+1,s3,M',by omega,by go_num,rfl,iD,yC.out⟩
    case measure=>simp[intOf];omega
   ·have HE:=Lib.hid (show M=l.flatten by rw[HM.out,List.take_of_length_le (by omega)])
    rw[←HE.out]at hn ⊢
    have rf:=hR.bytes (by unfold lim;omega)
    go_wp2_with fail
    refine(qZ 48 48 _ _ M _ rfl rf hn).mono ?_
    intro e w4 h4
    obtain⟨s4,rfl,hb4,hB4⟩:=aU.from h4 hR.b
    clear hR rf
    go_wp2_with fail
    go_ret
    rw[←HE.out]
    exact⟨s4,rfl,hb4,hB4⟩
theorem abV(v:Nat)(w:World):Calls Tryz.prog 112 #[.int .i64 v] w (aU w (qg v)):=by
 have hl:=jS 4 v
 obtain⟨D,hD⟩:∃D,D=ed v 4:=⟨_,rfl⟩
 have HT:=Lib.hid (show qg v=tlv 3 ([0]++D) by rw[hD];rfl)
 rw[HT.out]
 obtain⟨M,hM⟩:∃M,M=[0]++D:=⟨_,rfl⟩
 have HM:=Lib.hid hM
 have yB:M.length≤5:=by rw[hM,hD];simp[hl]
 rw[←hM]
 have HD:=Lib.hid hD
 have hR0:=gz.lit (T:=5) (Below.refl _ w) [0] (cs:=#[.int .u8 0]) rfl (by simp)
 clear hM hD hl
 go_enter Tryz.func112,Tryz.ntmps112
 go_wp2_with fail
 refine(Qa v 4 _ (by decide)).mono ?_
 rw[←HD.out]
 intro e w1 h1
 obtain⟨s1,rfl,hb1,hB1⟩:=h1
 go_wp2_with (at_builtin;refine ji (L:=M) rfl _ _ _ rfl gy b8 (hR0.later hb1) (n:=1) rfl rfl rfl rfl hB1.out HM.out (by omega) ?_;intro s3 w3 iD)
 refine(qZ 3 3 _ _ M _ rfl (iD.bytes (by unfold lim;omega)) (by omega)).mono ?_
 intro e w4 h4
 obtain⟨s4,rfl,hb4,hB4⟩:=aU.from h4 iD.b
 clear hR0 iD hB1 hb1
 go_wp2_with fail
 go_ret
 exact⟨s4,rfl,hb4,hB4⟩
theorem Eu(s:Sl)(p:aG)(w:World)(hp:gu w s p)(hok:aY p=true):Calls Tryz.prog 51 #[.agg (aJ s p)] w (aU w (bP p)):=by
 obtain⟨hpn,hps,hpr⟩:=Au hok
 have hp0:0<p.parts.length:=List.length_pos_iff.2 (yz hok)
 have hB0:Below w.heap.size w (w.alloc (.cells (aJ s p) 25)):=az (Below.refl _ _) _
 obtain⟨sa,scap⟩:=s
 obtain⟨b,o,ha,-,-⟩:=hp.1.get 0 hp0
 dsimp only at ha
 subst ha
 have hpL:=(hp.later hB0).1
 have HS:=Lib.hid hps
 have hcR:(w.alloc (.cells (aJ ⟨some ⟨b,o,none⟩,scap⟩ p) 25)).cell? ⟨w.heap.size,1,none⟩=some (.string p.aQ):=by simp[go_sem]
 have hrow:row? (w.alloc (.cells (aJ ⟨some ⟨b,o,none⟩,scap⟩ p) 25)) w.heap.size 0 2=some (aJ ⟨some ⟨b,o,none⟩,scap⟩ p):=XJ rfl (by simp[aJ])
 go_enter Tryz.func51,Tryz.ntmps51
 go_wp2_with fail
 have hW:w.heap.size<(w.alloc (.cells (aJ ⟨some ⟨b,o,none⟩,scap⟩ p) 25)).heap.size:=by simp
 have hc0:(w.alloc (.cells (aJ ⟨some ⟨b,o,none⟩,scap⟩ p) 25)).cell? ⟨w.heap.size,0,none⟩=some (.slice (some ⟨b,o,none⟩) p.parts.length scap):=by simp[go_sem]
 generalize w.alloc (.cells (aJ ⟨some ⟨b,o,none⟩,scap⟩ p) 25)=W0 at *
 go_loopw [3,4] (fun bv iv wr=>∃(k:Nat) (so:Sl) (L:List (List UInt8)),k≤p.parts.length∧iv=.int .i64 k∧bv=.slice so.a L.length so.cap∧fE 41 W0 wr so L∧Hid (L=(p.parts.take k).map bM)) (fun _ i _=>p.parts.length-(intOf i).toNat)
 case atStart=>exact⟨0,⟨none,0⟩,[],Nat.zero_le _,rfl,rfl,fE.none _ (Below.refl _ _),rfl⟩
 case round=>
  obtain⟨k,so,L,hk,rfl,rfl,hH,HL⟩:=hrel
  obtain⟨hcc,ax,hrr⟩:=aK hH.b
  have yE:L.length=k:=by rw[HL.out];simp;omega
  have Ew:=Lib.hid yE
  have hw0:wr.cell? ⟨w.heap.size,0,none⟩=some (.slice (some ⟨b,o,none⟩) p.parts.length scap):=(hcc _ _ hW).trans hc0
  have hw1:wr.cell? ⟨w.heap.size,1,none⟩=some (.string p.aQ):=(hcc _ _ hW).trans hcR
  have hwl:w.heap.size<wr.heap.size:=World.block_lt_of_cell? wr _ hw1
  clear yE hcc ax hrr
  by_cases hlt:k<p.parts.length
  ·obtain⟨hck,hsk⟩:=(hpL.later hH.b).at k hlt
   have hbb:b<wr.heap.size:=World.block_lt_of_cell? wr _ hck
   have hsz:p.parts[k].size≤32:=HS.out _ (List.getElem_mem hlt)
   obtain⟨L',hL'⟩:∃L',L'=(p.parts.take (k+1)).map bM:=⟨_,rfl⟩
   obtain⟨x,hx⟩:∃x,x=bM p.parts[k]:=⟨_,rfl⟩
   have HA:=Lib.hid (show L'=L++[x] by rw[hL',HL.out,hx,List.take_succ_eq_append_getElem hlt,List.map_append];rfl)
   have hLn:L'.length≤1000000:=by rw[hL',List.length_map,List.length_take];omega
   have jC:=Lib.hid hL'
   have HX:=Lib.hid hx
   clear hL' hx
   go_wp2_with fail
   refine(yD _ _ (Nat.le_trans hsz (by decide))).mono ?_
   rw[←HX.out]
   rintro e w2 ⟨s2,rfl,hb2,hd2⟩
   go_wp2_with (at_builtin;refine lg (L:=L') rfl _ _ _ rfl jM hH hb2 hd2 rfl rfl rfl rfl HA.out hLn ?_;intro s3 w3 hH3)
   go_roundw
   case rel=>exact⟨k+1,s3,L',by omega,by go_num,rfl,hH3,jC.out⟩
   case measure=>simp[intOf];omega
  ·have HE:=Lib.hid (show L=p.parts.map bM by rw[HL.out,List.take_of_length_le (by omega)])
   have hh:=hH.hist (by unfold lim;rw[Ew.out];omega)
   have hfl:=IL hok
   rw[←HE.out]at hfl
   have hT1:(dE L).length≤1000000:=by have:=qh L;omega
   have hT2:(bM p.aQ).length≤1000000:=by have:=qU p.aQ;omega
   have Jp:[aB 0 (dE L),aB 1 (bM p.aQ)].flatten.length≤1000000:=by
    have h1:=IM hok
    rw[←HE.out]at h1
    simp only[bU]at h1
    exact Nat.le_trans h1 (by decide)
   go_wp2_with fail
   refine jr (Below.refl _ wr) (by kernel_rfl) (by kernel_rfl) ?_
   intro w1 hb1
   repeat (first|(refine ah (by rfl) ?_)|(refine ai (by rfl) (by rfl) (fun K hK=>?_);go_big_quiet_op;refine hK _ ?_;clear hK K))
   refine au (by rfl) (by rfl) (fun K hK=>?_)
   go_wp2_with fail
   refine(lU _ _ L _ (hh.out.later hb1) (by omega)).mono ?_
   rintro e w2 ⟨s2,rfl,hb2,hd2⟩
   have hb2':=af hb1 hb2
   refine hK _ _ (ak hb2') ?_
   clear hK K
   repeat (first|(refine ah (by rfl) ?_)|(refine ai (by rfl) (by rfl) (fun K hK=>?_);go_big_quiet_op;refine hK _ ?_;clear hK K))
   refine au (by rfl) (by rfl) (fun K hK=>?_)
   go_wp2_with fail
   refine(eU 0 0 _ _ (dE L) _ rfl (by decide) hd2.out hT1).mono ?_
   rintro e w3 ⟨s3,rfl,hb3,hd3⟩
   have AX:=af hb2' hb3
   refine hK _ _ (ak AX) ?_
   clear hK K
   repeat (first|(refine ah (by rfl) ?_)|(refine ai (by rfl) (by rfl) (fun K hK=>?_);go_big_quiet_op;refine hK _ ?_;clear hK K))
   refine au (by rfl) (by rfl) (fun K hK=>?_)
   go_wp2_with fail
   refine(yD _ _ (Nat.le_trans hpr (by decide))).mono ?_
   rintro e w4 ⟨s4,rfl,hb4,hd4⟩
   have AY:=af AX hb4
   refine hK _ _ (ak AY) ?_
   clear hK K
   repeat (first|(refine ah (by rfl) ?_)|(refine ai (by rfl) (by rfl) (fun K hK=>?_);go_big_quiet_op;refine hK _ ?_;clear hK K))
   refine au (by rfl) (by rfl) (fun K hK=>?_)
   go_wp2_with fail
   refine(eU 1 1 _ _ (bM p.aQ) _ rfl (by decide) hd4.out hT2).mono ?_
   rintro e w5 ⟨s5,rfl,hb5,hd5⟩
   have rq:=af AY hb5
   refine hK _ _ (ak rq) ?_
   clear hK K
   repeat (first|(refine ah (by rfl) ?_)|(refine ai (by rfl) (by rfl) (fun K hK=>?_);go_big_quiet_op;refine hK _ ?_;clear hK K))
   refine au (by rfl) (by rfl) (fun K hK=>?_)
   go_wp2_with fail
   refine hK _ _ (ak (az rq _)) ?_
   clear hK K
   repeat (first|(refine ah (by rfl) ?_)|(refine ai (by rfl) (by rfl) (fun K hK=>?_);go_big_quiet_op;refine hK _ ?_;clear hK K))
   refine au (by rfl) (by rfl) (fun K hK=>?_)
   go_wp2_with fail
   refine(lU _ _ [aB 0 (dE L),aB 1 (bM p.aQ)] _ (dH.lit [(s3,aB 0 (dE L)),(s5,aB 1 (bM p.aQ))] rfl rfl (fun x hx=>?_) (by simp[lim])) Jp).mono ?_
   ·simp only[List.mem_cons,List.not_mem_nil,or_false]at hx
    rcases hx with rfl|rfl
    ·exact(hd3.out.later hb4).later hb5
    ·exact hd5.out
   rintro e w6 ⟨s6,rfl,hb6,hd6⟩
   have Jq:=af (az rq _) hb6
   have HB:=Lib.hid (aU.from (W:=w) ⟨s6,rfl,hb6,hd6⟩ (af (af hB0 hH.b) (az rq _)))
   have HP:=Lib.hid (show bP p=dE [aB 0 (dE L),aB 1 (bM p.aQ)] by rw[HE.out];rfl)
   clear hb2 hd2 hb3 hd3 hb4 hd4 hb5 hd5 hb6 hd6 hH hh
   refine hK _ _ (ak Jq) ?_
   clear hK K
   repeat (first|(refine ah (by rfl) ?_)|(refine ai (by rfl) (by rfl) (fun K hK=>?_);go_big_quiet_op;refine hK _ ?_;clear hK K))
   refine iH ?_
   go_wp2_with fail
   go_ret
   rw[HP.out]
   exact HB.out
end Go.Proofs.YtibhckkjciflaaaGreatDoor
namespace Go.WW
open Go.RowKit
end Go.WW
namespace Go.Proofs.YtibhckkjciflaaaGreatDoor
open Go.RowKit Go.WW
theorem ru(v:Int)(w:World)(h0:0≤v)(hv:v<4611686018427387904):Calls Tryz.prog 45 #[.int .i64 v] w (aU w (aA v.toNat)):=by
 have:=abM v.toNat w (by omega)
 rwa[Int.toNat_of_nonneg h0]at this
theorem AZ(v:Int)(w:World)(h0:0≤v):Calls Tryz.prog 46 #[.int .i64 v] w (aU w (bf v.toNat)):=by
 have:=abO v.toNat w
 rwa[Int.toNat_of_nonneg h0]at this
theorem rC{S:Nat→Prop}(c:Bool)(s:Sl)(l l':List UInt8)(w:World)(h:bg w S fun x=>BytesAt x s.a l)(hl:l'=cond c [] l):Calls Tryz.prog 114 #[.bool c,.slice s.a l.length s.cap] w fun e w'=>∃s':Sl,e=.returned (.slice s'.a l'.length s'.cap)∧w=w'∧bg w S fun x=>BytesAt x s'.a l':=by
 refine(abP c _ w).mono ?_
 rintro e w' ⟨rfl,rfl⟩
 cases c
 ·subst hl;exact⟨s,rfl,rfl,h⟩
 ·subst hl;exact⟨⟨none,0⟩,rfl,rfl,fun _ _=>⟨by simp[lim],fun i hi=>by simp at hi⟩⟩
theorem abW(s:Sl)(k:Key)(w:World)(hk:iR w s k)(hf:vX k):Calls Tryz.prog 157 #[.agg (bG s k)] w (aU w (dM k)):=by
 have hfl:=IP hf
 obtain⟨h1,h2,h3⟩:=hf
 have e1:=jd (v:=k.profile.toNat) (k:=1) (by decide) (by simp;omega)
 have e2:=jd (v:=k.version.toNat) (k:=3) (by decide) (by simp;omega)
 have e3:=tN k.bytes
 have hB0:Below w.heap.size w (w.alloc (.cells (bG s k) 151)):=az (Below.refl _ _) _
 have pF:BytesAt (w.alloc (.cells (bG s k) 151)) s.a k.bytes:=BytesAt.later hB0 hk
 have HK:=Lib.hid (show dM k=dE [aB 0 (aA k.profile.toNat),aB 1 (aA k.version.toNat),aB 2 (dP k.bytes)] from rfl)
 simp only[bU]at hfl
 rw[HK.out]
 go_enter Tryz.func157,Tryz.ntmps157
 go_wp2_with fail
 refine jr (Below.refl _ (w.alloc (.cells (bG s k) 151))) (by kernel_rfl) (by kernel_rfl) ?_
 intro v0 hv0
 have hP0:Ps (w.alloc (.cells (bG s k) 151)) v0 []:=⟨hv0,by simp⟩
 repeat (first|(refine ah (by rfl) ?_)|(refine ai (by rfl) (by rfl) (fun K hK=>?_);go_big_quiet_op;refine hK _ ?_;clear hK K))
 refine au (by rfl) (by rfl) (fun K hK=>?_)
 go_wp2_with fail
 refine(ru _ _ h1.1 (by omega)).mono ?_
 rintro e v1 ⟨s1,rfl,hb1,hd1⟩
 have hP1:=hP0.mid hb1
 refine hK _ _ (ak hP1.b) ?_
 clear hK K
 repeat (first|(refine ah (by rfl) ?_)|(refine ai (by rfl) (by rfl) (fun K hK=>?_);go_big_quiet_op;refine hK _ ?_;clear hK K))
 refine au (by rfl) (by rfl) (fun K hK=>?_)
 go_wp2_with fail
 refine(eU 0 0 _ _ _ _ rfl (by decide) hd1.out (by omega)).mono ?_
 rintro e v2 ⟨s2,rfl,hb2,hd2⟩
 have hP2:=hP1.add hb2 hd2.out
 refine hK _ _ (ak hP2.b) ?_
 clear hK K
 repeat (first|(refine ah (by rfl) ?_)|(refine ai (by rfl) (by rfl) (fun K hK=>?_);go_big_quiet_op;refine hK _ ?_;clear hK K))
 refine au (by rfl) (by rfl) (fun K hK=>?_)
 go_wp2_with fail
 refine(ru _ _ h2.1 (by omega)).mono ?_
 rintro e v3 ⟨s3,rfl,hb3,hd3⟩
 have hP3:=hP2.mid hb3
 refine hK _ _ (ak hP3.b) ?_
 clear hK K
 repeat (first|(refine ah (by rfl) ?_)|(refine ai (by rfl) (by rfl) (fun K hK=>?_);go_big_quiet_op;refine hK _ ?_;clear hK K))
 refine au (by rfl) (by rfl) (fun K hK=>?_)
 go_wp2_with fail
 refine(eU 1 1 _ _ _ _ rfl (by decide) hd3.out (by omega)).mono ?_
 rintro e v4 ⟨s4,rfl,hb4,hd4⟩
 have fK:=hP3.add hb4 hd4.out
 refine hK _ _ (ak fK.b) ?_
 clear hK K
 repeat (first|(refine ah (by rfl) ?_)|(refine ai (by rfl) (by rfl) (fun K hK=>?_);go_big_quiet_op;refine hK _ ?_;clear hK K))
 refine au (by rfl) (by rfl) (fun K hK=>?_)
 go_wp2_with fail
 refine(Jo _ _ k.bytes _ (pF.later fK.b) (by omega)).mono ?_
 rintro e v5 ⟨s5,rfl,hb5,hd5⟩
 have fZ:=fK.mid hb5
 refine hK _ _ (ak fZ.b) ?_
 clear hK K
 repeat (first|(refine ah (by rfl) ?_)|(refine ai (by rfl) (by rfl) (fun K hK=>?_);go_big_quiet_op;refine hK _ ?_;clear hK K))
 refine au (by rfl) (by rfl) (fun K hK=>?_)
 go_wp2_with fail
 refine(eU 2 2 _ _ _ _ rfl (by decide) hd5.out (by omega)).mono ?_
 rintro e v6 ⟨s6,rfl,hb6,hd6⟩
 have jW:=fZ.add hb6 hd6.out
 refine hK _ _ (ak jW.b) ?_
 clear hK K
 repeat (first|(refine ah (by rfl) ?_)|(refine ai (by rfl) (by rfl) (fun K hK=>?_);go_big_quiet_op;refine hK _ ?_;clear hK K))
 refine au (by rfl) (by rfl) (fun K hK=>?_)
 go_wp2_with fail
 refine hK _ _ (ak (az jW.b _)) ?_
 clear hK K
 repeat (first|(refine ah (by rfl) ?_)|(refine ai (by rfl) (by rfl) (fun K hK=>?_);go_big_quiet_op;refine hK _ ?_;clear hK K))
 refine au (by rfl) (by rfl) (fun K hK=>?_)
 go_wp2_with fail
 refine(lU _ _ [aB 0 (aA k.profile.toNat),aB 1 (aA k.version.toNat),aB 2 (dP k.bytes)] _ (dH.lit _ rfl rfl jW.at_ (by simp[lim])) (Nat.le_trans hfl (by decide))).mono ?_
 rintro e v7 ⟨s7,rfl,hb7,hd7⟩
 have HB:=Lib.hid (aU.from (W:=w) ⟨s7,rfl,hb7,hd7⟩ (af hB0 (az jW.b _)))
 have abX:=af (az jW.b _) hb7
 clear hP0 hP1 hP2 hP3 fK fZ jW hd1 hd2 hd3 hd4 hd5 hd6 hd7 hb1 hb2 hb3 hb4 hb5 hb6 hb7
 refine hK _ _ (ak abX) ?_
 clear hK K
 repeat (first|(refine ah (by rfl) ?_)|(refine ai (by rfl) (by rfl) (fun K hK=>?_);go_big_quiet_op;refine hK _ ?_;clear hK K))
 refine iH ?_
 go_wp2_with fail
 go_ret
 exact HB.out
theorem Qe{v:Int}(h0:0≤v):fC v.toNat=cond (v == 0) [] (aA v.toNat):=by
 unfold fC
 by_cases h:v=0
 ·subst h;rfl
 ·rw[if_neg (by omega),show(v == 0)=false by simpa using h];rfl
theorem abY{v:Int}(h0:0≤v):iK v.toNat=cond (v == 0) [] (bf v.toNat):=by
 unfold iK
 by_cases h:v=0
 ·subst h;rfl
 ·rw[if_neg (by omega),show(v == 0)=false by simpa using h];rfl
theorem Ey(v:Int)(w:World)(h0:0≤v)(hv:v<4611686018427387904):Calls Tryz.prog 113 #[.int .i64 v] w (aU w (fC v.toNat)):=by
 have hc:=Lib.hid (Qe h0)
 go_enter Tryz.func113,Tryz.ntmps113
 go_wp2_with fail
 refine(ru _ _ h0 hv).mono ?_
 rintro e w1 ⟨s1,rfl,hb1,hd1⟩
 go_wp2_with fail
 refine(rC _ s1 _ (fC v.toNat) _ hd1 hc.out).mono ?_
 rintro e w2 ⟨s2,rfl,rfl,hd2⟩
 go_wp2_with fail
 go_ret
 exact⟨s2,rfl,hb1,hd2⟩
theorem Ez(v:Int)(w:World)(h0:0≤v):Calls Tryz.prog 115 #[.int .i64 v] w (aU w (iK v.toNat)):=by
 have hc:=Lib.hid (abY h0)
 go_enter Tryz.func115,Tryz.ntmps115
 go_wp2_with fail
 refine(AZ _ _ h0).mono ?_
 rintro e w1 ⟨s1,rfl,hb1,hd1⟩
 go_wp2_with fail
 refine(rC _ s1 _ (iK v.toNat) _ hd1 hc.out).mono ?_
 rintro e w2 ⟨s2,rfl,rfl,hd2⟩
 go_wp2_with fail
 go_ret
 exact⟨s2,rfl,hb1,hd2⟩
theorem Jr(l:List (List UInt8)):bW l=cond ((l.length:Int) == 0) [] (dE l):=by
 unfold bW
 by_cases h:l.length=0
 ·rw[if_pos h,show((l.length:Int) == 0)=true from beq_iff_eq.2 (by omega)];rfl
 ·rw[if_neg h,show((l.length:Int) == 0)=false from beq_eq_false_iff_ne.2 (by omega)];rfl
theorem rE{α β:Type}(f:α→β){l:List α}{k:Nat}(h:k<l.length){L:List β}(hL:L=(l.take k).map f):(l.take (k+1)).map f=L++[f l[k]]:=by
 rw[List.take_succ_eq_append_getElem h,List.map_append,hL];rfl
theorem rF{α β:Type}(f:α→β){l:List α}{k:Nat}(h:¬k<l.length):(l.take k).map f=l.map f:=by rw[List.take_of_length_le (by omega)]
theorem Js(a:Option Addr)(cap:Nat)(l:List aG)(w:World)(h:fH w a l)(hok:(∀p∈l,aY p=true)∧l.length≤16):Calls Tryz.prog 111 #[.slice a l.length cap] w (aU w (bW (l.map bP))):=by
 rcases cu.addr h with h0|⟨b,o,rfl,hb⟩
 ·obtain rfl:l=[]:=List.eq_nil_of_length_eq_zero h0
  go_enter Tryz.func111,Tryz.ntmps111
  go_wp2_with fail
  refine wp_loop_rounds 1 ?_
  rw[rounds_succ]
  go_wp2_with fail
  refine(lU none 0 [] _ ⟨by simp[lim],fun i hi=>by simp at hi⟩ (by simp)).mono ?_
  rintro e w1 ⟨s1,rfl,hb1,hd1⟩
  go_wp2_with fail
  refine(rC _ s1 _ [] _ hd1 rfl).mono ?_
  rintro e w2 ⟨s2,rfl,rfl,hd2⟩
  go_wp2_with fail
  go_ret
  exact⟨s2,rfl,hb1,hd2⟩
 ·have HK:=Lib.hid hok
  have hfl:=map_le (f:=bP) (m:=205) (n:=16) (l:=l) (fun p hp=>qW (hok.1 p hp)) hok.2
  have hn:=hok.2
  clear hok
  go_enter Tryz.func111,Tryz.ntmps111
  go_wp2_with fail
  go_loopw [3,4] (fun bv iv wr=>∃(k:Nat) (so:Sl) (L:List (List UInt8)),k≤l.length∧iv=.int .i64 k∧bv=.slice so.a L.length so.cap∧fE 41 w wr so L∧Hid (L=(l.take k).map bP)) (fun _ i _=>l.length-(intOf i).toNat)
  case atStart=>exact⟨0,⟨none,0⟩,[],Nat.zero_le _,rfl,rfl,fE.none _ (Below.refl _ _),rfl⟩
  case round=>
   obtain⟨k,so,L,hk,rfl,rfl,hH,HL⟩:=hrel
   by_cases hlt:k<l.length
   ·obtain⟨t,hrow,hp⟩:=(h.later hH.b).at k hlt
    obtain⟨L',hL'⟩:∃L',L'=(l.take (k+1)).map bP:=⟨_,rfl⟩
    obtain⟨x,hx⟩:∃x,x=bP l[k]:=⟨_,rfl⟩
    have HA:=Lib.hid (show L'=L++[x] by rw[hL',hx,rE _ hlt HL.out])
    have hLn:L'.length≤1000000:=by rw[hL',List.length_map,List.length_take];omega
    have jC:=Lib.hid hL'
    have HX:=Lib.hid hx
    clear hL' hx
    go_wp2_with fail
    refine(Eu t l[k] _ hp (HK.out.1 _ (List.getElem_mem hlt))).mono ?_
    rw[←HX.out]
    rintro e w2 ⟨s2,rfl,hb2,hd2⟩
    go_wp2_with (at_builtin;refine lg (L:=L') rfl _ _ _ rfl jM hH hb2 hd2 rfl rfl rfl rfl HA.out hLn ?_;intro s3 w3 hH3)
    go_roundw
    case rel=>exact⟨k+1,s3,L',by omega,by go_num,rfl,hH3,jC.out⟩
    case measure=>simp[intOf];omega
   ·have HE:=Lib.hid (show L=l.map bP by rw[HL.out,rF _ hlt])
    rw[←HE.out]at hfl ⊢
    have hll:L.length=l.length:=by rw[HE.out,List.length_map]
    have hh:=hH.hist (by unfold lim;omega)
    have HC:=Lib.hid (show bW L=cond ((l.length:Int) == 0) [] (dE L) by rw[←hll];exact Jr L)
    clear hll
    go_wp2_with fail
    refine(lU _ _ L _ hh.out (by omega)).mono ?_
    rintro e w2 ⟨s2,rfl,hb2,hd2⟩
    go_wp2_with fail
    refine(rC _ s2 _ (bW L) _ hd2 HC.out).mono ?_
    rintro e w3 ⟨s3,rfl,rfl,hd3⟩
    have HB:=Lib.hid (aU.from (W:=w) ⟨s3,rfl,hb2,hd3⟩ hH.b)
    rw[HE.out]at HB
    clear hH hh hd2 hd3
    go_wp2_with fail
    go_ret
    rw[HE.out]
    exact HB.out
end Go.Proofs.YtibhckkjciflaaaGreatDoor
namespace Go.WW
open Go.RowKit
theorem Jt(s:ByteArray):jc s=cond s.toList.isEmpty [] (bM s):=by
 have hl:s.toList.length=s.size:=by rw[ByteArray.toList_eq];simp
 unfold jc
 by_cases h:s.size=0
 ·rw[if_pos h,show s.toList=[] from List.eq_nil_of_length_eq_zero (by omega)];rfl
 ·have hne:s.toList.isEmpty=false:=by
   cases hs:s.toList with
   |nil=>rw[hs]at hl;exact absurd hl.symm h
   |cons a l=>rfl
  rw[if_neg h,hne];rfl
end Go.WW
namespace Go.Proofs.YtibhckkjciflaaaGreatDoor
open Go.RowKit Go.WW
theorem abZ(s:Sl)(k:aW)(w:World)(hk:ig w s k)(hf:vY k):Calls Tryz.prog 110 #[.agg (aV s k)] w (aU w (iO k)):=by
 have hfl:=IQ hf
 have e1:=jd (v:=k.version.toNat) (k:=3) (by decide) (by have:=hf.version;simp;omega)
 have e2:=yj (f:=dM) (m:=295) (n:=4) (l:=k.keys) (fun k hk=>Aw (hf.keys k hk)) hf.few.2
 have e2':=map_le (f:=dM) (m:=295) (n:=4) (l:=k.keys) (fun k hk=>Aw (hf.keys k hk)) hf.few.2
 have e3:=DZ k.bF
 have e4:=vS (v:=k.dm.toNat) (k:=3) (by decide) (by have:=hf.dm;simp;omega)
 have e4':=jd (v:=k.dm.toNat) (k:=3) (by decide) (by have:=hf.dm;simp;omega)
 have e5:=nM k.created.toNat
 obtain⟨f1,f2,f3,f4,f5,f6⟩:=hf
 have c3:=Lib.hid (Jt k.bF)
 have c4:=Lib.hid (Qe f5.1)
 have HK:=Lib.hid f2
 have hB0:Below w.heap.size w (w.alloc (.cells (aV s k) 49)):=az (Below.refl _ _) _
 have pF:=jw.later hB0 hk.1
 have hkn:0<k.keys.length:=by omega
 obtain⟨sa,scap⟩:=s
 obtain⟨b,o,t0,ha,-,-⟩:=pF.get 0 hkn
 dsimp only at ha
 subst ha
 have HT:=Lib.hid (show iO k=dE [aB 0 (aA k.version.toNat),aB 1 (bW (k.keys.map dM)),aB 2 (jc k.bF),aB 3 (fC k.dm.toNat),aB 4 (bf k.created.toNat)] from rfl)
 simp only[bU]at hfl
 rw[HT.out]
 go_enter Tryz.func110,Tryz.ntmps110
 go_wp2_with fail
 go_loopw [3,4] (fun bv iv wr=>∃(n:Nat) (so:Sl) (L:List (List UInt8)),n≤k.keys.length∧iv=.int .i64 n∧bv=.slice so.a L.length so.cap∧fE 41 (w.alloc (.cells (aV ⟨some ⟨b,o,none⟩,scap⟩ k) 49)) wr so L∧Hid (L=(k.keys.take n).map dM)) (fun _ i _=>k.keys.length-(intOf i).toNat)
 case atStart=>exact⟨0,⟨none,0⟩,[],Nat.zero_le _,rfl,rfl,fE.none _ (Below.refl _ _),rfl⟩
 case round=>
  obtain⟨n,so,L,hn,rfl,rfl,hH,HL⟩:=hrel
  obtain⟨hcc,ax,hrr⟩:=aK hH.b
  have hwl:w.heap.size<wr.heap.size:=by have:=hH.b.size;simp at this;omega
  by_cases hlt:n<k.keys.length
  ·obtain⟨t,hrow,hp⟩:=(pF.later hH.b).at n hlt
   have hbb:b<wr.heap.size:=kT hrow
   obtain⟨L',hL'⟩:∃L',L'=(k.keys.take (n+1)).map dM:=⟨_,rfl⟩
   obtain⟨x,hx⟩:∃x,x=dM k.keys[n]:=⟨_,rfl⟩
   have HA:=Lib.hid (show L'=L++[x] by rw[hL',hx,rE _ hlt HL.out])
   have hLn:L'.length≤1000000:=by rw[hL',List.length_map,List.length_take];omega
   have jC:=Lib.hid hL'
   have HX:=Lib.hid hx
   clear hL' hx
   go_wp2_with fail
   refine(abW t k.keys[n] _ hp (HK.out _ (List.getElem_mem hlt))).mono ?_
   rw[←HX.out]
   rintro e w2 ⟨s2,rfl,hb2,hd2⟩
   clear hcc ax hrr
   go_wp2_with (at_builtin;refine lg (L:=L') rfl _ _ _ rfl jM hH hb2 hd2 rfl rfl rfl rfl HA.out hLn ?_;intro s3 w3 hH3)
   go_roundw
   case rel=>exact⟨n+1,s3,L',by omega,by go_num,rfl,hH3,jC.out⟩
   case measure=>simp[intOf];omega
  ·have HE:=Lib.hid (show L=k.keys.map dM by rw[HL.out,rF _ hlt])
   have hll:L.length=k.keys.length:=by rw[HE.out,List.length_map]
   have hh:=hH.hist (by unfold lim;omega)
   have HS:=Lib.hid (show bW L=dE L by unfold bW;rw[if_neg (by omega)])
   rw[←HE.out]at hfl e2 e2' HT ⊢
   have Ju:=af hB0 hH.b
   clear hll
   go_wp2_with fail
   refine jr (Below.refl _ wr) (by kernel_rfl) (by kernel_rfl) ?_
   intro v0 hv0
   have hP0:Ps wr v0 []:=⟨hv0,by simp⟩
   repeat (first|(refine ah (by rfl) ?_)|(refine ai (by rfl) (by rfl) (fun K hK=>?_);go_big_quiet_op;refine hK _ ?_;clear hK K))
   refine au (by rfl) (by rfl) (fun K hK=>?_)
   go_wp2_with fail
   refine(ru _ _ f1.1 (by omega)).mono ?_
   rintro e v1 ⟨s1,rfl,hb1,hd1⟩
   have hP1:=hP0.mid hb1
   clear hP0 hb1
   refine hK _ _ (ak hP1.b) ?_
   clear hK K
   repeat (first|(refine ah (by rfl) ?_)|(refine ai (by rfl) (by rfl) (fun K hK=>?_);go_big_quiet_op;refine hK _ ?_;clear hK K))
   refine au (by rfl) (by rfl) (fun K hK=>?_)
   go_wp2_with fail
   refine(eU 0 0 _ _ _ _ rfl (by decide) hd1.out (Nat.le_trans e1 (by decide))).mono ?_
   rintro e v2 ⟨s2,rfl,hb2,hd2⟩
   have hP2:=hP1.add hb2 hd2.out
   clear hP1 hb2 hd1 hd2
   refine hK _ _ (ak hP2.b) ?_
   clear hK K
   repeat (first|(refine ah (by rfl) ?_)|(refine ai (by rfl) (by rfl) (fun K hK=>?_);go_big_quiet_op;refine hK _ ?_;clear hK K))
   refine au (by rfl) (by rfl) (fun K hK=>?_)
   go_wp2_with fail
   refine(lU _ _ L _ (hh.out.later hP2.b) (Nat.le_trans e2' (by decide))).mono ?_
   rintro e v3 ⟨s3,rfl,hb3,hd3⟩
   have hP3:=hP2.mid hb3
   clear hP2 hb3
   refine hK _ _ (ak hP3.b) ?_
   clear hK K
   repeat (first|(refine ah (by rfl) ?_)|(refine ai (by rfl) (by rfl) (fun K hK=>?_);go_big_quiet_op;refine hK _ ?_;clear hK K))
   refine au (by rfl) (by rfl) (fun K hK=>?_)
   go_wp2_with fail
   refine(eU 1 1 _ _ (dE L) _ rfl (by decide) hd3.out (by rw[←HS.out];exact Nat.le_trans e2 (by decide))).mono ?_
   rintro e v4 ⟨s4,rfl,hb4,hd4⟩
   have fK:=hP3.add hb4 hd4.out
   clear hP3 hb4 hd3 hd4
   refine hK _ _ (ak fK.b) ?_
   clear hK K
   repeat (first|(refine ah (by rfl) ?_)|(refine ai (by rfl) (by rfl) (fun K hK=>?_);go_big_quiet_op;refine hK _ ?_;clear hK K))
   refine au (by rfl) (by rfl) (fun K hK=>?_)
   go_wp2_with fail
   refine(yD _ _ (Nat.le_trans f4 (by decide))).mono ?_
   rintro e v5 ⟨s5,rfl,hb5,hd5⟩
   have fZ:=fK.mid hb5
   clear fK hb5
   refine hK _ _ (ak fZ.b) ?_
   clear hK K
   repeat (first|(refine ah (by rfl) ?_)|(refine ai (by rfl) (by rfl) (fun K hK=>?_);go_big_quiet_op;refine hK _ ?_;clear hK K))
   refine au (by rfl) (by rfl) (fun K hK=>?_)
   go_wp2_with fail
   refine(rC _ s5 _ (jc k.bF) _ hd5 c3.out).mono ?_
   rintro e _ ⟨s6,rfl,rfl,hd6⟩
   clear hd5
   refine hK _ _ (ak fZ.b) ?_
   clear hK K
   repeat (first|(refine ah (by rfl) ?_)|(refine ai (by rfl) (by rfl) (fun K hK=>?_);go_big_quiet_op;refine hK _ ?_;clear hK K))
   refine au (by rfl) (by rfl) (fun K hK=>?_)
   go_wp2_with fail
   refine(eU 2 2 _ _ _ _ rfl (by decide) hd6.out (by omega)).mono ?_
   rintro e v7 ⟨s7,rfl,hb7,hd7⟩
   have lV:=fZ.add hb7 hd7.out
   clear fZ hb7 hd6 hd7
   refine hK _ _ (ak lV.b) ?_
   clear hK K
   repeat (first|(refine ah (by rfl) ?_)|(refine ai (by rfl) (by rfl) (fun K hK=>?_);go_big_quiet_op;refine hK _ ?_;clear hK K))
   refine au (by rfl) (by rfl) (fun K hK=>?_)
   go_wp2_with fail
   refine(ru _ _ f5.1 (by omega)).mono ?_
   rintro e v8 ⟨s8,rfl,hb8,hd8⟩
   have jX:=lV.mid hb8
   clear lV hb8
   refine hK _ _ (ak jX.b) ?_
   clear hK K
   repeat (first|(refine ah (by rfl) ?_)|(refine ai (by rfl) (by rfl) (fun K hK=>?_);go_big_quiet_op;refine hK _ ?_;clear hK K))
   refine au (by rfl) (by rfl) (fun K hK=>?_)
   go_wp2_with fail
   refine(rC _ s8 _ (fC k.dm.toNat) _ hd8 c4.out).mono ?_
   rintro e _ ⟨s9,rfl,rfl,hd9⟩
   clear hd8
   refine hK _ _ (ak jX.b) ?_
   clear hK K
   repeat (first|(refine ah (by rfl) ?_)|(refine ai (by rfl) (by rfl) (fun K hK=>?_);go_big_quiet_op;refine hK _ ?_;clear hK K))
   refine au (by rfl) (by rfl) (fun K hK=>?_)
   go_wp2_with fail
   refine(eU 3 3 _ _ _ _ rfl (by decide) hd9.out (Nat.le_trans e4 (by decide))).mono ?_
   rintro e v10 ⟨s10,rfl,A7,hd10⟩
   have wF:=jX.add A7 hd10.out
   clear jX A7 hd9 hd10
   refine hK _ _ (ak wF.b) ?_
   clear hK K
   repeat (first|(refine ah (by rfl) ?_)|(refine ai (by rfl) (by rfl) (fun K hK=>?_);go_big_quiet_op;refine hK _ ?_;clear hK K))
   refine au (by rfl) (by rfl) (fun K hK=>?_)
   go_wp2_with fail
   refine(AZ _ _ f6.1).mono ?_
   rintro e v11 ⟨s11,rfl,uq,hd11⟩
   have pG:=wF.mid uq
   clear wF uq
   refine hK _ _ (ak pG.b) ?_
   clear hK K
   repeat (first|(refine ah (by rfl) ?_)|(refine ai (by rfl) (by rfl) (fun K hK=>?_);go_big_quiet_op;refine hK _ ?_;clear hK K))
   refine au (by rfl) (by rfl) (fun K hK=>?_)
   go_wp2_with fail
   refine(eU 4 4 _ _ _ _ rfl (by decide) hd11.out (Nat.le_trans e5 (by decide))).mono ?_
   rintro e v12 ⟨s12,rfl,uu,uw⟩
   have lW:=pG.add uu uw.out
   clear pG uu hd11 uw
   refine hK _ _ (ak lW.b) ?_
   clear hK K
   repeat (first|(refine ah (by rfl) ?_)|(refine ai (by rfl) (by rfl) (fun K hK=>?_);go_big_quiet_op;refine hK _ ?_;clear hK K))
   refine au (by rfl) (by rfl) (fun K hK=>?_)
   go_wp2_with fail
   refine hK _ _ (ak (az lW.b _)) ?_
   clear hK K
   repeat (first|(refine ah (by rfl) ?_)|(refine ai (by rfl) (by rfl) (fun K hK=>?_);go_big_quiet_op;refine hK _ ?_;clear hK K))
   refine au (by rfl) (by rfl) (fun K hK=>?_)
   go_wp2_with fail
   refine(lU _ _ [aB 0 (aA k.version.toNat),aB 1 (dE L),aB 2 (jc k.bF),aB 3 (fC k.dm.toNat),aB 4 (bf k.created.toNat)] _ (dH.lit _ rfl rfl lW.at_ (by simp[lim])) (by rw[←HS.out];exact Nat.le_trans hfl (by decide))).mono ?_
   rintro e vz ⟨sz,rfl,hbz,hdz⟩
   have HB:=Lib.hid (aU.from (W:=w) ⟨sz,rfl,hbz,hdz⟩ (af Ju (az lW.b _)))
   have pI:=af (az lW.b _) hbz
   clear lW hdz hbz
   refine hK _ _ (ak pI) ?_
   clear hK K
   repeat (first|(refine ah (by rfl) ?_)|(refine ai (by rfl) (by rfl) (fun K hK=>?_);go_big_quiet_op;refine hK _ ?_;clear hK K))
   refine iH ?_
   go_wp2_with fail
   go_ret
   rw[←HE.out,HS.out]
   exact HB.out
end Go.Proofs.YtibhckkjciflaaaGreatDoor
