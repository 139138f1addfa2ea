/- A part of the proof. -/
import Derived.Test.YtfieenjdcpjmgaaGreatDoorA17
import Derived.Test.YtfieenjdcpjmgaaGreatDoorA05
import Derived.Test.YtfieenjdcpjmgaaGreatDoorA13
set_option maxRecDepth 100000
set_option maxHeartbeats 8000000
namespace Go.WW
open Go.RowKit
def iW(x d:Entry):Bool:=jh x d.name || d.aliases.any (jh x)
def ug(x d:Entry)(k:Nat):Bool:=jh x d.name || (d.aliases.take k).any (jh x)
theorem aii{x d:Entry}{k:Nat}(h:k<d.aliases.length):ug x d (k+1)=(ug x d k || jh x d.aliases[k]):=by
 unfold ug
 rw[List.take_succ_eq_append_getElem h,List.any_append]
 simp[Bool.or_assoc]
theorem aij{x d:Entry}{k:Nat}(h:d.aliases.length≤k):ug x d k=iW x d:=by unfold ug iW;rw[List.take_of_length_le h]
def He(q:Sl)(D:Db)(X:List EE)(w:World)(x:Ending)(w':World):Prop:=∃s:Sl,x=.returned (.tuple #[.agg (au s q {D with entries:=X.map (·.2),ay:=D.ay+1}),.int .i64 0])∧Below w.heap.size w w'∧bD w' (fresh w.heap.size w') (fun y=>gu y s.a X)
theorem bJ.aF{w:World}{r:aN}{d:Entry}(h:bJ w r d):d.name.aF.size≤lim:=h.name.2
end Go.WW
namespace Go.Proofs.YtfieenjdcpjmgaaGreatDoor
open Go.RowKit Go.WW
theorem yN(r:aN)(d:Entry)(w:World)(he:bJ w r d)(b:Bool)(h:bT d=b):Calls Tryz.prog 76 #[.agg (ae r d)] w fun e w'=>e=.returned (.bool b)∧Below w.heap.size w w':=by
 have x:=adu r d w he;rw[h]at x;exact x
theorem aik(e q:Sl)(D:Db)(r:aN)(d:Entry)(w:World)(he:bJ w r d)(hv:bT d=false):Calls Tryz.prog 34 #[.agg (au e q D),.agg (ae r d)] w fun x w'=>x=.returned (.tuple #[.agg (au e q D),.int .i64 2])∧Below w.heap.size w w':=by
 obtain⟨W,dD,hB,hx2,hx3,hz,hW⟩:=rH e q D (ae r d) 47 w
 replace dD:=Lib.hid dD
 go_enter Tryz.func34,Tryz.ntmps34
 go_wp2_with fail
 rw[dD.out];clear dD
 refine(yN _ _ _ (he.later hB) false hv).mono ?_
 rintro x w1 ⟨rfl,hb1⟩
 have hs1:=hb1.size
 obtain⟨hc,hf,hr,hlt⟩:=aC (aJ hb1 hx2)
 obtain⟨hc3,hf3,hr3,hlt3⟩:=aC (aJ hb1 hx3)
 dsimp only
 have hlt4:w.heap.size+1+1<w1.heap.size:=by have:=hb1.size;omega
 have hz1:=(gI hb1 (w.heap.size+1+1) 0 4 (by omega)).trans hz
 have hne:w.heap.size+1+1≠w.heap.size:=by omega
 go_wp2_with fail
 have hrow:=iT (w:=w1) (jH e q D) hz1
 exact bodyPost_ret (kQ (by rfl) Tryz.underlying32 rfl (by kernel_rfl) rfl hrow) rfl ⟨rfl,Go.WW.Below.putRow (ag hB hb1) (by omega)⟩
theorem ail(e q:Sl)(D:Db)(r:aN)(d:Entry)(w:World)(he:bJ w r d)(hv:bT d=true)(hre:¬d.name.aF=D.aF):Calls Tryz.prog 34 #[.agg (au e q D),.agg (ae r d)] w fun x w'=>x=.returned (.tuple #[.agg (au e q D),.int .i64 2])∧Below w.heap.size w w':=by
 have VA:=kY _ _ hre
 clear hre
 obtain⟨W,dD,hB,hx2,hx3,hz,hW⟩:=rH e q D (ae r d) 47 w
 replace dD:=Lib.hid dD
 go_enter Tryz.func34,Tryz.ntmps34
 go_wp2_with fail
 rw[dD.out];clear dD
 refine(yN _ _ _ (he.later hB) true hv).mono ?_
 rintro x w1 ⟨rfl,hb1⟩
 have hs1:=hb1.size
 obtain⟨hc,hf,hr,hlt⟩:=aC (aJ hb1 hx2)
 obtain⟨hc3,hf3,hr3,hlt3⟩:=aC (aJ hb1 hx3)
 dsimp only
 have hlt4:w.heap.size+1+1<w1.heap.size:=by have:=hb1.size;omega
 have hz1:=(gI hb1 (w.heap.size+1+1) 0 4 (by omega)).trans hz
 have hne:w.heap.size+1+1≠w.heap.size:=by omega
 go_wp2_with fail
 have hrow:=iT (w:=w1) (jH e q D) hz1
 exact bodyPost_ret (kQ (by rfl) Tryz.underlying32 rfl (by kernel_rfl) rfl hrow) rfl ⟨rfl,Go.WW.Below.putRow (ag hB hb1) (by omega)⟩
theorem aim(e q:Sl)(D:Db)(r:aN)(d:Entry)(w:World)(he:bJ w r d)(hv:bT d=true)(hre:d.name.aF=D.aF)(hp:iU w q.a D.ax)(hpe:¬d.aO=⟨#[]⟩)(hi:idxOf (fun z=>decide (z.name=d.aO)) D.ax=-1):Calls Tryz.prog 34 #[.agg (au e q D),.agg (ae r d)] w fun x w'=>x=.returned (.tuple #[.agg (au e q D),.int .i64 9])∧Below w.heap.size w w':=by
 have VA:=str_eq _ _ hre
 have ain:=kY _ _ hpe
 have LJ:¬d.aO.toList=[]:=fun h=>hpe (toList_inj (b:=⟨#[]⟩) (by rw[h,ByteArray.toList_eq]))
 have VB:d.aO.toList.isEmpty=false:=by cases h:d.aO.toList<;>simp_all
 clear hre hpe
 obtain⟨W,dD,hB,hx2,hx3,hz,hW⟩:=rH e q D (ae r d) 47 w
 replace dD:=Lib.hid dD
 go_enter Tryz.func34,Tryz.ntmps34
 go_wp2_with fail
 rw[dD.out];clear dD
 refine(yN _ _ _ (he.later hB) true hv).mono ?_
 rintro x w1 ⟨rfl,hb1⟩
 have hs1:=hb1.size
 obtain⟨hc,hf,hr,hlt⟩:=aC (aJ hb1 hx2)
 obtain⟨hc3,hf3,hr3,hlt3⟩:=aC (aJ hb1 hx3)
 dsimp only
 go_wp2_with fail
 refine(Ak _ _ _ _ _ (hp.later (ag hB hb1))).mono ?_
 rintro x w2 ⟨rfl,hb2⟩
 rw[hi]
 have dW:=ag hb1 hb2
 clear hc hf hr hlt hc3 hf3 hr3 hlt3
 obtain⟨hc,hf,hr,hlt⟩:=aC (aJ dW hx2)
 obtain⟨hc3,hf3,hr3,hlt3⟩:=aC (aJ dW hx3)
 dsimp only
 have hlt4:w.heap.size+1+1<w2.heap.size:=by have:=dW.size;omega
 have hz1:=(gI dW (w.heap.size+1+1) 0 4 (by omega)).trans hz
 have hne:w.heap.size+1+1≠w.heap.size:=by omega
 go_wp2_with fail
 have hrow:=iT (w:=w2) (jH e q D) hz1
 exact bodyPost_ret (kQ (by rfl) Tryz.underlying32 rfl (by kernel_rfl) rfl hrow) rfl ⟨rfl,Go.WW.Below.putRow (ag hB dW) (by omega)⟩
theorem aio{α:Type}(f:α→Bool)(l:List α):idxOf f l=-1∨∃i:Nat,i<l.length∧idxOf f l=i:=by
 unfold idxOf
 cases hf:l.findIdx? f with
 |none=>exact .inl rfl
 |some i=>exact .inr ⟨i,(List.findIdx?_eq_some_iff_getElem.1 hf).1,rfl⟩
theorem LM(e q:Sl)(D:Db)(r:aN)(d:Entry)(w:World)(he:bJ w r d)(X:List EE)(hX:gu w e.a X)(hm:∀x∈X,bJ w x.1 x.2)(hD:D.entries=X.map (·.2))(hn:X.length≤1000)(hv:bT d=true)(hre:d.name.aF=D.aF)(yJ:d.aO=⟨#[]⟩∨(iU w q.a D.ax∧¬d.aO=⟨#[]⟩∧∃jp:Nat,idxOf (fun z=>decide (z.name=d.aO)) D.ax=(jp:Int)))(at0:Int)(hat:idxOf (fun z=>aX z.name d.name) D.entries=at0)(hs0:0≤D.ay)(hs1:D.ay<1000000)(Q:Ending→World→Prop)(VC:∀j (h:j<X.length),iW X[j].2 d=true→¬(j:Int)=at0→∀x w',x=.returned (.tuple #[.agg (au e q D),.int .i64 11])∧Below w.heap.size w w'→Q x w')(hok:(∀i (h:i<X.length),iW X[i].2 d=true→(i:Int)=at0)→∀X5:List EE,(at0=-1∧X5=X∨∃i0:Nat,i0<X.length∧at0=i0∧X5=X.eraseIdx i0)→∀x w',He q D (kH fA eH (r,d) X5) w x w'→Q x w'):Calls Tryz.prog 34 #[.agg (au e q D),.agg (ae r d)] w Q:=by
 have VA:=str_eq _ _ hre
 clear hre
 have hlen:D.entries.length=X.length:=by rw[hD];simp
 have hE:jy w e.a D.entries:=by rw[hD];exact hX.dK hm
 have hal:d.aliases.length≤4294967000:=he.aliases.1
 have hcs:at0=-1∨∃i:Nat,i<X.length∧at0=i:=by rw[←hat,←hlen];exact aio _ _
 have HB:=Lib.hid VC
 have HO:=Lib.hid hok
 have HC:=Lib.hid hcs
 clear hD VC hok hcs
 obtain⟨W,dD,hB,hx2,hx3,hz,hW⟩:=rH e q D (ae r d) 47 w
 replace dD:=Lib.hid dD
 go_enter Tryz.func34,Tryz.ntmps34
 go_wp2_with fail
 rw[dD.out];clear dD
 refine(yN _ _ _ (he.later hB) true hv).mono ?_
 rintro x w1 ⟨rfl,hb1⟩
 have hs1:=hb1.size
 obtain⟨hc,hf,hr,hlt⟩:=aC (aJ hb1 hx2)
 obtain⟨hc3,hf3,hr3,hlt3⟩:=aC (aJ hb1 hx3)
 dsimp only
 rcases yJ with hpe|⟨hp,hpe,jp,hi⟩
 case' inl=>
  have LJ:d.aO.toList=[]:=by rw[hpe,ByteArray.toList_eq]
  have VB:d.aO.toList.isEmpty=true:=by rw[LJ];rfl
  clear hpe
 case' inr=>
  have ain:=kY _ _ hpe
  have LJ:¬d.aO.toList=[]:=fun h=>hpe (toList_inj (b:=⟨#[]⟩) (by rw[h,ByteArray.toList_eq]))
  have VB:d.aO.toList.isEmpty=false:=by cases h:d.aO.toList<;>simp_all
  clear hpe
  go_wp2_with fail
  refine(Ak _ _ _ _ _ (hp.later (ag hB hb1))).mono ?_
  rintro x w1 ⟨rfl,hb2⟩
  rw[hi]
  have hb1:=ag hb1 hb2
  have hs1:=hb1.size
  clear hc hf hr hlt hc3 hf3 hr3 hlt3
  obtain⟨hc,hf,hr,hlt⟩:=aC (aJ hb1 hx2)
  obtain⟨hc3,hf3,hr3,hlt3⟩:=aC (aJ hb1 hx3)
  dsimp only
 all_goals
  go_wp2_with fail
  refine(CY _ _ _ _ _ _ (hE.later (ag hB hb1)) (he.name.later (ag hB hb1))).mono ?_
  rintro x w4 ⟨rfl,hy4⟩
  rw[hat]
  have hb4:=ag hb1 hy4
  clear hc hf hr hlt hc3 hf3 hr3 hlt3
  obtain⟨hc,hf,hr,hlt⟩:=aC (aJ hb4 hx2)
  obtain⟨hc3,hf3,hr3,hlt3⟩:=aC (aJ hb4 hx3)
  dsimp only
  go_wp2_with fail
  go_loopw [7] (fun iv wr=>Below W.heap.size W wr∧∃k:Nat,k≤D.entries.length∧iv=.int .i64 k∧Hid (∀i (h:i<X.length),i<k→iW X[i].2 d=true→(i:Int)=at0)) (fun iv _=>D.entries.length-(intOf iv).toNat)
  case atStart=>exact⟨hb4,0,Nat.zero_le _,rfl,Lib.hid fun i _ h=>absurd h (Nat.not_lt_zero _)⟩
  case round=>
   obtain⟨hbr,k,hk,rfl,hpre⟩:=hrel
   clear hc hf hr hlt hc3 hf3 hr3 hlt3
   obtain⟨hc,hf,hr,hlt⟩:=aC (aJ hbr hx2)
   obtain⟨hc3,hf3,hr3,hlt3⟩:=aC (aJ hbr hx3)
   have hBr:=ag hB hbr
   by_cases hkl:k<D.entries.length
   ·have hki:(k:Int)<(D.entries.length:Int):=by omega
    have hkX:k<X.length:=by omega
    obtain⟨b,o,ha,hb0⟩:∃b o,e.a=some ⟨b,o,none⟩∧b<w.heap.size:=by rcases aV.addr hX with h0|h0;omega;exact h0
    have hrow0:row? w b (o+k*17) 17=some (ae X[k].1 X[k].2):=(ha▸hX:gu w (some ⟨b,o,none⟩) X).at k hkX
    have hbw:b<wr.heap.size:=Nat.lt_of_lt_of_le hb0 hBr.size
    have hrow:=(ig (hBr.block b hb0) (o+k*17) 17).trans hrow0
    have hxk:=hm X[k] (List.getElem_mem hkX)
    have VD:=Lib.hid (show iW X[k].2 d=false∨(k:Int)=at0→∀i (h:i<X.length),i<k+1→iW X[i].2 d=true→(i:Int)=at0 from fun hz i h hi hq=>by
     rcases Nat.lt_succ_iff_lt_or_eq.1 hi with h1|rfl
     ·exact hpre.out i h h1 hq
     ·rcases hz with hz|hz
      ·rw[hz]at hq;cases hq
      ·exact hz)
    have LQ:=Lib.hid (HB.out k hkX)
    generalize X[k]=x at *
    go_wp2_with fail
    refine dO (Below.refl _ wr) (by kernel_rfl) (by kernel_rfl) ?_
    repeat (go_big_quiet_step ((go_at_call 78;rename_i xw;exact Calls.gK (TG _ _ _ _ _ ((hxk.later hBr).later xw.b) ((he.name.later hBr).later xw.b)))))
    refine wpQuiet_nil ?_
    intro w5 hb5
    have jk:=ag hbr hb5
    clear hc hf hr hlt hc3 hf3 hr3 hlt3 hrow hbw
    obtain⟨hc,hf,hr,hlt⟩:=aC (aJ jk hx2)
    obtain⟨hc3,hf3,hr3,hlt3⟩:=aC (aJ jk hx3)
    obtain⟨wo,hwo⟩:∃wo:World,wo=wr:=⟨_,rfl⟩
    have HZ0:Hid (jh x.2 d.name=ug x.2 d 0):=by simp[Hid,ug]
    generalize jh x.2 d.name=z0 at *
    go_wp2_with fail
    go_loopw [8,9] (fun zv jv wr=>Below W.heap.size W wr∧∃(j:Nat) (z:Bool),j≤d.aliases.length∧jv=.int .i64 j∧zv=.bool z∧Hid (z=ug x.2 d j)) (fun _ jv _=>d.aliases.length-(intOf jv).toNat)
    case atStart=>exact⟨jk,0,z0,Nat.zero_le _,rfl,rfl,HZ0⟩
    case round=>
     obtain⟨hbq,j,z,hj,rfl,rfl,hzz⟩:=hrel
     clear hc hf hr hlt hc3 hf3 hr3 hlt3
     obtain⟨hc,hf,hr,hlt⟩:=aC (aJ hbq hx2)
     obtain⟨hc3,hf3,hr3,hlt3⟩:=aC (aJ hbq hx3)
     have uh:=ag hB hbq
     by_cases hjl:j<d.aliases.length
     ·have hji:(j:Int)<(d.aliases.length:Int):=by omega
      obtain⟨b2,o2,t2,ha2,hr2,hp2⟩:=he.aliases.get j hjl
      have VF:b2<w.heap.size:=gG hr2
      have apV:=Nat.lt_of_lt_of_le VF uh.size
      have apW:=Nat.lt_of_lt_of_le hb0 uh.size
      have hrow2:=(ig (uh.block b2 VF) (o2+j*2) 2).trans hr2
      have hrow1:=(ig (uh.block b hb0) (o+k*17) 17).trans hrow0
      have hst:=aii (x:=x.2) hjl
      generalize d.aliases[j]=al at *
      cases z
      case' false=>
       have HZ:=Lib.hid (show jh x.2 al=ug x.2 d (j+1) by rw[hst,←hzz.out];rfl)
       clear hst hzz
       go_wp2_with fail
       refine dO (Below.refl _ wr) (by kernel_rfl) (by kernel_rfl) ?_
       repeat (go_big_quiet_step ((go_at_call 78;rename_i xw;exact Calls.gK (TG _ _ _ _ _ ((hxk.later uh).later xw.b) ((hp2.later uh).later xw.b)))))
       refine wpQuiet_nil ?_
       intro w6 hb6
       generalize jh x.2 al=z1 at *
      case' true=>
       have HZ:=Lib.hid (show true=ug x.2 d (j+1) by rw[hst,←hzz.out];rfl)
       clear hst hzz
       go_wp2_with fail
       refine dO (Below.refl _ wr) (by kernel_rfl) (by kernel_rfl) ?_
       repeat (go_big_quiet_step (fail))
       refine wpQuiet_nil ?_
       intro w6 hb6
      all_goals
       have lu:=ag hbq hb6
       go_wp2_with fail
       go_roundw
       case rel=>first|exact⟨lu,j+1,_,by omega,by go_num,rfl,HZ.out⟩|((repeat apply Exists.intro);exact⟨⟨lu,j+1,_,by omega,by go_num,rfl,HZ.out⟩,rfl⟩)
       case measure=>simp[intOf];omega
     ·have HZ:=Lib.hid (show z=iW x.2 d by rw[hzz.out,aij (by omega)])
      clear hzz
      by_cases hgo:z=true∧¬(k:Int)=at0
      ·obtain⟨rfl,hne0⟩:=hgo
       have aip:((k:Int) != at0)=true:=by simpa using hne0
       have hlt4:w.heap.size+1+1<wr.heap.size:=by have:=hbq.size;omega
       have hz1:=(gI hbq (w.heap.size+1+1) 0 4 (by omega)).trans hz
       have hne:w.heap.size+1+1≠w.heap.size:=by omega
       go_wp2_with fail
       have hrow:=iT (w:=wr) (jH e q D) hz1
       exact bodyPost_ret (kQ (by rfl) Tryz.underlying32 rfl (by kernel_rfl) rfl hrow) rfl (LQ.out HZ.out.symm hne0 _ _ ⟨rfl,Go.WW.Below.putRow (ag hB hbq) (by omega)⟩)
      ·have HN:=Lib.hid (VD.out (by rcases Decidable.em ((k:Int)=at0)with h|h;exact .inr h;exact .inl (by rw[←HZ.out];cases z;rfl;exact absurd ⟨rfl,h⟩ hgo)))
       clear VD
       cases z
       case' true=>
        have aip:((k:Int) != at0)=false:=by
         have:(k:Int)=at0:=Classical.byContradiction fun h=>hgo ⟨rfl,h⟩
         simp[this]
       all_goals
        clear hgo
        go_wp2_with fail
        go_roundw
        case rel=>first|exact⟨hbq,k+1,by omega,by go_num,HN⟩|((repeat apply Exists.intro);exact⟨⟨hbq,k+1,by omega,by go_num,HN⟩,rfl⟩)
        case measure=>simp[intOf];omega
   ·obtain rfl:k=D.entries.length:=by omega
    have HQ:=Lib.hid (HO.out fun i h=>hpre.out i h (by omega))
    clear hpre
    have apX:¬(4096:Int)≤(D.entries.length:Int):=by omega
    have Ha:(D.ay+1).tmod 4611686018427387904=D.ay+1:=Int.tmod_eq_of_lt (by omega) (by omega)
    have hne1:w.heap.size+1≠w.heap.size:=by omega
    have hne2:w.heap.size+1+1≠w.heap.size:=by omega
    rcases HC.out with rfl|⟨i0,hi0,rfl⟩
    case' inr=>
     have hq5:=HQ.out _ (.inr ⟨i0,hi0,rfl,rfl⟩)
     have hge:(0:Int)≤(i0:Int):=by omega
     have Hf:¬(i0:Int)<0:=by omega
     have hcon:=TJ e.a e.cap X i0 wr (hX.later hBr) hi0
     go_wp2_with fail
     refine hcon.mono ?_
     rintro x w5 ⟨s5,rfl,hb5,hd5⟩
     have jk:=ag hbr hb5
     clear hc hf hr hlt hc3 hf3 hr3 hlt3
     obtain⟨hc,hf,hr,hlt⟩:=aC (aJ jk hx2)
     obtain⟨hc3,hf3,hr3,hlt3⟩:=aC (aJ jk hx3)
     dsimp only
     go_wp2_with fail
     obtain⟨V,hV⟩:∃V,(w5.setCell ⟨w.heap.size,2,none⟩ (.slice s5.a (X.eraseIdx i0).length s5.cap))=V:=⟨_,rfl⟩
     have hv2:V.heap[w.heap.size]?=some (.cells (au s5 q {D with entries:=(X.eraseIdx i0).map (·.2)}) 32):=hV▸(dF (o:=2) _ (aJ jk hx2)).trans (by rw[show(X.eraseIdx i0).length=((X.eraseIdx i0).map (·.2)).length from(List.length_map _).symm,TB])
     have hv3:V.heap[w.heap.size+1]?=some (.cells (ae r d) 47):=hV▸(Below.heap_setCell _ _ _ _ hne1).trans (aJ jk hx3)
     have VG:aQ V (w.heap.size+1+1) 0 4=true:=hV▸(lQ hne2).trans ((gI jk (w.heap.size+1+1) 0 4 (by omega)).trans hz)
     have iV:Below w.heap.size w V:=hV▸(ag hB jk).setCell (by simp) _
     have hXV:gu V s5.a (X.eraseIdx i0):=hd5 _ (fun g hg=>hV▸Below.heap_setCell _ _ _ _ (show g≠w.heap.size by have:=hg.1;have:=hbr.size;omega))
     have LU:w.heap.size+1+1<V.heap.size:=by rw[←hV];simp only[World.setCell,Array.size_modify];have:=jk.size;omega
     have hmV:∀x∈X.eraseIdx i0,bJ w x.1 x.2:=fun x hx=>hm x (List.mem_of_mem_eraseIdx hx)
     have hnV:(X.eraseIdx i0).length≤1000000:=by have:=List.length_eraseIdx_le X i0;omega
     rw[hV]
     clear hc hf hr hlt hc3 hf3 hr3 hlt3 hV
     generalize X.eraseIdx i0=X5 at *
     refine(TK s5.a s5.cap X5 r d V hXV (fun x hx=>(hmV x hx).later iV) (he.later iV) hnV).mono ?_
    case' inl=>
     have hq5:=HQ.out _ (.inl ⟨rfl,rfl⟩)
     have hv2:=aJ hbr hx2
     have hv3:=aJ hbr hx3
     have VG:=(gI hbr (w.heap.size+1+1) 0 4 (by omega)).trans hz
     have iV:=hBr
     have LU:w.heap.size+1+1<wr.heap.size:=by have:=hbr.size;omega
     have hcon:=TK e.a e.cap X r d wr (hX.later hBr) (fun x hx=>(hm x hx).later hBr) (he.later hBr) (by omega)
     go_wp2_with fail
     refine hcon.mono ?_
     generalize wr=V at *
     clear hc hf hr hlt hc3 hf3 hr3 hlt3
     obtain⟨X5,hq⟩:∃q,q=X:=⟨_,rfl⟩
     subst hq
    all_goals
     rintro x w7 ⟨s7,rfl,hb7,hd7⟩
     generalize kH fA eH (r,d) X5=X7 at *
     have hy2:=aJ hb7 hv2
     have hs7:=hb7.size
     obtain⟨hc,hf,hr,hlt⟩:=aC hy2
     have hset:=dF (o:=1) (.int .i64 (D.ay+1)) (dF (o:=2) (.slice s7.a X7.length s7.cap) hy2)
     have Dz:row? ((w7.setCell ⟨w.heap.size,2,none⟩ (.slice s7.a X7.length s7.cap)).setCell ⟨w.heap.size,1,none⟩ (.int .i64 (D.ay+1))) w.heap.size 0 4=some (au s7 q {D with entries:=X7.map (·.2),ay:=D.ay+1}):=(bP hset).trans (by rw[show X7.length=(X7.map (·.2)).length from(List.length_map _).symm];kernel_rfl)
     have hcp:aQ ((w7.setCell ⟨w.heap.size,2,none⟩ (.slice s7.a X7.length s7.cap)).setCell ⟨w.heap.size,1,none⟩ (.int .i64 (D.ay+1))) (w.heap.size+1+1) 0 4=true:=(lQ hne2).trans ((lQ hne2).trans ((gI hb7 (w.heap.size+1+1) 0 4 LU).trans VG))
     clear hr
     dsimp only
     go_wp2_with fail
     have hrow:=iT (jH s7 q {D with entries:=X7.map (·.2),ay:=D.ay+1}) hcp
     refine bodyPost_ret (kQ (by rfl) Tryz.underlying32 rfl (by kernel_rfl) rfl hrow) rfl (hq5 _ _ ⟨s7,rfl,Go.WW.Below.putRow (((ag iV hb7).setCell (by simp) _).setCell (by simp) _) (by omega),fun y hy=>hd7 _ (fun g hg=>?_)⟩)
     have hg1:=hg.1
     have hg2:=hg.2
     rw[hy g ⟨by omega,by rw[kG];simp only[World.setCell,Array.size_modify];omega⟩,iD (by omega),Below.heap_setCell _ _ _ _ (show g≠w.heap.size by omega),Below.heap_setCell _ _ _ _ (show g≠w.heap.size by omega)]
end Go.Proofs.YtfieenjdcpjmgaaGreatDoor
namespace Go.WW
def yO(L:List (ByteArray×ByteArray))(k o:ByteArray):List (ByteArray×ByteArray):=if L.any (fun x=>decide (x.1=k))=true then L.map (fun x=>if x.1=k then(k,o)else x)else L++[(k,o)]
def delS(L:List (ByteArray×ByteArray))(k:ByteArray):List (ByteArray×ByteArray):=L.filter fun x=>decide (x.1≠k)
theorem ait(L:List (ByteArray×ByteArray))(k o:ByteArray):nU (fB L) k (.string o)=fB (yO L k o):=by
 have h:hasK (fB L) k=L.any (fun x=>decide (x.1=k)):=by
  unfold hasK fB;rw[List.any_map];rfl
 unfold nU yO
 rw[h]
 unfold fB
 split
 ·rw[List.map_map,List.map_map]
  refine List.map_congr_left fun x _=>?_
  simp only[Function.comp]
  split<;>rfl
 ·simp
theorem aiu(L:List (ByteArray×ByteArray))(k:ByteArray):lh (fB L) k=fB (delS L k):=by
 unfold lh delS fB
 rw[List.filter_map]
 rfl
def yP(L:List (ByteArray×ByteArray))(k:ByteArray)(ps:List az):List (ByteArray×ByteArray):=ps.foldl (fun m p=>yO m (textOf p) k) L
def xe(L:List (ByteArray×ByteArray))(ps:List az):List (ByteArray×ByteArray):=ps.foldl (fun m p=>delS m (textOf p)) L
theorem VH(k:ByteArray):∀(ps:List az) (L:List (ByteArray×ByteArray)),rF (fB L) k ps=fB (yP L k ps)
 | [],_=>rfl
 |p::ps,L=>by
  show rF (nU (fB L) (textOf p) (.string k)) k ps=fB (yP (yO L (textOf p) k) k ps)
  rw[ait];exact VH k ps _
theorem LW:∀(ps:List az) (L:List (ByteArray×ByteArray)),rE (fB L) ps=fB (xe L ps)
 | [],_=>rfl
 |p::ps,L=>by
  show rE (lh (fB L) (textOf p)) ps=fB (xe (delS L (textOf p)) ps)
  rw[aiu];exact LW ps _
theorem aiv{L:List (ByteArray×ByteArray)}{j k o:ByteArray}:(k,o)∈delS L j↔k≠j∧(k,o)∈L:=by
 unfold delS
 rw[List.mem_filter]
 simp only[ne_eq,decide_not,Bool.not_eq_eq_eq_not,Bool.not_true,decide_eq_false_iff_not]
 exact And.comm
theorem aiw{L:List (ByteArray×ByteArray)}{j v k o:ByteArray}:(k,o)∈yO L j v↔(k=j∧o=v)∨(k≠j∧(k,o)∈L):=by
 unfold yO
 by_cases h:L.any (fun x=>decide (x.1=j))=true
 ·rw[if_pos h]
  obtain⟨x0,hx0,e0⟩:=List.any_eq_true.1 h
  have e0:x0.1=j:=by simpa using e0
  constructor
  ·intro hm
   obtain⟨x,hx,e⟩:=List.mem_map.1 hm
   by_cases hj:x.1=j
   ·rw[if_pos hj]at e;cases e;exact .inl ⟨rfl,rfl⟩
   ·rw[if_neg hj]at e;subst e;exact .inr ⟨hj,hx⟩
  ·rintro(⟨rfl,rfl⟩|⟨h1,h2⟩)
   ·exact List.mem_map.2 ⟨x0,hx0,by rw[if_pos e0]⟩
   ·exact List.mem_map.2 ⟨(k,o),h2,by rw[if_neg h1]⟩
 ·rw[if_neg h]
  have hn:∀x∈L,¬x.1=j:=fun x hx e=>h (List.any_eq_true.2 ⟨x,hx,by simpa using e⟩)
  constructor
  ·intro hm
   rcases List.mem_append.1 hm with h1|h1
   ·exact .inr ⟨hn _ h1,h1⟩
   ·simp only[List.mem_singleton,Prod.mk.injEq]at h1;exact .inl h1
  ·rintro(⟨rfl,rfl⟩|⟨h1,h2⟩)
   ·simp
   ·exact List.mem_append_left _ h2
theorem VI{k o:ByteArray}:∀(ps:List az) (L:List (ByteArray×ByteArray)),(k,o)∈xe L ps↔(∀q∈ps,k≠textOf q)∧(k,o)∈L
 | [],L=>by simp[xe]
 |p::ps,L=>by
  show(k,o)∈xe (delS L (textOf p)) ps↔_
  rw[VI ps,aiv]
  constructor
  ·rintro⟨h1,h2,h3⟩
   exact⟨fun q hq=>by rcases List.mem_cons.1 hq with rfl|hq<;>first|exact h2|exact h1 q hq,h3⟩
  ·rintro⟨h1,h2⟩
   exact⟨fun q hq=>h1 q (List.mem_cons_of_mem _ hq),h1 p (List.mem_cons_self ..),h2⟩
theorem VJ{v k o:ByteArray}:∀(ps:List az) (L:List (ByteArray×ByteArray)),(k,o)∈yP L v ps↔(o=v∧∃q∈ps,k=textOf q)∨((∀q∈ps,k≠textOf q)∧(k,o)∈L)
 | [],L=>by simp[yP]
 |p::ps,L=>by
  show(k,o)∈yP (yO L (textOf p) v) v ps↔_
  rw[VJ ps,aiw]
  constructor
  ·rintro(⟨h1,q,hq,h2⟩|⟨h1,(⟨h2,h3⟩|⟨h2,h3⟩)⟩)
   ·exact .inl ⟨h1,q,List.mem_cons_of_mem _ hq,h2⟩
   ·exact .inl ⟨h3,p,List.mem_cons_self ..,h2⟩
   ·exact .inr ⟨fun q hq=>by rcases List.mem_cons.1 hq with rfl|hq<;>first|exact h2|exact h1 q hq,h3⟩
  ·rintro(⟨h1,q,hq,h2⟩|⟨h1,h2⟩)
   ·by_cases hp:∃q∈ps,k=textOf q
    ·exact .inl ⟨h1,hp⟩
    ·have hn:∀q∈ps,k≠textOf q:=fun q hq e=>hp ⟨q,hq,e⟩
     rcases List.mem_cons.1 hq with rfl|hq
     ·exact .inr ⟨hn,.inl ⟨h2,h1⟩⟩
     ·exact absurd h2 (hn q hq)
   ·exact .inr ⟨fun q hq=>h1 q (List.mem_cons_of_mem _ hq),.inr ⟨h1 p (List.mem_cons_self ..),h2⟩⟩
theorem Hg{β:Type}{l:List β}(h:l.Nodup){i j:Nat}(hi:i<l.length)(hj:j<l.length)(e:l[i]=l[j]):i=j:=by
 rcases Nat.lt_trichotomy i j with h1|h1|h1
 ·exact absurd e (List.pairwise_iff_getElem.1 h i j hi hj h1)
 ·exact h1
 ·exact absurd e.symm (List.pairwise_iff_getElem.1 h j i hj hi h1)
def iI(d:Entry):List az:=d.name::d.aliases
def vC(NL:List (ByteArray×ByteArray))(E:List Entry):Prop:=∀k o,(k,o)∈NL↔∃x∈E,textOf x.name=o∧∃q∈iI x,k=textOf q
structure gW(E:List Entry):Prop where
 ok:∀x∈E,bT x=true
 nodup:(E.map fun x=>textOf x.name).Nodup
 apart:∀x∈E,∀y∈E,∀q∈iI x,∀q'∈iI y,textOf q=textOf q'→textOf x.name=textOf y.name
theorem gW.nil:gW []:=⟨by simp,by simp,by simp⟩
theorem gW.perm{E F:List Entry}(h:gW E)(p:F.Perm E):gW F:=
 ⟨fun x hx=>h.ok x (p.mem_iff.1 hx),(p.map _).nodup_iff.2 h.nodup,fun x hx y hy=>h.apart x (p.mem_iff.1 hx) y (p.mem_iff.1 hy)⟩
theorem gW.same{E:List Entry}(h:gW E){x y:Entry}(hx:x∈E)(hy:y∈E)(e:textOf x.name=textOf y.name):x=y:=by
 obtain⟨i,hi,rfl⟩:=List.mem_iff_getElem.1 hx
 obtain⟨j,hj,rfl⟩:=List.mem_iff_getElem.1 hy
 obtain rfl:=Hg h.nodup (i:=i) (j:=j) (by simpa using hi) (by simpa using hj) (by simpa using e)
 rfl
theorem aix{l:List az}(h:different l=true):∀q∈l,bC q=true:=by
 intro q hq
 obtain⟨i,hi,rfl⟩:=List.mem_iff_getElem.1 hq
 cases hp:bC l[i]with
 |true=>rfl
 |false=>rw[Rh i hi hp]at h;cases h
theorem rJ{d:Entry}(h:bT d=true):∀q∈iI d,bC q=true:=by
 simp only[bT,Bool.and_eq_true]at h
 obtain⟨⟨⟨⟨⟨⟨⟨⟨⟨h1,h2⟩,-⟩,-⟩,-⟩,-⟩,-⟩,-⟩,-⟩,-⟩:=h
 intro q hq
 rcases List.mem_cons.1 hq with rfl|hq
 ·exact h1
 ·exact aix h2 q hq
def jY(E:List Entry)(k:ByteArray):List Entry:=E.filter fun x=>decide (textOf x.name≠k)
theorem VK{E:List Entry}{k:ByteArray}(h:∀x∈E,textOf x.name≠k):jY E k=E:=List.filter_eq_self.2 fun x hx=>by simpa using h x hx
theorem Hl{E:List Entry}{k:ByteArray}{x:Entry}:x∈jY E k↔x∈E∧textOf x.name≠k:=by simp[jY]
theorem VL{NL:List (ByteArray×ByteArray)}{E:List Entry}(h:vC NL E)(hg:gW E){x0:Entry}(hx:x0∈E):vC (xe NL (iI x0)) (jY E (textOf x0.name)):=by
 intro k o
 rw[VI,h k o]
 constructor
 ·rintro⟨h1,x,kS,h2,q,hq,h3⟩
  refine⟨x,Hl.2 ⟨kS,fun e=>?_⟩,h2,q,hq,h3⟩
  rw[hg.same kS hx e]at hq
  exact h1 q hq h3
 ·rintro⟨x,kS,h2,q,hq,h3⟩
  obtain⟨kS,hne⟩:=Hl.1 kS
  exact⟨fun q' hq' e=>hne (hg.apart x kS x0 hx q hq q' hq' (h3.symm.trans e)),x,kS,h2,q,hq,h3⟩
theorem aiy{NL yQ:List (ByteArray×ByteArray)}{E E1:List Entry}{d:Entry}(h:vC NL E)(h1:vC yQ E1)(hE:∀x∈E1,x∈E∧textOf x.name≠textOf d.name)(hf:tY NL (textOf d.name) (iI d)) :
  vC (yP yQ (textOf d.name) (iI d)) (E1++[d]):=by
 intro k o
 rw[VJ,h1 k o]
 constructor
 ·rintro(⟨rfl,q,hq,rfl⟩|⟨h2,x,hx,h3⟩)
  ·exact⟨d,by simp,rfl,q,hq,rfl⟩
  ·exact⟨x,List.mem_append_left _ hx,h3⟩
 ·rintro⟨x,hx,rfl,q,hq,rfl⟩
  rcases List.mem_append.1 hx with hx|hx
  ·refine .inr ⟨fun q' hq' e=>?_,x,hx,rfl,q,hq,rfl⟩
   have hm:(textOf q',textOf x.name)∈NL:=(h _ _).2 ⟨x,(hE x hx).1,rfl,q,hq,e.symm⟩
   exact(hE x hx).2 (hf q' hq' _ hm)
  ·simp only[List.mem_singleton]at hx
   subst hx
   exact .inl ⟨rfl,q,hq,rfl⟩
theorem aiz{NL:List (ByteArray×ByteArray)}{E E1:List Entry}{d:Entry}(h:vC NL E)(hg:gW E)(hv:bT d=true)(hE:∀x∈E1,x∈E∧textOf x.name≠textOf d.name)(hn:(E1.map fun x=>textOf x.name).Nodup)(hf:tY NL (textOf d.name) (iI d)):gW (E1++[d]):=by
 have key:∀x∈E1,∀q∈iI x,∀q'∈iI d,textOf q=textOf q'→False:=fun x hx q hq q' hq' e=>by
  have hm:(textOf q',textOf x.name)∈NL:=(h _ _).2 ⟨x,(hE x hx).1,rfl,q,hq,e.symm⟩
  exact(hE x hx).2 (hf q' hq' _ hm)
 refine⟨fun x hx=>?_,?_,fun x hx y hy q hq q' hq' e=>?_⟩
 ·rcases List.mem_append.1 hx with hx|hx
  ·exact hg.ok x (hE x hx).1
  ·simp only[List.mem_singleton]at hx;subst hx;exact hv
 ·rw[List.map_append]
  refine List.nodup_append.2 ⟨hn,by simp,?_⟩
  intro a ha c hc e
  simp only[List.map_cons,List.map_nil,List.mem_singleton]at hc
  obtain⟨x,hx,rfl⟩:=List.mem_map.1 ha
  exact(hE x hx).2 (e.trans hc)
 ·rcases List.mem_append.1 hx with hx1|hx1<;>rcases List.mem_append.1 hy with hy1|hy1
  ·exact hg.apart x (hE x hx1).1 y (hE y hy1).1 q hq q' hq' e
  ·simp only[List.mem_singleton]at hy1;subst hy1
   exact(key x hx1 q hq q' hq' e).elim
  ·simp only[List.mem_singleton]at hx1;subst hx1
   exact(key y hy1 q' hq' q hq e.symm).elim
  ·simp only[List.mem_singleton]at hx1 hy1;rw[hx1,hy1]
theorem Hm{p q:az}(hp:bC p=true)(hq:bC q=true):aX p q=true↔textOf p=textOf q:=(JH (sZ hp) (sZ hq)).symm
theorem VM{x d:Entry}(hx:bT x=true)(hd:bT d=true):iW x d=true↔∃q∈iI x,∃q'∈iI d,textOf q=textOf q':=by
 have qi:=rJ hx
 have hdn:=rJ hd
 have one:∀p∈iI d,(jh x p=true↔∃q∈iI x,textOf q=textOf p):=fun p hp=>by
  unfold jh
  rw[Bool.or_eq_true,List.any_eq_true]
  constructor
  ·rintro(⟨q,hq,e⟩|e)
   ·exact⟨q,List.mem_cons_of_mem _ hq,(Hm (qi q (List.mem_cons_of_mem _ hq)) (hdn p hp)).1 e⟩
   ·exact⟨x.name,List.mem_cons_self ..,(Hm (qi _ (List.mem_cons_self ..)) (hdn p hp)).1 e⟩
  ·rintro⟨q,hq,e⟩
   have e':=(Hm (qi q hq) (hdn p hp)).2 e
   rcases List.mem_cons.1 hq with rfl|hq
   ·exact .inr e'
   ·exact .inl ⟨q,hq,e'⟩
 unfold iW
 rw[Bool.or_eq_true,List.any_eq_true]
 constructor
 ·rintro(h|⟨p,hp,h⟩)
  ·obtain⟨q,hq,e⟩:=(one _ (List.mem_cons_self ..)).1 h
   exact⟨q,hq,_,List.mem_cons_self ..,e⟩
  ·obtain⟨q,hq,e⟩:=(one p (List.mem_cons_of_mem _ hp)).1 h
   exact⟨q,hq,p,List.mem_cons_of_mem _ hp,e⟩
 ·rintro⟨q,hq,p,hp,e⟩
  have:=(one p hp).2 ⟨q,hq,e⟩
  rcases List.mem_cons.1 hp with rfl|hp
  ·exact .inl this
  ·exact .inr ⟨p,hp,this⟩
theorem VO{NL:List (ByteArray×ByteArray)}{E:List Entry}{d:Entry}(h:vC NL E)(hg:gW E)(hd:bT d=true):GM NL d↔∃x∈E,iW x d=true∧textOf x.name≠textOf d.name:=by
 constructor
 ·rintro⟨q,hq,o,hm,hne⟩
  obtain⟨x,hx,rfl,q',hq',e⟩:=(h _ _).1 hm
  exact⟨x,hx,(VM (hg.ok x hx) hd).2 ⟨q',hq',q,hq,e.symm⟩,hne⟩
 ·rintro⟨x,hx,hb,hne⟩
  obtain⟨q,hq,q',hq',e⟩:=(VM (hg.ok x hx) hd).1 hb
  exact⟨q',hq',textOf x.name,(h _ _).2 ⟨x,hx,rfl,q,hq,e.symm⟩,hne⟩
theorem LX{NL:List (ByteArray×ByteArray)}{d:Entry}:tY NL (textOf d.name) (iI d)↔¬GM NL d:=by
 constructor
 ·rintro h ⟨q,hq,o,hm,hne⟩
  exact hne (h q hq o hm)
 ·intro h q hq o hm
  exact Classical.byContradiction fun hne=>h ⟨q,hq,o,hm,hne⟩
theorem VP{E:List Entry}(hg:gW E){d:Entry}(hd:bT d=true) :
  (idxOf (fun z=>aX z.name d.name) E=-1∧∀x∈E,textOf x.name≠textOf d.name)∨
  ∃i,∃hi:i<E.length,idxOf (fun z=>aX z.name d.name) E=(i:Int)∧textOf E[i].name=textOf d.name:=by
 have st:∀x∈E,(aX x.name d.name=true↔textOf x.name=textOf d.name):=fun x hx=>Hm (rJ (hg.ok x hx) _ (List.mem_cons_self ..)) (rJ hd _ (List.mem_cons_self ..))
 unfold idxOf
 cases hf:E.findIdx? (fun z=>aX z.name d.name)with
 |none=>
  refine .inl ⟨rfl,fun x hx e=>?_⟩
  have:=(List.findIdx?_eq_none_iff.1 hf) x hx
  rw[(st x hx).2 e]at this;cases this
 |some i=>
  obtain⟨hi,h1,-⟩:=List.findIdx?_eq_some_iff_getElem.1 hf
  exact .inr ⟨i,hi,rfl,(st _ (List.getElem_mem hi)).1 h1⟩
theorem VQ{E:List Entry}(hn:(E.map fun x=>textOf x.name).Nodup){i:Nat}(hi:i<E.length):E.eraseIdx i=jY E (textOf E[i].name):=by
 induction E generalizing i with
 |nil=>simp at hi
 |cons x E ih=>
  simp only[List.map_cons,List.nodup_cons]at hn
  cases i with
  |zero=>
   have:jY (x::E) (textOf x.name)=E:=by
    unfold jY
    rw[List.filter_cons_of_neg (by simp)]
    exact List.filter_eq_self.2 fun y hy=>by
     have:¬textOf y.name=textOf x.name:=fun e=>hn.1 (List.mem_map.2 ⟨y,hy,e⟩)
     simp[this]
   simpa using this.symm
  |succ i=>
   have hi':i<E.length:=by simpa using hi
   have hne:¬textOf x.name=textOf E[i].name:=fun e=>hn.1 (List.mem_map.2 ⟨E[i],List.getElem_mem hi',e.symm⟩)
   simp only[List.eraseIdx_cons_succ,List.getElem_cons_succ]
   rw[ih hn.2 hi']
   unfold jY
   rw[List.filter_cons_of_pos (by simp[hne])]
theorem AB{E:List Entry}(hg:gW E){i j:Nat}(hi:i<E.length)(hj:j<E.length)(e:textOf E[i].name=textOf E[j].name):i=j:=by
 exact Hg hg.nodup (i:=i) (j:=j) (by simpa using hi) (by simpa using hj) (by simpa using e)
theorem VR(f:Nat→Prop):∀n,(∃i,i<n∧f i)→∃i,i<n∧f i∧∀j,j<i→¬f j:=by
 intro n
 induction n with
 |zero=>rintro⟨i,h,_⟩;omega
 |succ n ih=>
  rintro⟨i,h,hf⟩
  by_cases hn:∃i,i<n∧f i
  ·obtain⟨j,h1,h2,h3⟩:=ih hn
   exact⟨j,by omega,h2,h3⟩
  ·exact⟨i,h,hf,fun j hj hfj=>hn ⟨j,by omega,hfj⟩⟩
inductive aiA(E:List Entry)(d:Entry):Prop where
 |busy (at0:Int) (jb:Nat) (h:jb<E.length) (hat:idxOf (fun z=>aX z.name d.name) E=at0) (hb:iW E[jb] d=true) (hpre:∀i (h:i<E.length),i<jb→iW E[i] d=true→(i:Int)=at0) (hn:¬(jb:Int)=at0) (hx:∃x∈E,iW x d=true∧textOf x.name≠textOf d.name)
 |new (hat:idxOf (fun z=>aX z.name d.name) E=-1) (hnb:∀i (h:i<E.length),iW E[i] d=true→(i:Int)=-1) (hno:∀x∈E,textOf x.name≠textOf d.name) (hx:∀x∈E,iW x d=true→textOf x.name=textOf d.name)
 |old (i0:Nat) (h:i0<E.length) (hat:idxOf (fun z=>aX z.name d.name) E=(i0:Int)) (hnb:∀i (h:i<E.length),iW E[i] d=true→(i:Int)=(i0:Int)) (he:textOf E[i0].name=textOf d.name) (hx:∀x∈E,iW x d=true→textOf x.name=textOf d.name)
theorem aiB{E:List Entry}(hg:gW E){d:Entry}(hd:bT d=true):aiA E d:=by
 by_cases hx:∃x∈E,iW x d=true∧textOf x.name≠textOf d.name
 ·have hat:∃at0:Int,idxOf (fun z=>aX z.name d.name) E=at0∧∀i (h:i<E.length),((i:Int)=at0↔textOf E[i].name=textOf d.name):=by
   rcases VP hg hd with⟨h1,h2⟩|⟨i0,hi0,h1,h2⟩
   ·exact⟨-1,h1,fun i hi=>⟨fun e=>by omega,fun e=>absurd e (h2 _ (List.getElem_mem hi))⟩⟩
   ·refine⟨i0,h1,fun i hi=>⟨fun e=>?_,fun e=>?_⟩⟩
    ·obtain rfl:i=i0:=by omega
     exact h2
    ·rw[AB hg hi hi0 (e.trans h2.symm)]
  obtain⟨at0,h1,h2⟩:=hat
  obtain⟨x,kS,hxb,qi⟩:=hx
  obtain⟨j,hj,rfl⟩:=List.mem_iff_getElem.1 kS
  obtain⟨jb,hjb,⟨hl,hb,hne⟩,hpre⟩:=VR (fun i=>∃h:i<E.length,iW E[i] d=true∧¬(i:Int)=at0) E.length ⟨j,hj,hj,hxb,fun e=>qi ((h2 j hj).1 e)⟩
  exact .busy at0 jb hl h1 hb (fun i hi hij hbi=>Classical.byContradiction fun hn=>hpre i hij ⟨hi,hbi,hn⟩) hne ⟨E[j],List.getElem_mem hj,hxb,qi⟩
 ·have hx':∀x∈E,iW x d=true→textOf x.name=textOf d.name:=fun x kS hb=>Classical.byContradiction fun hn=>hx ⟨x,kS,hb,hn⟩
  rcases VP hg hd with⟨h1,h2⟩|⟨i0,hi0,h1,h2⟩
  ·exact .new h1 (fun i hi hb=>absurd (hx' _ (List.getElem_mem hi) hb) (h2 _ (List.getElem_mem hi))) h2 hx'
  ·refine .old i0 hi0 h1 (fun i hi hb=>?_) h2 hx'
   rw[AB hg hi hi0 ((hx' _ (List.getElem_mem hi) hb).trans h2.symm)]
def lX(at_:Int):Nat→List ah→List ah
 |_,[]=>[]
 |k,q::l=>(if(k:Int) != at_ then [q]else [])++lX at_ (k+1) l
theorem yR(p:ah)(at_:Int):∀(l:List ah) (k:Nat) (dn:Bool),(fC p at_ k dn l).Perm ((if dn then []else [p])++lX at_ k l)
 | [],_,dn=>by cases dn<;>simp[fC,lX]
 |q::l,k,dn=>by
  unfold fC lX
  generalize (if(k:Int) != at_ then [q]else [])=M
  cases dn with
  |true=>
   have:=yR p at_ l (k+1) true
   simpa using this.append_left M
  |false=>
   cases qh p.name q.name with
   |true=>
    have:=yR p at_ l (k+1) true
    simpa using this.append_left M
   |false=>
    have:=(yR p at_ l (k+1) false).append_left M
    simp only[Bool.not_false,Bool.true_and,Bool.or_false,Bool.false_eq_true,if_false,List.nil_append]at this ⊢
    exact this.trans (by simp)
theorem LY:∀(l:List ah) (k:Nat),lX (-1) k l=l
 | [],_=>rfl
 |q::l,k=>by
  unfold lX
  rw[LY l (k+1)]
  have:((k:Int) != -1)=true:=by simp
  rw[this];rfl
theorem VS:∀(l:List ah) (k:Nat) (at_:Int),at_<(k:Int)→lX at_ k l=l
 | [],_,_,_=>rfl
 |q::l,k,at_,h=>by
  unfold lX
  rw[VS l (k+1) at_ (by omega)]
  have:((k:Int) != at_)=true:=by simp;omega
  rw[this];rfl
theorem LZ:∀(l:List ah) (k i:Nat),lX ((k+i:Nat):Int) k l=l.eraseIdx i
 | [],_,_=>rfl
 |q::l,k,0=>by
  unfold lX
  rw[VS l (k+1) _ (by omega)]
  simp
 |q::l,k,i+1=>by
  unfold lX
  have:=LZ l (k+1) i
  rw[show k+1+i=k+(i+1) by omega]at this
  rw[this]
  have:((k:Int) != ((k+(i+1):Nat):Int))=true:=by simp;omega
  rw[this];rfl
theorem Ho{α:Type}(f:α→ByteArray){E:List α}(hn:(E.map f).Nodup){i:Nat}(hi:i<E.length):E.eraseIdx i=E.filter fun x=>decide (f x≠f E[i]):=by
 induction E generalizing i with
 |nil=>simp at hi
 |cons x E ih=>
  simp only[List.map_cons,List.nodup_cons]at hn
  cases i with
  |zero=>
   simp only[List.eraseIdx_zero,List.tail_cons,List.getElem_cons_zero]
   rw[List.filter_cons_of_neg (by simp)]
   exact(List.filter_eq_self.2 fun y hy=>by
    have:¬f y=f x:=fun e=>hn.1 (List.mem_map.2 ⟨y,hy,e⟩)
    simp[this]).symm
  |succ i=>
   have hi':i<E.length:=by simpa using hi
   have hne:¬f x=f E[i]:=fun e=>hn.1 (List.mem_map.2 ⟨E[i],List.getElem_mem hi',e.symm⟩)
   simp only[List.eraseIdx_cons_succ,List.getElem_cons_succ]
   rw[ih hn.2 hi',List.filter_cons_of_pos (by simp[hne])]
theorem VT(q:ah):∀(P:List ah),(P.map (·.name)).Nodup→P.any (fun x=>decide (x.name=q.name))=true→(P.map (fun x=>if x.name=q.name then q else x)).Perm (q::P.filter fun x=>decide (x.name≠q.name))
 | [],_,h=>by simp at h
 |x::P,hn,h=>by
  simp only[List.map_cons,List.nodup_cons]at hn
  by_cases hx:x.name=q.name
  ·have h1:P.map (fun x=>if x.name=q.name then q else x)=P:=by
    conv=>rhs;rw[←List.map_id P]
    refine List.map_congr_left fun y hy=>?_
    have:¬y.name=q.name:=fun e=>hn.1 (List.mem_map.2 ⟨y,hy,e.trans hx.symm⟩)
    simp[this]
   have h2:(P.filter fun x=>decide (x.name≠q.name))=P:=List.filter_eq_self.2 fun y hy=>by
    have:¬y.name=q.name:=fun e=>hn.1 (List.mem_map.2 ⟨y,hy,e.trans hx.symm⟩)
    simp[this]
   rw[List.map_cons,h1,if_pos hx,List.filter_cons_of_neg (by simp[hx]),h2]
  ·have h':P.any (fun x=>decide (x.name=q.name))=true:=by simpa[hx]using h
   rw[List.map_cons,if_neg hx,List.filter_cons_of_pos (by simp[hx])]
   exact((VT q P hn.2 h').cons x).trans (List.Perm.swap _ _ _)
structure mO(P L:List ah):Prop where
 perm:P.Perm L
 nodup:(L.map (·.name)).Nodup
 ok:∀q∈L,dL q=true
theorem mO.nil:mO [] []:=⟨List.Perm.refl _,by simp,by simp⟩
theorem mO.any{P L:List ah}(h:mO P L)(k:ByteArray):P.any (fun x=>decide (x.name=k))=L.any (fun x=>decide (x.name=k)):=by
 rw[Bool.eq_iff_iff,List.any_eq_true,List.any_eq_true]
 exact⟨fun⟨x,hx,e⟩=>⟨x,h.perm.mem_iff.1 hx,e⟩,fun⟨x,hx,e⟩=>⟨x,h.perm.mem_iff.2 hx,e⟩⟩
theorem AL(L:List ah)(k:ByteArray):(idxOf (fun z=>decide (z.name=k)) L=-1∧L.any (fun x=>decide (x.name=k))=false)∨∃i,∃hi:i<L.length,idxOf (fun z=>decide (z.name=k)) L=(i:Int)∧L[i].name=k∧L.any (fun x=>decide (x.name=k))=true:=by
 unfold idxOf
 cases hf:L.findIdx? (fun z=>decide (z.name=k))with
 |none=>
  refine .inl ⟨rfl,?_⟩
  rw[List.any_eq_false]
  intro x hx
  have:=(List.findIdx?_eq_none_iff.1 hf) x hx
  simp[this]
 |some i=>
  obtain⟨hi,h1,-⟩:=List.findIdx?_eq_some_iff_getElem.1 hf
  exact .inr ⟨i,hi,rfl,by simpa using h1,List.any_eq_true.2 ⟨L[i],List.getElem_mem hi,h1⟩⟩
theorem mO.new{P L:List ah}(h:mO P L){q:ah}(hq:dL q=true)(hn:L.any (fun x=>decide (x.name=q.name))=false):mO (pY P q) (fC q (-1) 0 false L):=by
 have hp:=yR q (-1) L 0 false
 rw[LY]at hp
 have hpp:(fC q (-1) 0 false L).Perm (q::L):=hp
 have hset:pY P q=P++[q]:=by
  unfold pY
  rw[if_neg (by rw[h.any,hn];simp)]
 refine⟨?_,(hpp.map _).nodup_iff.2 ?_,fun x hx=>?_⟩
 ·rw[hset]
  exact(List.perm_append_singleton q P).trans ((h.perm.cons q).trans hpp.symm)
 ·rw[List.map_cons,List.nodup_cons]
  refine⟨fun hm=>?_,h.nodup⟩
  obtain⟨x,hx,e⟩:=List.mem_map.1 hm
  have:=List.any_eq_false.1 hn x hx
  simp[e]at this
 ·rcases List.mem_cons.1 (hpp.mem_iff.1 hx)with rfl|hx
  ·exact hq
  ·exact h.ok x hx
theorem mO.old{P L:List ah}(h:mO P L){q:ah}(hq:dL q=true){i:Nat}(hi:i<L.length)(hn:L[i].name=q.name):mO (pY P q) (fC q (i:Int) 0 false L):=by
 have hp:=yR q (i:Int) L 0 false
 have hr:=LZ L 0 i
 rw[Nat.zero_add]at hr
 rw[hr,Ho (·.name) h.nodup hi,hn]at hp
 have hpp:(fC q (i:Int) 0 false L).Perm (q::L.filter fun x=>decide (x.name≠q.name)):=hp
 have ha:P.any (fun x=>decide (x.name=q.name))=true:=by rw[h.any];exact List.any_eq_true.2 ⟨L[i],List.getElem_mem hi,by simpa using hn⟩
 have hset:pY P q=P.map (fun x=>if x.name=q.name then q else x):=by
  unfold pY
  rw[if_pos ha]
 have Hq:(P.map (·.name)).Nodup:=(h.perm.map _).nodup_iff.2 h.nodup
 refine⟨?_,(hpp.map _).nodup_iff.2 ?_,fun x hx=>?_⟩
 ·rw[hset]
  exact(VT q P Hq ha).trans (((h.perm.filter _).cons q).trans hpp.symm)
 ·rw[List.map_cons,List.nodup_cons]
  refine⟨fun hm=>?_,(List.filter_sublist.map _).nodup h.nodup⟩
  obtain⟨x,hx,e⟩:=List.mem_map.1 hm
  have:=(List.mem_filter.1 hx).2
  simp[e]at this
 ·rcases List.mem_cons.1 (hpp.mem_iff.1 hx)with rfl|hx
  ·exact hq
  ·exact h.ok x (List.mem_filter.1 hx).1
end Go.WW
namespace Go.Proofs.YtfieenjdcpjmgaaGreatDoor
open Go.RowKit Go.WW
theorem L6(n:Nat)(hn:n≤12)(w:World):Calls Tryz.prog 330 #[.int .u64 (n:Int)] w fun e w'=>(∃k,e=.returned (.int .i64 k))∧w=w':=by
 have h:n=0∨n=1∨n=2∨n=3∨n=4∨n=5∨n=6∨n=7∨n=8∨n=9∨n=10∨n=11∨n=12:=by omega
 rcases h with rfl|rfl|rfl|rfl|rfl|rfl|rfl|rfl|rfl|rfl|rfl|rfl|rfl
 all_goals
  go_enter Tryz.func330,Tryz.ntmps330
  go_wp2
  go_ret
  exact⟨⟨_,rfl⟩,rfl⟩
theorem DC(n:Nat)(hn:n≤12)(w:World):Calls Tryz.prog 268 #[.int .u64 (n:Int)] w fun e w'=>(∃k,e=.returned (.int .i64 k))∧w=w':=by
 go_enter Tryz.func268,Tryz.ntmps268
 go_wp2_with fail
 refine(L6 n hn w).mono ?_
 rintro e w' ⟨⟨k,rfl⟩,rfl⟩
 dsimp only
 go_wp2_with fail
 go_ret
 exact⟨⟨_,rfl⟩,rfl⟩
theorem aiC(g cap:Nat)(X:List EE)(lm:Int)(w:World)(hn:X.length≤12)(hX:kR g X X w w)(hD:(X.map eH).Nodup)(hN:∀y,But (·=g) w y→∀x∈X,bz y x.1.parts x.2.name) :
  Calls Tryz.prog 274 #[.slice (some ⟨g,0,none⟩) X.length cap,.int .i64 0,.int .i64 X.length,.int .i64 lm,.func (.func 113) #[] #[]] w fun e w'=>e=.returned (.tuple #[])∧∃Y,kR g X Y w w'∧Sorted fA eH Y:=by
 have HI:=Lib.hid (ag4 g cap X w hn hX hD hN)
 clear hX hD hN
 have h12:(X.length:Int)≤12:=by omega
 go_enter Tryz.func274,Tryz.ntmps274
 go_wp2_with fail
 refine wp_loop_rounds 1 ?_
 rw[rounds_succ]
 go_wp2_with fail
 refine HI.out.mono ?_
 rintro e w' ⟨rfl,hY⟩
 dsimp only
 go_wp2_with fail
 refine bodyPost_ret (results_none rfl _ _ _) rfl ⟨rfl,hY⟩
theorem aiD(g cap:Nat)(X:List EE)(w:World)(hn:X.length≤12)(hX:kR g X X w w)(hD:(X.map eH).Nodup)(hN:∀y,But (·=g) w y→∀x∈X,bz y x.1.parts x.2.name) :
  Calls Tryz.prog 192 #[.slice (some ⟨g,0,none⟩) X.length cap,.func (.func 113) #[] #[]] w fun e w'=>e=.returned (.tuple #[])∧∃Y,kR g X Y w w'∧Sorted fA eH Y:=by
 have HI:=Lib.hid (fun lm=>aiC g cap X lm w hn hX hD hN)
 clear hX hD hN
 go_enter Tryz.func192,Tryz.ntmps192
 go_wp2_with fail
 refine(DC _ hn w).mono ?_
 rintro e w' ⟨⟨k,rfl⟩,rfl⟩
 dsimp only
 go_wp2_with fail
 refine(HI.out k).mono ?_
 rintro e w' ⟨rfl,hY⟩
 dsimp only
 go_wp2_with fail
 go_end0
 exact⟨rfl,hY⟩
theorem aiE(w:World):Calls Tryz.prog 337 #[.slice none 0 0,.int .i64 0,.int .i64 0,.func (.func 113) #[] #[]] w fun e w'=>e=.returned (.tuple #[])∧w=w':=by
 go_enter Tryz.func337,Tryz.ntmps337
 go_wp2_with fail
 refine wp_loop_rounds 1 ?_
 rw[rounds_succ]
 go_wp2_with fail
 go_end0
 exact⟨rfl,rfl⟩
theorem aiF(lm:Int)(w:World):Calls Tryz.prog 274 #[.slice none 0 0,.int .i64 0,.int .i64 0,.int .i64 lm,.func (.func 113) #[] #[]] w fun e w'=>e=.returned (.tuple #[])∧w=w':=by
 go_enter Tryz.func274,Tryz.ntmps274
 go_wp2_with fail
 refine wp_loop_rounds 1 ?_
 rw[rounds_succ]
 go_wp2_with fail
 refine(aiE w).mono ?_
 rintro e w' ⟨rfl,rfl⟩
 dsimp only
 go_wp2_with fail
 refine bodyPost_ret (results_none rfl _ _ _) rfl ⟨rfl,rfl⟩
theorem aiG(w:World):Calls Tryz.prog 192 #[.slice none 0 0,.func (.func 113) #[] #[]] w fun e w'=>e=.returned (.tuple #[])∧w=w':=by
 go_enter Tryz.func192,Tryz.ntmps192
 go_wp2_with fail
 refine(DC 0 (by omega) w).mono ?_
 rintro e w' ⟨⟨k,rfl⟩,rfl⟩
 dsimp only
 go_wp2_with fail
 refine(aiF k w).mono ?_
 rintro e w' ⟨rfl,rfl⟩
 dsimp only
 go_wp2_with fail
 go_end0
 exact⟨rfl,rfl⟩
end Go.Proofs.YtfieenjdcpjmgaaGreatDoor
