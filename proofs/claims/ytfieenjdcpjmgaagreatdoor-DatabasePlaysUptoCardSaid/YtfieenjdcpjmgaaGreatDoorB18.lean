/- A part of the proof. -/
import Derived.Test.YtfieenjdcpjmgaaGreatDoorB17
import Derived.Test.YtfieenjdcpjmgaaGreatDoorB05
import Derived.Test.YtfieenjdcpjmgaaGreatDoorB13
set_option maxRecDepth 100000
set_option maxHeartbeats 8000000
namespace Go.WW
open Go.RowKit
def jg(x d:Entry):Bool:=gq x d.name || d.aliases.any (gq x)
def uj(x d:Entry)(k:Nat):Bool:=gq x d.name || (d.aliases.take k).any (gq x)
theorem aiP{x d:Entry}{k:Nat}(h:k<d.aliases.length):uj x d (k+1)=(uj x d k || gq x d.aliases[k]):=by
 unfold uj
 rw[List.take_succ_eq_append_getElem h,List.any_append]
 simp[Bool.or_assoc]
theorem aiQ{x d:Entry}{k:Nat}(h:d.aliases.length≤k):uj x d k=jg x d:=by unfold uj jg;rw[List.take_of_length_le h]
def Ho(q:Sl)(D:Db)(X:List EE)(w:World)(x:Ending)(w':World):Prop:=∃s:Sl,x=.returned (.tuple #[.agg (ak s q {D with entries:=X.map (·.2),ay:=D.ay+1}),.int .i64 0])∧Below w.heap.size w w'∧bH w' (fresh w.heap.size w') (fun y=>gK y s.a X)
theorem bK.aG{w:World}{r:aN}{d:Entry}(h:bK w r d):d.name.aG.size≤lim:=h.name.2
end Go.WW
namespace Go.Proofs.YtfieenjdcpjmgaaGreatDoor
open Go.RowKit Go.WW
theorem yR(r:aN)(d:Entry)(w:World)(he:bK w r d)(b:Bool)(h:bW d=b):Calls Tryz.prog 76 #[.agg (ae r d)] w fun e w'=>e=.returned (.bool b)∧Below w.heap.size w w':=by
 have x:=ad3 r d w he;rw[h]at x;exact x
theorem aiR(e q:Sl)(D:Db)(r:aN)(d:Entry)(w:World)(he:bK w r d)(hv:bW d=false):Calls Tryz.prog 34 #[.agg (ak e q D),.agg (ae r d)] w fun x w'=>x=.returned (.tuple #[.agg (ak e q D),.int .i64 2])∧Below w.heap.size w w':=by
 obtain⟨W,dE,hB,hx2,hx3,hz,hW⟩:=rO e q D (ae r d) 47 w
 replace dE:=Lib.hid dE
 go_enter Tryz.func34,Tryz.ntmps34
 go_wp2_with fail
 rw[dE.out];clear dE
 refine(yR _ _ _ (he.later hB) false hv).mono ?_
 rintro x w1 ⟨rfl,hb1⟩
 have hs1:=hb1.size
 obtain⟨hc,hf,hr,hlt⟩:=aB (aJ hb1 hx2)
 obtain⟨hc3,hf3,hr3,hlt3⟩:=aB (aJ hb1 hx3)
 dsimp only
 have hlt4:w.heap.size+1+1<w1.heap.size:=by have:=hb1.size;omega
 have hz1:=(gG hb1 (w.heap.size+1+1) 0 4 (by omega)).trans hz
 have hne:w.heap.size+1+1≠w.heap.size:=by omega
 go_wp2_with fail
 have hrow:=iO (w:=w1) (jD e q D) hz1
 exact bodyPost_ret (jE (by rfl) Tryz.underlying32 rfl (by kernel_rfl) rfl hrow) rfl ⟨rfl,Go.WW.Below.putRow (ag hB hb1) (by omega)⟩
theorem aiS(e q:Sl)(D:Db)(r:aN)(d:Entry)(w:World)(he:bK w r d)(hv:bW d=true)(hre:¬d.name.aG=D.aG):Calls Tryz.prog 34 #[.agg (ak e q D),.agg (ae r d)] w fun x w'=>x=.returned (.tuple #[.agg (ak e q D),.int .i64 2])∧Below w.heap.size w w':=by
 have VM:=lu _ _ hre
 clear hre
 obtain⟨W,dE,hB,hx2,hx3,hz,hW⟩:=rO e q D (ae r d) 47 w
 replace dE:=Lib.hid dE
 go_enter Tryz.func34,Tryz.ntmps34
 go_wp2_with fail
 rw[dE.out];clear dE
 refine(yR _ _ _ (he.later hB) true hv).mono ?_
 rintro x w1 ⟨rfl,hb1⟩
 have hs1:=hb1.size
 obtain⟨hc,hf,hr,hlt⟩:=aB (aJ hb1 hx2)
 obtain⟨hc3,hf3,hr3,hlt3⟩:=aB (aJ hb1 hx3)
 dsimp only
 have hlt4:w.heap.size+1+1<w1.heap.size:=by have:=hb1.size;omega
 have hz1:=(gG hb1 (w.heap.size+1+1) 0 4 (by omega)).trans hz
 have hne:w.heap.size+1+1≠w.heap.size:=by omega
 go_wp2_with fail
 have hrow:=iO (w:=w1) (jD e q D) hz1
 exact bodyPost_ret (jE (by rfl) Tryz.underlying32 rfl (by kernel_rfl) rfl hrow) rfl ⟨rfl,Go.WW.Below.putRow (ag hB hb1) (by omega)⟩
theorem aiT(e q:Sl)(D:Db)(r:aN)(d:Entry)(w:World)(he:bK w r d)(hv:bW d=true)(hre:d.name.aG=D.aG)(hp:je w q.a D.au)(hpe:¬d.aO=⟨#[]⟩)(hi:idxOf (fun z=>decide (z.name=d.aO)) D.au=-1):Calls Tryz.prog 34 #[.agg (ak e q D),.agg (ae r d)] w fun x w'=>x=.returned (.tuple #[.agg (ak e q D),.int .i64 9])∧Below w.heap.size w w':=by
 have VM:=str_eq _ _ hre
 have aiU:=lu _ _ hpe
 have MH:¬d.aO.toList=[]:=fun h=>hpe (toList_inj (b:=⟨#[]⟩) (by rw[h,ByteArray.toList_eq]))
 have VO:d.aO.toList.isEmpty=false:=by cases h:d.aO.toList<;>simp_all
 clear hre hpe
 obtain⟨W,dE,hB,hx2,hx3,hz,hW⟩:=rO e q D (ae r d) 47 w
 replace dE:=Lib.hid dE
 go_enter Tryz.func34,Tryz.ntmps34
 go_wp2_with fail
 rw[dE.out];clear dE
 refine(yR _ _ _ (he.later hB) true hv).mono ?_
 rintro x w1 ⟨rfl,hb1⟩
 have hs1:=hb1.size
 obtain⟨hc,hf,hr,hlt⟩:=aB (aJ hb1 hx2)
 obtain⟨hc3,hf3,hr3,hlt3⟩:=aB (aJ hb1 hx3)
 dsimp only
 go_wp2_with fail
 refine(yB _ _ _ _ _ (hp.later (ag hB hb1))).mono ?_
 rintro x w2 ⟨rfl,hb2⟩
 rw[hi]
 have gu:=ag hb1 hb2
 clear hc hf hr hlt hc3 hf3 hr3 hlt3
 obtain⟨hc,hf,hr,hlt⟩:=aB (aJ gu hx2)
 obtain⟨hc3,hf3,hr3,hlt3⟩:=aB (aJ gu hx3)
 dsimp only
 have hlt4:w.heap.size+1+1<w2.heap.size:=by have:=gu.size;omega
 have hz1:=(gG gu (w.heap.size+1+1) 0 4 (by omega)).trans hz
 have hne:w.heap.size+1+1≠w.heap.size:=by omega
 go_wp2_with fail
 have hrow:=iO (w:=w2) (jD e q D) hz1
 exact bodyPost_ret (jE (by rfl) Tryz.underlying32 rfl (by kernel_rfl) rfl hrow) rfl ⟨rfl,Go.WW.Below.putRow (ag hB gu) (by omega)⟩
theorem aiV{α:Type}(f:α→Bool)(l:List α):idxOf f l=-1∨∃i:Nat,i<l.length∧idxOf f l=i:=by
 unfold idxOf
 cases hf:l.findIdx? f with
 |none=>exact .inl rfl
 |some i=>exact .inr ⟨i,(List.findIdx?_eq_some_iff_getElem.1 hf).1,rfl⟩
theorem MI(e q:Sl)(D:Db)(r:aN)(d:Entry)(w:World)(he:bK w r d)(X:List EE)(hX:gK w e.a X)(hm:∀x∈X,bK w x.1 x.2)(hD:D.entries=X.map (·.2))(hn:X.length≤1000)(hv:bW d=true)(hre:d.name.aG=D.aG)(yN:d.aO=⟨#[]⟩∨(je w q.a D.au∧¬d.aO=⟨#[]⟩∧∃jp:Nat,idxOf (fun z=>decide (z.name=d.aO)) D.au=(jp:Int)))(at0:Int)(hat:idxOf (fun z=>aY z.name d.name) D.entries=at0)(hs0:0≤D.ay)(hs1:D.ay<1000000)(Q:Ending→World→Prop)(VP:∀j (h:j<X.length),jg X[j].2 d=true→¬(j:Int)=at0→∀x w',x=.returned (.tuple #[.agg (ak e q D),.int .i64 11])∧Below w.heap.size w w'→Q x w')(hok:(∀i (h:i<X.length),jg X[i].2 d=true→(i:Int)=at0)→∀X5:List EE,(at0=-1∧X5=X∨∃i0:Nat,i0<X.length∧at0=i0∧X5=X.eraseIdx i0)→∀x w',Ho q D (kP fE eY (r,d) X5) w x w'→Q x w'):Calls Tryz.prog 34 #[.agg (ak e q D),.agg (ae r d)] w Q:=by
 have VM:=str_eq _ _ hre
 clear hre
 have hlen:D.entries.length=X.length:=by rw[hD];simp
 have hE:jd w e.a D.entries:=by rw[hD];exact hX.dG hm
 have hal:d.aliases.length≤4294967000:=he.aliases.1
 have hcs:at0=-1∨∃i:Nat,i<X.length∧at0=i:=by rw[←hat,←hlen];exact aiV _ _
 have HB:=Lib.hid VP
 have HO:=Lib.hid hok
 have HC:=Lib.hid hcs
 clear hD VP hok hcs
 obtain⟨W,dE,hB,hx2,hx3,hz,hW⟩:=rO e q D (ae r d) 47 w
 replace dE:=Lib.hid dE
 go_enter Tryz.func34,Tryz.ntmps34
 go_wp2_with fail
 rw[dE.out];clear dE
 refine(yR _ _ _ (he.later hB) true hv).mono ?_
 rintro x w1 ⟨rfl,hb1⟩
 have hs1:=hb1.size
 obtain⟨hc,hf,hr,hlt⟩:=aB (aJ hb1 hx2)
 obtain⟨hc3,hf3,hr3,hlt3⟩:=aB (aJ hb1 hx3)
 dsimp only
 rcases yN with hpe|⟨hp,hpe,jp,hi⟩
 case' inl=>
  have MH:d.aO.toList=[]:=by rw[hpe,ByteArray.toList_eq]
  have VO:d.aO.toList.isEmpty=true:=by rw[MH];rfl
  clear hpe
 case' inr=>
  have aiU:=lu _ _ hpe
  have MH:¬d.aO.toList=[]:=fun h=>hpe (toList_inj (b:=⟨#[]⟩) (by rw[h,ByteArray.toList_eq]))
  have VO:d.aO.toList.isEmpty=false:=by cases h:d.aO.toList<;>simp_all
  clear hpe
  go_wp2_with fail
  refine(yB _ _ _ _ _ (hp.later (ag hB hb1))).mono ?_
  rintro x w1 ⟨rfl,hb2⟩
  rw[hi]
  have hb1:=ag hb1 hb2
  have hs1:=hb1.size
  clear hc hf hr hlt hc3 hf3 hr3 hlt3
  obtain⟨hc,hf,hr,hlt⟩:=aB (aJ hb1 hx2)
  obtain⟨hc3,hf3,hr3,hlt3⟩:=aB (aJ hb1 hx3)
  dsimp only
 all_goals
  go_wp2_with fail
  refine(C9 _ _ _ _ _ _ (hE.later (ag hB hb1)) (he.name.later (ag hB hb1))).mono ?_
  rintro x w4 ⟨rfl,hy4⟩
  rw[hat]
  have hb4:=ag hb1 hy4
  clear hc hf hr hlt hc3 hf3 hr3 hlt3
  obtain⟨hc,hf,hr,hlt⟩:=aB (aJ hb4 hx2)
  obtain⟨hc3,hf3,hr3,hlt3⟩:=aB (aJ hb4 hx3)
  dsimp only
  go_wp2_with fail
  go_loopw [7] (fun iv wr=>Below W.heap.size W wr∧∃k:Nat,k≤D.entries.length∧iv=.int .i64 k∧Hid (∀i (h:i<X.length),i<k→jg X[i].2 d=true→(i:Int)=at0)) (fun iv _=>D.entries.length-(intOf iv).toNat)
  case atStart=>exact⟨hb4,0,Nat.zero_le _,rfl,Lib.hid fun i _ h=>absurd h (Nat.not_lt_zero _)⟩
  case round=>
   obtain⟨hbr,k,hk,rfl,hpre⟩:=hrel
   clear hc hf hr hlt hc3 hf3 hr3 hlt3
   obtain⟨hc,hf,hr,hlt⟩:=aB (aJ hbr hx2)
   obtain⟨hc3,hf3,hr3,hlt3⟩:=aB (aJ hbr hx3)
   have hBr:=ag hB hbr
   by_cases hkl:k<D.entries.length
   ·have hki:(k:Int)<(D.entries.length:Int):=by omega
    have hkX:k<X.length:=by omega
    obtain⟨b,o,ha,hb0⟩:∃b o,e.a=some ⟨b,o,none⟩∧b<w.heap.size:=by rcases aX.addr hX with h0|h0;omega;exact h0
    have hrow0:row? w b (o+k*17) 17=some (ae X[k].1 X[k].2):=(ha▸hX:gK w (some ⟨b,o,none⟩) X).at k hkX
    have hbw:b<wr.heap.size:=Nat.lt_of_lt_of_le hb0 hBr.size
    have hrow:=(gZ (hBr.block b hb0) (o+k*17) 17).trans hrow0
    have hxk:=hm X[k] (List.getElem_mem hkX)
    have VQ:=Lib.hid (show jg X[k].2 d=false∨(k:Int)=at0→∀i (h:i<X.length),i<k+1→jg X[i].2 d=true→(i:Int)=at0 from fun hz i h hi hq=>by
     rcases Nat.lt_succ_iff_lt_or_eq.1 hi with h1|rfl
     ·exact hpre.out i h h1 hq
     ·rcases hz with hz|hz
      ·rw[hz]at hq;cases hq
      ·exact hz)
    have MJ:=Lib.hid (HB.out k hkX)
    generalize X[k]=x at *
    go_wp2_with fail
    refine dM (Below.refl _ wr) (by kernel_rfl) (by kernel_rfl) ?_
    repeat (go_big_quiet_step ((go_at_call 78;rename_i xw;exact Calls.gz (Gv _ _ _ _ _ ((hxk.later hBr).later xw.b) ((he.name.later hBr).later xw.b)))))
    refine wpQuiet_nil ?_
    intro w5 hb5
    have jr:=ag hbr hb5
    clear hc hf hr hlt hc3 hf3 hr3 hlt3 hrow hbw
    obtain⟨hc,hf,hr,hlt⟩:=aB (aJ jr hx2)
    obtain⟨hc3,hf3,hr3,hlt3⟩:=aB (aJ jr hx3)
    obtain⟨wo,hwo⟩:∃wo:World,wo=wr:=⟨_,rfl⟩
    have HZ0:Hid (gq x.2 d.name=uj x.2 d 0):=by simp[Hid,uj]
    generalize gq x.2 d.name=z0 at *
    go_wp2_with fail
    go_loopw [8,9] (fun zv jv wr=>Below W.heap.size W wr∧∃(j:Nat) (z:Bool),j≤d.aliases.length∧jv=.int .i64 j∧zv=.bool z∧Hid (z=uj x.2 d j)) (fun _ jv _=>d.aliases.length-(intOf jv).toNat)
    case atStart=>exact⟨jr,0,z0,Nat.zero_le _,rfl,rfl,HZ0⟩
    case round=>
     obtain⟨hbq,j,z,hj,rfl,rfl,hzz⟩:=hrel
     clear hc hf hr hlt hc3 hf3 hr3 hlt3
     obtain⟨hc,hf,hr,hlt⟩:=aB (aJ hbq hx2)
     obtain⟨hc3,hf3,hr3,hlt3⟩:=aB (aJ hbq hx3)
     have AZ:=ag hB hbq
     by_cases hjl:j<d.aliases.length
     ·have hji:(j:Int)<(d.aliases.length:Int):=by omega
      obtain⟨b2,o2,t2,ha2,hr2,hp2⟩:=he.aliases.get j hjl
      have VR:b2<w.heap.size:=gm hr2
      have aqr:=Nat.lt_of_lt_of_le VR AZ.size
      have aqs:=Nat.lt_of_lt_of_le hb0 AZ.size
      have hrow2:=(gZ (AZ.block b2 VR) (o2+j*2) 2).trans hr2
      have hrow1:=(gZ (AZ.block b hb0) (o+k*17) 17).trans hrow0
      have hst:=aiP (x:=x.2) hjl
      generalize d.aliases[j]=al at *
      cases z
      case' false=>
       have HZ:=Lib.hid (show gq x.2 al=uj x.2 d (j+1) by rw[hst,←hzz.out];rfl)
       clear hst hzz
       go_wp2_with fail
       refine dM (Below.refl _ wr) (by kernel_rfl) (by kernel_rfl) ?_
       repeat (go_big_quiet_step ((go_at_call 78;rename_i xw;exact Calls.gz (Gv _ _ _ _ _ ((hxk.later AZ).later xw.b) ((hp2.later AZ).later xw.b)))))
       refine wpQuiet_nil ?_
       intro w6 hb6
       generalize gq x.2 al=z1 at *
      case' true=>
       have HZ:=Lib.hid (show true=uj x.2 d (j+1) by rw[hst,←hzz.out];rfl)
       clear hst hzz
       go_wp2_with fail
       refine dM (Below.refl _ wr) (by kernel_rfl) (by kernel_rfl) ?_
       repeat (go_big_quiet_step (fail))
       refine wpQuiet_nil ?_
       intro w6 hb6
      all_goals
       have lJ:=ag hbq hb6
       go_wp2_with fail
       go_roundw
       case rel=>first|exact⟨lJ,j+1,_,by omega,by go_num,rfl,HZ.out⟩|((repeat apply Exists.intro);exact⟨⟨lJ,j+1,_,by omega,by go_num,rfl,HZ.out⟩,rfl⟩)
       case measure=>simp[intOf];omega
     ·have HZ:=Lib.hid (show z=jg x.2 d by rw[hzz.out,aiQ (by omega)])
      clear hzz
      by_cases hgo:z=true∧¬(k:Int)=at0
      ·obtain⟨rfl,hne0⟩:=hgo
       have Hq:((k:Int) != at0)=true:=by simpa using hne0
       have hlt4:w.heap.size+1+1<wr.heap.size:=by have:=hbq.size;omega
       have hz1:=(gG hbq (w.heap.size+1+1) 0 4 (by omega)).trans hz
       have hne:w.heap.size+1+1≠w.heap.size:=by omega
       go_wp2_with fail
       have hrow:=iO (w:=wr) (jD e q D) hz1
       exact bodyPost_ret (jE (by rfl) Tryz.underlying32 rfl (by kernel_rfl) rfl hrow) rfl (MJ.out HZ.out.symm hne0 _ _ ⟨rfl,Go.WW.Below.putRow (ag hB hbq) (by omega)⟩)
      ·have HN:=Lib.hid (VQ.out (by rcases Decidable.em ((k:Int)=at0)with h|h;exact .inr h;exact .inl (by rw[←HZ.out];cases z;rfl;exact absurd ⟨rfl,h⟩ hgo)))
       clear VQ
       cases z
       case' true=>
        have Hq:((k:Int) != at0)=false:=by
         have:(k:Int)=at0:=Classical.byContradiction fun h=>hgo ⟨rfl,h⟩
         simp[this]
       all_goals
        clear hgo
        go_wp2_with fail
        go_roundw
        case rel=>first|exact⟨hbq,k+1,by omega,by go_num,HN⟩|((repeat apply Exists.intro);exact⟨⟨hbq,k+1,by omega,by go_num,HN⟩,rfl⟩)
        case measure=>simp[intOf];omega
   ·obtain rfl:k=D.entries.length:=by omega
    have HQ:=Lib.hid (HO.out fun i h=>hpre.out i h (by omega))
    clear hpre
    have aqt:¬(4096:Int)≤(D.entries.length:Int):=by omega
    have Hm:(D.ay+1).tmod 4611686018427387904=D.ay+1:=Int.tmod_eq_of_lt (by omega) (by omega)
    have hne1:w.heap.size+1≠w.heap.size:=by omega
    have hne2:w.heap.size+1+1≠w.heap.size:=by omega
    rcases HC.out with rfl|⟨i0,hi0,rfl⟩
    case' inr=>
     have hq5:=HQ.out _ (.inr ⟨i0,hi0,rfl,rfl⟩)
     have hge:(0:Int)≤(i0:Int):=by omega
     have Hr:¬(i0:Int)<0:=by omega
     have hcon:=TW e.a e.cap X i0 wr (hX.later hBr) hi0
     go_wp2_with fail
     refine hcon.mono ?_
     rintro x w5 ⟨s5,rfl,hb5,hd5⟩
     have jr:=ag hbr hb5
     clear hc hf hr hlt hc3 hf3 hr3 hlt3
     obtain⟨hc,hf,hr,hlt⟩:=aB (aJ jr hx2)
     obtain⟨hc3,hf3,hr3,hlt3⟩:=aB (aJ jr hx3)
     dsimp only
     go_wp2_with fail
     obtain⟨V,hV⟩:∃V,(w5.setCell ⟨w.heap.size,2,none⟩ (.slice s5.a (X.eraseIdx i0).length s5.cap))=V:=⟨_,rfl⟩
     have hv2:V.heap[w.heap.size]?=some (.cells (ak s5 q {D with entries:=(X.eraseIdx i0).map (·.2)}) 32):=hV▸(dI (o:=2) _ (aJ jr hx2)).trans (by rw[show(X.eraseIdx i0).length=((X.eraseIdx i0).map (·.2)).length from(List.length_map _).symm,TT])
     have hv3:V.heap[w.heap.size+1]?=some (.cells (ae r d) 47):=hV▸(Below.heap_setCell _ _ _ _ hne1).trans (aJ jr hx3)
     have VS:aS V (w.heap.size+1+1) 0 4=true:=hV▸(lZ hne2).trans ((gG jr (w.heap.size+1+1) 0 4 (by omega)).trans hz)
     have jf:Below w.heap.size w V:=hV▸(ag hB jr).setCell (by simp) _
     have hXV:gK V s5.a (X.eraseIdx i0):=hd5 _ (fun g hg=>hV▸Below.heap_setCell _ _ _ _ (show g≠w.heap.size by have:=hg.1;have:=hbr.size;omega))
     have MK:w.heap.size+1+1<V.heap.size:=by rw[←hV];simp only[World.setCell,Array.size_modify];have:=jr.size;omega
     have hmV:∀x∈X.eraseIdx i0,bK w x.1 x.2:=fun x hx=>hm x (List.mem_of_mem_eraseIdx hx)
     have hnV:(X.eraseIdx i0).length≤1000000:=by have:=List.length_eraseIdx_le X i0;omega
     rw[hV]
     clear hc hf hr hlt hc3 hf3 hr3 hlt3 hV
     generalize X.eraseIdx i0=X5 at *
     refine(TY s5.a s5.cap X5 r d V hXV (fun x hx=>(hmV x hx).later jf) (he.later jf) hnV).mono ?_
    case' inl=>
     have hq5:=HQ.out _ (.inl ⟨rfl,rfl⟩)
     have hv2:=aJ hbr hx2
     have hv3:=aJ hbr hx3
     have VS:=(gG hbr (w.heap.size+1+1) 0 4 (by omega)).trans hz
     have jf:=hBr
     have MK:w.heap.size+1+1<wr.heap.size:=by have:=hbr.size;omega
     have hcon:=TY e.a e.cap X r d wr (hX.later hBr) (fun x hx=>(hm x hx).later hBr) (he.later hBr) (by omega)
     go_wp2_with fail
     refine hcon.mono ?_
     generalize wr=V at *
     clear hc hf hr hlt hc3 hf3 hr3 hlt3
     obtain⟨X5,hq⟩:∃q,q=X:=⟨_,rfl⟩
     subst hq
    all_goals
     rintro x w7 ⟨s7,rfl,hb7,hd7⟩
     generalize kP fE eY (r,d) X5=X7 at *
     have hy2:=aJ hb7 hv2
     have hs7:=hb7.size
     obtain⟨hc,hf,hr,hlt⟩:=aB hy2
     have hset:=dI (o:=1) (.int .i64 (D.ay+1)) (dI (o:=2) (.slice s7.a X7.length s7.cap) hy2)
     have DK:row? ((w7.setCell ⟨w.heap.size,2,none⟩ (.slice s7.a X7.length s7.cap)).setCell ⟨w.heap.size,1,none⟩ (.int .i64 (D.ay+1))) w.heap.size 0 4=some (ak s7 q {D with entries:=X7.map (·.2),ay:=D.ay+1}):=(bQ hset).trans (by rw[show X7.length=(X7.map (·.2)).length from(List.length_map _).symm];kernel_rfl)
     have hcp:aS ((w7.setCell ⟨w.heap.size,2,none⟩ (.slice s7.a X7.length s7.cap)).setCell ⟨w.heap.size,1,none⟩ (.int .i64 (D.ay+1))) (w.heap.size+1+1) 0 4=true:=(lZ hne2).trans ((lZ hne2).trans ((gG hb7 (w.heap.size+1+1) 0 4 MK).trans VS))
     clear hr
     dsimp only
     go_wp2_with fail
     have hrow:=iO (jD s7 q {D with entries:=X7.map (·.2),ay:=D.ay+1}) hcp
     refine bodyPost_ret (jE (by rfl) Tryz.underlying32 rfl (by kernel_rfl) rfl hrow) rfl (hq5 _ _ ⟨s7,rfl,Go.WW.Below.putRow (((ag jf hb7).setCell (by simp) _).setCell (by simp) _) (by omega),fun y hy=>hd7 _ (fun g hg=>?_)⟩)
     have hg1:=hg.1
     have hg2:=hg.2
     rw[hy g ⟨by omega,by rw[kN];simp only[World.setCell,Array.size_modify];omega⟩,iI (by omega),Below.heap_setCell _ _ _ _ (show g≠w.heap.size by omega),Below.heap_setCell _ _ _ _ (show g≠w.heap.size by omega)]
end Go.Proofs.YtfieenjdcpjmgaaGreatDoor
namespace Go.WW
def yS(L:List (ByteArray×ByteArray))(k o:ByteArray):List (ByteArray×ByteArray):=if L.any (fun x=>decide (x.1=k))=true then L.map (fun x=>if x.1=k then(k,o)else x)else L++[(k,o)]
def delS(L:List (ByteArray×ByteArray))(k:ByteArray):List (ByteArray×ByteArray):=L.filter fun x=>decide (x.1≠k)
theorem aiZ(L:List (ByteArray×ByteArray))(k o:ByteArray):oh (dU L) k (.string o)=dU (yS L k o):=by
 have h:hasK (dU L) k=L.any (fun x=>decide (x.1=k)):=by
  unfold hasK dU;rw[List.any_map];rfl
 unfold oh yS
 rw[h]
 unfold dU
 split
 ·rw[List.map_map,List.map_map]
  refine List.map_congr_left fun x _=>?_
  simp only[Function.comp]
  split<;>rfl
 ·simp
theorem ai0(L:List (ByteArray×ByteArray))(k:ByteArray):lG (dU L) k=dU (delS L k):=by
 unfold lG delS dU
 rw[List.filter_map]
 rfl
def yT(L:List (ByteArray×ByteArray))(k:ByteArray)(ps:List az):List (ByteArray×ByteArray):=ps.foldl (fun m p=>yS m (textOf p) k) L
def xy(L:List (ByteArray×ByteArray))(ps:List az):List (ByteArray×ByteArray):=ps.foldl (fun m p=>delS m (textOf p)) L
theorem VT(k:ByteArray):∀(ps:List az) (L:List (ByteArray×ByteArray)),rH (dU L) k ps=dU (yT L k ps)
 | [],_=>rfl
 |p::ps,L=>by
  show rH (oh (dU L) (textOf p) (.string k)) k ps=dU (yT (yS L (textOf p) k) k ps)
  rw[aiZ];exact VT k ps _
theorem ML:∀(ps:List az) (L:List (ByteArray×ByteArray)),rG (dU L) ps=dU (xy L ps)
 | [],_=>rfl
 |p::ps,L=>by
  show rG (lG (dU L) (textOf p)) ps=dU (xy (delS L (textOf p)) ps)
  rw[ai0];exact ML ps _
theorem ai1{L:List (ByteArray×ByteArray)}{j k o:ByteArray}:(k,o)∈delS L j↔k≠j∧(k,o)∈L:=by
 unfold delS
 rw[List.mem_filter]
 simp only[ne_eq,decide_not,Bool.not_eq_eq_eq_not,Bool.not_true,decide_eq_false_iff_not]
 exact And.comm
theorem ai2{L:List (ByteArray×ByteArray)}{j v k o:ByteArray}:(k,o)∈yS L j v↔(k=j∧o=v)∨(k≠j∧(k,o)∈L):=by
 unfold yS
 by_cases h:L.any (fun x=>decide (x.1=j))=true
 ·rw[if_pos h]
  obtain⟨x0,hx0,e0⟩:=List.any_eq_true.1 h
  have e0:x0.1=j:=by simpa using e0
  constructor
  ·intro hm
   obtain⟨x,hx,e⟩:=List.mem_map.1 hm
   by_cases hj:x.1=j
   ·rw[if_pos hj]at e;cases e;exact .inl ⟨rfl,rfl⟩
   ·rw[if_neg hj]at e;subst e;exact .inr ⟨hj,hx⟩
  ·rintro(⟨rfl,rfl⟩|⟨h1,h2⟩)
   ·exact List.mem_map.2 ⟨x0,hx0,by rw[if_pos e0]⟩
   ·exact List.mem_map.2 ⟨(k,o),h2,by rw[if_neg h1]⟩
 ·rw[if_neg h]
  have hn:∀x∈L,¬x.1=j:=fun x hx e=>h (List.any_eq_true.2 ⟨x,hx,by simpa using e⟩)
  constructor
  ·intro hm
   rcases List.mem_append.1 hm with h1|h1
   ·exact .inr ⟨hn _ h1,h1⟩
   ·simp only[List.mem_singleton,Prod.mk.injEq]at h1;exact .inl h1
  ·rintro(⟨rfl,rfl⟩|⟨h1,h2⟩)
   ·simp
   ·exact List.mem_append_left _ h2
theorem VU{k o:ByteArray}:∀(ps:List az) (L:List (ByteArray×ByteArray)),(k,o)∈xy L ps↔(∀q∈ps,k≠textOf q)∧(k,o)∈L
 | [],L=>by simp[xy]
 |p::ps,L=>by
  show(k,o)∈xy (delS L (textOf p)) ps↔_
  rw[VU ps,ai1]
  constructor
  ·rintro⟨h1,h2,h3⟩
   exact⟨fun q hq=>by rcases List.mem_cons.1 hq with rfl|hq<;>first|exact h2|exact h1 q hq,h3⟩
  ·rintro⟨h1,h2⟩
   exact⟨fun q hq=>h1 q (List.mem_cons_of_mem _ hq),h1 p (List.mem_cons_self ..),h2⟩
theorem VW{v k o:ByteArray}:∀(ps:List az) (L:List (ByteArray×ByteArray)),(k,o)∈yT L v ps↔(o=v∧∃q∈ps,k=textOf q)∨((∀q∈ps,k≠textOf q)∧(k,o)∈L)
 | [],L=>by simp[yT]
 |p::ps,L=>by
  show(k,o)∈yT (yS L (textOf p) v) v ps↔_
  rw[VW ps,ai2]
  constructor
  ·rintro(⟨h1,q,hq,h2⟩|⟨h1,(⟨h2,h3⟩|⟨h2,h3⟩)⟩)
   ·exact .inl ⟨h1,q,List.mem_cons_of_mem _ hq,h2⟩
   ·exact .inl ⟨h3,p,List.mem_cons_self ..,h2⟩
   ·exact .inr ⟨fun q hq=>by rcases List.mem_cons.1 hq with rfl|hq<;>first|exact h2|exact h1 q hq,h3⟩
  ·rintro(⟨h1,q,hq,h2⟩|⟨h1,h2⟩)
   ·by_cases hp:∃q∈ps,k=textOf q
    ·exact .inl ⟨h1,hp⟩
    ·have hn:∀q∈ps,k≠textOf q:=fun q hq e=>hp ⟨q,hq,e⟩
     rcases List.mem_cons.1 hq with rfl|hq
     ·exact .inr ⟨hn,.inl ⟨h2,h1⟩⟩
     ·exact absurd h2 (hn q hq)
   ·exact .inr ⟨fun q hq=>h1 q (List.mem_cons_of_mem _ hq),.inr ⟨h1 p (List.mem_cons_self ..),h2⟩⟩
theorem Ht{β:Type}{l:List β}(h:l.Nodup){i j:Nat}(hi:i<l.length)(hj:j<l.length)(e:l[i]=l[j]):i=j:=by
 rcases Nat.lt_trichotomy i j with h1|h1|h1
 ·exact absurd e (List.pairwise_iff_getElem.1 h i j hi hj h1)
 ·exact h1
 ·exact absurd e.symm (List.pairwise_iff_getElem.1 h j i hj hi h1)
def iQ(d:Entry):List az:=d.name::d.aliases
def vG(NL:List (ByteArray×ByteArray))(E:List Entry):Prop:=∀k o,(k,o)∈NL↔∃x∈E,textOf x.name=o∧∃q∈iQ x,k=textOf q
structure gY(E:List Entry):Prop where
 ok:∀x∈E,bW x=true
 nodup:(E.map fun x=>textOf x.name).Nodup
 apart:∀x∈E,∀y∈E,∀q∈iQ x,∀q'∈iQ y,textOf q=textOf q'→textOf x.name=textOf y.name
theorem gY.nil:gY []:=⟨by simp,by simp,by simp⟩
theorem gY.perm{E F:List Entry}(h:gY E)(p:F.Perm E):gY F:=
 ⟨fun x hx=>h.ok x (p.mem_iff.1 hx),(p.map _).nodup_iff.2 h.nodup,fun x hx y hy=>h.apart x (p.mem_iff.1 hx) y (p.mem_iff.1 hy)⟩
theorem gY.same{E:List Entry}(h:gY E){x y:Entry}(hx:x∈E)(hy:y∈E)(e:textOf x.name=textOf y.name):x=y:=by
 obtain⟨i,hi,rfl⟩:=List.mem_iff_getElem.1 hx
 obtain⟨j,hj,rfl⟩:=List.mem_iff_getElem.1 hy
 obtain rfl:=Ht h.nodup (i:=i) (j:=j) (by simpa using hi) (by simpa using hj) (by simpa using e)
 rfl
theorem ai3{l:List az}(h:different l=true):∀q∈l,bG q=true:=by
 intro q hq
 obtain⟨i,hi,rfl⟩:=List.mem_iff_getElem.1 hq
 cases hp:bG l[i]with
 |true=>rfl
 |false=>rw[RF i hi hp]at h;cases h
theorem rQ{d:Entry}(h:bW d=true):∀q∈iQ d,bG q=true:=by
 simp only[bW,Bool.and_eq_true]at h
 obtain⟨⟨⟨⟨⟨⟨⟨⟨⟨h1,h2⟩,-⟩,-⟩,-⟩,-⟩,-⟩,-⟩,-⟩,-⟩:=h
 intro q hq
 rcases List.mem_cons.1 hq with rfl|hq
 ·exact h1
 ·exact ai3 h2 q hq
def kz(E:List Entry)(k:ByteArray):List Entry:=E.filter fun x=>decide (textOf x.name≠k)
theorem VX{E:List Entry}{k:ByteArray}(h:∀x∈E,textOf x.name≠k):kz E k=E:=List.filter_eq_self.2 fun x hx=>by simpa using h x hx
theorem Hu{E:List Entry}{k:ByteArray}{x:Entry}:x∈kz E k↔x∈E∧textOf x.name≠k:=by simp[kz]
theorem VY{NL:List (ByteArray×ByteArray)}{E:List Entry}(h:vG NL E)(hg:gY E){x0:Entry}(hx:x0∈E):vG (xy NL (iQ x0)) (kz E (textOf x0.name)):=by
 intro k o
 rw[VU,h k o]
 constructor
 ·rintro⟨h1,x,kY,h2,q,hq,h3⟩
  refine⟨x,Hu.2 ⟨kY,fun e=>?_⟩,h2,q,hq,h3⟩
  rw[hg.same kY hx e]at hq
  exact h1 q hq h3
 ·rintro⟨x,kY,h2,q,hq,h3⟩
  obtain⟨kY,hne⟩:=Hu.1 kY
  exact⟨fun q' hq' e=>hne (hg.apart x kY x0 hx q hq q' hq' (h3.symm.trans e)),x,kY,h2,q,hq,h3⟩
theorem ai4{NL yU:List (ByteArray×ByteArray)}{E E1:List Entry}{d:Entry}(h:vG NL E)(h1:vG yU E1)(hE:∀x∈E1,x∈E∧textOf x.name≠textOf d.name)(hf:ug NL (textOf d.name) (iQ d)) :
  vG (yT yU (textOf d.name) (iQ d)) (E1++[d]):=by
 intro k o
 rw[VW,h1 k o]
 constructor
 ·rintro(⟨rfl,q,hq,rfl⟩|⟨h2,x,hx,h3⟩)
  ·exact⟨d,by simp,rfl,q,hq,rfl⟩
  ·exact⟨x,List.mem_append_left _ hx,h3⟩
 ·rintro⟨x,hx,rfl,q,hq,rfl⟩
  rcases List.mem_append.1 hx with hx|hx
  ·refine .inr ⟨fun q' hq' e=>?_,x,hx,rfl,q,hq,rfl⟩
   have hm:(textOf q',textOf x.name)∈NL:=(h _ _).2 ⟨x,(hE x hx).1,rfl,q,hq,e.symm⟩
   exact(hE x hx).2 (hf q' hq' _ hm)
  ·simp only[List.mem_singleton]at hx
   subst hx
   exact .inl ⟨rfl,q,hq,rfl⟩
theorem ai5{NL:List (ByteArray×ByteArray)}{E E1:List Entry}{d:Entry}(h:vG NL E)(hg:gY E)(hv:bW d=true)(hE:∀x∈E1,x∈E∧textOf x.name≠textOf d.name)(hn:(E1.map fun x=>textOf x.name).Nodup)(hf:ug NL (textOf d.name) (iQ d)):gY (E1++[d]):=by
 have key:∀x∈E1,∀q∈iQ x,∀q'∈iQ d,textOf q=textOf q'→False:=fun x hx q hq q' hq' e=>by
  have hm:(textOf q',textOf x.name)∈NL:=(h _ _).2 ⟨x,(hE x hx).1,rfl,q,hq,e.symm⟩
  exact(hE x hx).2 (hf q' hq' _ hm)
 refine⟨fun x hx=>?_,?_,fun x hx y hy q hq q' hq' e=>?_⟩
 ·rcases List.mem_append.1 hx with hx|hx
  ·exact hg.ok x (hE x hx).1
  ·simp only[List.mem_singleton]at hx;subst hx;exact hv
 ·rw[List.map_append]
  refine List.nodup_append.2 ⟨hn,by simp,?_⟩
  intro a ha c hc e
  simp only[List.map_cons,List.map_nil,List.mem_singleton]at hc
  obtain⟨x,hx,rfl⟩:=List.mem_map.1 ha
  exact(hE x hx).2 (e.trans hc)
 ·rcases List.mem_append.1 hx with hx1|hx1<;>rcases List.mem_append.1 hy with hy1|hy1
  ·exact hg.apart x (hE x hx1).1 y (hE y hy1).1 q hq q' hq' e
  ·simp only[List.mem_singleton]at hy1;subst hy1
   exact(key x hx1 q hq q' hq' e).elim
  ·simp only[List.mem_singleton]at hx1;subst hx1
   exact(key y hy1 q' hq' q hq e.symm).elim
  ·simp only[List.mem_singleton]at hx1 hy1;rw[hx1,hy1]
theorem Hw{p q:az}(hp:bG p=true)(hq:bG q=true):aY p q=true↔textOf p=textOf q:=(JY (tu hp) (tu hq)).symm
theorem VZ{x d:Entry}(hx:bW x=true)(hd:bW d=true):jg x d=true↔∃q∈iQ x,∃q'∈iQ d,textOf q=textOf q':=by
 have qo:=rQ hx
 have hdn:=rQ hd
 have one:∀p∈iQ d,(gq x p=true↔∃q∈iQ x,textOf q=textOf p):=fun p hp=>by
  unfold gq
  rw[Bool.or_eq_true,List.any_eq_true]
  constructor
  ·rintro(⟨q,hq,e⟩|e)
   ·exact⟨q,List.mem_cons_of_mem _ hq,(Hw (qo q (List.mem_cons_of_mem _ hq)) (hdn p hp)).1 e⟩
   ·exact⟨x.name,List.mem_cons_self ..,(Hw (qo _ (List.mem_cons_self ..)) (hdn p hp)).1 e⟩
  ·rintro⟨q,hq,e⟩
   have e':=(Hw (qo q hq) (hdn p hp)).2 e
   rcases List.mem_cons.1 hq with rfl|hq
   ·exact .inr e'
   ·exact .inl ⟨q,hq,e'⟩
 unfold jg
 rw[Bool.or_eq_true,List.any_eq_true]
 constructor
 ·rintro(h|⟨p,hp,h⟩)
  ·obtain⟨q,hq,e⟩:=(one _ (List.mem_cons_self ..)).1 h
   exact⟨q,hq,_,List.mem_cons_self ..,e⟩
  ·obtain⟨q,hq,e⟩:=(one p (List.mem_cons_of_mem _ hp)).1 h
   exact⟨q,hq,p,List.mem_cons_of_mem _ hp,e⟩
 ·rintro⟨q,hq,p,hp,e⟩
  have:=(one p hp).2 ⟨q,hq,e⟩
  rcases List.mem_cons.1 hp with rfl|hp
  ·exact .inl this
  ·exact .inr ⟨p,hp,this⟩
theorem We{NL:List (ByteArray×ByteArray)}{E:List Entry}{d:Entry}(h:vG NL E)(hg:gY E)(hd:bW d=true):GX NL d↔∃x∈E,jg x d=true∧textOf x.name≠textOf d.name:=by
 constructor
 ·rintro⟨q,hq,o,hm,hne⟩
  obtain⟨x,hx,rfl,q',hq',e⟩:=(h _ _).1 hm
  exact⟨x,hx,(VZ (hg.ok x hx) hd).2 ⟨q',hq',q,hq,e.symm⟩,hne⟩
 ·rintro⟨x,hx,hb,hne⟩
  obtain⟨q,hq,q',hq',e⟩:=(VZ (hg.ok x hx) hd).1 hb
  exact⟨q',hq',textOf x.name,(h _ _).2 ⟨x,hx,rfl,q,hq,e.symm⟩,hne⟩
theorem MM{NL:List (ByteArray×ByteArray)}{d:Entry}:ug NL (textOf d.name) (iQ d)↔¬GX NL d:=by
 constructor
 ·rintro h ⟨q,hq,o,hm,hne⟩
  exact hne (h q hq o hm)
 ·intro h q hq o hm
  exact Classical.byContradiction fun hne=>h ⟨q,hq,o,hm,hne⟩
theorem Wh{E:List Entry}(hg:gY E){d:Entry}(hd:bW d=true) :
  (idxOf (fun z=>aY z.name d.name) E=-1∧∀x∈E,textOf x.name≠textOf d.name)∨
  ∃i,∃hi:i<E.length,idxOf (fun z=>aY z.name d.name) E=(i:Int)∧textOf E[i].name=textOf d.name:=by
 have st:∀x∈E,(aY x.name d.name=true↔textOf x.name=textOf d.name):=fun x hx=>Hw (rQ (hg.ok x hx) _ (List.mem_cons_self ..)) (rQ hd _ (List.mem_cons_self ..))
 unfold idxOf
 cases hf:E.findIdx? (fun z=>aY z.name d.name)with
 |none=>
  refine .inl ⟨rfl,fun x hx e=>?_⟩
  have:=(List.findIdx?_eq_none_iff.1 hf) x hx
  rw[(st x hx).2 e]at this;cases this
 |some i=>
  obtain⟨hi,h1,-⟩:=List.findIdx?_eq_some_iff_getElem.1 hf
  exact .inr ⟨i,hi,rfl,(st _ (List.getElem_mem hi)).1 h1⟩
theorem Wi{E:List Entry}(hn:(E.map fun x=>textOf x.name).Nodup){i:Nat}(hi:i<E.length):E.eraseIdx i=kz E (textOf E[i].name):=by
 induction E generalizing i with
 |nil=>simp at hi
 |cons x E ih=>
  simp only[List.map_cons,List.nodup_cons]at hn
  cases i with
  |zero=>
   have:kz (x::E) (textOf x.name)=E:=by
    unfold kz
    rw[List.filter_cons_of_neg (by simp)]
    exact List.filter_eq_self.2 fun y hy=>by
     have:¬textOf y.name=textOf x.name:=fun e=>hn.1 (List.mem_map.2 ⟨y,hy,e⟩)
     simp[this]
   simpa using this.symm
  |succ i=>
   have hi':i<E.length:=by simpa using hi
   have hne:¬textOf x.name=textOf E[i].name:=fun e=>hn.1 (List.mem_map.2 ⟨E[i],List.getElem_mem hi',e.symm⟩)
   simp only[List.eraseIdx_cons_succ,List.getElem_cons_succ]
   rw[ih hn.2 hi']
   unfold kz
   rw[List.filter_cons_of_pos (by simp[hne])]
theorem A7{E:List Entry}(hg:gY E){i j:Nat}(hi:i<E.length)(hj:j<E.length)(e:textOf E[i].name=textOf E[j].name):i=j:=by
 exact Ht hg.nodup (i:=i) (j:=j) (by simpa using hi) (by simpa using hj) (by simpa using e)
theorem Wj(f:Nat→Prop):∀n,(∃i,i<n∧f i)→∃i,i<n∧f i∧∀j,j<i→¬f j:=by
 intro n
 induction n with
 |zero=>rintro⟨i,h,_⟩;omega
 |succ n ih=>
  rintro⟨i,h,hf⟩
  by_cases hn:∃i,i<n∧f i
  ·obtain⟨j,h1,h2,h3⟩:=ih hn
   exact⟨j,by omega,h2,h3⟩
  ·exact⟨i,h,hf,fun j hj hfj=>hn ⟨j,by omega,hfj⟩⟩
inductive ai6(E:List Entry)(d:Entry):Prop where
 |busy (at0:Int) (jb:Nat) (h:jb<E.length) (hat:idxOf (fun z=>aY z.name d.name) E=at0) (hb:jg E[jb] d=true) (hpre:∀i (h:i<E.length),i<jb→jg E[i] d=true→(i:Int)=at0) (hn:¬(jb:Int)=at0) (hx:∃x∈E,jg x d=true∧textOf x.name≠textOf d.name)
 |new (hat:idxOf (fun z=>aY z.name d.name) E=-1) (hnb:∀i (h:i<E.length),jg E[i] d=true→(i:Int)=-1) (hno:∀x∈E,textOf x.name≠textOf d.name) (hx:∀x∈E,jg x d=true→textOf x.name=textOf d.name)
 |old (i0:Nat) (h:i0<E.length) (hat:idxOf (fun z=>aY z.name d.name) E=(i0:Int)) (hnb:∀i (h:i<E.length),jg E[i] d=true→(i:Int)=(i0:Int)) (he:textOf E[i0].name=textOf d.name) (hx:∀x∈E,jg x d=true→textOf x.name=textOf d.name)
theorem ai7{E:List Entry}(hg:gY E){d:Entry}(hd:bW d=true):ai6 E d:=by
 by_cases hx:∃x∈E,jg x d=true∧textOf x.name≠textOf d.name
 ·have hat:∃at0:Int,idxOf (fun z=>aY z.name d.name) E=at0∧∀i (h:i<E.length),((i:Int)=at0↔textOf E[i].name=textOf d.name):=by
   rcases Wh hg hd with⟨h1,h2⟩|⟨i0,hi0,h1,h2⟩
   ·exact⟨-1,h1,fun i hi=>⟨fun e=>by omega,fun e=>absurd e (h2 _ (List.getElem_mem hi))⟩⟩
   ·refine⟨i0,h1,fun i hi=>⟨fun e=>?_,fun e=>?_⟩⟩
    ·obtain rfl:i=i0:=by omega
     exact h2
    ·rw[A7 hg hi hi0 (e.trans h2.symm)]
  obtain⟨at0,h1,h2⟩:=hat
  obtain⟨x,kY,hxb,qo⟩:=hx
  obtain⟨j,hj,rfl⟩:=List.mem_iff_getElem.1 kY
  obtain⟨jb,hjb,⟨hl,hb,hne⟩,hpre⟩:=Wj (fun i=>∃h:i<E.length,jg E[i] d=true∧¬(i:Int)=at0) E.length ⟨j,hj,hj,hxb,fun e=>qo ((h2 j hj).1 e)⟩
  exact .busy at0 jb hl h1 hb (fun i hi hij hbi=>Classical.byContradiction fun hn=>hpre i hij ⟨hi,hbi,hn⟩) hne ⟨E[j],List.getElem_mem hj,hxb,qo⟩
 ·have hx':∀x∈E,jg x d=true→textOf x.name=textOf d.name:=fun x kY hb=>Classical.byContradiction fun hn=>hx ⟨x,kY,hb,hn⟩
  rcases Wh hg hd with⟨h1,h2⟩|⟨i0,hi0,h1,h2⟩
  ·exact .new h1 (fun i hi hb=>absurd (hx' _ (List.getElem_mem hi) hb) (h2 _ (List.getElem_mem hi))) h2 hx'
  ·refine .old i0 hi0 h1 (fun i hi hb=>?_) h2 hx'
   rw[A7 hg hi hi0 ((hx' _ (List.getElem_mem hi) hb).trans h2.symm)]
def mr(at_:Int):Nat→List ai→List ai
 |_,[]=>[]
 |k,q::l=>(if(k:Int) != at_ then [q]else [])++mr at_ (k+1) l
theorem yV(p:ai)(at_:Int):∀(l:List ai) (k:Nat) (dn:Bool),(fF p at_ k dn l).Perm ((if dn then []else [p])++mr at_ k l)
 | [],_,dn=>by cases dn<;>simp[fF,mr]
 |q::l,k,dn=>by
  unfold fF mr
  generalize (if(k:Int) != at_ then [q]else [])=M
  cases dn with
  |true=>
   have:=yV p at_ l (k+1) true
   simpa using this.append_left M
  |false=>
   cases qm p.name q.name with
   |true=>
    have:=yV p at_ l (k+1) true
    simpa using this.append_left M
   |false=>
    have:=(yV p at_ l (k+1) false).append_left M
    simp only[Bool.not_false,Bool.true_and,Bool.or_false,Bool.false_eq_true,if_false,List.nil_append]at this ⊢
    exact this.trans (by simp)
theorem MN:∀(l:List ai) (k:Nat),mr (-1) k l=l
 | [],_=>rfl
 |q::l,k=>by
  unfold mr
  rw[MN l (k+1)]
  have:((k:Int) != -1)=true:=by simp
  rw[this];rfl
theorem Wl:∀(l:List ai) (k:Nat) (at_:Int),at_<(k:Int)→mr at_ k l=l
 | [],_,_,_=>rfl
 |q::l,k,at_,h=>by
  unfold mr
  rw[Wl l (k+1) at_ (by omega)]
  have:((k:Int) != at_)=true:=by simp;omega
  rw[this];rfl
theorem MO:∀(l:List ai) (k i:Nat),mr ((k+i:Nat):Int) k l=l.eraseIdx i
 | [],_,_=>rfl
 |q::l,k,0=>by
  unfold mr
  rw[Wl l (k+1) _ (by omega)]
  simp
 |q::l,k,i+1=>by
  unfold mr
  have:=MO l (k+1) i
  rw[show k+1+i=k+(i+1) by omega]at this
  rw[this]
  have:((k:Int) != ((k+(i+1):Nat):Int))=true:=by simp;omega
  rw[this];rfl
theorem Hy{α:Type}(f:α→ByteArray){E:List α}(hn:(E.map f).Nodup){i:Nat}(hi:i<E.length):E.eraseIdx i=E.filter fun x=>decide (f x≠f E[i]):=by
 induction E generalizing i with
 |nil=>simp at hi
 |cons x E ih=>
  simp only[List.map_cons,List.nodup_cons]at hn
  cases i with
  |zero=>
   simp only[List.eraseIdx_zero,List.tail_cons,List.getElem_cons_zero]
   rw[List.filter_cons_of_neg (by simp)]
   exact(List.filter_eq_self.2 fun y hy=>by
    have:¬f y=f x:=fun e=>hn.1 (List.mem_map.2 ⟨y,hy,e⟩)
    simp[this]).symm
  |succ i=>
   have hi':i<E.length:=by simpa using hi
   have hne:¬f x=f E[i]:=fun e=>hn.1 (List.mem_map.2 ⟨E[i],List.getElem_mem hi',e.symm⟩)
   simp only[List.eraseIdx_cons_succ,List.getElem_cons_succ]
   rw[ih hn.2 hi',List.filter_cons_of_pos (by simp[hne])]
theorem Wn(q:ai):∀(P:List ai),(P.map (·.name)).Nodup→P.any (fun x=>decide (x.name=q.name))=true→(P.map (fun x=>if x.name=q.name then q else x)).Perm (q::P.filter fun x=>decide (x.name≠q.name))
 | [],_,h=>by simp at h
 |x::P,hn,h=>by
  simp only[List.map_cons,List.nodup_cons]at hn
  by_cases hx:x.name=q.name
  ·have h1:P.map (fun x=>if x.name=q.name then q else x)=P:=by
    conv=>rhs;rw[←List.map_id P]
    refine List.map_congr_left fun y hy=>?_
    have:¬y.name=q.name:=fun e=>hn.1 (List.mem_map.2 ⟨y,hy,e.trans hx.symm⟩)
    simp[this]
   have h2:(P.filter fun x=>decide (x.name≠q.name))=P:=List.filter_eq_self.2 fun y hy=>by
    have:¬y.name=q.name:=fun e=>hn.1 (List.mem_map.2 ⟨y,hy,e.trans hx.symm⟩)
    simp[this]
   rw[List.map_cons,h1,if_pos hx,List.filter_cons_of_neg (by simp[hx]),h2]
  ·have h':P.any (fun x=>decide (x.name=q.name))=true:=by simpa[hx]using h
   rw[List.map_cons,if_neg hx,List.filter_cons_of_pos (by simp[hx])]
   exact((Wn q P hn.2 h').cons x).trans (List.Perm.swap _ _ _)
structure mD(P L:List ai):Prop where
 perm:P.Perm L
 nodup:(L.map (·.name)).Nodup
 ok:∀q∈L,dP q=true
theorem mD.nil:mD [] []:=⟨List.Perm.refl _,by simp,by simp⟩
theorem mD.any{P L:List ai}(h:mD P L)(k:ByteArray):P.any (fun x=>decide (x.name=k))=L.any (fun x=>decide (x.name=k)):=by
 rw[Bool.eq_iff_iff,List.any_eq_true,List.any_eq_true]
 exact⟨fun⟨x,hx,e⟩=>⟨x,h.perm.mem_iff.1 hx,e⟩,fun⟨x,hx,e⟩=>⟨x,h.perm.mem_iff.2 hx,e⟩⟩
theorem A8(L:List ai)(k:ByteArray):(idxOf (fun z=>decide (z.name=k)) L=-1∧L.any (fun x=>decide (x.name=k))=false)∨∃i,∃hi:i<L.length,idxOf (fun z=>decide (z.name=k)) L=(i:Int)∧L[i].name=k∧L.any (fun x=>decide (x.name=k))=true:=by
 unfold idxOf
 cases hf:L.findIdx? (fun z=>decide (z.name=k))with
 |none=>
  refine .inl ⟨rfl,?_⟩
  rw[List.any_eq_false]
  intro x hx
  have:=(List.findIdx?_eq_none_iff.1 hf) x hx
  simp[this]
 |some i=>
  obtain⟨hi,h1,-⟩:=List.findIdx?_eq_some_iff_getElem.1 hf
  exact .inr ⟨i,hi,rfl,by simpa using h1,List.any_eq_true.2 ⟨L[i],List.getElem_mem hi,h1⟩⟩
theorem mD.new{P L:List ai}(h:mD P L){q:ai}(hq:dP q=true)(hn:L.any (fun x=>decide (x.name=q.name))=false):mD (qi P q) (fF q (-1) 0 false L):=by
 have hp:=yV q (-1) L 0 false
 rw[MN]at hp
 have hpp:(fF q (-1) 0 false L).Perm (q::L):=hp
 have hset:qi P q=P++[q]:=by
  unfold qi
  rw[if_neg (by rw[h.any,hn];simp)]
 refine⟨?_,(hpp.map _).nodup_iff.2 ?_,fun x hx=>?_⟩
 ·rw[hset]
  exact(List.perm_append_singleton q P).trans ((h.perm.cons q).trans hpp.symm)
 ·rw[List.map_cons,List.nodup_cons]
  refine⟨fun hm=>?_,h.nodup⟩
  obtain⟨x,hx,e⟩:=List.mem_map.1 hm
  have:=List.any_eq_false.1 hn x hx
  simp[e]at this
 ·rcases List.mem_cons.1 (hpp.mem_iff.1 hx)with rfl|hx
  ·exact hq
  ·exact h.ok x hx
theorem mD.old{P L:List ai}(h:mD P L){q:ai}(hq:dP q=true){i:Nat}(hi:i<L.length)(hn:L[i].name=q.name):mD (qi P q) (fF q (i:Int) 0 false L):=by
 have hp:=yV q (i:Int) L 0 false
 have hr:=MO L 0 i
 rw[Nat.zero_add]at hr
 rw[hr,Hy (·.name) h.nodup hi,hn]at hp
 have hpp:(fF q (i:Int) 0 false L).Perm (q::L.filter fun x=>decide (x.name≠q.name)):=hp
 have ha:P.any (fun x=>decide (x.name=q.name))=true:=by rw[h.any];exact List.any_eq_true.2 ⟨L[i],List.getElem_mem hi,by simpa using hn⟩
 have hset:qi P q=P.map (fun x=>if x.name=q.name then q else x):=by
  unfold qi
  rw[if_pos ha]
 have Hz:(P.map (·.name)).Nodup:=(h.perm.map _).nodup_iff.2 h.nodup
 refine⟨?_,(hpp.map _).nodup_iff.2 ?_,fun x hx=>?_⟩
 ·rw[hset]
  exact(Wn q P Hz ha).trans (((h.perm.filter _).cons q).trans hpp.symm)
 ·rw[List.map_cons,List.nodup_cons]
  refine⟨fun hm=>?_,(List.filter_sublist.map _).nodup h.nodup⟩
  obtain⟨x,hx,e⟩:=List.mem_map.1 hm
  have:=(List.mem_filter.1 hx).2
  simp[e]at this
 ·rcases List.mem_cons.1 (hpp.mem_iff.1 hx)with rfl|hx
  ·exact hq
  ·exact h.ok x (List.mem_filter.1 hx).1
end Go.WW
namespace Go.Proofs.YtfieenjdcpjmgaaGreatDoor
open Go.RowKit Go.WW
theorem MP(n:Nat)(hn:n≤12)(w:World):Calls Tryz.prog 330 #[.int .u64 (n:Int)] w fun e w'=>(∃k,e=.returned (.int .i64 k))∧w=w':=by
 have h:n=0∨n=1∨n=2∨n=3∨n=4∨n=5∨n=6∨n=7∨n=8∨n=9∨n=10∨n=11∨n=12:=by omega
 rcases h with rfl|rfl|rfl|rfl|rfl|rfl|rfl|rfl|rfl|rfl|rfl|rfl|rfl
 all_goals
  go_enter Tryz.func330,Tryz.ntmps330
  go_wp2
  go_ret
  exact⟨⟨_,rfl⟩,rfl⟩
theorem DL(n:Nat)(hn:n≤12)(w:World):Calls Tryz.prog 268 #[.int .u64 (n:Int)] w fun e w'=>(∃k,e=.returned (.int .i64 k))∧w=w':=by
 go_enter Tryz.func268,Tryz.ntmps268
 go_wp2_with fail
 refine(MP n hn w).mono ?_
 rintro e w' ⟨⟨k,rfl⟩,rfl⟩
 dsimp only
 go_wp2_with fail
 go_ret
 exact⟨⟨_,rfl⟩,rfl⟩
theorem ai8(g cap:Nat)(X:List EE)(lm:Int)(w:World)(hn:X.length≤12)(hX:kX g X X w w)(hD:(X.map eY).Nodup)(hN:∀y,But (·=g) w y→∀x∈X,bn y x.1.parts x.2.name) :
  Calls Tryz.prog 274 #[.slice (some ⟨g,0,none⟩) X.length cap,.int .i64 0,.int .i64 X.length,.int .i64 lm,.func (.func 113) #[] #[]] w fun e w'=>e=.returned (.tuple #[])∧∃Y,kX g X Y w w'∧Sorted fE eY Y:=by
 have HI:=Lib.hid (ahF g cap X w hn hX hD hN)
 clear hX hD hN
 have h12:(X.length:Int)≤12:=by omega
 go_enter Tryz.func274,Tryz.ntmps274
 go_wp2_with fail
 refine wp_loop_rounds 1 ?_
 rw[rounds_succ]
 go_wp2_with fail
 refine HI.out.mono ?_
 rintro e w' ⟨rfl,hY⟩
 dsimp only
 go_wp2_with fail
 refine bodyPost_ret (results_none rfl _ _ _) rfl ⟨rfl,hY⟩
theorem ai9(g cap:Nat)(X:List EE)(w:World)(hn:X.length≤12)(hX:kX g X X w w)(hD:(X.map eY).Nodup)(hN:∀y,But (·=g) w y→∀x∈X,bn y x.1.parts x.2.name) :
  Calls Tryz.prog 192 #[.slice (some ⟨g,0,none⟩) X.length cap,.func (.func 113) #[] #[]] w fun e w'=>e=.returned (.tuple #[])∧∃Y,kX g X Y w w'∧Sorted fE eY Y:=by
 have HI:=Lib.hid (fun lm=>ai8 g cap X lm w hn hX hD hN)
 clear hX hD hN
 go_enter Tryz.func192,Tryz.ntmps192
 go_wp2_with fail
 refine(DL _ hn w).mono ?_
 rintro e w' ⟨⟨k,rfl⟩,rfl⟩
 dsimp only
 go_wp2_with fail
 refine(HI.out k).mono ?_
 rintro e w' ⟨rfl,hY⟩
 dsimp only
 go_wp2_with fail
 go_end0
 exact⟨rfl,hY⟩
theorem aja(w:World):Calls Tryz.prog 337 #[.slice none 0 0,.int .i64 0,.int .i64 0,.func (.func 113) #[] #[]] w fun e w'=>e=.returned (.tuple #[])∧w=w':=by
 go_enter Tryz.func337,Tryz.ntmps337
 go_wp2_with fail
 refine wp_loop_rounds 1 ?_
 rw[rounds_succ]
 go_wp2_with fail
 go_end0
 exact⟨rfl,rfl⟩
theorem ajb(lm:Int)(w:World):Calls Tryz.prog 274 #[.slice none 0 0,.int .i64 0,.int .i64 0,.int .i64 lm,.func (.func 113) #[] #[]] w fun e w'=>e=.returned (.tuple #[])∧w=w':=by
 go_enter Tryz.func274,Tryz.ntmps274
 go_wp2_with fail
 refine wp_loop_rounds 1 ?_
 rw[rounds_succ]
 go_wp2_with fail
 refine(aja w).mono ?_
 rintro e w' ⟨rfl,rfl⟩
 dsimp only
 go_wp2_with fail
 refine bodyPost_ret (results_none rfl _ _ _) rfl ⟨rfl,rfl⟩
theorem ajc(w:World):Calls Tryz.prog 192 #[.slice none 0 0,.func (.func 113) #[] #[]] w fun e w'=>e=.returned (.tuple #[])∧w=w':=by
 go_enter Tryz.func192,Tryz.ntmps192
 go_wp2_with fail
 refine(DL 0 (by omega) w).mono ?_
 rintro e w' ⟨⟨k,rfl⟩,rfl⟩
 dsimp only
 go_wp2_with fail
 refine(ajb k w).mono ?_
 rintro e w' ⟨rfl,rfl⟩
 dsimp only
 go_wp2_with fail
 go_end0
 exact⟨rfl,rfl⟩
end Go.Proofs.YtfieenjdcpjmgaaGreatDoor
