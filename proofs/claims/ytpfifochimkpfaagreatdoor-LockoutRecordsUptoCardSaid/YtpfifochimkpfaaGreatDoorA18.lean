/- A part of the proof. -/
import Derived.Test.YtpfifochimkpfaaGreatDoorA17
import Derived.Test.YtpfifochimkpfaaGreatDoorA07
set_option maxRecDepth 100000
set_option maxHeartbeats 8000000
namespace Go.WW
open Go.RowKit
theorem gQ.iM{w:World}{base:Nat}{e:TypeId}{s:Sl}{L:List ah}(h:Own w base e 10 s (L.map ak))(hn:L.length≤lim)(hs:∀p∈L,p.name.size≤lim):gQ w s.a L:=
 bH.iM h (by simp) hn (fun i hi=>by simp at hi;exact⟨L[i],List.getElem?_eq_getElem hi,by simp,hs _ (List.getElem_mem hi)⟩)
theorem LH(p:ah)(at_:Int):∀(l:List ah) (k:Nat) (dn:Bool) (x:ah),x∈fE p at_ k dn l→x=p∨x∈l
 | [],_,dn,x,h=>by unfold fE at h;split at h<;>simp at h;exact .inl h
 |q::l,k,dn,x,h=>by
  unfold fE at h
  simp only[List.mem_append]at h
  rcases h with h|h|h
  ·split at h<;>simp at h;exact .inl h
  ·split at h<;>simp at h;exact .inr (by simp[h])
  ·rcases LH p at_ l _ _ x h with h|h
   ·exact .inl h
   ·exact .inr (by simp[h])
def UH(e:Sl)(D:Db)(no:Int)(w:World)(x:Ending)(w':World):Prop:=∃s:Sl,x=.returned (.tuple #[.agg (aA e s D),.int .i64 no])∧Below w.heap.size w w'∧bu w' (fresh w.heap.size w') (fun y=>gQ y s.a D.aF∧D.aF.length≤s.cap)
theorem Own.cap{w:World}{base k:Nat}{e:TypeId}{s:Sl}{rows:List (Array Value)}(h:Own w base e k s rows):rows.length≤s.cap:=by
 rcases h.own.2 with⟨_,hn⟩|⟨g,cap,cur,hv,hb,hh,hle,_,hsz,_⟩
 ·omega
 ·have hc:s.cap=cap:=by injection hv
  omega
end Go.WW
namespace Go.Proofs.YtpfifochimkpfaaGreatDoor
open Go.RowKit Go.WW
theorem LJ:fV Tryz.prog 22 52 10 88:=fV.of Tryz.underlying22 (by kernel_rfl)
theorem agD(e q:Sl)(D:Db):gy (aA e q D) 0 4=some (aA e q D):=by kernel_rfl
theorem vP(e q:Sl)(D:Db)(c:Array Value)(t:TypeId)(w:World):∃W,(((w.alloc (.cells (aA e q D) 30)).alloc (.cells c t)).alloc (.cells #[.string ⟨#[]⟩,.int .i64 0,.slice none 0 0,.slice none 0 0] 30))=W∧Below w.heap.size w W∧W.heap[w.heap.size]?=some (.cells (aA e q D) 30)∧W.heap[w.heap.size+1]?=some (.cells c t)∧aX W (w.heap.size+1+1) 0 4=true∧W.heap.size=w.heap.size+1+1+1:=by
 refine⟨_,rfl,(((Below.refl _ _).alloc (Nat.le_refl _) _).alloc (by simp) _).alloc (by simp;omega) _,by rw[Below.heap_alloc _ _ _ (by simp;omega)];exact kS w _ _,?_,by simp[go_sem],by simp⟩
 rw[Below.heap_alloc _ _ _ (by simp)];have:=World.alloc_heap_new (w.alloc (.cells (aA e q D) 30)) (.cells c t);simpa using this
theorem agE(a b:ByteArray):qh a b=(Op.bytesLess a.toList b.toList || (a.toList == b.toList)):=rfl
theorem UI{w W V:World}{e q s1:Sl}{D:Db}{L:List ah}{n:Nat}(hb:Below W.heap.size W V)(hx2:W.heap[w.heap.size]?=some (.cells (aA e q D) 30))(hz:aX W (w.heap.size+1+1) 0 4=true)(hW:w.heap.size+1+1<W.heap.size)(hL:L.length=n) :
  row? ((V.setCell ⟨w.heap.size,3,none⟩ (.slice s1.a n s1.cap)).setCell ⟨w.heap.size,1,none⟩ (.int .i64 (D.aN+1))) w.heap.size 0 4=some (aA e s1 {D with aF:=L,aN:=D.aN+1})∧aX ((V.setCell ⟨w.heap.size,3,none⟩ (.slice s1.a n s1.cap)).setCell ⟨w.heap.size,1,none⟩ (.int .i64 (D.aN+1))) (w.heap.size+1+1) 0 4=true:=by
 subst hL
 have hne:w.heap.size+1+1≠w.heap.size:=by omega
 exact⟨(dI (dH (o:=1) (.int .i64 (D.aN+1)) (dH (o:=3) (.slice s1.a L.length s1.cap) (aI hb hx2)))).trans (by kernel_rfl),(jJ hne).trans ((jJ hne).trans ((fD hb _ 0 4 hW).trans hz))⟩
theorem agF(e q:Sl)(D:Db)(p:ah)(w:World)(hs:p.name.size≤lim)(hv:dA p=false):Calls Tryz.prog 28 #[.agg (aA e q D),.agg (ak p)] w fun x w'=>x=.returned (.tuple #[.agg (aA e q D),.int .i64 2])∧Below w.heap.size w w':=by
 obtain⟨W,dQ,hB,hx2,hx3,hz,hW⟩:=vP e q D (ak p) 52 w
 replace dQ:=Lib.hid dQ
 go_enter Tryz.func28,Tryz.ntmps28
 go_wp2_with fail
 rw[dQ.out];clear dQ
 refine(QQ _ _ hs).mono ?_
 rintro x w1 ⟨rfl,hb1⟩
 have hy2:=aI hb1 hx2
 have hy3:=aI hb1 hx3
 have hz1:=(fD hb1 (w.heap.size+1+1) 0 4 (by omega)).trans hz
 have hs1:=hb1.size
 obtain⟨hc,hf,hr,hlt⟩:=ax hy2
 obtain⟨hc3,hf3,hr3,hlt3⟩:=ax hy3
 have hne:w.heap.size+1+1≠w.heap.size:=by omega
 rw[hv]
 have hlt4:w.heap.size+1+1<w1.heap.size:=by omega
 go_wp2_with fail
 have hrow:=gJ (w:=w1) (fC e q D) hz1
 exact bodyPost_ret (kT (by rfl) Tryz.underlying30 rfl (by kernel_rfl) rfl hrow) rfl ⟨rfl,Go.WW.Below.putRow (ag hB hb1) (by omega)⟩
theorem UJ(e q:Sl)(D:Db)(p:ah)(w:World)(hs:p.name.size≤lim)(hv:dA p=true)(hp:gQ w q.a D.aF)(hn:D.aF.length<64)(hs0:0≤D.aN)(hs1:D.aN<1000000)(at_:Int)(hi:idxOf (fun z=>decide (z.name=p.name)) D.aF=at_):Calls Tryz.prog 28 #[.agg (aA e q D),.agg (ak p)] w (UH e {D with aF:=fE p at_ 0 false D.aF,aN:=D.aN+1} 0 w):=by
 obtain⟨W,dQ,hB,hx2,hx3,hz,hW⟩:=vP e q D (ak p) 52 w
 replace dQ:=Lib.hid dQ
 have UK:(D.aN+1).tmod 4611686018427387904=D.aN+1:=Int.tmod_eq_of_lt (by omega) (by omega)
 go_enter Tryz.func28,Tryz.ntmps28
 go_wp2_with fail
 rw[dQ.out];clear dQ
 refine(QQ _ _ hs).mono ?_
 rintro x w1 ⟨rfl,hb1⟩
 have hy2:=aI hb1 hx2
 have hy3:=aI hb1 hx3
 have hz1:=(fD hb1 (w.heap.size+1+1) 0 4 (by omega)).trans hz
 have hs1:=hb1.size
 obtain⟨hc,hf,hr,hlt⟩:=ax hy2
 obtain⟨hc3,hf3,hr3,hlt3⟩:=ax hy3
 have hne:w.heap.size+1+1≠w.heap.size:=by omega
 rw[hv]
 go_wp2_with fail
 refine(Ff _ _ _ _ _ (hp.later (ag hB hb1))).mono ?_
 rintro x w2 ⟨rfl,hb2⟩
 rw[hi]
 have fJ:=ag hb1 hb2
 clear hc hf hr hlt hc3 hf3 hr3 hlt3 hz1 hy2 hy3 hs1
 have hy2:=aI fJ hx2
 have hy3:=aI fJ hx3
 obtain⟨hc,hf,hr,hlt⟩:=ax hy2
 obtain⟨hc3,hf3,hr3,hlt3⟩:=ax hy3
 have anM:¬(64:Int)≤(D.aF.length:Int):=by omega
 obtain⟨qa,qc⟩:=q
 by_cases hat:at_<0
 all_goals
  go_wp2_with fail
  go_loopw [7,8,9] (fun ov dv iv wr=>∃(k m:Nat) (dn:Bool) (so:Sl) (R:List ah),k≤D.aF.length∧m≤2*k∧iv=.int .i64 k∧dv=.bool dn∧ov=.slice so.a m so.cap∧Hid (R.length=m)∧Hid (yZ p at_ D.aF R k dn)∧Below W.heap.size W wr∧Go.WW.Own wr W.heap.size 52 10 so (R.map ak)) (fun _ _ iv _=>D.aF.length-(intOf iv).toNat)
  case atStart=>exact⟨0,0,false,⟨none,0⟩,[],Nat.zero_le _,by omega,rfl,rfl,rfl,rfl,agA _ _ _,fJ,Go.WW.Own.nil _ _ _ _⟩
  case round=>
   obtain⟨k,m,dn,s1,R,hk,hmk,rfl,rfl,rfl,hlr,hI,hbr,hO⟩:=hrel
   clear hc hf hr hlt hc3 hf3 hr3 hlt3 hy2 hy3
   have hy2:=aI hbr hx2
   have hy3:=aI hbr hx3
   obtain⟨hc,hf,hr,hlt⟩:=ax hy2
   obtain⟨hc3,hf3,hr3,hlt3⟩:=ax hy3
   have hBr:=ag hB hbr
   by_cases hkl:k<D.aF.length
   ·obtain⟨b,o,rfl,hb⟩:=(bH.addr hp).resolve_left (by omega)
    have hki:(k:Int)<(D.aF.length:Int):=by omega
    have hrow0:=(hp.at k hkl).1
    have hbw:b<wr.heap.size:=Nat.lt_of_lt_of_le hb hBr.size
    have hcell:wr.cell? ⟨b,o+k*10,none⟩=some (.string D.aF[k].name):=by rw[hBr.cell (p:=⟨b,o+k*10,none⟩) hb];have:=ji hrow0 0 (by omega);simpa[go_sem]using this
    have HS:=agB hI.out hkl
    have hl3:=agE p.name D.aF[k].name
    generalize hxk:D.aF[k]=x at *
    cases hkq:((k:Int) != at_)
    all_goals
     cases dn
     case' false=>
      cases h1:Op.bytesLess p.name.toList x.name.toList
      case' false=>cases h2:(p.name.toList == x.name.toList)
     all_goals
      first|(rw[h1,h2]at hl3)|(rw[h1]at hl3)|skip
      simp[hkq,hl3]at HS
      have HI:=Lib.hid HS
      clear HS hl3
      go_wp2_with fail
      refine dN (Below.refl _ wr) (by kernel_rfl) (by kernel_rfl) ?_
      repeat (go_big_quiet_step (fail))
      refine wpQuiet_nil ?_
      intro u1 hb5
      have iQ:=ag hbr hb5
      clear hc hf hr hlt hc3 hf3 hr3 hlt3 hcell
      obtain⟨hc,hf,hr,hlt⟩:=ax (aI iQ hx2)
      obtain⟨hc3,hf3,hr3,hlt3⟩:=ax (aI iQ hx3)
      have UL:=(fG ((ag hB iQ).block b hb) (o+k*10) 10).trans hrow0
      have GL:=Nat.lt_of_lt_of_le hb (ag hB iQ).size
      have hown1:Go.WW.Own u1 W.heap.size 52 10 s1 (R.map ak):=hO.kept fun g hg=>hb5.block g (hO.base hg).2
      go_wp2_with (first
       |(have xA:Go.WW.Own (u1.alloc (.cells (ak p) 52)) W.heap.size 52 10 s1 _:=hown1.kept (fun g hg=>Below.heap_alloc _ _ _ (hown1.base hg).2);at_builtin;refine gW rfl (.tmp 47) (.tmp 49) _ rfl LJ (s:=s1) rfl (by have:=hlr.out;simp[this]) xA rfl rfl (cO.new _ (ak p) _ _ (by simp[go_sem]) (by simp[go_sem])) (by have:=hlr.out;simp[this];omega) (by have h9:=iQ.size;simp;omega) ?_;intro s1 u1 hown1 hg1 DD;have hbw2:=tq xA (ay iQ _) hg1;have iQ:=hbw2;clear DD hg1;obtain⟨gc,gf,gr,gl⟩:=ax (aI iQ hx2);have UL:=(fG ((ag hB iQ).block b hb) (o+k*10) 10).trans hrow0;have GL:=Nat.lt_of_lt_of_le hb (ag hB iQ).size)
       |(have xA:Go.WW.Own (u1.alloc (.cells (ak x) 52)) W.heap.size 52 10 s1 _:=hown1.kept (fun g hg=>Below.heap_alloc _ _ _ (hown1.base hg).2);at_builtin;refine gW rfl (.tmp 54) (.tmp 60) _ rfl LJ (s:=s1) rfl (by have:=hlr.out;simp[this]) xA rfl rfl (cO.new _ (ak x) _ _ (by simp[go_sem]) (by simp[go_sem])) (by have:=hlr.out;simp[this];omega) (by have h9:=iQ.size;simp;omega) ?_;intro s1 u1 hown1 hg1 DD;have hbw2:=tq xA (ay iQ _) hg1;have iQ:=hbw2;clear DD hg1;obtain⟨gc,gf,gr,gl⟩:=ax (aI iQ hx2);have UL:=(fG ((ag hB iQ).block b hb) (o+k*10) 10).trans hrow0;have GL:=Nat.lt_of_lt_of_le hb (ag hB iQ).size))
      go_roundw
      case rel=>first|exact⟨k+1,_,_,s1,_,by omega,by omega,by go_num,rfl,rfl,Lib.hid (by have:=hlr.out;simp[this]),HI.out,iQ,by simpa using hown1⟩|((repeat apply Exists.intro);exact⟨⟨k+1,_,_,s1,_,by omega,by omega,by go_num,rfl,rfl,Lib.hid (by have:=hlr.out;simp[this]),HI.out,iQ,by simpa using hown1⟩,rfl⟩)
      case measure=>simp[intOf];omega
   ·have HE:=agC hI.out (show D.aF.length≤k by omega)
    have hlim:∀z∈fE p at_ 0 false D.aF,z.name.size≤lim:=fun z hz=>by
     rcases LH _ _ _ _ _ z hz with rfl|h
     ·exact hs
     ·obtain⟨i',hi',rfl⟩:=List.mem_iff_getElem.1 h;obtain⟨_,_,_,_,h9⟩:=hp.get i' hi';exact h9
    have hll:=GK p at_ D.aF 0 false
    have hown1:=hO
    have iQ:=hbr
    cases dn
    case' false=>
     have DF:fE p at_ 0 false D.aF=R++[p]:=by simpa using HE
     clear HE
     go_wp2_with (have xA:Go.WW.Own (wr.alloc (.cells (ak p) 52)) W.heap.size 52 10 s1 _:=hown1.kept (fun g hg=>Below.heap_alloc _ _ _ (hown1.base hg).2);at_builtin;refine gW rfl (.tmp 64) (.tmp 66) _ rfl LJ (s:=s1) rfl (by have:=hlr.out;simp[this]) xA rfl rfl (cO.new _ (ak p) _ _ (by simp[go_sem]) (by simp[go_sem])) (by have:=hlr.out;simp[this];omega) (by have h9:=iQ.size;simp;omega) ?_;intro s1 u1 hown1 hg1 DD;have hbw2:=tq xA (ay iQ _) hg1;have iQ:=hbw2;clear DD hg1;clear hc hf hr hlt hc3 hf3 hr3 hlt3;have hwl:=iQ.size;obtain⟨hc,hf,-,hlt⟩:=ax (aI iQ hx2);have HO:Go.WW.Own u1 W.heap.size 52 10 s1 ((R++[p]).map ak):=(by simpa using hown1);obtain⟨LK,hcp⟩:=UI (s1:=s1) (L:=R++[p]) (n:=m+1) iQ hx2 hz (by omega) (by simp[hlr.out]))
     have hrow:=gJ (fC e s1 {D with aF:=R++[p],aN:=D.aN+1}) hcp
    case' true=>
     have DF:fE p at_ 0 false D.aF=R:=by simpa using HE
     clear HE hr
     have HO:=hO
     have hwl:=iQ.size
     obtain⟨LK,hcp⟩:=UI (s1:=s1) iQ hx2 hz (by omega) hlr.out
     go_wp2_with fail
     have hrow:=gJ (fC e s1 {D with aF:=R,aN:=D.aN+1}) hcp
    all_goals
     refine bodyPost_ret (kT (by rfl) Tryz.underlying30 rfl (by kernel_rfl) rfl hrow) rfl ⟨s1,by rw[DF];rfl,Go.WW.Below.putRow (((ag hB iQ).setCell (by simp) _).setCell (by simp) _) (by omega),?_⟩
     rw[DF]
     refine fun y hy=>⟨gQ.iM (HO.kept fun g hg=>?_) (by have h9:=hll;rw[DF]at h9;exact Nat.le_trans h9 (by unfold lim;omega)) (by rw[←DF];exact hlim),by have h9:=Go.WW.Own.cap HO;rw[List.length_map]at h9;exact h9⟩
     have hg1:=HO.base hg
     rw[hy g ⟨by omega,by rw[gV];simp only[World.setCell,Array.size_modify];omega⟩,gU (by omega),Below.heap_setCell _ _ _ _ (show g≠w.heap.size by omega),Below.heap_setCell _ _ _ _ (show g≠w.heap.size by omega)]
end Go.Proofs.YtpfifochimkpfaaGreatDoor
namespace Go.WW
open Go.RowKit
def jC(x d:Entry):Bool:=mD x d.name || d.aliases.any (mD x)
def ui(x d:Entry)(k:Nat):Bool:=mD x d.name || (d.aliases.take k).any (mD x)
theorem agG{x d:Entry}{k:Nat}(h:k<d.aliases.length):ui x d (k+1)=(ui x d k || mD x d.aliases[k]):=by
 unfold ui
 rw[List.take_succ_eq_append_getElem h,List.any_append]
 simp[Bool.or_assoc]
theorem agH{x d:Entry}{k:Nat}(h:d.aliases.length≤k):ui x d k=jC x d:=by unfold ui jC;rw[List.take_of_length_le h]
def LM(q:Sl)(D:Db)(X:List EE)(w:World)(x:Ending)(w':World):Prop:=∃s:Sl,x=.returned (.tuple #[.agg (aA s q {D with entries:=X.map (·.2),aN:=D.aN+1}),.int .i64 0])∧Below w.heap.size w w'∧bu w' (fresh w.heap.size w') (fun y=>gz y s.a X)
theorem aS.aJ{w:World}{r:aK}{d:Entry}(h:aS w r d):d.name.aJ.size≤lim:=h.name.2
end Go.WW
namespace Go.Proofs.YtpfifochimkpfaaGreatDoor
open Go.RowKit Go.WW
theorem zf(r:aK)(d:Entry)(w:World)(he:aS w r d)(b:Bool)(h:bI d=b):Calls Tryz.prog 46 #[.agg (ae r d)] w fun e w'=>e=.returned (.bool b)∧Below w.heap.size w w':=by
 have x:=acO r d w he;rw[h]at x;exact x
theorem agI(e q:Sl)(D:Db)(r:aK)(d:Entry)(w:World)(he:aS w r d)(hv:bI d=false):Calls Tryz.prog 30 #[.agg (aA e q D),.agg (ae r d)] w fun x w'=>x=.returned (.tuple #[.agg (aA e q D),.int .i64 2])∧Below w.heap.size w w':=by
 obtain⟨W,dQ,hB,hx2,hx3,hz,hW⟩:=vP e q D (ae r d) 44 w
 replace dQ:=Lib.hid dQ
 go_enter Tryz.func30,Tryz.ntmps30
 go_wp2_with fail
 rw[dQ.out];clear dQ
 refine(zf _ _ _ (he.later hB) false hv).mono ?_
 rintro x w1 ⟨rfl,hb1⟩
 have hs1:=hb1.size
 obtain⟨hc,hf,hr,hlt⟩:=ax (aI hb1 hx2)
 obtain⟨hc3,hf3,hr3,hlt3⟩:=ax (aI hb1 hx3)
 dsimp only
 have hlt4:w.heap.size+1+1<w1.heap.size:=by have:=hb1.size;omega
 have hz1:=(fD hb1 (w.heap.size+1+1) 0 4 (by omega)).trans hz
 have hne:w.heap.size+1+1≠w.heap.size:=by omega
 go_wp2_with fail
 have hrow:=gJ (w:=w1) (fC e q D) hz1
 exact bodyPost_ret (kT (by rfl) Tryz.underlying30 rfl (by kernel_rfl) rfl hrow) rfl ⟨rfl,Go.WW.Below.putRow (ag hB hb1) (by omega)⟩
theorem agJ(e q:Sl)(D:Db)(r:aK)(d:Entry)(w:World)(he:aS w r d)(hv:bI d=true)(hre:¬d.name.aJ=D.aJ):Calls Tryz.prog 30 #[.agg (aA e q D),.agg (ae r d)] w fun x w'=>x=.returned (.tuple #[.agg (aA e q D),.int .i64 2])∧Below w.heap.size w w':=by
 have UM:=kJ _ _ hre
 clear hre
 obtain⟨W,dQ,hB,hx2,hx3,hz,hW⟩:=vP e q D (ae r d) 44 w
 replace dQ:=Lib.hid dQ
 go_enter Tryz.func30,Tryz.ntmps30
 go_wp2_with fail
 rw[dQ.out];clear dQ
 refine(zf _ _ _ (he.later hB) true hv).mono ?_
 rintro x w1 ⟨rfl,hb1⟩
 have hs1:=hb1.size
 obtain⟨hc,hf,hr,hlt⟩:=ax (aI hb1 hx2)
 obtain⟨hc3,hf3,hr3,hlt3⟩:=ax (aI hb1 hx3)
 dsimp only
 have hlt4:w.heap.size+1+1<w1.heap.size:=by have:=hb1.size;omega
 have hz1:=(fD hb1 (w.heap.size+1+1) 0 4 (by omega)).trans hz
 have hne:w.heap.size+1+1≠w.heap.size:=by omega
 go_wp2_with fail
 have hrow:=gJ (w:=w1) (fC e q D) hz1
 exact bodyPost_ret (kT (by rfl) Tryz.underlying30 rfl (by kernel_rfl) rfl hrow) rfl ⟨rfl,Go.WW.Below.putRow (ag hB hb1) (by omega)⟩
theorem agK(e q:Sl)(D:Db)(r:aK)(d:Entry)(w:World)(he:aS w r d)(hv:bI d=true)(hre:d.name.aJ=D.aJ)(hp:gQ w q.a D.aF)(hpe:¬d.aP=⟨#[]⟩)(hi:idxOf (fun z=>decide (z.name=d.aP)) D.aF=-1):Calls Tryz.prog 30 #[.agg (aA e q D),.agg (ae r d)] w fun x w'=>x=.returned (.tuple #[.agg (aA e q D),.int .i64 9])∧Below w.heap.size w w':=by
 have UM:=str_eq _ _ hre
 have agL:=kJ _ _ hpe
 have LP:¬d.aP.toList=[]:=fun h=>hpe (toList_inj (b:=⟨#[]⟩) (by rw[h,ByteArray.toList_eq]))
 have UN:d.aP.toList.isEmpty=false:=by cases h:d.aP.toList<;>simp_all
 clear hre hpe
 obtain⟨W,dQ,hB,hx2,hx3,hz,hW⟩:=vP e q D (ae r d) 44 w
 replace dQ:=Lib.hid dQ
 go_enter Tryz.func30,Tryz.ntmps30
 go_wp2_with fail
 rw[dQ.out];clear dQ
 refine(zf _ _ _ (he.later hB) true hv).mono ?_
 rintro x w1 ⟨rfl,hb1⟩
 have hs1:=hb1.size
 obtain⟨hc,hf,hr,hlt⟩:=ax (aI hb1 hx2)
 obtain⟨hc3,hf3,hr3,hlt3⟩:=ax (aI hb1 hx3)
 dsimp only
 go_wp2_with fail
 refine(Ff _ _ _ _ _ (hp.later (ag hB hb1))).mono ?_
 rintro x w2 ⟨rfl,hb2⟩
 rw[hi]
 have fJ:=ag hb1 hb2
 clear hc hf hr hlt hc3 hf3 hr3 hlt3
 obtain⟨hc,hf,hr,hlt⟩:=ax (aI fJ hx2)
 obtain⟨hc3,hf3,hr3,hlt3⟩:=ax (aI fJ hx3)
 dsimp only
 have hlt4:w.heap.size+1+1<w2.heap.size:=by have:=fJ.size;omega
 have hz1:=(fD fJ (w.heap.size+1+1) 0 4 (by omega)).trans hz
 have hne:w.heap.size+1+1≠w.heap.size:=by omega
 go_wp2_with fail
 have hrow:=gJ (w:=w2) (fC e q D) hz1
 exact bodyPost_ret (kT (by rfl) Tryz.underlying30 rfl (by kernel_rfl) rfl hrow) rfl ⟨rfl,Go.WW.Below.putRow (ag hB fJ) (by omega)⟩
theorem agM{α:Type}(f:α→Bool)(l:List α):idxOf f l=-1∨∃i:Nat,i<l.length∧idxOf f l=i:=by
 unfold idxOf
 cases hf:l.findIdx? f with
 |none=>exact .inl rfl
 |some i=>exact .inr ⟨i,(List.findIdx?_eq_some_iff_getElem.1 hf).1,rfl⟩
theorem LQ(e q:Sl)(D:Db)(r:aK)(d:Entry)(w:World)(he:aS w r d)(X:List EE)(hX:gz w e.a X)(hm:∀x∈X,aS w x.1 x.2)(hD:D.entries=X.map (·.2))(hn:X.length≤1000)(hv:bI d=true)(hre:d.name.aJ=D.aJ)(yY:d.aP=⟨#[]⟩∨(gQ w q.a D.aF∧¬d.aP=⟨#[]⟩∧∃jp:Nat,idxOf (fun z=>decide (z.name=d.aP)) D.aF=(jp:Int)))(at0:Int)(hat:idxOf (fun z=>bD z.name d.name) D.entries=at0)(hs0:0≤D.aN)(hs1:D.aN<1000000)(Q:Ending→World→Prop)(UO:∀j (h:j<X.length),jC X[j].2 d=true→¬(j:Int)=at0→∀x w',x=.returned (.tuple #[.agg (aA e q D),.int .i64 11])∧Below w.heap.size w w'→Q x w')(hok:(∀i (h:i<X.length),jC X[i].2 d=true→(i:Int)=at0)→∀X5:List EE,(at0=-1∧X5=X∨∃i0:Nat,i0<X.length∧at0=i0∧X5=X.eraseIdx i0)→∀x w',LM q D (kH fB eH (r,d) X5) w x w'→Q x w'):Calls Tryz.prog 30 #[.agg (aA e q D),.agg (ae r d)] w Q:=by
 have UM:=str_eq _ _ hre
 clear hre
 have hlen:D.entries.length=X.length:=by rw[hD];simp
 have hE:lM w e.a D.entries:=by rw[hD];exact hX.dS hm
 have hal:d.aliases.length≤4294967000:=he.aliases.1
 have hcs:at0=-1∨∃i:Nat,i<X.length∧at0=i:=by rw[←hat,←hlen];exact agM _ _
 have HB:=Lib.hid UO
 have HO:=Lib.hid hok
 have HC:=Lib.hid hcs
 clear hD UO hok hcs
 obtain⟨W,dQ,hB,hx2,hx3,hz,hW⟩:=vP e q D (ae r d) 44 w
 replace dQ:=Lib.hid dQ
 go_enter Tryz.func30,Tryz.ntmps30
 go_wp2_with fail
 rw[dQ.out];clear dQ
 refine(zf _ _ _ (he.later hB) true hv).mono ?_
 rintro x w1 ⟨rfl,hb1⟩
 have hs1:=hb1.size
 obtain⟨hc,hf,hr,hlt⟩:=ax (aI hb1 hx2)
 obtain⟨hc3,hf3,hr3,hlt3⟩:=ax (aI hb1 hx3)
 dsimp only
 rcases yY with hpe|⟨hp,hpe,jp,hi⟩
 case' inl=>
  have LP:d.aP.toList=[]:=by rw[hpe,ByteArray.toList_eq]
  have UN:d.aP.toList.isEmpty=true:=by rw[LP];rfl
  clear hpe
 case' inr=>
  have agL:=kJ _ _ hpe
  have LP:¬d.aP.toList=[]:=fun h=>hpe (toList_inj (b:=⟨#[]⟩) (by rw[h,ByteArray.toList_eq]))
  have UN:d.aP.toList.isEmpty=false:=by cases h:d.aP.toList<;>simp_all
  clear hpe
  go_wp2_with fail
  refine(Ff _ _ _ _ _ (hp.later (ag hB hb1))).mono ?_
  rintro x w1 ⟨rfl,hb2⟩
  rw[hi]
  have hb1:=ag hb1 hb2
  have hs1:=hb1.size
  clear hc hf hr hlt hc3 hf3 hr3 hlt3
  obtain⟨hc,hf,hr,hlt⟩:=ax (aI hb1 hx2)
  obtain⟨hc3,hf3,hr3,hlt3⟩:=ax (aI hb1 hx3)
  dsimp only
 all_goals
  go_wp2_with fail
  refine(Fe _ _ _ _ _ _ (hE.later (ag hB hb1)) (he.name.later (ag hB hb1))).mono ?_
  rintro x w4 ⟨rfl,hy4⟩
  rw[hat]
  have hb4:=ag hb1 hy4
  clear hc hf hr hlt hc3 hf3 hr3 hlt3
  obtain⟨hc,hf,hr,hlt⟩:=ax (aI hb4 hx2)
  obtain⟨hc3,hf3,hr3,hlt3⟩:=ax (aI hb4 hx3)
  dsimp only
  go_wp2_with fail
  go_loopw [7] (fun iv wr=>Below W.heap.size W wr∧∃k:Nat,k≤D.entries.length∧iv=.int .i64 k∧Hid (∀i (h:i<X.length),i<k→jC X[i].2 d=true→(i:Int)=at0)) (fun iv _=>D.entries.length-(intOf iv).toNat)
  case atStart=>exact⟨hb4,0,Nat.zero_le _,rfl,Lib.hid fun i _ h=>absurd h (Nat.not_lt_zero _)⟩
  case round=>
   obtain⟨hbr,k,hk,rfl,hpre⟩:=hrel
   clear hc hf hr hlt hc3 hf3 hr3 hlt3
   obtain⟨hc,hf,hr,hlt⟩:=ax (aI hbr hx2)
   obtain⟨hc3,hf3,hr3,hlt3⟩:=ax (aI hbr hx3)
   have hBr:=ag hB hbr
   by_cases hkl:k<D.entries.length
   ·have hki:(k:Int)<(D.entries.length:Int):=by omega
    have hkX:k<X.length:=by omega
    obtain⟨b,o,ha,hb0⟩:∃b o,e.a=some ⟨b,o,none⟩∧b<w.heap.size:=by rcases bH.addr hX with h0|h0;omega;exact h0
    have hrow0:row? w b (o+k*17) 17=some (ae X[k].1 X[k].2):=(ha▸hX:gz w (some ⟨b,o,none⟩) X).at k hkX
    have hbw:b<wr.heap.size:=Nat.lt_of_lt_of_le hb0 hBr.size
    have hrow:=(fG (hBr.block b hb0) (o+k*17) 17).trans hrow0
    have hxk:=hm X[k] (List.getElem_mem hkX)
    have uj:=Lib.hid (show jC X[k].2 d=false∨(k:Int)=at0→∀i (h:i<X.length),i<k+1→jC X[i].2 d=true→(i:Int)=at0 from fun hz i h hi hq=>by
     rcases Nat.lt_succ_iff_lt_or_eq.1 hi with h1|rfl
     ·exact hpre.out i h h1 hq
     ·rcases hz with hz|hz
      ·rw[hz]at hq;cases hq
      ·exact hz)
    have HBK:=Lib.hid (HB.out k hkX)
    generalize X[k]=x at *
    go_wp2_with fail
    refine dN (Below.refl _ wr) (by kernel_rfl) (by kernel_rfl) ?_
    repeat (go_big_quiet_step ((go_at_call 68;rename_i xw;exact Calls.iq (Ql _ _ _ _ _ ((hxk.later hBr).later xw.b) ((he.name.later hBr).later xw.b)))))
    refine wpQuiet_nil ?_
    intro w5 hb5
    have bJ:=ag hbr hb5
    clear hc hf hr hlt hc3 hf3 hr3 hlt3 hrow hbw
    obtain⟨hc,hf,hr,hlt⟩:=ax (aI bJ hx2)
    obtain⟨hc3,hf3,hr3,hlt3⟩:=ax (aI bJ hx3)
    obtain⟨wo,hwo⟩:∃wo:World,wo=wr:=⟨_,rfl⟩
    have HZ0:Hid (mD x.2 d.name=ui x.2 d 0):=by simp[Hid,ui]
    generalize mD x.2 d.name=z0 at *
    go_wp2_with fail
    go_loopw [8,9] (fun zv jv wr=>Below W.heap.size W wr∧∃(j:Nat) (z:Bool),j≤d.aliases.length∧jv=.int .i64 j∧zv=.bool z∧Hid (z=ui x.2 d j)) (fun _ jv _=>d.aliases.length-(intOf jv).toNat)
    case atStart=>exact⟨bJ,0,z0,Nat.zero_le _,rfl,rfl,HZ0⟩
    case round=>
     obtain⟨hbq,j,z,hj,rfl,rfl,hzz⟩:=hrel
     clear hc hf hr hlt hc3 hf3 hr3 hlt3
     obtain⟨hc,hf,hr,hlt⟩:=ax (aI hbq hx2)
     obtain⟨hc3,hf3,hr3,hlt3⟩:=ax (aI hbq hx3)
     have xB:=ag hB hbq
     by_cases hjl:j<d.aliases.length
     ·have hji:(j:Int)<(d.aliases.length:Int):=by omega
      obtain⟨b2,o2,t2,ha2,hr2,hp2⟩:=he.aliases.get j hjl
      have UQ:b2<w.heap.size:=fA hr2
      have anN:=Nat.lt_of_lt_of_le UQ xB.size
      have anO:=Nat.lt_of_lt_of_le hb0 xB.size
      have hrow2:=(fG (xB.block b2 UQ) (o2+j*2) 2).trans hr2
      have hrow1:=(fG (xB.block b hb0) (o+k*17) 17).trans hrow0
      have hst:=agG (x:=x.2) hjl
      generalize d.aliases[j]=al at *
      cases z
      case' false=>
       have HZ:=Lib.hid (show mD x.2 al=ui x.2 d (j+1) by rw[hst,←hzz.out];rfl)
       clear hst hzz
       go_wp2_with fail
       refine dN (Below.refl _ wr) (by kernel_rfl) (by kernel_rfl) ?_
       repeat (go_big_quiet_step ((go_at_call 68;rename_i xw;exact Calls.iq (Ql _ _ _ _ _ ((hxk.later xB).later xw.b) ((hp2.later xB).later xw.b)))))
       refine wpQuiet_nil ?_
       intro w6 hb6
       generalize mD x.2 al=z1 at *
      case' true=>
       have HZ:=Lib.hid (show true=ui x.2 d (j+1) by rw[hst,←hzz.out];rfl)
       clear hst hzz
       go_wp2_with fail
       refine dN (Below.refl _ wr) (by kernel_rfl) (by kernel_rfl) ?_
       repeat (go_big_quiet_step (fail))
       refine wpQuiet_nil ?_
       intro w6 hb6
      all_goals
       have uh:=ag hbq hb6
       go_wp2_with fail
       go_roundw
       case rel=>first|exact⟨uh,j+1,_,by omega,by go_num,rfl,HZ.out⟩|((repeat apply Exists.intro);exact⟨⟨uh,j+1,_,by omega,by go_num,rfl,HZ.out⟩,rfl⟩)
       case measure=>simp[intOf];omega
     ·have HZ:=Lib.hid (show z=jC x.2 d by rw[hzz.out,agH (by omega)])
      clear hzz
      by_cases hgo:z=true∧¬(k:Int)=at0
      ·obtain⟨rfl,hne0⟩:=hgo
       have agO:((k:Int) != at0)=true:=by simpa using hne0
       have hlt4:w.heap.size+1+1<wr.heap.size:=by have:=hbq.size;omega
       have hz1:=(fD hbq (w.heap.size+1+1) 0 4 (by omega)).trans hz
       have hne:w.heap.size+1+1≠w.heap.size:=by omega
       go_wp2_with fail
       have hrow:=gJ (w:=wr) (fC e q D) hz1
       exact bodyPost_ret (kT (by rfl) Tryz.underlying30 rfl (by kernel_rfl) rfl hrow) rfl (HBK.out HZ.out.symm hne0 _ _ ⟨rfl,Go.WW.Below.putRow (ag hB hbq) (by omega)⟩)
      ·have HN:=Lib.hid (uj.out (by rcases Decidable.em ((k:Int)=at0)with h|h;exact .inr h;exact .inl (by rw[←HZ.out];cases z;rfl;exact absurd ⟨rfl,h⟩ hgo)))
       clear uj
       cases z
       case' true=>
        have agO:((k:Int) != at0)=false:=by
         have:(k:Int)=at0:=Classical.byContradiction fun h=>hgo ⟨rfl,h⟩
         simp[this]
       all_goals
        clear hgo
        go_wp2_with fail
        go_roundw
        case rel=>first|exact⟨hbq,k+1,by omega,by go_num,HN⟩|((repeat apply Exists.intro);exact⟨⟨hbq,k+1,by omega,by go_num,HN⟩,rfl⟩)
        case measure=>simp[intOf];omega
   ·obtain rfl:k=D.entries.length:=by omega
    have HQ:=Lib.hid (HO.out fun i h=>hpre.out i h (by omega))
    clear hpre
    have anP:¬(4096:Int)≤(D.entries.length:Int):=by omega
    have UK:(D.aN+1).tmod 4611686018427387904=D.aN+1:=Int.tmod_eq_of_lt (by omega) (by omega)
    have hne1:w.heap.size+1≠w.heap.size:=by omega
    have hne2:w.heap.size+1+1≠w.heap.size:=by omega
    rcases HC.out with rfl|⟨i0,hi0,rfl⟩
    case' inr=>
     have hq5:=HQ.out _ (.inr ⟨i0,hi0,rfl,rfl⟩)
     have hge:(0:Int)≤(i0:Int):=by omega
     have hng:¬(i0:Int)<0:=by omega
     have hcon:=abo e.a e.cap X i0 wr (hX.later hBr) hi0
     go_wp2_with fail
     refine hcon.mono ?_
     rintro x w5 ⟨s5,rfl,hb5,hd5⟩
     have bJ:=ag hbr hb5
     clear hc hf hr hlt hc3 hf3 hr3 hlt3
     obtain⟨hc,hf,hr,hlt⟩:=ax (aI bJ hx2)
     obtain⟨hc3,hf3,hr3,hlt3⟩:=ax (aI bJ hx3)
     dsimp only
     go_wp2_with fail
     obtain⟨V,hV⟩:∃V,(w5.setCell ⟨w.heap.size,2,none⟩ (.slice s5.a (X.eraseIdx i0).length s5.cap))=V:=⟨_,rfl⟩
     have hv2:V.heap[w.heap.size]?=some (.cells (aA s5 q {D with entries:=(X.eraseIdx i0).map (·.2)}) 30):=hV▸(dH (o:=2) _ (aI bJ hx2)).trans (by rw[show(X.eraseIdx i0).length=((X.eraseIdx i0).map (·.2)).length from(List.length_map _).symm,Qg])
     have hv3:V.heap[w.heap.size+1]?=some (.cells (ae r d) 44):=hV▸(Below.heap_setCell _ _ _ _ hne1).trans (aI bJ hx3)
     have UR:aX V (w.heap.size+1+1) 0 4=true:=hV▸(jJ hne2).trans ((fD bJ (w.heap.size+1+1) 0 4 (by omega)).trans hz)
     have kM:Below w.heap.size w V:=hV▸(ag hB bJ).setCell (by simp) _
     have hXV:gz V s5.a (X.eraseIdx i0):=hd5 _ (fun g hg=>hV▸Below.heap_setCell _ _ _ _ (show g≠w.heap.size by have:=hg.1;have:=hbr.size;omega))
     have UT:w.heap.size+1+1<V.heap.size:=by rw[←hV];simp only[World.setCell,Array.size_modify];have:=bJ.size;omega
     have hmV:∀x∈X.eraseIdx i0,aS w x.1 x.2:=fun x hx=>hm x (List.mem_of_mem_eraseIdx hx)
     have hnV:(X.eraseIdx i0).length≤1000000:=by have:=List.length_eraseIdx_le X i0;omega
     rw[hV]
     clear hc hf hr hlt hc3 hf3 hr3 hlt3 hV
     generalize X.eraseIdx i0=X5 at *
     refine(Qv s5.a s5.cap X5 r d V hXV (fun x hx=>(hmV x hx).later kM) (he.later kM) hnV).mono ?_
    case' inl=>
     have hq5:=HQ.out _ (.inl ⟨rfl,rfl⟩)
     have hv2:=aI hbr hx2
     have hv3:=aI hbr hx3
     have UR:=(fD hbr (w.heap.size+1+1) 0 4 (by omega)).trans hz
     have kM:=hBr
     have UT:w.heap.size+1+1<wr.heap.size:=by have:=hbr.size;omega
     have hcon:=Qv e.a e.cap X r d wr (hX.later hBr) (fun x hx=>(hm x hx).later hBr) (he.later hBr) (by omega)
     go_wp2_with fail
     refine hcon.mono ?_
     generalize wr=V at *
     clear hc hf hr hlt hc3 hf3 hr3 hlt3
     obtain⟨X5,hq⟩:∃q,q=X:=⟨_,rfl⟩
     subst hq
    all_goals
     rintro x w7 ⟨s7,rfl,hb7,hd7⟩
     generalize kH fB eH (r,d) X5=X7 at *
     have hy2:=aI hb7 hv2
     have hs7:=hb7.size
     obtain⟨hc,hf,hr,hlt⟩:=ax hy2
     have hset:=dH (o:=1) (.int .i64 (D.aN+1)) (dH (o:=2) (.slice s7.a X7.length s7.cap) hy2)
     have LK:row? ((w7.setCell ⟨w.heap.size,2,none⟩ (.slice s7.a X7.length s7.cap)).setCell ⟨w.heap.size,1,none⟩ (.int .i64 (D.aN+1))) w.heap.size 0 4=some (aA s7 q {D with entries:=X7.map (·.2),aN:=D.aN+1}):=(dI hset).trans (by rw[show X7.length=(X7.map (·.2)).length from(List.length_map _).symm];kernel_rfl)
     have hcp:aX ((w7.setCell ⟨w.heap.size,2,none⟩ (.slice s7.a X7.length s7.cap)).setCell ⟨w.heap.size,1,none⟩ (.int .i64 (D.aN+1))) (w.heap.size+1+1) 0 4=true:=(jJ hne2).trans ((jJ hne2).trans ((fD hb7 (w.heap.size+1+1) 0 4 UT).trans UR))
     clear hr
     dsimp only
     go_wp2_with fail
     have hrow:=gJ (fC s7 q {D with entries:=X7.map (·.2),aN:=D.aN+1}) hcp
     refine bodyPost_ret (kT (by rfl) Tryz.underlying30 rfl (by kernel_rfl) rfl hrow) rfl (hq5 _ _ ⟨s7,rfl,Go.WW.Below.putRow (((ag kM hb7).setCell (by simp) _).setCell (by simp) _) (by omega),fun y hy=>hd7 _ (fun g hg=>?_)⟩)
     have hg1:=hg.1
     have hg2:=hg.2
     rw[hy g ⟨by omega,by rw[gV];simp only[World.setCell,Array.size_modify];omega⟩,gU (by omega),Below.heap_setCell _ _ _ _ (show g≠w.heap.size by omega),Below.heap_setCell _ _ _ _ (show g≠w.heap.size by omega)]
end Go.Proofs.YtpfifochimkpfaaGreatDoor
