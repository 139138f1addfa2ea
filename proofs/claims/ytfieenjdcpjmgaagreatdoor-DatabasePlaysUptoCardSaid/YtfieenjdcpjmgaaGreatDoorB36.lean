/- A part of the proof. -/
import Derived.Test.YtfieenjdcpjmgaaGreatDoorB08
import Derived.Test.YtfieenjdcpjmgaaGreatDoorB23
import Derived.Test.YtfieenjdcpjmgaaGreatDoorB25
set_option maxRecDepth 100000
set_option maxHeartbeats 8000000
namespace Go.WW
open Go.RowKit
def zV(p:az):Prop:=(∀i (h:i<p.parts.length),p.parts[i].size≤40)∧p.parts.length≤6∧p.aG.size≤40
noncomputable def BR(p:Prop):Bool:=@decide p (Classical.propDecidable p)
theorem aoZ{p:Prop}(h:p):BR p=true:=@decide_eq_true p (Classical.propDecidable p) h
theorem Qk{p:Prop}(h:¬p):BR p=false:=@decide_eq_false p (Classical.propDecidable p) h
theorem aaS{w:World}(cs:Array Value)(t:TypeId):Below w.heap.size w (w.alloc (.cells cs t)):=(Below.refl _ _).alloc (Nat.le_refl _) _
end Go.WW
namespace Go.Proofs.YtfieenjdcpjmgaaGreatDoor
open Go.RowKit Go.WW
theorem Ql(s:Sl)(p:az)(w:World)(hp:bn w s p):Calls Tryz.prog 19 #[.agg (ah s p)] w fun e w'=>e=.returned (.bool (BR (zV p)))∧Below w.heap.size w w':=by
 have hB:Below w.heap.size w (w.alloc (.cells (ah s p) 40)):=aaS _ _
 have hn:p.parts.length≤9223372036854775807:=Nat.le_trans hp.1.1 (by decide)
 have hr:p.aG.size≤9223372036854775807:=Nat.le_trans hp.2 (by decide)
 go_enter Tryz.func19,Tryz.ntmps19
 go_wp2_with fail
 go_loop [3] (fun i=>∃k:Nat,k≤p.parts.length∧i=.int .i64 k∧Hid (∀j (h:j<p.parts.length),j<k→p.parts[j].size≤40)) (fun i=>p.parts.length-(intOf i).toNat)
 case atStart=>exact⟨0,Nat.zero_le _,rfl,fun j h hj=>absurd hj (Nat.not_lt_zero _)⟩
 case round=>
  obtain⟨k,hk,rfl,hall⟩:=hrel
  by_cases hlt:k<p.parts.length
  ·obtain⟨b2,o2,ha2,hc2,hs2⟩:=hp.1.get k hlt
   have hs2':p.parts[k].size≤9223372036854775807:=Nat.le_trans hs2 (by decide)
   have ao0:b2<w.heap.size:=World.block_lt_of_cell? w _ hc2
   obtain⟨sa,sc⟩:=s
   dsimp only at ha2
   subst ha2
   go_wp2_with fail
   all_goals first
    |(go_ret;exact⟨by rw[Qk (fun h=>by have:=h.1 k hlt;omega)];rfl,hB⟩)
    |(go_round
      case rel=>exact⟨k+1,by omega,by go_num,fun j h hj=>by
       rcases Nat.lt_or_ge j k with h1|h1
       ·exact hall.out j h h1
       ·obtain rfl:j=k:=by omega
        omega⟩
      case measure=>simp[intOf];omega)
  ·by_cases h6:p.parts.length≤6
   ·have h6':(p.parts.length:Int)≤6:=by omega
    by_cases JA:p.aG.size≤40
    ·have Qm:(p.aG.size:Int)≤40:=by omega
     have e:=Lib.hid (aoZ (p:=zV p) ⟨fun i h=>hall.out i h (by omega),h6,JA⟩)
     go_wp2_with fail
     go_ret
     exact⟨by rw[e.out];first|rfl|(simp[Qm]),hB⟩
    ·have Qm:¬(p.aG.size:Int)≤40:=by omega
     have e:=Lib.hid (Qk (p:=zV p) (fun h=>JA h.2.2))
     go_wp2_with fail
     go_ret
     exact⟨by rw[e.out];first|rfl|(simp[Qm]),hB⟩
   ·have h6':¬(p.parts.length:Int)≤6:=by omega
    have e:=Lib.hid (Qk (p:=zV p) (fun h=>h6 h.2.1))
    go_wp2_with fail
    all_goals go_ret
    all_goals exact⟨by rw[e.out];first|rfl|(simp[h6']),hB⟩
end Go.Proofs.YtfieenjdcpjmgaaGreatDoor
namespace Go.WW
open Go.RowKit
structure qI(w:World)(rows:List (Array Value))(l:List az):Prop where
 len:rows.length=l.length
 at_:∀i (hi:i<rows.length),∃p s,l[i]?=some p∧rows[i]=ah s p∧bn w s p
theorem qI.nil(w:World):qI w [] []:=⟨rfl,fun _ hi=>absurd hi (Nat.not_lt_zero _)⟩
theorem qI.append{w:World}{r1 r2:List (Array Value)}{l1 l2:List az}(h1:qI w r1 l1)(h2:qI w r2 l2):qI w (r1++r2) (l1++l2):=by
 refine⟨by simp[h1.len,h2.len],fun i hi=>?_⟩
 by_cases hlt:i<r1.length
 ·obtain⟨p,s,e1,e2,e3⟩:=h1.at_ i hlt
  exact⟨p,s,by rw[List.getElem?_append_left (by have:=h1.len;omega)];exact e1,by rw[List.getElem_append_left hlt];exact e2,e3⟩
 ·obtain⟨p,s,e1,e2,e3⟩:=h2.at_ (i-r1.length) (by simp at hi;omega)
  exact⟨p,s,by rw[List.getElem?_append_right (by have:=h1.len;omega),←h1.len];exact e1,by rw[List.getElem_append_right (by omega)];exact e2,e3⟩
theorem qI.later{w w':World}{r:List (Array Value)}{l:List az}(h:qI w r l)(hb:Below w.heap.size w w'):qI w' r l:=
 ⟨h.len,fun i hi=>by obtain⟨p,s,e1,e2,e3⟩:=h.at_ i hi;exact⟨p,s,e1,e2,e3.later hb⟩⟩
theorem qI.ao1{w:World}{base:Nat}{e:TypeId}{s:Sl}{r:List (Array Value)}{l:List az}(h:qI w r l)(ho:Own w base e 2 s r)(hl:l.length≤lim):fJ w s.a l:=
 aX.eG ho h.len hl h.at_
end Go.WW
namespace Go.Proofs.YtfieenjdcpjmgaaGreatDoor
open Go.RowKit Go.WW
def BU(n:Nat)(most:Int)(w:World)(z:Ending)(w':World):Prop:=∃c:Bool,z=.returned (.bool c)∧(c=true→(n:Int)≤most)∧Below w.heap.size w w'
theorem wI{n:Nat}{most:Int}{w w':World}(h:Below w.heap.size w w'):BU n most w (.returned (.bool false)) w':=⟨false,rfl,(fun h=>by cases h),h⟩
theorem ao2(a:Option Addr)(cap n:Nat)(most:Int)(w:World)(hn:most<(n:Int)):Calls Tryz.prog 5 #[.slice a n cap,.int .i64 most] w (BU n most w):=by
 go_enter Tryz.func5,Tryz.ntmps5
 go_wp2_with fail
 go_ret
 exact wI (Below.refl _ _)
theorem ao3(a:Option Addr)(cap n:Nat)(most:Int)(w:World)(h0:n=0)(hn:¬most<(n:Int)):Calls Tryz.prog 5 #[.slice a n cap,.int .i64 most] w (BU n most w):=by
 subst h0
 go_enter Tryz.func5,Tryz.ntmps5
 go_wp2_with fail
 refine wp_loop_rounds 1 ?_
 rw[rounds_succ]
 go_wp2_with fail
 go_ret
 exact⟨true,rfl,fun _=>by simpa using hn,Below.refl _ _⟩
theorem ao4(bA oA cap:Nat)(l:List fU)(most:Int)(w:World)(hl:vM w (some ⟨bA,oA,none⟩) l)(hn:¬most<(l.length:Int)) :
  Calls Tryz.prog 5 #[.slice (some ⟨bA,oA,none⟩) l.length cap,.int .i64 most] w (BU l.length most w):=by
 have hlim:l.length≤4294967000:=hl.1
 have HL:=Lib.hid hl
 have HM:=Lib.hid (show(l.length:Int)≤most by omega)
 clear hl
 go_enter Tryz.func5,Tryz.ntmps5
 go_wp2_with fail
 clear hn
 go_loopw [5] (fun iv wr=>∃k:Nat,k≤l.length∧iv=.int .i64 k∧Below w.heap.size w wr) (fun iv _=>l.length-(intOf iv).toNat)
 case atStart=>exact⟨0,Nat.zero_le _,rfl,Below.refl _ _⟩
 case round=>
  obtain⟨w1,rfl⟩:∃w1,w1=wr:=⟨_,rfl⟩
  obtain⟨kk,hkk,rfl,hB1⟩:=hrel
  by_cases hlt:kk<l.length
  ·obtain⟨b',o',z,ha,hrow0,Fg⟩:=aX.XJ HL.out kk hlt
   cases ha
   have hrow:row? w1 bA (oA+kk*33) 33=some (gW z l[kk]):=(gZ (hB1.block _ (gm hrow0)) _ _).trans hrow0
   have jH:bA<w1.heap.size:=gm hrow
   have hx1:=Fg.later hB1
   generalize l[kk]=x at *
   obtain⟨xk,d,p,xa,xb,xc,q⟩:=x
   obtain⟨r,s⟩:=z
   have he:=hx1.Bd
   have hp:=hx1.zn
   dsimp only at he hp
   have hr0:=XG hrow
   have hr1:=XH hrow
   have hr2:=XI hrow
   have Iq:=hx1.Ip
   clear hrow hrow0 Fg hx1
   dsimp only at hr0 hr1 hr2 Iq
   have hd0:d.aliases.length≤4294967000:=he.aliases.1
   have hd1:d.keys.length≤4294967000:=he.keys.1
   have hd2:d.targets.length≤4294967000:=he.targets.1
   have hd3:d.bD.length≤4294967000:=he.bD.1
   have hd4:d.history.length≤4294967000:=he.history.1
   have hd5:d.aO.size≤4294967000:=he.aO
   have hq5:q.name.size≤4294967000:=Iq
   have arJ:=hB1.size
   have hbx:=World.alloc_heap_new w1 (.cells (ae r d) 47)
   have hBb:Below w1.heap.size w1 (w1.alloc (.cells (ae r d) 47)):=aaS _ _
   have hcell:=hr2
   go_wp2_with fail
   generalize (w1.alloc (.cells (ae r d) 47))=w2 at *
   have HE:=Lib.hid (he.later hBb)
   have HB2:=Lib.hid (ag hB1 hBb)
   refine(Ql _ _ _ (hp.later hBb)).mono ?_
   rintro y w3 ⟨rfl,hb3⟩
   generalize BR (zV p)=c0
   cases c0
   ·go_wp2_with fail
    go_ret
    exact wI (ag HB2.out hb3)
   have Qn:=aJ hb3 hbx
   obtain⟨hc,hf,hr,yI⟩:=aB Qn
   have hrn:row? w3 w1.heap.size 0 2=some (ah r.parts d.name):=by rw[hr];exact Cf r d
   go_wp2_with fail
   refine(Ql _ _ _ (HE.out.name.later hb3)).mono ?_
   rintro y w4 ⟨rfl,hb4⟩
   generalize BR (zV d.name)=c1
   cases c1
   ·go_wp2_with fail
    go_ret
    exact wI (ag (ag HB2.out hb3) hb4)
   have Qo:=aJ hb4 Qn
   clear hc hf hr yI hrn
   obtain⟨hc,hf,hr,yI⟩:=aB Qo
   have HB4:=Lib.hid (ag (ag HB2.out hb3) hb4)
   have aaT:Below w1.heap.size w1 w4:=ag hBb (ag hb3 hb4)
   have hr2':w4.cell? ⟨bA,oA+kk*33+23,none⟩=some (.string q.name):=(aaT.cell (p:=⟨bA,oA+kk*33+23,none⟩) jH).trans hcell
   have arK:bA<w4.heap.size:=Nat.lt_of_lt_of_le jH aaT.size
   have xQ:=Lib.hid (HE.out.later (ag hb3 hb4))
   clear hr0 hr1 hr2 hcell hbx Qn
   have HNO:=Lib.hid (fun z=>wI (n:=l.length) (most:=most) (w':=z):∀z,Below w.heap.size w z→BU l.length most w (.returned (.bool false)) z)
   go_wp2_with fail
   all_goals first
    |(go_ret;exact wI HB4.out)
    |skip
   obtain⟨rA,lA,sA,qA⟩:=aX.src xQ.out.aliases CU
   obtain⟨rT,lT,sT,qT⟩:=aX.src xQ.out.targets CU
   obtain⟨rD,lD,sD,qD⟩:=aX.src xQ.out.bD CU
   have nA:d.aliases.length≤4:=by omega
   have nT:d.targets.length≤4:=by omega
   have nD:d.bD.length≤4:=by omega
   have LA:=Lib.hid lA
   have LT:=Lib.hid lT
   have LD:=Lib.hid lD
   have QA:=Lib.hid qA
   have QT:=Lib.hid qT
   have QD:=Lib.hid qD
   have SA:=Lib.hid sA
   have ST:=Lib.hid sT
   have SD:=Lib.hid sD
   clear lA lT lD qA qT qD sA sT sD hr2'
   have HO:=Lib.hid (Own.empty w4.drew 40 2)
   have HSA:=Lib.hid (SA.out.later (aj (Below.refl _ w4).drew (.cells #[] 40)))
   refine oZ (fun _=>False) (But.refl _ w4) (by kernel_rfl) (by kernel_rfl) ?_
   repeat (first|(refine ax (by rfl) ?_)|(refine aP (by rfl) (by rfl) (fun K hK=>?_);go_big_quiet_op;refine hK _ ?_;clear hK K))
   refine aU (by rfl) (by rfl) (fun K hK=>?_)
   go_wp2_with fail
   refine hK _ _ (dw (But.of_below (aj (Below.refl _ w4).drew _))) ?_
   clear hK K
   repeat (first|(refine ax (by rfl) ?_)|(refine aP (by rfl) (by rfl) (fun K hK=>?_);go_big_quiet_op;refine hK _ ?_;clear hK K))
   refine aU (by rfl) (by rfl) (fun K hK=>?_)
   refine zi (.tmp 85) (.tmp 87) _ rfl AB (n:=0) (s:=⟨some ⟨w4.heap.size,0,none⟩,0⟩) rfl rfl HO.out rfl LA.out.symm HSA.out (by rw[LA.out];simp;omega) (by simp) ?_
   intro s5 w5 hown5 hg5 ao6
   have hb5:Below w4.heap.size w4 w5:=(aj (Below.refl _ w4).drew (.cells #[] 40)).grown hg5 (by simp) (fun k' e'=>by cases e';exact Nat.le_refl _)
   rw[List.nil_append]at hown5
   rw[Nat.zero_add]
   go_wp2_with fail
   refine hK _ _ (dw (But.of_below hb5)) ?_
   clear hK K
   repeat (first|(refine ax (by rfl) ?_)|(refine aP (by rfl) (by rfl) (fun K hK=>?_);go_big_quiet_op;refine hK _ ?_;clear hK K))
   refine aU (by rfl) (by rfl) (fun K hK=>?_)
   refine zi (.tmp 88) (.tmp 90) _ rfl AB (n:=d.aliases.length) (s:=s5) rfl LA.out.symm hown5 rfl LT.out.symm (ST.out.later hb5) (by rw[LA.out,LT.out];omega) hb5.size ?_
   intro s6 w6 hown6 hg6 ao7
   have hb6:Below w4.heap.size w4 w6:=DZ hown5 hb5 hg6
   go_wp2_with fail
   refine hK _ _ (dw (But.of_below hb6)) ?_
   clear hK K
   repeat (first|(refine ax (by rfl) ?_)|(refine aP (by rfl) (by rfl) (fun K hK=>?_);go_big_quiet_op;refine hK _ ?_;clear hK K))
   refine aU (by rfl) (by rfl) (fun K hK=>?_)
   refine zi (.tmp 91) (.tmp 93) _ rfl AB (n:=d.aliases.length+d.targets.length) (s:=s6) rfl (by rw[List.length_append,LA.out,LT.out]) hown6 rfl LD.out.symm (SD.out.later hb6) (by rw[List.length_append,LA.out,LT.out,LD.out];omega) hb6.size ?_
   intro s7 w7 aaV hg7 ao8
   have hb7:Below w4.heap.size w4 w7:=DZ hown6 hb6 hg7
   go_wp2_with fail
   refine hK _ _ (dw (But.of_below hb7)) ?_
   clear hK K
   repeat (first|(refine ax (by rfl) ?_)|(refine aP (by rfl) (by rfl) (fun K hK=>?_);go_big_quiet_op;refine hK _ ?_;clear hK K))
   refine bV ?_
   have kR:=Lib.hid (ag HB4.out hb7)
   obtain⟨L,hL⟩:∃L,L=d.aliases++d.targets++d.bD:=⟨_,rfl⟩
   have hLn:d.aliases.length+d.targets.length+d.bD.length=L.length:=by rw[hL];simp;omega
   rw[hLn]
   have hN:L.length≤12:=by omega
   have HP:=Lib.hid (show fJ w7 s7.a L by
    have h:=(qI.append ⟨LA.out,QA.out⟩ ⟨LT.out,QT.out⟩).append ⟨LD.out,QD.out⟩
    rw[hL]
    exact(h.later hb7).ao1 aaV (by unfold lim;simp;omega))
   have ao9:=aJ hb7 Qo
   have HK7:=Lib.hid (xQ.out.keys.later hb7)
   clear hL hLn hc hf hr yI hown5 hown6 aaV hg5 hg6 hg7 ao6 ao7 ao8 hb5 hb6 Qo
   go_wp2_with fail
   go_loopw [8] (fun i wr=>Below w7.heap.size w7 wr∧∃k:Nat,k≤L.length∧i=.int .i64 k) (fun i _=>L.length-(intOf i).toNat)
   case atStart=>exact⟨Below.refl _ _,0,Nat.zero_le _,rfl⟩
   case round=>
    obtain⟨hbr,k,hk,rfl⟩:=hrel
    by_cases hlk:k<L.length
    ·obtain⟨g,o,t,ha,hrow,hpa⟩:=HP.out.get k hlk
     have apb:(k:Int)<(L.length:Int):=by omega
     have arM:g<w7.heap.size:=gm hrow
     obtain⟨s7a,s7c⟩:=s7
     dsimp only at ha
     subst ha
     obtain⟨hcc,aT,hrr⟩:=bg hbr
     go_wp2_with fail
     refine(Ql _ _ _ (hpa.later hbr)).mono ?_
     rintro y w8 ⟨rfl,hb8⟩
     have oC:=ag hbr hb8
     clear hcc aT hrr
     generalize BR (zV L[k])=c2
     cases c2
     ·go_wp2_with fail
      go_ret
      exact wI (ag kR.out oC)
     go_wp2_with fail
     go_roundw
     case rel=>exact⟨oC,k+1,by omega,by go_num⟩
     case measure=>simp[intOf];omega
    ·have apb:¬(k:Int)<(L.length:Int):=by omega
     have zk:=Lib.hid (ag kR.out hbr)
     have HKr:=Lib.hid (HK7.out.later hbr)
     obtain⟨hc,hf,hr,yI⟩:=aB (aJ hbr ao9)
     have hc5:=(hc 5).trans (Ce r d)
     clear hc hf hr
     go_wp2_with fail
     go_loop [9] (fun i=>∃k:Nat,k≤d.keys.length∧i=.int .i64 k) (fun i=>d.keys.length-(intOf i).toNat)
     case atStart=>exact⟨0,Nat.zero_le _,rfl⟩
     case round=>
      obtain⟨j,hj,rfl⟩:=hrel
      by_cases hjt:j<d.keys.length
      ·obtain⟨b2,o2,s2,ha2,hq2,hs2⟩:=HKr.out.get j hjt
       have ao0:=gm hq2
       have hy1:wr.cell? ⟨b2,o2+j*5+1,none⟩=some (.slice s2.a d.keys[j].keys.length s2.cap):=by have:=gX hq2 1 (by omega);simpa[go_sem]using this
       have hy2:wr.cell? ⟨b2,o2+j*5+2,none⟩=some (.string d.keys[j].di):=by have:=gX hq2 2 (by omega);simpa[go_sem]using this
       have hkl:d.keys[j].keys.length≤4294967000:=hs2.1.1
       have hsl:d.keys[j].di.size≤4294967000:=hs2.2
       rw[ha2]at hc5
       by_cases hz1:d.keys[j].keys.length≤4
       case neg=>
        go_wp2_with fail
        go_ret
        exact wI zk.out
       by_cases hz2:d.keys[j].di.size≤300
       case neg=>
        go_wp2_with fail
        go_ret
        exact wI zk.out
       go_wp2_with fail
       go_loop [10] (fun i=>∃n:Nat,n≤d.keys[j].keys.length∧i=.int .i64 n) (fun i=>d.keys[j].keys.length-(intOf i).toNat)
       case atStart=>exact⟨0,Nat.zero_le _,rfl⟩
       case round=>
        obtain⟨n,hn,rfl⟩:=hrel
        by_cases hnt:n<d.keys[j].keys.length
        ·obtain⟨b3,o3,s3,uq,hq3,hs3⟩:=kV.get hs2.1 n hnt
         have arP:=gm hq3
         have hy3:wr.cell? ⟨b3,o3+n*3+2,none⟩=some (.slice s3.a d.keys[j].keys[n].bytes.length s3.cap):=by have:=gX hq3 2 (by omega);simpa[go_sem]using this
         have hbl:d.keys[j].keys[n].bytes.length≤4294967000:=hs3.1
         rw[uq]at hy1
         by_cases hz3:d.keys[j].keys[n].bytes.length≤300
         case neg=>
          go_wp2_with fail
          go_ret
          exact wI zk.out
         go_wp2_with fail
         go_round
         case rel=>exact⟨n+1,by omega,by go_num⟩
         case measure=>simp[intOf];omega
        ·obtain rfl:n=d.keys[j].keys.length:=by omega
         go_wp2_with fail
         go_round
         case rel=>exact⟨j+1,by omega,by go_num⟩
         case measure=>simp[intOf];omega
      ·obtain rfl:j=d.keys.length:=by omega
       go_wp2_with fail
       go_roundw
       case rel=>exact⟨kk+1,by omega,by go_num,zk.out⟩
       case measure=>simp[intOf];omega
  ·obtain rfl:kk=l.length:=by omega
   go_wp2_with fail
   go_ret
   exact⟨true,rfl,fun _=>HM.out,hB1⟩
theorem apd(a:Option Addr)(cap:Nat)(l:List fU)(most:Int)(w:World)(hl:vM w a l):Calls Tryz.prog 5 #[.slice a l.length cap,.int .i64 most] w (BU l.length most w):=by
 by_cases hn:most<(l.length:Int)
 ·exact ao2 a cap l.length most w hn
 ·rcases aX.addr hl with h0|⟨bA,oA,rfl,hb⟩
  ·exact ao3 a cap l.length most w h0 hn
  ·exact ao4 bA oA cap l most w hl hn
end Go.Proofs.YtfieenjdcpjmgaaGreatDoor
namespace Go.WW
open Go.RowKit
theorem ape{re:ByteArray}(h:gU re=true):¬re=⟨#[]⟩:=by
 rintro rfl
 exact absurd h (by decide +kernel)
theorem apf(re:ByteArray):fA (eQ re) [] [] [] []:=⟨rfl,fun k o=>by simp,gY.nil,List.Perm.refl _,List.Pairwise.nil,mD.nil,by simp⟩
end Go.WW
namespace Go.Proofs.YtfieenjdcpjmgaaGreatDoor
open Go.RowKit Go.WW
theorem apg{S:Nat→Prop}{b n e p:Nat}{re:ByteArray}{w:World}(h:bU w b n e p re 0 [] [] [])(hsub:∀k,aZ b n e p k→S k)(hlt:∀k,S k→k<w.heap.size):iR S b n e p re bF bF (eQ re) [] 0 w:=
 ⟨⟨[],[],[],⟨h,by simp,hsub⟩,apf re⟩,⟨fun y _=>⟨⟨by simp[lim],fun i hi=>by simp at hi⟩,by simp⟩,fun y _=>⟨by simp[eQ,lim],fun i hi=>by simp[eQ]at hi⟩,by simp[eQ]⟩,rfl,hlt,List.Pairwise.nil,by simp[eQ],by simp[eQ],by simp,by simp[eQ]⟩
theorem aph(re:ByteArray)(w:World)(hs:re.size≤lim)(hok:gU re=false):Calls Tryz.prog 7 #[.string re] w fun x w'=>x=.returned (.tuple #[.pointer none,.int .i64 2])∧Below w.heap.size w w':=by
 have hR:=JS re w hs
 rw[hok]at hR
 have HR:=Lib.hid hR
 clear hR
 go_enter Tryz.func7,Tryz.ntmps7
 go_wp2_with fail
 refine HR.out.mono ?_
 rintro x w1 ⟨rfl,hb1⟩
 dsimp only
 go_wp2_with fail
 exact bodyPost_ret (results_tmp2 (by rfl) _ _ _) rfl ⟨rfl,hb1⟩
theorem api(ρ:Operand→Value)(dst:Option Tmp)(ty:TypeId)(pos:String)(after:Array Edge)(guard:Option (Nat×Bool)) :
  execOp ρ {dst,op:=.build 32 #[],type:=ty,pos,after,guard}=iq 32 #[]:=by simp[execOp,iq]
theorem apj(w:World):(iq 32 #[]).run Tryz.prog w=.ok (.value (.agg (ak bF bF iZ))) w:=by kernel_rfl
attribute [local go_sem] apj
attribute [local go_sem ↓] api
theorem apk(re:ByteArray)(w:World)(hs:re.size≤lim)(hok:gU re=false):Calls Tryz.prog 8 #[.string re] w fun z w'=>z=.returned (.tuple #[.agg (ak bF bF iZ),.int .i64 2])∧Below w.heap.size w w':=by
 have hz3:aS (w.alloc (.cells (ak bF bF iZ) 32)) w.heap.size 0 4=true:=by simp[go_sem]
 have hR:=JK re (w.alloc (.cells (ak bF bF iZ) 32)) hs
 rw[hok]at hR
 rw[MX]at hz3 hR
 have HR:=Lib.hid hR
 clear hok hs hR
 go_enter Tryz.func8,Tryz.ntmps8
 go_wp2_with fail
 refine HR.out.mono ?_
 rintro z w' ⟨rfl,rfl⟩
 dsimp only
 go_wp2_with fail
 have hrow:row? (w.alloc (.cells (ak bF bF iZ) 32)) w.heap.size 0 4=some (ak bF bF iZ):=by rw[Fj rfl];exact df (jD _ _ _)
 exact bodyPost_ret (jE (by rfl) Tryz.underlying32 rfl (by kernel_rfl) rfl hrow) rfl ⟨rfl,aj (Below.refl _ _) _⟩
end Go.Proofs.YtfieenjdcpjmgaaGreatDoor
