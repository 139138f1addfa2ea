/- A part of the proof. -/
import Derived.Test.YtfieenjdcpjmgaaGreatDoorA08
import Derived.Test.YtfieenjdcpjmgaaGreatDoorA23
import Derived.Test.YtfieenjdcpjmgaaGreatDoorA24
set_option maxRecDepth 100000
set_option maxHeartbeats 8000000
namespace Go.WW
open Go.RowKit
def zM(p:az):Prop:=(∀i (h:i<p.parts.length),p.parts[i].size≤40)∧p.parts.length≤6∧p.aF.size≤40
noncomputable def BN(p:Prop):Bool:=@decide p (Classical.propDecidable p)
theorem aoo{p:Prop}(h:p):BN p=true:=@decide_eq_true p (Classical.propDecidable p) h
theorem PW{p:Prop}(h:¬p):BN p=false:=@decide_eq_false p (Classical.propDecidable p) h
theorem aal{w:World}(cs:Array Value)(t:TypeId):Below w.heap.size w (w.alloc (.cells cs t)):=(Below.refl _ _).alloc (Nat.le_refl _) _
end Go.WW
namespace Go.Proofs.YtfieenjdcpjmgaaGreatDoor
open Go.RowKit Go.WW
theorem PX(s:Sl)(p:az)(w:World)(hp:bz w s p):Calls Tryz.prog 19 #[.agg (ai s p)] w fun e w'=>e=.returned (.bool (BN (zM p)))∧Below w.heap.size w w':=by
 have hB:Below w.heap.size w (w.alloc (.cells (ai s p) 40)):=aal _ _
 have hn:p.parts.length≤9223372036854775807:=Nat.le_trans hp.1.1 (by decide)
 have hr:p.aF.size≤9223372036854775807:=Nat.le_trans hp.2 (by decide)
 go_enter Tryz.func19,Tryz.ntmps19
 go_wp2_with fail
 go_loop [3] (fun i=>∃k:Nat,k≤p.parts.length∧i=.int .i64 k∧Hid (∀j (h:j<p.parts.length),j<k→p.parts[j].size≤40)) (fun i=>p.parts.length-(intOf i).toNat)
 case atStart=>exact⟨0,Nat.zero_le _,rfl,fun j h hj=>absurd hj (Nat.not_lt_zero _)⟩
 case round=>
  obtain⟨k,hk,rfl,hall⟩:=hrel
  by_cases hlt:k<p.parts.length
  ·obtain⟨b2,o2,ha2,hc2,hs2⟩:=hp.1.get k hlt
   have hs2':p.parts[k].size≤9223372036854775807:=Nat.le_trans hs2 (by decide)
   have aop:b2<w.heap.size:=World.block_lt_of_cell? w _ hc2
   obtain⟨sa,sc⟩:=s
   dsimp only at ha2
   subst ha2
   go_wp2_with fail
   all_goals first
    |(go_ret;exact⟨by rw[PW (fun h=>by have:=h.1 k hlt;omega)];rfl,hB⟩)
    |(go_round
      case rel=>exact⟨k+1,by omega,by go_num,fun j h hj=>by
       rcases Nat.lt_or_ge j k with h1|h1
       ·exact hall.out j h h1
       ·obtain rfl:j=k:=by omega
        omega⟩
      case measure=>simp[intOf];omega)
  ·by_cases h6:p.parts.length≤6
   ·have h6':(p.parts.length:Int)≤6:=by omega
    by_cases h40:p.aF.size≤40
    ·have PY:(p.aF.size:Int)≤40:=by omega
     have e:=Lib.hid (aoo (p:=zM p) ⟨fun i h=>hall.out i h (by omega),h6,h40⟩)
     go_wp2_with fail
     go_ret
     exact⟨by rw[e.out];first|rfl|(simp[PY]),hB⟩
    ·have PY:¬(p.aF.size:Int)≤40:=by omega
     have e:=Lib.hid (PW (p:=zM p) (fun h=>h40 h.2.2))
     go_wp2_with fail
     go_ret
     exact⟨by rw[e.out];first|rfl|(simp[PY]),hB⟩
   ·have h6':¬(p.parts.length:Int)≤6:=by omega
    have e:=Lib.hid (PW (p:=zM p) (fun h=>h6 h.2.1))
    go_wp2_with fail
    all_goals go_ret
    all_goals exact⟨by rw[e.out];first|rfl|(simp[h6']),hB⟩
end Go.Proofs.YtfieenjdcpjmgaaGreatDoor
namespace Go.WW
open Go.RowKit
structure qC(w:World)(rows:List (Array Value))(l:List az):Prop where
 len:rows.length=l.length
 at_:∀i (hi:i<rows.length),∃p s,l[i]?=some p∧rows[i]=ai s p∧bz w s p
theorem qC.nil(w:World):qC w [] []:=⟨rfl,fun _ hi=>absurd hi (Nat.not_lt_zero _)⟩
theorem qC.append{w:World}{r1 r2:List (Array Value)}{l1 l2:List az}(h1:qC w r1 l1)(h2:qC w r2 l2):qC w (r1++r2) (l1++l2):=by
 refine⟨by simp[h1.len,h2.len],fun i hi=>?_⟩
 by_cases hlt:i<r1.length
 ·obtain⟨p,s,e1,e2,e3⟩:=h1.at_ i hlt
  exact⟨p,s,by rw[List.getElem?_append_left (by have:=h1.len;omega)];exact e1,by rw[List.getElem_append_left hlt];exact e2,e3⟩
 ·obtain⟨p,s,e1,e2,e3⟩:=h2.at_ (i-r1.length) (by simp at hi;omega)
  exact⟨p,s,by rw[List.getElem?_append_right (by have:=h1.len;omega),←h1.len];exact e1,by rw[List.getElem_append_right (by omega)];exact e2,e3⟩
theorem qC.later{w w':World}{r:List (Array Value)}{l:List az}(h:qC w r l)(hb:Below w.heap.size w w'):qC w' r l:=
 ⟨h.len,fun i hi=>by obtain⟨p,s,e1,e2,e3⟩:=h.at_ i hi;exact⟨p,s,e1,e2,e3.later hb⟩⟩
theorem qC.aoq{w:World}{base:Nat}{e:TypeId}{s:Sl}{r:List (Array Value)}{l:List az}(h:qC w r l)(ho:Own w base e 2 s r)(hl:l.length≤lim):fF w s.a l:=
 aV.ed ho h.len hl h.at_
end Go.WW
namespace Go.Proofs.YtfieenjdcpjmgaaGreatDoor
open Go.RowKit Go.WW
def BO(n:Nat)(most:Int)(w:World)(z:Ending)(w':World):Prop:=∃c:Bool,z=.returned (.bool c)∧(c=true→(n:Int)≤most)∧Below w.heap.size w w'
theorem wB{n:Nat}{most:Int}{w w':World}(h:Below w.heap.size w w'):BO n most w (.returned (.bool false)) w':=⟨false,rfl,(fun h=>by cases h),h⟩
theorem aor(a:Option Addr)(cap n:Nat)(most:Int)(w:World)(hn:most<(n:Int)):Calls Tryz.prog 5 #[.slice a n cap,.int .i64 most] w (BO n most w):=by
 go_enter Tryz.func5,Tryz.ntmps5
 go_wp2_with fail
 go_ret
 exact wB (Below.refl _ _)
theorem aos(a:Option Addr)(cap n:Nat)(most:Int)(w:World)(h0:n=0)(hn:¬most<(n:Int)):Calls Tryz.prog 5 #[.slice a n cap,.int .i64 most] w (BO n most w):=by
 subst h0
 go_enter Tryz.func5,Tryz.ntmps5
 go_wp2_with fail
 refine wp_loop_rounds 1 ?_
 rw[rounds_succ]
 go_wp2_with fail
 go_ret
 exact⟨true,rfl,fun _=>by simpa using hn,Below.refl _ _⟩
theorem aot(bA oA cap:Nat)(l:List dX)(most:Int)(w:World)(hl:pg w (some ⟨bA,oA,none⟩) l)(hn:¬most<(l.length:Int)) :
  Calls Tryz.prog 5 #[.slice (some ⟨bA,oA,none⟩) l.length cap,.int .i64 most] w (BO l.length most w):=by
 have hlim:l.length≤4294967000:=hl.1
 have HL:=Lib.hid hl
 have HM:=Lib.hid (show(l.length:Int)≤most by omega)
 clear hl
 go_enter Tryz.func5,Tryz.ntmps5
 go_wp2_with fail
 clear hn
 go_loopw [5] (fun iv wr=>∃k:Nat,k≤l.length∧iv=.int .i64 k∧Below w.heap.size w wr) (fun iv _=>l.length-(intOf iv).toNat)
 case atStart=>exact⟨0,Nat.zero_le _,rfl,Below.refl _ _⟩
 case round=>
  obtain⟨w1,rfl⟩:∃w1,w1=wr:=⟨_,rfl⟩
  obtain⟨kk,hkk,rfl,hB1⟩:=hrel
  by_cases hlt:kk<l.length
  ·obtain⟨b',o',z,ha,hrow0,Ea⟩:=aV.Xu HL.out kk hlt
   cases ha
   have hrow:row? w1 bA (oA+kk*33) 33=some (bZ z l[kk]):=(ig (hB1.block _ (gG hrow0)) _ _).trans hrow0
   have jE:bA<w1.heap.size:=gG hrow
   have hx1:=Ea.later hB1
   generalize l[kk]=x at *
   obtain⟨xk,d,p,xa,xb,xc,q⟩:=x
   obtain⟨r,s⟩:=z
   have he:=hx1.DT
   have hp:=hx1.A7
   dsimp only at he hp
   have hr0:=akE hrow
   have hr1:=akF hrow
   have hr2:=akG hrow
   have Ii:=hx1.Ih
   clear hrow hrow0 Ea hx1
   dsimp only at hr0 hr1 hr2 Ii
   have hd0:d.aliases.length≤4294967000:=he.aliases.1
   have hd1:d.keys.length≤4294967000:=he.keys.1
   have hd2:d.targets.length≤4294967000:=he.targets.1
   have hd3:d.bu.length≤4294967000:=he.bu.1
   have hd4:d.history.length≤4294967000:=he.history.1
   have hd5:d.aO.size≤4294967000:=he.aO
   have hq5:q.name.size≤4294967000:=Ii
   have arf:=hB1.size
   have hbx:=World.alloc_heap_new w1 (.cells (ae r d) 47)
   have hBb:Below w1.heap.size w1 (w1.alloc (.cells (ae r d) 47)):=aal _ _
   have hcell:=hr2
   go_wp2_with fail
   generalize (w1.alloc (.cells (ae r d) 47))=w2 at *
   have HE:=Lib.hid (he.later hBb)
   have HB2:=Lib.hid (ag hB1 hBb)
   refine(PX _ _ _ (hp.later hBb)).mono ?_
   rintro y w3 ⟨rfl,hb3⟩
   generalize BN (zM p)=c0
   cases c0
   ·go_wp2_with fail
    go_ret
    exact wB (ag HB2.out hb3)
   have PZ:=aJ hb3 hbx
   obtain⟨hc,hf,hr,yD⟩:=aC PZ
   have hrn:row? w3 w1.heap.size 0 2=some (ai r.parts d.name):=by rw[hr];exact Fg r d
   go_wp2_with fail
   refine(PX _ _ _ (HE.out.name.later hb3)).mono ?_
   rintro y w4 ⟨rfl,hb4⟩
   generalize BN (zM d.name)=c1
   cases c1
   ·go_wp2_with fail
    go_ret
    exact wB (ag (ag HB2.out hb3) hb4)
   have P5:=aJ hb4 PZ
   clear hc hf hr yD hrn
   obtain⟨hc,hf,hr,yD⟩:=aC P5
   have HB4:=Lib.hid (ag (ag HB2.out hb3) hb4)
   have aan:Below w1.heap.size w1 w4:=ag hBb (ag hb3 hb4)
   have hr2':w4.cell? ⟨bA,oA+kk*33+23,none⟩=some (.string q.name):=(aan.cell (p:=⟨bA,oA+kk*33+23,none⟩) jE).trans hcell
   have arh:bA<w4.heap.size:=Nat.lt_of_lt_of_le jE aan.size
   have xH:=Lib.hid (HE.out.later (ag hb3 hb4))
   clear hr0 hr1 hr2 hcell hbx PZ
   have HNO:=Lib.hid (fun z=>wB (n:=l.length) (most:=most) (w':=z):∀z,Below w.heap.size w z→BO l.length most w (.returned (.bool false)) z)
   go_wp2_with fail
   all_goals first
    |(go_ret;exact wB HB4.out)
    |skip
   obtain⟨rA,lA,sA,qA⟩:=aV.src xH.out.aliases CQ
   obtain⟨rT,lT,sT,qT⟩:=aV.src xH.out.targets CQ
   obtain⟨rD,lD,sD,qD⟩:=aV.src xH.out.bu CQ
   have nA:d.aliases.length≤4:=by omega
   have nT:d.targets.length≤4:=by omega
   have nD:d.bu.length≤4:=by omega
   have LA:=Lib.hid lA
   have LT:=Lib.hid lT
   have LD:=Lib.hid lD
   have QA:=Lib.hid qA
   have QT:=Lib.hid qT
   have QD:=Lib.hid qD
   have SA:=Lib.hid sA
   have ST:=Lib.hid sT
   have SD:=Lib.hid sD
   clear lA lT lD qA qT qD sA sT sD hr2'
   have HO:=Lib.hid (Own.empty w4.drew 40 2)
   have HSA:=Lib.hid (SA.out.later (aj (Below.refl _ w4).drew (.cells #[] 40)))
   refine mG (fun _=>False) (But.refl _ w4) (by kernel_rfl) (by kernel_rfl) ?_
   repeat (first|(refine ak (by rfl) ?_)|(refine aP (by rfl) (by rfl) (fun K hK=>?_);go_big_quiet_op;refine hK _ ?_;clear hK K))
   refine aT (by rfl) (by rfl) (fun K hK=>?_)
   go_wp2_with fail
   refine hK _ _ (cu (But.of_below (aj (Below.refl _ w4).drew _))) ?_
   clear hK K
   repeat (first|(refine ak (by rfl) ?_)|(refine aP (by rfl) (by rfl) (fun K hK=>?_);go_big_quiet_op;refine hK _ ?_;clear hK K))
   refine aT (by rfl) (by rfl) (fun K hK=>?_)
   refine yY (.tmp 85) (.tmp 87) _ rfl Am (n:=0) (s:=⟨some ⟨w4.heap.size,0,none⟩,0⟩) rfl rfl HO.out rfl LA.out.symm HSA.out (by rw[LA.out];simp;omega) (by simp) ?_
   intro s5 w5 hown5 hg5 aov
   have hb5:Below w4.heap.size w4 w5:=(aj (Below.refl _ w4).drew (.cells #[] 40)).grown hg5 (by simp) (fun k' e'=>by cases e';exact Nat.le_refl _)
   rw[List.nil_append]at hown5
   rw[Nat.zero_add]
   go_wp2_with fail
   refine hK _ _ (cu (But.of_below hb5)) ?_
   clear hK K
   repeat (first|(refine ak (by rfl) ?_)|(refine aP (by rfl) (by rfl) (fun K hK=>?_);go_big_quiet_op;refine hK _ ?_;clear hK K))
   refine aT (by rfl) (by rfl) (fun K hK=>?_)
   refine yY (.tmp 88) (.tmp 90) _ rfl Am (n:=d.aliases.length) (s:=s5) rfl LA.out.symm hown5 rfl LT.out.symm (ST.out.later hb5) (by rw[LA.out,LT.out];omega) hb5.size ?_
   intro s6 w6 hown6 hg6 aow
   have hb6:Below w4.heap.size w4 w6:=DV hown5 hb5 hg6
   go_wp2_with fail
   refine hK _ _ (cu (But.of_below hb6)) ?_
   clear hK K
   repeat (first|(refine ak (by rfl) ?_)|(refine aP (by rfl) (by rfl) (fun K hK=>?_);go_big_quiet_op;refine hK _ ?_;clear hK K))
   refine aT (by rfl) (by rfl) (fun K hK=>?_)
   refine yY (.tmp 91) (.tmp 93) _ rfl Am (n:=d.aliases.length+d.targets.length) (s:=s6) rfl (by rw[List.length_append,LA.out,LT.out]) hown6 rfl LD.out.symm (SD.out.later hb6) (by rw[List.length_append,LA.out,LT.out,LD.out];omega) hb6.size ?_
   intro s7 w7 aap hg7 aox
   have hb7:Below w4.heap.size w4 w7:=DV hown6 hb6 hg7
   go_wp2_with fail
   refine hK _ _ (cu (But.of_below hb7)) ?_
   clear hK K
   repeat (first|(refine ak (by rfl) ?_)|(refine aP (by rfl) (by rfl) (fun K hK=>?_);go_big_quiet_op;refine hK _ ?_;clear hK K))
   refine bQ ?_
   have kL:=Lib.hid (ag HB4.out hb7)
   obtain⟨L,hL⟩:∃L,L=d.aliases++d.targets++d.bu:=⟨_,rfl⟩
   have hLn:d.aliases.length+d.targets.length+d.bu.length=L.length:=by rw[hL];simp;omega
   rw[hLn]
   have hN:L.length≤12:=by omega
   have HP:=Lib.hid (show fF w7 s7.a L by
    have h:=(qC.append ⟨LA.out,QA.out⟩ ⟨LT.out,QT.out⟩).append ⟨LD.out,QD.out⟩
    rw[hL]
    exact(h.later hb7).aoq aap (by unfold lim;simp;omega))
   have aoy:=aJ hb7 P5
   have HK7:=Lib.hid (xH.out.keys.later hb7)
   clear hL hLn hc hf hr yD hown5 hown6 aap hg5 hg6 hg7 aov aow aox hb5 hb6 P5
   go_wp2_with fail
   go_loopw [8] (fun i wr=>Below w7.heap.size w7 wr∧∃k:Nat,k≤L.length∧i=.int .i64 k) (fun i _=>L.length-(intOf i).toNat)
   case atStart=>exact⟨Below.refl _ _,0,Nat.zero_le _,rfl⟩
   case round=>
    obtain⟨hbr,k,hk,rfl⟩:=hrel
    by_cases hlk:k<L.length
    ·obtain⟨g,o,t,ha,hrow,hpa⟩:=HP.out.get k hlk
     have aoA:(k:Int)<(L.length:Int):=by omega
     have arj:g<w7.heap.size:=gG hrow
     obtain⟨s7a,s7c⟩:=s7
     dsimp only at ha
     subst ha
     obtain⟨hcc,aS,hrr⟩:=aY hbr
     go_wp2_with fail
     refine(PX _ _ _ (hpa.later hbr)).mono ?_
     rintro y w8 ⟨rfl,hb8⟩
     have oh:=ag hbr hb8
     clear hcc aS hrr
     generalize BN (zM L[k])=c2
     cases c2
     ·go_wp2_with fail
      go_ret
      exact wB (ag kL.out oh)
     go_wp2_with fail
     go_roundw
     case rel=>exact⟨oh,k+1,by omega,by go_num⟩
     case measure=>simp[intOf];omega
    ·have aoA:¬(k:Int)<(L.length:Int):=by omega
     have yZ:=Lib.hid (ag kL.out hbr)
     have HKr:=Lib.hid (HK7.out.later hbr)
     obtain⟨hc,hf,hr,yD⟩:=aC (aJ hbr aoy)
     have hc5:=(hc 5).trans (Cc r d)
     clear hc hf hr
     go_wp2_with fail
     go_loop [9] (fun i=>∃k:Nat,k≤d.keys.length∧i=.int .i64 k) (fun i=>d.keys.length-(intOf i).toNat)
     case atStart=>exact⟨0,Nat.zero_le _,rfl⟩
     case round=>
      obtain⟨j,hj,rfl⟩:=hrel
      by_cases hjt:j<d.keys.length
      ·obtain⟨b2,o2,s2,ha2,hq2,hs2⟩:=HKr.out.get j hjt
       have aop:=gG hq2
       have hy1:wr.cell? ⟨b2,o2+j*5+1,none⟩=some (.slice s2.a d.keys[j].keys.length s2.cap):=by have:=gJ hq2 1 (by omega);simpa[go_sem]using this
       have hy2:wr.cell? ⟨b2,o2+j*5+2,none⟩=some (.string d.keys[j].df):=by have:=gJ hq2 2 (by omega);simpa[go_sem]using this
       have hkl:d.keys[j].keys.length≤4294967000:=hs2.1.1
       have hsl:d.keys[j].df.size≤4294967000:=hs2.2
       rw[ha2]at hc5
       by_cases hz1:d.keys[j].keys.length≤4
       case neg=>
        go_wp2_with fail
        go_ret
        exact wB yZ.out
       by_cases hz2:d.keys[j].df.size≤300
       case neg=>
        go_wp2_with fail
        go_ret
        exact wB yZ.out
       go_wp2_with fail
       go_loop [10] (fun i=>∃n:Nat,n≤d.keys[j].keys.length∧i=.int .i64 n) (fun i=>d.keys[j].keys.length-(intOf i).toNat)
       case atStart=>exact⟨0,Nat.zero_le _,rfl⟩
       case round=>
        obtain⟨n,hn,rfl⟩:=hrel
        by_cases hnt:n<d.keys[j].keys.length
        ·obtain⟨b3,o3,s3,um,hq3,hs3⟩:=kP.get hs2.1 n hnt
         have arn:=gG hq3
         have hy3:wr.cell? ⟨b3,o3+n*3+2,none⟩=some (.slice s3.a d.keys[j].keys[n].bytes.length s3.cap):=by have:=gJ hq3 2 (by omega);simpa[go_sem]using this
         have hbl:d.keys[j].keys[n].bytes.length≤4294967000:=hs3.1
         rw[um]at hy1
         by_cases hz3:d.keys[j].keys[n].bytes.length≤300
         case neg=>
          go_wp2_with fail
          go_ret
          exact wB yZ.out
         go_wp2_with fail
         go_round
         case rel=>exact⟨n+1,by omega,by go_num⟩
         case measure=>simp[intOf];omega
        ·obtain rfl:n=d.keys[j].keys.length:=by omega
         go_wp2_with fail
         go_round
         case rel=>exact⟨j+1,by omega,by go_num⟩
         case measure=>simp[intOf];omega
      ·obtain rfl:j=d.keys.length:=by omega
       go_wp2_with fail
       go_roundw
       case rel=>exact⟨kk+1,by omega,by go_num,yZ.out⟩
       case measure=>simp[intOf];omega
  ·obtain rfl:kk=l.length:=by omega
   go_wp2_with fail
   go_ret
   exact⟨true,rfl,fun _=>HM.out,hB1⟩
theorem aar(a:Option Addr)(cap:Nat)(l:List dX)(most:Int)(w:World)(hl:pg w a l):Calls Tryz.prog 5 #[.slice a l.length cap,.int .i64 most] w (BO l.length most w):=by
 by_cases hn:most<(l.length:Int)
 ·exact aor a cap l.length most w hn
 ·rcases aV.addr hl with h0|⟨bA,oA,rfl,hb⟩
  ·exact aos a cap l.length most w h0 hn
  ·exact aot bA oA cap l most w hl hn
end Go.Proofs.YtfieenjdcpjmgaaGreatDoor
namespace Go.WW
open Go.RowKit
end Go.WW
namespace Go.Proofs.YtfieenjdcpjmgaaGreatDoor
open Go.RowKit Go.WW
theorem aoC(w:World):(jf 32 #[]).run Tryz.prog w=.ok (.value (.agg (au aW aW iY))) w:=by kernel_rfl
attribute [local go_sem] aoC
end Go.Proofs.YtfieenjdcpjmgaaGreatDoor
