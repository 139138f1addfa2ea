/- A part of the proof. -/
import Derived.Test.YtfieenjdcpjmgaaGreatDoorB24
import Derived.Test.YtfieenjdcpjmgaaGreatDoorB08
import Derived.Test.YtfieenjdcpjmgaaGreatDoorB03
import Derived.Test.YtfieenjdcpjmgaaGreatDoorB12
import Derived.Test.YtfieenjdcpjmgaaGreatDoorB22
import Derived.Test.YtfieenjdcpjmgaaGreatDoorB23
set_option maxRecDepth 100000
set_option maxHeartbeats 16000000
namespace Go.Proofs.YtfieenjdcpjmgaaGreatDoor
open Go.RowKit Go.WW
def iT(d f:Entry):Bool:=(aY d.name f.name)&&((jP aY d.aliases f.aliases)&&((d.attrs == f.attrs)&&((d.dS == f.dS)&&((jP jQ d.keys f.keys)&&((d.aO.toList == f.aO.toList)&&((d.iE == f.iE)&&((d.iF == f.iF)&&((d.ig == f.ig)&&((d.ik == f.ik)&&((d.fails == f.fails)&&((d.fD == f.fD)&&((d.gQ == f.gQ)&&((jP aY d.targets f.targets)&&((jP aY d.bD f.bD)&&(jP rX d.history f.history)))))))))))))))
theorem Ir(p:az):aY p p=true:=by simp[aY]
theorem Ed{α:Type}{eq:α→α→Bool}(h:∀x,eq x x=true):∀l,jP eq l l=true
 | []=>rfl
 |x::l=>by rw[jP,h x,Ed h l];rfl
theorem sameKey_self(k:Key):sameKey k k=true:=by simp[sameKey]
theorem alJ(k:bC):jQ k k=true:=by simp[jQ,Ed sameKey_self]
theorem XV(d:Entry):iT d d=true:=by simp[iT,Ir,Ed Ir,Ed alJ,Ed (eq:=rX) (fun x=>by simp[rX])]
theorem XW(r t:aN)(d f:Entry)(w:World)(hd:bK w r d)(hf:bK w t f):Calls Tryz.prog 26 #[.agg (ae r d),.agg (ae t f)] w fun e w'=>e=.returned (.bool (iT d f))∧Below w.heap.size w w':=by
 have hB:Below w.heap.size w ((w.alloc (.cells (ae r d) 47)).alloc (.cells (ae t f) 47)):=((Below.refl _ _).alloc (Nat.le_refl _) _).alloc (by simp) _
 obtain⟨R,hR⟩:∃R,R=iT d f:=⟨_,rfl⟩
 rw[←hR]
 have HR:=Lib.hid hR
 clear hR
 have l1:d.keys.length≤4294967000:=hd.keys.1
 have l2:f.keys.length≤4294967000:=hf.keys.1
 have l3:d.history.length≤4294967000:=hd.history.1
 have l4:f.history.length≤4294967000:=hf.history.1
 go_enter Tryz.func26,Tryz.ntmps26
 by_cases hn:d.keys.length=f.keys.length
 case neg=>
  have hne:((d.keys.length:Int) != (f.keys.length:Int))=true:=by simp;omega
  have HF:=Lib.hid (show iT d f=false by simp[iT,Ea (eq:=jQ) hn])
  clear hn
  go_wp2_with fail
  go_ret
  exact⟨by rw[HR.out,HF.out];rfl,hB⟩
 have hne:((d.keys.length:Int) != (f.keys.length:Int))=false:=by simp[hn]
 by_cases hm:d.history.length=f.history.length
 case neg=>
  have hme:((d.history.length:Int) != (f.history.length:Int))=true:=by simp;omega
  have HF:=Lib.hid (show iT d f=false by simp[iT,Ea (eq:=rX) hm])
  clear hn hm
  go_wp2_with fail
  go_ret
  exact⟨by rw[HR.out,HF.out];rfl,hB⟩
 have hme:((d.history.length:Int) != (f.history.length:Int))=false:=by simp[hm]
 have HN:=Lib.hid hn
 have HM:=Lib.hid hm
 clear hn hm
 go_wp2_with fail
 clear hne hme
 go_loopw [5] (fun i wr=>Below ((w.alloc (.cells (ae r d) 47)).alloc (.cells (ae t f) 47)).heap.size ((w.alloc (.cells (ae r d) 47)).alloc (.cells (ae t f) 47)) wr∧∃k:Nat,k≤d.keys.length∧i=.int .i64 k∧Hid (∀j (ha:j<d.keys.length) (hb:j<f.keys.length),j<k→jQ d.keys[j] f.keys[j]=true)) (fun i _=>d.keys.length-(intOf i).toNat)
 case atStart=>exact⟨Below.refl _ _,0,Nat.zero_le _,rfl,fun j _ _ h=>absurd h (Nat.not_lt_zero _)⟩
 case round=>
  obtain⟨hbr,k,hk,rfl,hall⟩:=hrel
  obtain⟨hcc,aT,hrr⟩:=bg hbr
  have hsz:w.heap.size+1<wr.heap.size:=by have:=hbr.size;simp at this;omega
  have hsz0:w.heap.size<wr.heap.size:=by omega
  by_cases hlt:k<d.keys.length
  ·have hlt2:k<f.keys.length:=by have:=HN.out;omega
   have hki:(k:Int)<(d.keys.length:Int):=by omega
   have NV:(k:Int)<(f.keys.length:Int):=by omega
   obtain⟨b1,o1,t1,ha1,hc1,hp1⟩:=hd.keys.get k hlt
   obtain⟨b2,o2,t2,ha2,hc2,hp2⟩:=hf.keys.get k hlt2
   have hb1:b1<w.heap.size:=gm hc1
   have hb1':b1<w.heap.size+1+1:=by omega
   have hb2:b2<w.heap.size:=gm hc2
   have hb2':b2<w.heap.size+1+1:=by omega
   cases he:jQ d.keys[k] f.keys[k]
   ·have HF:=Lib.hid (show iT d f=false by simp[iT,Eb (eq:=jQ) k hlt hlt2 he])
    go_wp2_with fail
    refine dM hbr (by kernel_rfl) (by kernel_rfl) ?_
    repeat (go_big_quiet_step ((go_at_call 70;rename_i xw;exact Calls.gz (he▸XU _ _ _ _ _ (jA.later (hB.trans (xw.b.mono (by simp;omega))) hp1) (jA.later (hB.trans (xw.b.mono (by simp;omega))) hp2)))))
    refine wpQuiet_nil ?_
    intro w2 dW
    go_wp2_with fail
    go_ret
    exact⟨by rw[HR.out,HF.out];rfl,hB.trans (dW.mono (by simp;omega))⟩
   ·have HS:=Lib.hid (show ∀j (ha:j<d.keys.length) (hb:j<f.keys.length),j<k+1→jQ d.keys[j] f.keys[j]=true from fun j ha hb hj=>by
     by_cases e:j=k
     ·subst e;exact he
     ·exact hall.out j ha hb (by omega))
    go_wp2_with fail
    refine dM hbr (by kernel_rfl) (by kernel_rfl) ?_
    repeat (go_big_quiet_step ((go_at_call 70;rename_i xw;exact Calls.gz (he▸XU _ _ _ _ _ (jA.later (hB.trans (xw.b.mono (by simp;omega))) hp1) (jA.later (hB.trans (xw.b.mono (by simp;omega))) hp2)))))
    refine wpQuiet_nil ?_
    intro w2 dW
    go_wp2_with fail
    go_roundw
    case rel=>exact⟨dW,k+1,by omega,by go_num,HS.out⟩
    case measure=>simp[intOf];omega
  have HK:=Lib.hid (Ec (eq:=jQ) HN.out (fun j ha hb=>hall.out j ha hb (by omega)))
  clear hall
  go_wp2_with fail
  clear hcc aT hrr hsz hsz0 hlt hk l1 l2
  have jH:=hbr
  clear hbr
  obtain⟨wo,hwo⟩:∃wo:World,wo=wr:=⟨_,rfl⟩
  subst hwo
  go_loopw [6] (fun i wr=>Below ((w.alloc (.cells (ae r d) 47)).alloc (.cells (ae t f) 47)).heap.size ((w.alloc (.cells (ae r d) 47)).alloc (.cells (ae t f) 47)) wr∧∃k:Nat,k≤d.history.length∧i=.int .i64 k∧Hid (∀j (ha:j<d.history.length) (hb:j<f.history.length),j<k→rX d.history[j] f.history[j]=true)) (fun i _=>d.history.length-(intOf i).toNat)
  case atStart=>exact⟨jH,0,Nat.zero_le _,rfl,fun j _ _ h=>absurd h (Nat.not_lt_zero _)⟩
  case round=>
   obtain⟨hbr,k,hk,rfl,hall⟩:=hrel
   obtain⟨hcc,aT,hrr⟩:=bg hbr
   have hsz:w.heap.size+1<wr.heap.size:=by have:=hbr.size;simp at this;omega
   have hsz0:w.heap.size<wr.heap.size:=by omega
   by_cases hlt:k<d.history.length
   ·have hlt2:k<f.history.length:=by have:=HM.out;omega
    have hki:(k:Int)<(d.history.length:Int):=by omega
    have NV:(k:Int)<(f.history.length:Int):=by omega
    obtain⟨b1,o1,t1,ha1,hc1,hp1⟩:=hd.history.get k hlt
    obtain⟨b2,o2,t2,ha2,hc2,hp2⟩:=hf.history.get k hlt2
    have hb1:b1<w.heap.size:=World.block_lt_of_cell? w _ hc1
    have hb1':b1<w.heap.size+1+1:=by omega
    have hb2:b2<w.heap.size:=World.block_lt_of_cell? w _ hc2
    have hb2':b2<w.heap.size+1+1:=by omega
    have k1:∀x:Later ((w.alloc (.cells (ae r d) 47)).alloc (.cells (ae t f) 47)),(convert 61 9 (.slice t1.a d.history[k].length t1.cap)).run Tryz.prog x.w=.ok (.string ⟨d.history[k].toArray⟩) x.w:=fun x=>rW t1.a t1.cap d.history[k] _ (BytesAt.later (hB.trans (x.b.mono (by simp;omega))) hp1)
    have k2:∀x:Later ((w.alloc (.cells (ae r d) 47)).alloc (.cells (ae t f) 47)),(convert 61 9 (.slice t2.a f.history[k].length t2.cap)).run Tryz.prog x.w=.ok (.string ⟨f.history[k].toArray⟩) x.w:=fun x=>rW t2.a t2.cap f.history[k] _ (BytesAt.later (hB.trans (x.b.mono (by simp;omega))) hp2)
    obtain⟨S1,hS1⟩:∃S,S=(ByteArray.mk d.history[k].toArray):=⟨_,rfl⟩
    obtain⟨S2,hS2⟩:∃S,S=(ByteArray.mk f.history[k].toArray):=⟨_,rfl⟩
    rw[←hS1]at k1
    rw[←hS2]at k2
    have hD:(S1.toList == S2.toList)=rX d.history[k] f.history[k]:=by
     rw[hS1,hS2,ByteArray.toList_eq,ByteArray.toList_eq]
     unfold rX
     by_cases h:d.history[k]=f.history[k]
     ·rw[h];simp
     ·simp[h]
    clear hS1 hS2
    cases he:rX d.history[k] f.history[k]
    ·rw[he]at hD
     have hD':(S1.toList != S2.toList)=true:=by simp only[bne,hD];rfl
     have HF:=Lib.hid (show iT d f=false by simp[iT,Eb (eq:=rX) k hlt hlt2 he])
     clear he
     go_wp2_with fail
     refine dM hbr (by kernel_rfl) (by kernel_rfl) ?_
     repeat (go_big_quiet_step (fail))
     refine wpQuiet_nil ?_
     intro w2 dW
     go_wp2_with fail
     go_ret
     exact⟨by rw[HR.out,HF.out];rfl,hB.trans (dW.mono (by simp;omega))⟩
    ·rw[he]at hD
     have hD':(S1.toList != S2.toList)=false:=by simp only[bne,hD];rfl
     have HS:=Lib.hid (show ∀j (ha:j<d.history.length) (hb:j<f.history.length),j<k+1→rX d.history[j] f.history[j]=true from fun j ha hb hj=>by
      by_cases e:j=k
      ·subst e;exact he
      ·exact hall.out j ha hb (by omega))
     clear he
     go_wp2_with fail
     refine dM hbr (by kernel_rfl) (by kernel_rfl) ?_
     repeat (go_big_quiet_step (fail))
     refine wpQuiet_nil ?_
     intro w2 dW
     go_wp2_with fail
     go_roundw
     case rel=>first|exact⟨dW,k+1,by omega,by go_num,HS.out⟩|((repeat apply Exists.intro);exact⟨⟨dW,k+1,by omega,by go_num,HS.out⟩,rfl⟩)
     case measure=>simp[intOf];omega
   have HH:=Lib.hid (Ec (eq:=rX) HM.out (fun j ha hb=>hall.out j ha hb (by omega)))
   clear hall hk l3 l4
   have hb0:=hbr
   clear hbr
   have HB0:=Lib.hid (ag hB hb0)
   cases g0:(d.attrs == f.attrs)
   ·have g0':(d.attrs != f.attrs)=true:=by simp only[bne,g0];rfl
    have HF:=Lib.hid (show iT d f=false by simp[iT,g0])
    go_wp2_with fail
    go_ret
    exact⟨by rw[HR.out,HF.out];rfl,HB0.out⟩
   have g0':(d.attrs != f.attrs)=false:=by simp only[bne,g0];rfl
   cases g1:(d.dS == f.dS)
   ·have g1':(d.dS != f.dS)=true:=by simp only[bne,g1];rfl
    have HF:=Lib.hid (show iT d f=false by simp[iT,g1])
    go_wp2_with fail
    go_ret
    exact⟨by rw[HR.out,HF.out];rfl,HB0.out⟩
   have g1':(d.dS != f.dS)=false:=by simp only[bne,g1];rfl
   cases g2:(d.aO.toList == f.aO.toList)
   ·have g2':(d.aO.toList != f.aO.toList)=true:=by simp only[bne,g2];rfl
    have HF:=Lib.hid (show iT d f=false by simp[iT,g2])
    go_wp2_with fail
    go_ret
    exact⟨by rw[HR.out,HF.out];rfl,HB0.out⟩
   have g2':(d.aO.toList != f.aO.toList)=false:=by simp only[bne,g2];rfl
   cases g3:(d.iE == f.iE)
   ·have g3':(d.iE != f.iE)=true:=by simp only[bne,g3];rfl
    have HF:=Lib.hid (show iT d f=false by simp[iT,g3])
    go_wp2_with fail
    go_ret
    exact⟨by rw[HR.out,HF.out];rfl,HB0.out⟩
   have g3':(d.iE != f.iE)=false:=by simp only[bne,g3];rfl
   cases g4:(d.iF == f.iF)
   ·have g4':(d.iF != f.iF)=true:=by simp only[bne,g4];rfl
    have HF:=Lib.hid (show iT d f=false by simp[iT,g4])
    go_wp2_with fail
    go_ret
    exact⟨by rw[HR.out,HF.out];rfl,HB0.out⟩
   have g4':(d.iF != f.iF)=false:=by simp only[bne,g4];rfl
   cases g5:(d.ig == f.ig)
   ·have g5':(d.ig != f.ig)=true:=by simp only[bne,g5];rfl
    have HF:=Lib.hid (show iT d f=false by simp[iT,g5])
    go_wp2_with fail
    go_ret
    exact⟨by rw[HR.out,HF.out];rfl,HB0.out⟩
   have g5':(d.ig != f.ig)=false:=by simp only[bne,g5];rfl
   cases g6:(d.ik == f.ik)
   ·have g6':(d.ik != f.ik)=true:=by simp only[bne,g6];rfl
    have HF:=Lib.hid (show iT d f=false by simp[iT,g6])
    go_wp2_with fail
    go_ret
    exact⟨by rw[HR.out,HF.out];rfl,HB0.out⟩
   have g6':(d.ik != f.ik)=false:=by simp only[bne,g6];rfl
   have HT:=Lib.hid (show(aY d.name f.name&&(jP aY d.aliases f.aliases&&((d.fails == f.fails)&&((d.fD == f.fD)&&((d.gQ == f.gQ)&&(jP aY d.targets f.targets&&jP aY d.bD f.bD))))))=iT d f by simp[iT,HK.out,HH.out,g0,g1,g2,g3,g4,g5,g6])
   clear HK HH
   go_wp2_with fail
   refine(nV r.parts t.parts d.name f.name _ (hd.name.later HB0.out) (hf.name.later HB0.out)).mono ?_
   rintro e w1 ⟨rfl,hk1⟩
   have hb1:=ag hb0 hk1
   clear hk1 hcc aT hrr hsz0 hsz
   have HB1:=Lib.hid (ag hB hb1)
   obtain⟨hcc,aT,hrr⟩:=bg hb1
   have hsz:w.heap.size+1<w1.heap.size:=by have:=hb1.size;simp at this;omega
   have hsz0:w.heap.size<w1.heap.size:=by omega
   cases q0:(aY d.name f.name)
   ·go_wp2_with fail
    go_ret
    exact⟨by rw[HR.out,←HT.out];simp[q0],HB1.out⟩
   go_wp2_with fail
   refine(NU r.aliases.a t.aliases.a r.aliases.cap t.aliases.cap d.aliases f.aliases _ (hd.aliases.later HB1.out) (hf.aliases.later HB1.out)).mono ?_
   rintro e w2 ⟨rfl,hk2⟩
   have hb2:=ag hb1 hk2
   clear hk2 hcc aT hrr hsz0 hsz
   have HB2:=Lib.hid (ag hB hb2)
   obtain⟨hcc,aT,hrr⟩:=bg hb2
   have hsz:w.heap.size+1<w2.heap.size:=by have:=hb2.size;simp at this;omega
   have hsz0:w.heap.size<w2.heap.size:=by omega
   cases q1:(jP aY d.aliases f.aliases)
   ·go_wp2_with fail
    go_ret
    exact⟨by rw[HR.out,←HT.out];simp[q0,q1],HB2.out⟩
   cases q2:(d.fails == f.fails)
   ·go_wp2_with fail
    go_ret
    exact⟨by rw[HR.out,←HT.out];simp[q0,q1,q2],HB2.out⟩
   cases q3:(d.fD == f.fD)
   ·go_wp2_with fail
    go_ret
    exact⟨by rw[HR.out,←HT.out];simp[q0,q1,q2,q3],HB2.out⟩
   cases q4:(d.gQ == f.gQ)
   ·go_wp2_with fail
    go_ret
    exact⟨by rw[HR.out,←HT.out];simp[q0,q1,q2,q3,q4],HB2.out⟩
   go_wp2_with fail
   refine(NU r.targets.a t.targets.a r.targets.cap t.targets.cap d.targets f.targets _ (hd.targets.later HB2.out) (hf.targets.later HB2.out)).mono ?_
   rintro e w3 ⟨rfl,hk3⟩
   have hb3:=ag hb2 hk3
   clear hk3 hcc aT hrr hsz0 hsz
   have HB3:=Lib.hid (ag hB hb3)
   obtain⟨hcc,aT,hrr⟩:=bg hb3
   have hsz:w.heap.size+1<w3.heap.size:=by have:=hb3.size;simp at this;omega
   have hsz0:w.heap.size<w3.heap.size:=by omega
   cases q5:(jP aY d.targets f.targets)
   ·go_wp2_with fail
    go_ret
    exact⟨by rw[HR.out,←HT.out];simp[q0,q1,q2,q3,q4,q5],HB3.out⟩
   go_wp2_with fail
   refine(NU r.bD.a t.bD.a r.bD.cap t.bD.cap d.bD f.bD _ (hd.bD.later HB3.out) (hf.bD.later HB3.out)).mono ?_
   rintro e w4 ⟨rfl,hk4⟩
   have hb4:=ag hb3 hk4
   clear hk4 hcc aT hrr hsz0 hsz
   have HB4:=Lib.hid (ag hB hb4)
   obtain⟨hcc,aT,hrr⟩:=bg hb4
   have hsz:w.heap.size+1<w4.heap.size:=by have:=hb4.size;simp at this;omega
   have hsz0:w.heap.size<w4.heap.size:=by omega
   go_wp2_with fail
   go_ret
   exact⟨by rw[HR.out,←HT.out];simp[q0,q1,q2,q3,q4,q5],HB4.out⟩
def Ee(p q:ai):Bool:=(p.name.toList == q.name.toList)&&((p.length == q.length)&&((p.classes == q.classes)&&((p.distinct == q.distinct)&&((p.history == q.history)&&((p.iH == q.iH)&&((p.eu == q.eu)&&((p.fails == q.fails)&&((p.window == q.window)&&(p.lock == q.lock)))))))))
theorem alM(q:ai):Ee q q=true:=by simp[Ee]
theorem vN{α:Type}[BEq α][LawfulBEq α](x y:α)[Decidable (x=y)]{b:Bool}{w:World}{R:Result Bool}(h:R=.ok b w):(if x=y then R else .ok false w)=.ok ((x == y)&&b) w:=by
 subst h
 by_cases e:x=y
 ·simp[e]
 ·rw[if_neg e,beq_eq_false_iff_ne.2 e];rfl
theorem alN{α:Type}[BEq α][LawfulBEq α](x y:α)[Decidable (x=y)]{w:World}:(if x=y then Result.ok true w else Result.ok false w)=.ok (x == y) w:=by
 by_cases e:x=y
 ·simp[e]
 ·rw[if_neg e,beq_eq_false_iff_ne.2 e]
theorem alO(p q:ai)(w:World):(Op.equalIn 10000 50 (.agg (aC p)) (.agg (aC q))).run Tryz.prog w=.ok (Ee p q) w:=by
 rw[show(10000:Nat)=9999+1 from rfl,run_equalIn_agg w 9999 50 _ _ (by kernel_rfl) (by kernel_rfl)]
 simp only[Program.fieldsOf,Tryz.underlying50]
 unfold aC Ee
 go_simp
 exact vN _ _ (vN _ _ (vN _ _ (vN _ _ (vN _ _ (vN _ _ (vN _ _ (vN _ _ (vN _ _ (alN _ _)))))))))
theorem alP(p q:ai)(w:World):(binOp .eql 50 (.agg (aC p)) (.agg (aC q))).run Tryz.prog w=.ok (.bool (Ee p q)) w:=by rw[run_eql_struct,alO];rfl
attribute [go_sem ↓] alP
end Go.Proofs.YtfieenjdcpjmgaaGreatDoor
namespace Go.WW
open Go.RowKit
theorem alQ{d:Entry}{q:az}:gq d q=true↔∃q'∈iQ d,aY q' q=true:=by
 unfold gq iQ
 simp only[Bool.or_eq_true,List.any_eq_true,List.mem_cons]
 constructor
 ·rintro(h|h)
  iterate 2
   ·first|exact⟨_,.inl rfl,h⟩|(obtain⟨x,hx,e⟩:=h;exact⟨x,.inr hx,e⟩)
 ·rintro⟨q',rfl|h,e⟩
  ·first|exact .inl e|exact .inr e
  ·first|exact .inl ⟨q',h,e⟩|exact .inr ⟨q',h,e⟩
theorem XX{d:Entry}{q:az}(hd:bW d=true):gq d q=true↔∃q'∈iQ d,dQ q=textOf q':=by
 rw[alQ]
 constructor
 ·rintro⟨q',hq',h⟩;exact⟨q',hq',((DV (rQ hd _ hq')).2 h).symm⟩
 ·rintro⟨q',hq',h⟩;exact⟨q',hq',(DV (rQ hd _ hq')).1 h.symm⟩
theorem alR{D:Db}{X:List EE}(hD:D.entries=X.map (·.2))(f:Entry→Bool) :
  (idxOf f D.entries=-1∧∀x∈X,f x.2=false)∨∃i,∃hi:i<X.length,idxOf f D.entries=(i:Int)∧f X[i].2=true:=by
 rw[hD]
 unfold idxOf
 cases hf:(X.map (·.2)).findIdx? f with
 |none=>
  refine .inl ⟨rfl,fun x hx=>?_⟩
  exact(List.findIdx?_eq_none_iff.1 hf) x.2 (List.mem_map.2 ⟨x,hx,rfl⟩)
 |some i=>
  obtain⟨hi,h1,-⟩:=List.findIdx?_eq_some_iff_getElem.1 hf
  exact .inr ⟨i,by simpa using hi,rfl,by simpa using h1⟩
theorem fA.found{D:Db}{X:List EE}{NL:List (ByteArray×ByteArray)}{E:List EE}{P:List ai}(h:fA D X NL E P)(q:az) :
  (idxOf (fun d=>gq d q) D.entries=-1∧∀o,(dQ q,o)∉NL)∨∃i,∃hi:i<X.length,idxOf (fun d=>gq d q) D.entries=(i:Int)∧∃x0∈E,x0.2=X[i].2∧(dQ q,textOf x0.2.name)∈NL:=by
 have XY:∀x∈X,bW x.2=true:=fun x hx=>h.xB.ok x.2 (List.mem_map.2 ⟨x,hx,rfl⟩)
 rcases alR h.eq (fun d=>gq d q)with⟨h0,hn⟩|⟨i,hi,h1,h2⟩
 ·refine .inl ⟨h0,fun o ho=>?_⟩
  obtain⟨d,hd,-,q',hq',hk⟩:=(h.names _ _).1 ho
  obtain⟨y,hy,rfl⟩:=List.mem_map.1 (h.perm.mem_iff.1 hd)
  have:=hn y hy
  rw[(XX (XY y hy)).2 ⟨q',hq',hk⟩]at this
  cases this
 ·obtain⟨q',hq',hk⟩:=(XX (XY _ (List.getElem_mem hi))).1 h2
  have hm:X[i].2∈E.map (·.2):=h.perm.mem_iff.2 (List.mem_map.2 ⟨_,List.getElem_mem hi,rfl⟩)
  obtain⟨x0,hx0,e0⟩:=List.mem_map.1 hm
  refine .inr ⟨i,hi,h1,x0,hx0,e0,(h.names _ _).2 ⟨x0.2,List.mem_map.2 ⟨x0,hx0,rfl⟩,rfl,q',by rw[e0];exact hq',hk⟩⟩
theorem iV.span{m:Nat}{w:World}{a:Option Addr}{n k:Nat}(h:iV m w a n k):mF (span m w.heap.size) w a n k:=fun i hi=>by
 obtain⟨b,o,e,h1,h2⟩:=h i hi
 obtain⟨cs,t,h4,-⟩:=SQ h2
 exact⟨b,o,e,⟨h1,(Array.getElem?_eq_some_iff.1 h4).1⟩,h2⟩
theorem ry.span{m:Nat}{w:World}{r:aN}{d:Entry}(h:ry m w r d):pF (span m w.heap.size) w r d:=by
 refine⟨h.at_,h.name.span,h.aliases.span,aX.imp h.keys.1 ?_,h.keys.2.span⟩
 rintro i cs ⟨p,s,h1,h2,h3,h4⟩
 refine⟨p,s,h1,h2,aX.imp h3 ?_,h4⟩
 rintro j cs ⟨q,t,h5,h6,h7,h8⟩
 exact⟨q,t,h5,h6,h7,h8.span⟩
end Go.WW
namespace Go.Proofs.YtfieenjdcpjmgaaGreatDoor
open Go.RowKit Go.WW
theorem alS(b n e p:Nat)(re:ByteArray)(s:Int)(N:List (ByteArray×Value))(E:List EE)(P:List ai)(k:ByteArray)(w:World)(h:bU w b n e p re s N E P)(hre:¬re=⟨#[]⟩)(hq:P.any (fun x=>decide (x.name=k))=false):Calls Tryz.prog 41 #[.pointer (some ⟨b,0,none⟩),.string k] w fun x w'=>x=.returned (.tuple #[.agg (aC Go.WW.jX),.int .i64 9])∧Below w.heap.size w w':=by
 have hB:Below w.heap.size w (w.alloc (.cells #[.string ⟨#[]⟩,.int .i64 0,.int .i64 0,.int .i64 0,.int .i64 0,.int .i64 0,.int .i64 0,.int .i64 0,.int .i64 0,.int .i64 0] 50)):=(Below.refl _ _).alloc (Nat.le_refl _) _
 have h':=h.later hB
 have hz:aS (w.alloc (.cells #[.string ⟨#[]⟩,.int .i64 0,.int .i64 0,.int .i64 0,.int .i64 0,.int .i64 0,.int .i64 0,.int .i64 0,.int .i64 0,.int .i64 0] 50)) w.heap.size 0 10=true:=by simp[go_sem]
 have hW:w.heap.size<(w.alloc (.cells #[.string ⟨#[]⟩,.int .i64 0,.int .i64 0,.int .i64 0,.int .i64 0,.int .i64 0,.int .i64 0,.int .i64 0,.int .i64 0,.int .i64 0] 50)).heap.size:=by simp
 go_enter Tryz.func41,Tryz.ntmps41
 go_wp2_with fail
 generalize (w.alloc (.cells #[.string ⟨#[]⟩,.int .i64 0,.int .i64 0,.int .i64 0,.int .i64 0,.int .i64 0,.int .i64 0,.int .i64 0,.int .i64 0,.int .i64 0] 50))=W at *
 obtain⟨c0,c1,c2,c3,c4,f1,hl⟩:=dO h'.box
 have hlk:=Dq h'.pm k hq
 refine(jo _ _ _ c0 hre).mono ?_
 rintro x w' ⟨rfl,rfl⟩
 have hne:W.heap.size≠w.heap.size:=by omega
 dsimp only
 go_wp2_with fail
 have hrow:=iO (w:=W.alloc (.cells (aC Go.WW.jX) 50)) (wL Go.WW.jX) ((JC hW).trans hz)
 exact bodyPost_ret (jE (by rfl) Tryz.underlying50 rfl (by kernel_rfl) rfl hrow) rfl ⟨rfl,Go.WW.Below.putRow (hB.alloc hB.size _) (by omega)⟩
theorem six{P:Prop}{k:Nat}(k0:k % 6=0→P)(k1:k % 6=1→P)(k2:k % 6=2→P)(k3:k % 6=3→P)(k4:k % 6=4→P)(k5:k % 6=5→P):P:=by
 rcases(by omega:k % 6=0∨k % 6=1∨k % 6=2∨k % 6=3∨k % 6=4∨k % 6=5)with h|h|h|h|h|h
 ·exact k0 h
 ·exact k1 h
 ·exact k2 h
 ·exact k3 h
 ·exact k4 h
 ·exact k5 h
theorem XZ(S:Nat→Prop)(b n e p:Nat)(re:ByteArray)(es ps:Sl)(D:Db)(X:List EE)(N:Nat)(W0:World)(z:kD)(x:fU)(w:World)(h:iR S b n e p re es ps D X N w)(hre:¬re=⟨#[]⟩)(hN:N<60)(hW:Below W0.heap.size W0 w)(hx:xH W0 z x)(hS0:∀k,S k→W0.heap.size≤k):Calls Tryz.prog 10 #[.pointer (some ⟨b,0,none⟩),.agg (ak es ps D),.agg (gW z x)] w (XK S b n e p re N w):=by
 obtain⟨NL,E,P,hP0,hR0⟩:=h.ex
 have hd0:=h.d0
 have hd1:=h.d1
 have hn1:=h.n1
 have hn2:=h.n2
 have hPl:P.length<64:=by have:=hR0.dL.perm.length_eq;omega
 have n0:∀k,w.heap.size≤k→¬aZ b n e p k:=fun k hk hd=>by have:=hP0.lt k hd;omega
 have HH:=Lib.hid h
 have Bi:=Lib.hid hP0
 have HR0:=Lib.hid hR0
 have HX:=Lib.hid hx
 have N0:=Lib.hid n0
 have NW:=Lib.hid hS0
 clear h hP0 hR0 hx n0 hS0
 go_enter Tryz.func10,Tryz.ntmps10
 go_step
 apply Ig (M:=fun V=>Below w.heap.size w V∧V.heap[w.heap.size]?=some (.cells (ak es ps D) 32)∧V.heap[w.heap.size+1]?=some (.cells (gW z x) 52)∧V.heap[w.heap.size+2]?=some (.cells (ak bF bF iZ) 32)∧w.heap.size+3≤V.heap.size)
 case h1=>
  go_wp2_with fail
  rw[←MX]
  exact⟨rfl,⟨aj (aj (aj (Below.refl _ w) _) _) _,by rw[Below.heap_alloc _ _ _ (by simp;omega)];exact jq w _ _,by have:=jq (w.alloc (.cells (ak es ps D) 32)) (.cells (gW z x) 52) (.cells (ak bF bF iZ) 32);simpa using this,by have:=World.alloc_heap_new ((w.alloc (.cells (ak es ps D) 32)).alloc (.cells (gW z x) 52)) (.cells (ak bF bF iZ) 32);simpa using this,by simp⟩⟩
 rintro V0 ⟨hB0,hv4,hv5,hv6,hs0⟩
 iterate 3 go_step
 obtain⟨hc5,hf5,rV,hl5⟩:=aB hv5
 apply qy (M:=fun(a8:Nat) V=>Below V0.heap.size V0 V∧w.heap.size+3≤a8∧V.heap[a8]?=some (.cells (ng x) 48))
 case h1=>
  go_wp2_with fail
  refine⟨V0.heap.size,?_,⟨aj (Below.refl _ V0) _,hs0,World.alloc_heap_new V0 _⟩⟩
  generalize V0.heap.size=a8
  rfl
 rintro a8 V1 ⟨hB1,ha8,NY⟩
 have hx4:=aJ hB1 hv4
 have hx5:=aJ hB1 hv5
 have hx6:=aJ hB1 hv6
 have jf:=ag hB0 hB1
 have aqN:a8<V1.heap.size:=(Array.getElem?_eq_some_iff.1 NY).1
 have hs1:w.heap.size+3<V1.heap.size:=by omega
 have hW1:Below W0.heap.size W0 V1:=hW.trans (jf.mono hW.size)
 have hWs:=hW.size
 clear hc5 hf5 rV hl5 hv4 hv5 hv6 hB0 hB1 hs0
 obtain⟨hc4,hf4,hr4,hl4⟩:=aB hx4
 obtain⟨hc5,hf5,rV,hl5⟩:=aB hx5
 obtain⟨hc8,Hg,ui,Iu⟩:=aB NY
 refine six (k:=x.k.toNat) ?k0 ?k1 ?k2 ?k3 ?k4 ?k5
 case' k0=>
  intro hk
  have jK:((x.k.toNat:Int).tmod 6)=0:=by rw[Int.tmod_eq_emod_of_nonneg (by omega)];omega
 case' k1=>
  intro hk
  have jK:((x.k.toNat:Int).tmod 6)=1:=by rw[Int.tmod_eq_emod_of_nonneg (by omega)];omega
 case' k2=>
  intro hk
  have jK:((x.k.toNat:Int).tmod 6)=2:=by rw[Int.tmod_eq_emod_of_nonneg (by omega)];omega
 case' k3=>
  intro hk
  have jK:((x.k.toNat:Int).tmod 6)=3:=by rw[Int.tmod_eq_emod_of_nonneg (by omega)];omega
 case' k4=>
  intro hk
  have jK:((x.k.toNat:Int).tmod 6)=4:=by rw[Int.tmod_eq_emod_of_nonneg (by omega)];omega
 case' k5=>
  intro hk
  have jK:((x.k.toNat:Int).tmod 6)=5:=by rw[Int.tmod_eq_emod_of_nonneg (by omega)];omega
 case' k2|k3|k4|k5=>
  obtain⟨S1,hS1⟩:∃S1:Nat→Prop,S1=fun k=>S k∨span w.heap.size V1.heap.size k:=⟨_,rfl⟩
  have jy:=Lib.hid hS1
  clear hS1
  have hwc:w.heap.size<V1.heap.size:=by omega
  have alT:w.heap.size+2<V1.heap.size:=by omega
  have NZ:=Lib.hid (show ∀k,S1 k→k<V1.heap.size from fun k hk=>by
   rw[jy.out]at hk
   rcases hk with hk|hk
   ·have:=HH.out.lt k hk;omega
   ·exact hk.2)
  have hP1:jM S1 b n e p re D.ay NL E P V1:=(Bi.out.grow (S':=S1) (fun k hk hlt=>by rw[jy.out]at hk;exact hk.elim id fun h=>by have:=h.1;omega) (fun k hk=>by rw[jy.out];exact .inl hk)).later jf
 case' k2=>
  obtain⟨no,D',X',hst⟩:=ajz D X x.q
  go_wp2_with fail
  refine(WQ S1 b n e p re D.ay NL E P D D' X X' no V1 z.t x.q hP1 hre HR0.out hst (HX.out.zn.later hW1) hd0 (by omega)).mono ?_
  rintro y w3 ⟨rfl,lg,kZ,E',P',hP3,dh⟩
  dsimp only
 case' k3=>
  obtain⟨no,D',X',hst⟩:=ajA D X x.q x.a x.b x.c
  go_wp2_with fail
  refine(ajW S1 b n e p re D.ay NL E P D D' X X' no V1 z.t x.q x.a x.b x.c hP1 hre HR0.out hst (HX.out.zn.later hW1) hd0 (by omega)).mono ?_
  rintro y w3 ⟨rfl,lg,kZ,E',P',hP3,dh⟩
  dsimp only
 case' k4=>
  obtain⟨no,D',hst⟩:=ajx D x.p
  go_wp2_with fail
  refine(WO S1 b n e p re D.ay NL E P D D' X no V1 x.p hP1 hre HR0.out hst HX.out.Ip hPl hd0 (by omega)).mono ?_
  rintro y w3 ⟨rfl,lg,kZ,E',P',hP3,dh⟩
  dsimp only
 case' k5=>
  obtain⟨no,D',hst⟩:=ajB D x.p.name
  go_wp2_with fail
  refine(WR S1 b n e p re D.ay NL E P D D' X no V1 x.p.name hP1 hre HR0.out hst hd0 (by omega)).mono ?_
  rintro y w3 ⟨rfl,lg,kZ,E',P',hP3,dh⟩
  dsimp only
 case' k0|k1=>
  obtain⟨no,D',X',hst⟩:=ajy D HR0.out.xB z.r x.d
  go_wp2_with fail
  refine(akG W0 z.r x.d V1 hW1 HX.out.Bd).mono ?_
  rintro y w1 ⟨r',rfl,hb1,hE1⟩
  dsimp only
  have hs1':V1.heap.size≤w1.heap.size:=hb1.size
  have X0:=Lib.hid hE1
  clear hE1
  obtain⟨S1,hS1⟩:∃S1:Nat→Prop,S1=fun k=>S k∨span w.heap.size w1.heap.size k:=⟨_,rfl⟩
  have jy:=Lib.hid hS1
  clear hS1
  have hwc:w.heap.size<w1.heap.size:=by omega
  have alT:w.heap.size+2<w1.heap.size:=by omega
  have NZ:=Lib.hid (show ∀k,S1 k→k<w1.heap.size from fun k hk=>by
   rw[jy.out]at hk
   rcases hk with hk|hk
   ·have:=HH.out.lt k hk;omega
   ·exact hk.2)
  have hP1:jM S1 b n e p re D.ay NL E P V1:=(Bi.out.grow (S':=S1) (fun k hk hlt=>by rw[jy.out]at hk;exact hk.elim id fun h=>by have:=h.1;omega) (fun k hk=>by rw[jy.out];exact .inl hk)).later jf
  have hB2:Below V1.heap.size V1 (w1.alloc (.cells (ae r' x.d) 47)):=aj hb1 _
  have hnew:=World.alloc_heap_new w1 (.cells (ae r' x.d) 47)
  have Iw:Below w1.heap.size w1 (w1.alloc (.cells (ae r' x.d) 47)):=aj (Below.refl _ w1) _
  go_wp2_with fail
  generalize w1.alloc (.cells (ae r' x.d) 47)=w2 at *
  refine(WN S1 b n e p re D.ay NL E P D D' X X' no w2 z.r x.d r' (hP1.later hB2) hre HH.out.aG HR0.out hst (X0.out w2 (But.of_below Iw)).at_ (fun k hk=>Nat.lt_of_lt_of_le (NZ.out k hk) Iw.size) (by omega) hd0 (by omega)).mono ?_
  rintro y w3 ⟨rfl,zq,kZ,E',P',hP3,dh⟩
  dsimp only
  have lg:But (aZ b n e p) V1 w3:=(But.of_below hB2).trans zq
  have alU:¬aZ b n e p w1.heap.size:=N0.out _ (by omega)
  have alV:w3.heap[w1.heap.size]?=some (.cells (ae r' x.d) 47):=(zq.block _ (Array.getElem?_eq_some_iff.1 hnew).1 alU).trans hnew
  have hE3:But (fun k=>W0.heap.size≤k∧k<V1.heap.size) w1 w3:=(But.of_below Iw).trans (zq.mono fun k hk=>⟨NW.out k (Bi.out.sub k hk),by have:=Bi.out.lt k hk;omega⟩)
  have aqO:w1.heap.size≤w2.heap.size:=Iw.size
  have aqP:w2.heap.size≤w3.heap.size:=zq.size
 all_goals
  have hy4:w3.heap[w.heap.size]?=some (.cells (ak es ps D) 32):=(lg.block _ hl4 (N0.out _ (Nat.le_refl _))).trans hx4
  have Dl:w3.heap[w.heap.size+1]?=some (.cells (gW z x) 52):=(lg.block _ hl5 (N0.out _ (by omega))).trans hx5
  have hy8:w3.heap[a8]?=some (.cells (ng x) 48):=(lg.block _ Iu (N0.out _ (by omega))).trans NY
  have hy6:w3.heap[w.heap.size+2]?=some (.cells (ak bF bF iZ) 32):=(lg.block _ (by omega) (N0.out _ (by omega))).trans hx6
  clear hc4 hf4 hr4 hl4 hc5 hf5 rV hl5 hc8 Hg ui Iu
  obtain⟨hc4,hf4,hr4,hl4⟩:=aB hy4
  obtain⟨hc5,hf5,rV,hl5⟩:=aB Dl
  obtain⟨hc8,Hg,ui,Iu⟩:=aB hy8
  have hB3:But (aZ b n e p) w w3:=(But.of_below jf).trans lg
  have hs3:V1.heap.size≤w3.heap.size:=lg.size
  have hW3:Below W0.heap.size W0 w3:=hW1.trans (lg.below (by omega) (fun k hk=>NW.out k (Bi.out.sub k hk)))
  have hF3:iK S1 es ps D X w3:=((HH.out.ref.grow (S':=S1) (fun k hk hlt=>by rw[jy.out]at hk;exact hk.elim id fun h=>by have:=h.1;omega)).later jf).on (lg.mono fun k hk=>by rw[jy.out];exact .inl (Bi.out.sub k hk))
  have Bj:=Lib.hid (show ∀k,S1 k→k<w3.heap.size from fun k hk=>by
   have:=NZ.out k hk
   omega)
 case' k2=>
  go_wp2_with fail
  refine(aks S1 es ps D X w3 z.t x.q hF3 Bj.out (HX.out.zn.later hW3) HR0.out.eq hd0 (by omega)).mono ?_
  rintro y w4 ⟨Iy,es',D2,X2,rfl,hb4,Ef,hst2⟩
  obtain⟨rfl,rfl,rfl⟩:=ajT HR0.out.xB hst hst2
  dsimp only
  have Eg:=alc hst
  obtain⟨ps',hq⟩:∃q,q=ps:=⟨_,rfl⟩
  subst hq
 case' k3=>
  go_wp2_with fail
  refine(akt S1 es ps D X w3 z.t x.q x.a x.b x.c hF3 Bj.out (HX.out.zn.later hW3) HR0.out.eq HR0.out.xB hd0 (by omega)).mono ?_
  rintro y w4 ⟨Iy,es',D2,X2,rfl,hb4,Ef,hst2⟩
  obtain⟨rfl,rfl,rfl⟩:=ajU hst hst2
  dsimp only
  have Eg:=ald hst
  obtain⟨ps',hq⟩:∃q,q=ps:=⟨_,rfl⟩
  subst hq
 case' k4=>
  go_wp2_with fail
  refine(aji S1 es ps D X x.p w3 hF3 Bj.out HX.out.Ip (by omega) hd0 (by omega)).mono ?_
  rintro y w4 ⟨Iy,ps',D2,rfl,hb4,Ef,hst2⟩
  obtain⟨rfl,rfl⟩:=ajQ HR0.out.dL.nodup hst hst2
  dsimp only
  have Eg:=ale X HR0.out.dL.nodup hst
  obtain⟨es',hq⟩:∃q,q=es:=⟨_,rfl⟩
  subst hq
  obtain⟨X',hq⟩:∃q,q=X:=⟨_,rfl⟩
  subst hq
 case' k5=>
  go_wp2_with fail
  refine(aku S1 es ps D X w3 x.p.name hF3 Bj.out HR0.out.eq HR0.out.dL.nodup hd0 (by omega)).mono ?_
  rintro y w4 ⟨Iy,ps',D2,rfl,hb4,Ef,hst2⟩
  obtain⟨rfl,rfl⟩:=ajV HR0.out.dL.nodup hst hst2
  dsimp only
  have Eg:=alf X hst
  obtain⟨es',hq⟩:∃q,q=es:=⟨_,rfl⟩
  subst hq
  obtain⟨X',hq⟩:∃q,q=X:=⟨_,rfl⟩
  subst hq
 case' k0|k1=>
  go_wp2_with fail
  refine(ajj S1 es ps D X z.r x.d w3 hF3 Bj.out (fun y hy=>HX.out.Bd.later (hW3.trans (hy.below (by omega) (fun k hk=>by rw[jy.out]at hk;exact hk.elim (NW.out k) fun h=>by have:=h.1;omega)))) HR0.out.eq HR0.out.xB (by omega) hd0 (by omega)).mono ?_
  rintro y w4 ⟨Iy,es',D2,X2,rfl,hb4,Ef,hst2⟩
  obtain⟨rfl,rfl,rfl⟩:=ajR HR0.out.xB hst hst2
  dsimp only
  have Eg:=alb hst
  obtain⟨ps',hq⟩:∃q,q=ps:=⟨_,rfl⟩
  subst hq
 all_goals
  have hw4:=ag (Below.refl _ w3) hb4
  have Dk:=aJ hb4 hy4
  have KW:=aJ hb4 hy6
  have X3:aS w4 w.heap.size 0 4=true:=lY Dk (by simp[go_sem])
  have Eh:(putRow w4 w.heap.size 0 (ak es' ps' D')).heap[w.heap.size]?=some (.cells (ak es' ps' D') 32):=(kM Dk (by simp[go_sem])).trans (by rw[nZ (by simp[go_sem])])
  have Ei:(putRow w4 w.heap.size 0 (ak es' ps' D')).heap[w.heap.size+2]?=some (.cells (ak bF bF iZ) 32):=(iI (by omega)).trans KW
  have X4:But (fun k=>w.heap.size≤k∧S1 k) w3 (putRow w4 w.heap.size 0 (ak es' ps' D')):=(But.of_below hw4).put ⟨Nat.le_refl _,by rw[jy.out];exact .inr ⟨Nat.le_refl _,hwc⟩⟩
  have X8:iK S1 es' ps' D' X' (putRow w4 w.heap.size 0 (ak es' ps' D')):=Ef.on ((But.refl _ w4).put (by rw[jy.out];exact .inr ⟨Nat.le_refl _,hwc⟩))
  clear hc4 hf4 hr4 hl4 hc5 hf5 rV hl5 hc8 Hg ui Iu
 case' k0|k1=>
  have alZ:=aJ hb4 alV
  have Bl:(putRow w4 w.heap.size 0 (ak es' ps' D')).heap[w1.heap.size]?=some (.cells (ae r' x.d) 47):=(iI (by omega)).trans alZ
  have al0:row? (putRow w4 w.heap.size 0 (ak es' ps' D')) w1.heap.size 0 17=some (ae r' x.d):=by rw[bQ Bl];exact df (by simp[go_sem])
  have hE5:pF (span V1.heap.size w1.heap.size) (putRow w4 w.heap.size 0 (ak es' ps' D')) r' x.d:=X0.out _ (hE3.trans (((But.of_below hw4).put (S:=fun k=>W0.heap.size≤k∧k<V1.heap.size) ⟨by omega,by omega⟩)))
  go_wp2_with fail
  generalize (putRow w4 w.heap.size 0 (ak es' ps' D'))=U0 at *
  refine(Xc (span V1.heap.size w1.heap.size) r' x.d U0 hE5).mono ?_
  rintro y U ⟨rfl,eH⟩
  dsimp only
  have N7:=Eh
  have N8:=Ei
  clear Eh Ei Bl al0
  have Eh:U.heap[w.heap.size]?=some (.cells (ak es' ps' D') 32):=(eH.block _ (Array.getElem?_eq_some_iff.1 N7).1 (fun h=>by have:=h.1;omega)).trans N7
  have Ei:U.heap[w.heap.size+2]?=some (.cells (ak bF bF iZ) 32):=(eH.block _ (Array.getElem?_eq_some_iff.1 N8).1 (fun h=>by have:=h.1;omega)).trans N8
  have X9:=X4.trans (eH.mono fun k hk=>(⟨by have:=hk.1;omega,by rw[jy.out];exact .inr ⟨by have:=hk.1;omega,hk.2⟩⟩:w.heap.size≤k∧S1 k))
  have Ya:=X8.on (eH.mono fun k hk=>by rw[jy.out];exact .inr ⟨by have:=hk.1;omega,hk.2⟩)
  clear N7 N8 X3
  go_wp2_with fail
 case' k2|k3|k4|k5=>
  have HG5:=Lib.hid X3
  go_wp2_with fail
  generalize (putRow w4 w.heap.size 0 (ak es' ps' D'))=U at *
  have X9:=X4
  have Ya:=X8
 all_goals
  obtain⟨hc4,hf4,hr4,hl4⟩:=aB Eh
  have hru:row? U w.heap.size 0 4=some (ak es' ps' D'):=by rw[bQ Eh];exact df (by simp[go_sem])
  have hcu:aS U (w.heap.size+2) 0 4=true:=lY Ei (by simp[go_sem])
  have aqS:w.heap.size+2<U.heap.size:=(Array.getElem?_eq_some_iff.1 Ei).1
  have m4:¬one (w.heap.size+2) w.heap.size:=bu (by omega)
  clear hc4 hf4 hr4
  refine oZ (one (w.heap.size+2)) (But.refl _ U) (by kernel_rfl) (by kernel_rfl) ?_
  repeat (first|(refine ax (by rfl) ?_)|(refine aP (by rfl) (by rfl) (fun K hK=>?_);go_big_quiet_op;refine hK _ ?_;clear hK K))
  refine aU (by rfl) (by rfl) (fun K hK=>?_)
  go_wp2_with fail
  refine(lN _ U.drew).mono ?_
  rintro y v ⟨rfl,rfl⟩
  dsimp only
  refine hK _ _ (dw (But.refl _ U).drew) ?_
  clear hK K
  repeat (first|(refine ax (by rfl) ?_)|(refine aP (by rfl) (by rfl) (fun K hK=>?_);go_big_quiet_op;refine hK _ ?_;clear hK K))
  refine aU (by rfl) (by rfl) (fun K hK=>?_)
  go_wp2_with fail
  refine hK _ _ (dw ((But.refl _ U).drew.put rfl)) ?_
  clear hK K
  repeat (first|(refine ax (by rfl) ?_)|(refine aP (by rfl) (by rfl) (fun K hK=>?_);go_big_quiet_op;refine hK _ ?_;clear hK K))
  refine bV ?_
  go_wp2_with fail
  have hrow:=iO (w:=U.drew) (jD es' ps' D') hcu
  have N9:But (fun k=>w.heap.size≤k∧S1 k) w3 (putRow U.drew (w.heap.size+2) 0 (ak es' ps' D')):=X9.trans ((But.refl _ U).drew.put ⟨by omega,by rw[jy.out];exact .inr ⟨by omega,by omega⟩⟩)
  refine bodyPost_ret (jE (by rfl) Tryz.underlying32 rfl (by kernel_rfl) rfl hrow) rfl ?_
  refine aln HH.out (by rfl) Eg hP3 dh (Ya.on ((But.refl _ U).drew.put (by rw[jy.out];exact .inr ⟨by omega,by omega⟩))) (fun k hk=>by rw[jy.out]at hk;exact hk.imp id (·.1)) (fun k hk=>by rw[jy.out];exact .inl hk) (fun k hk=>Nat.lt_of_lt_of_le (Bj.out k hk) N9.size) N9 (fun k hk=>hk.2) (fun k hk=>hk.1) (hB3.past N9 (fun k hk=>hk.1))
end Go.Proofs.YtfieenjdcpjmgaaGreatDoor
namespace Go.WW
open Go.RowKit
theorem al3{ι κ μ ν:Type}{c:Code}{P:Program}{Q:Exit→Act→World→Prop}{a:Act}{w:World}(M:ι→κ→μ→ν→World→Prop)(F:ι→κ→μ→ν→Act)
  (h1:c.wp P (fun e a' w'=>e=.normal∧∃i j k l,a'=F i j k l∧Bg (M i j k l) w') a w) (h2:∀i j k l w',M i j k l w'→Q .normal (F i j k l) w'):c.wp P Q a w:=by
 refine wp_mono h1 ?_
 rintro e a' w' ⟨rfl,i,j,k,l,rfl,h⟩
 exact h2 i j k l w' h.out
theorem al4{P:Program}{id:Nat}{Q':Exit→Act→World→Prop}{a:Act}{W w:World}{l:List Oper}(x c:Nat)(idx:List Nat)(S:Nat→Prop)(hW:But S W w)(hm:P.follows .mixedOrders=true)(hB:Dn fQ l.toArray x c=true)(hi:mv x c (List.range l.toArray.size)=idx)
  (h:aH P l.toArray fQ (nK S W) (fun a' w'=>Q' .normal a' w') l a w.drew)
  (h2:aH P l.toArray fQ (nK S W) (fun a' w'=>Q' .normal a' w') (pick l idx) a w.drew):(Code.region id l.toArray true).wp P Q' a w:=
 UH (nK S W) fQ x c idx hm hB hi ⟨⟨w.drew,hW.drew⟩,rfl⟩ h h2
end Go.WW
namespace Go.Proofs.YtfieenjdcpjmgaaGreatDoor
open Go.RowKit Go.WW
theorem iR.later{S:Nat→Prop}{b n e p:Nat}{re:ByteArray}{es ps:Sl}{D:Db}{X:List EE}{N:Nat}{w w':World}(h:iR S b n e p re es ps D X N w)(hb:Below w.heap.size w w'):iR S b n e p re es ps D X N w':=by
 obtain⟨NL,E,P,h1,h2⟩:=h.ex
 exact⟨⟨NL,E,P,h1.later hb,h2⟩,h.ref.later hb,h.aG,fun k hk=>Nat.lt_of_lt_of_le (h.lt k hk) hb.size,h.sort,h.d0,h.d1,h.n1,h.n2⟩
theorem iR.off{S T:Nat→Prop}{b n e p:Nat}{re:ByteArray}{es ps:Sl}{D:Db}{X:List EE}{N:Nat}{w w':World}(h:iR S b n e p re es ps D X N w)(hb:But T w w')(hT:∀k,T k→S k∧¬aZ b n e p k):iR S b n e p re es ps D X N w':=by
 obtain⟨NL,E,P,h1,h2⟩:=h.ex
 exact⟨⟨NL,E,P,h1.off hb (fun k hk=>(hT k hk).1) (fun k hk=>(hT k hk).2),h2⟩,h.ref.on (hb.mono fun k hk=>(hT k hk).1),h.aG,fun k hk=>Nat.lt_of_lt_of_le (h.lt k hk) hb.size,h.sort,h.d0,h.d1,h.n1,h.n2⟩
theorem iR.wide{S S':Nat→Prop}{b n e p:Nat}{re:ByteArray}{es ps:Sl}{D:Db}{X:List EE}{N:Nat}{w w':World}(h:iR S b n e p re es ps D X N w)(hb:Below w.heap.size w w')(hS:∀k,S' k→S k∨w.heap.size≤k)(hsub:∀k,S k→S' k)(hlt:∀k,S' k→k<w'.heap.size):iR S' b n e p re es ps D X N w':=by
 obtain⟨NL,E,P,h1,h2⟩:=h.ex
 have hg:∀k,S' k→k<w.heap.size→S k:=fun k hk hlt=>by
  rcases hS k hk with h|h
  ·exact h
  ·omega
 exact⟨⟨NL,E,P,(h1.grow hg hsub).later hb,h2⟩,(h.ref.grow hg).later hb,h.aG,hlt,h.sort,h.d0,h.d1,h.n1,h.n2⟩
theorem al5{S:Nat→Prop}{b n e p:Nat}{w:World}(h:bU w b n e p dH 0 [] [] [])(hsub:∀k,aZ b n e p k→S k)(hlt:∀k,S k→k<w.heap.size):iR S b n e p dH bF bF (eQ dH) [] 0 w:=
 ⟨⟨[],[],[],⟨h,by simp,hsub⟩,MZ⟩,⟨fun y _=>⟨⟨by simp[lim],fun i hi=>by simp at hi⟩,by simp⟩,fun y _=>⟨by simp[eQ,lim],fun i hi=>by simp[eQ]at hi⟩,by simp[eQ]⟩,rfl,hlt,List.Pairwise.nil,by simp[eQ],by simp[eQ],by simp,by simp[eQ]⟩
theorem bU.Iz{w:World}{b n e p:Nat}{re:ByteArray}{s:Int}{N:List (ByteArray×Value)}{E:List EE}{P:List ai}(h:bU w b n e p re s N E P):∀k,aZ b n e p k→k<w.heap.size:=fun k hk=>by
 rcases hk with rfl|rfl|rfl|rfl
 ·exact(Array.getElem?_eq_some_iff.1 h.box).1
 ·exact h.nm.lt
 ·exact h.em.lt
 ·exact h.pm.lt
structure Oa(w0:World)(T3 T7 b n e p:Nat)(k:Nat)(S:Nat→Prop)(es ps:Sl)(D:Db)(X:List EE)(wr:World):Prop where
 box:wr.heap[T7]?=some (.cells (ak es ps D) 32)
 res:wr.heap[T3]?=some (.cells (ak bF bF iZ) 32)
 nO:iR S b n e p dH es ps D X k wr
 out:Below w0.heap.size w0 wr
 fr:∀j,S j→w0.heap.size≤j
 xJ:∀j,aZ b n e p j→j≠T3∧j≠T7
 b3:w0.heap.size≤T3
 b7:w0.heap.size≤T7
 ne:T3≠T7
 in3:S T3
 in7:S T7
def aqT(N:Nat)(w:World)(z:Ending)(w':World):Prop:=
 ∃S b n e p es ps D X,z=.returned (.tuple #[.pointer (some ⟨b,0,none⟩),.agg (ak es ps D),.bool true])∧Below w.heap.size w w'∧iR S b n e p dH es ps D X N w'∧∀k,S k→w.heap.size≤k
theorem Oa.next{w0:World}{T3 T7 b n e p k:Nat}{S S':Nat→Prop}{es ps es' ps':Sl}{D D':Db}{X X':List EE}{wr V:World}(h:Oa w0 T3 T7 b n e p k S es ps D X wr)(hb:But (aZ b n e p) wr V)(hd:iR S' b n e p dH es' ps' D' X' (k+1) V)(hS:∀j,S' j→S j∨wr.heap.size≤j)(hSS:∀j,S j→S' j) :
  Oa w0 T3 T7 b n e p (k+1) S' es' ps' D' X' (putRow V T7 0 (ak es' ps' D')):=by
 have l3:T3<wr.heap.size:=(Array.getElem?_eq_some_iff.1 h.res).1
 have l7:T7<wr.heap.size:=(Array.getElem?_eq_some_iff.1 h.box).1
 obtain⟨_,_,_,hp,_⟩:=h.nO.ex
 have m3:¬aZ b n e p T3:=fun hj=>(h.xJ _ hj).1 rfl
 have m7:¬aZ b n e p T7:=fun hj=>(h.xJ _ hj).2 rfl
 have hbx:V.heap[T7]?=some (.cells (ak es ps D) 32):=(hb.block _ l7 m7).trans h.box
 have hrs:V.heap[T3]?=some (.cells (ak bF bF iZ) 32):=(hb.block _ l3 m3).trans h.res
 have Bo:But (one T7) V (putRow V T7 0 (ak es' ps' D')):=(But.refl _ _).put rfl
 refine⟨?_,(Bo.block _ (Array.getElem?_eq_some_iff.1 hrs).1 (bu h.ne)).trans hrs,hd.off Bo (fun j (hj:j=T7)=>⟨hj▸hSS _ h.in7,hj▸m7⟩),?_,fun j hj=>?_,h.xJ,h.b3,h.b7,h.ne,hSS _ h.in3,hSS _ h.in7⟩
 ·have:=kM (o:=0) (cs:=ak es' ps' D') hbx (by simp[jD])
  rwa[nZ (by simp[jD])]at this
 ·have h1:But (aZ b n e p) w0 V:=(But.of_below h.out).trans hb
  have h2:But (fun j=>w0.heap.size≤j) w0 (putRow V T7 0 (ak es' ps' D')):=(h1.mono fun j hj=>h.fr j (hp.sub j hj)).trans (Bo.mono fun j (hj:j=T7)=>hj▸h.b7)
  exact h2.below (Nat.le_refl _) fun j hj=>hj
 ·rcases hS j hj with h1|h1
  ·exact h.fr j h1
  ·have:=h.out.size;omega
end Go.Proofs.YtfieenjdcpjmgaaGreatDoor
namespace Go.WW
open Go.RowKit
def fV(D:Db)(q:az):Entry:=if idxOf (fun d=>gq d q) D.entries<0 then aQ else D.entries.getD (idxOf (fun d=>gq d q) D.entries).toNat aQ
def uz(D:Db)(q:az):Int:=if idxOf (fun d=>gq d q) D.entries<0 then 9 else 0
def pG(D:Db)(k:ByteArray):ai:=if idxOf (fun x:ai=>decide (x.name=k)) D.au<0 then jX else D.au.getD (idxOf (fun x:ai=>decide (x.name=k)) D.au).toNat jX
def zt(D:Db)(k:ByteArray):Int:=if idxOf (fun x:ai=>decide (x.name=k)) D.au<0 then 9 else 0
theorem fA.got{D:Db}{X:List EE}{NL:List (ByteArray×ByteArray)}{E:List EE}{P:List ai}(h:fA D X NL E P)(q:az) :
  (idxOf (fun d=>gq d q) D.entries=-1∧fV D q=aQ∧uz D q=9∧∀o,(dQ q,o)∉NL)∨∃i,∃hi:i<X.length,idxOf (fun d=>gq d q) D.entries=(i:Int)∧fV D q=X[i].2∧uz D q=0∧∃x0∈E,x0.2=X[i].2∧(dQ q,textOf x0.2.name)∈NL:=by
 rcases h.found q with⟨h1,h2⟩|⟨i,hi,h1,h2⟩
 ·exact .inl ⟨h1,by simp[fV,h1],by simp[uz,h1],h2⟩
 ·refine .inr ⟨i,hi,h1,?_,?_,h2⟩
  ·have hi':i<D.entries.length:=by rw[h.eq,List.length_map];exact hi
   have:D.entries[i]=X[i].2:=by simp[h.eq]
   rw[fV,h1,if_neg (by omega),Int.toNat_natCast,List.getD_eq_getElem?_getD,List.getElem?_eq_getElem hi',this]
   rfl
  ·rw[uz,h1,if_neg (by omega)]
theorem Yb(D:Db)(k:ByteArray) :
  (idxOf (fun x:ai=>decide (x.name=k)) D.au=-1∧pG D k=jX∧zt D k=9∧D.au.any (fun x=>decide (x.name=k))=false)∨∃i,∃hi:i<D.au.length,idxOf (fun x:ai=>decide (x.name=k)) D.au=(i:Int)∧pG D k=D.au[i]∧zt D k=0∧D.au[i].name=k:=by
 cases hf:D.au.findIdx? (fun x:ai=>decide (x.name=k))with
 |none=>
  have h1:idxOf (fun x:ai=>decide (x.name=k)) D.au=-1:=by simp[idxOf,hf]
  refine .inl ⟨h1,by simp[pG,h1],by simp[zt,h1],?_⟩
  have:=List.findIdx?_eq_none_iff.1 hf
  rw[List.any_eq_false]
  intro x hx;simp[this x hx]
 |some i=>
  obtain⟨hi,h2,-⟩:=List.findIdx?_eq_some_iff_getElem.1 hf
  have h1:idxOf (fun x:ai=>decide (x.name=k)) D.au=(i:Int):=by simp[idxOf,hf]
  refine .inr ⟨i,hi,h1,?_,?_,by simpa using h2⟩
  ·rw[pG,h1,if_neg (by omega),Int.toNat_natCast,List.getD_eq_getElem?_getD,List.getElem?_eq_getElem hi]
   rfl
  ·rw[zt,h1,if_neg (by omega)]
theorem al7(S:Nat→Prop)(w:World):pF S w aW aQ:=
 ⟨Gx w,fun i hi=>by simp[aQ]at hi,fun i hi=>by simp[aQ]at hi,⟨by simp[aQ,lim],fun i hi=>by simp[aQ]at hi⟩,fun i hi=>by simp[aQ]at hi⟩
end Go.WW
namespace Go.Proofs.YtfieenjdcpjmgaaGreatDoor
open Go.RowKit Go.WW
section
variable (S:Nat→Prop) (b n e p:Nat) (re:ByteArray) (es ps:Sl) (D:Db) (X:List EE) (N:Nat) (t:Sl) (q:az) (pk:ByteArray) (w:World) (h:iR S b n e p re es ps D X N w) (hre:¬re=⟨#[]⟩) (hq:bn w t q)
include h hre
include hq in
theorem al8:Calls Tryz.prog 24 #[.pointer (some ⟨b,0,none⟩),.agg (ah t q)] w fun z w'=>∃r',z=.returned (.tuple #[.agg (ae r' (fV D q)),.int .i64 (uz D q)])∧Below w.heap.size w w'∧pF (span w.heap.size w'.heap.size) w' r' (fV D q):=by
 obtain⟨NL,E,P,hP,hR⟩:=h.ex
 rcases hR.got q with⟨-,e1,e2,hno⟩|⟨i,hi,-,e1,e2,x0,hx0,e0,hk⟩
 ·rw[e1,e2]
  refine(alC b n e p re D.ay NL E P t q w hP.db hre hq hno (fun x _=>MV _)).mono ?_
  rintro z W1 ⟨rfl,hb1⟩
  exact⟨aW,rfl,hb1,al7 _ _⟩
 ·rw[e1,e2,←e0]
  refine(XQ b n e p re D.ay NL E P t q w hP.db hre hq x0 hx0 hk (hP.keep x0 hx0).out).mono ?_
  rintro z W1 ⟨r',rfl,hb1,hd1⟩
  exact⟨r',rfl,hb1,(hd1 W1 (fun _ _=>rfl)).span⟩
include hq in
theorem al9:Calls Tryz.prog 25 #[.pointer (some ⟨b,0,none⟩),.agg (ah t q)] w fun z w'=>∃s':Sl,z=.returned (.tuple #[.agg (ah s' (fV D q).name),.int .i64 (uz D q)])∧Below w.heap.size w w'∧bn w' s' (fV D q).name:=by
 obtain⟨NL,E,P,hP,hR⟩:=h.ex
 rcases hR.got q with⟨-,e1,e2,hno⟩|⟨i,hi,-,e1,e2,x0,hx0,e0,hk⟩
 ·rw[e1,e2]
  refine(alE b n e p re D.ay NL E P t q w hP.db hre hq hno (fun x _=>MV _)).mono ?_
  rintro z W1 ⟨rfl,hb1⟩
  exact⟨jT,rfl,hb1,alD _⟩
 ·rw[e1,e2,←e0]
  exact XR b n e p re D.ay NL E P t q w hP.db hre hq x0 hx0 hk (hP.keep x0 hx0).out
theorem ama:Calls Tryz.prog 41 #[.pointer (some ⟨b,0,none⟩),.string pk] w fun z w'=>z=.returned (.tuple #[.agg (aC (pG D pk)),.int .i64 (zt D pk)])∧Below w.heap.size w w':=by
 obtain⟨NL,E,P,hP,hR⟩:=h.ex
 rcases Yb D pk with⟨-,e1,e2,hno⟩|⟨i,hi,-,e1,e2,hn⟩
 ·rw[e1,e2]
  exact alS b n e p re D.ay (dU NL) E P pk w hP.db hre (by rw[hR.dL.any];exact hno)
 ·rw[e1,e2,←hn]
  exact ahw b n e p re D.ay (dU NL) E P D.au[i] w hP.db hre (hR.dL.perm.mem_iff.2 (List.getElem_mem hi))
end
end Go.Proofs.YtfieenjdcpjmgaaGreatDoor
