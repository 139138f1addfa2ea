/- A part of the proof. -/
import Derived.Test.YtibhckkjciflaaaGreatDoorA25
import Derived.Test.YtibhckkjciflaaaGreatDoorA26
import Derived.Test.YtibhckkjciflaaaGreatDoorA22
import Derived.Test.YtibhckkjciflaaaGreatDoorA14
import Derived.Carry
import Derived.WideMake
import Derived.RangeFuncOwn
import Derived.Maps.RangeRun
import Derived.Test.YtibhckkjciflaaaGreatDoorA13
set_option maxRecDepth 100000
set_option maxHeartbeats 8000000
namespace Go.Proofs.YtibhckkjciflaaaGreatDoor
open Go.RowKit Go.WW
theorem TW(s t:Sl)(p q:Key)(w:World)(hp:iR w s p)(hq:iR w t q):Calls Tryz.prog 148 #[.agg (bG s p),.agg (bG t q)] w fun e w'=>e=.returned (.bool (sameKey p q))∧Below w.heap.size w w':=by
 have hB:Below w.heap.size w ((w.alloc (.cells (bG s p) 151)).alloc (.cells (bG t q) 151)):=((Below.refl _ _).alloc (Nat.le_refl _) _).alloc (by simp) _
 have k1:=uH s.a s.cap p.bytes _ (BytesAt.later hB hp)
 have k2:=uH t.a t.cap q.bytes _ (BytesAt.later hB hq)
 obtain⟨S1,hS1⟩:∃S,S=(ByteArray.mk p.bytes.toArray):=⟨_,rfl⟩
 obtain⟨S2,hS2⟩:∃S,S=(ByteArray.mk q.bytes.toArray):=⟨_,rfl⟩
 rw[←hS1]at k1
 rw[←hS2]at k2
 have HD:=Lib.hid (show(S1.toList == S2.toList)=decide (p.bytes=q.bytes) by
  rw[hS1,hS2,ByteArray.toList_eq,ByteArray.toList_eq]
  by_cases h:p.bytes=q.bytes
  ·rw[h];simp
  ·simp[h])
 clear hS1 hS2
 cases h1:(p.profile == q.profile)
 ·have HN:=Lib.hid (show sameKey p q=false by simp[sameKey,h1])
  rw[HN.out]
  go_enter Tryz.func148,Tryz.ntmps148
  go_wp2_with fail
  go_ret
  exact⟨rfl,hB⟩
 cases h2:(p.version == q.version)
 ·have HN:=Lib.hid (show sameKey p q=false by simp[sameKey,h2])
  rw[HN.out]
  go_enter Tryz.func148,Tryz.ntmps148
  go_wp2_with fail
  go_ret
  exact⟨rfl,hB⟩
 ·have HN:=Lib.hid (show sameKey p q=(S1.toList == S2.toList) by rw[HD.out];simp[sameKey,h1,h2])
  rw[HN.out]
  go_enter Tryz.func148,Tryz.ntmps148
  go_wp2_with fail
  go_ret
  exact⟨rfl,hB⟩
theorem Kq(a1 a2:Option Addr)(c d:Nat)(xs ys:List aG)(w:World)(h1:fH w a1 xs)(h2:fH w a2 ys):Calls Tryz.prog 102 #[.slice a1 xs.length c,.slice a2 ys.length d] w fun e w'=>e=.returned (.bool (gm bH xs ys))∧Below w.heap.size w w':=by
 have l1:xs.length≤4294967000:=h1.1
 have l2:ys.length≤4294967000:=h2.1
 by_cases hn:xs.length=ys.length
 ·have hne:((xs.length:Int) != (ys.length:Int))=false:=by simp[hn]
  by_cases h0:xs.length=0
  ·obtain rfl:xs=[]:=List.eq_nil_of_length_eq_zero h0
   obtain rfl:ys=[]:=List.eq_nil_of_length_eq_zero (by simpa using hn.symm)
   go_enter Tryz.func102,Tryz.ntmps102
   go_wp2_with fail
   refine wp_loop_rounds 1 ?_
   rw[rounds_succ]
   go_wp2_with fail
   go_ret
   exact⟨rfl,Below.refl _ _⟩
  rcases cu.addr h1 with e|⟨b1,o1,rfl,hb1⟩
  ·exact absurd e h0
  rcases cu.addr h2 with e|⟨b2,o2,rfl,hb2⟩
  ·exact absurd (hn.trans e) h0
  have HN:=Lib.hid hn
  clear hn h0
  go_enter Tryz.func102,Tryz.ntmps102
  go_wp2_with fail
  go_loopw [5] (fun i wr=>Below w.heap.size w wr∧∃k:Nat,k≤xs.length∧i=.int .i64 k∧Hid (∀j (ha:j<xs.length) (hb:j<ys.length),j<k→bH xs[j] ys[j]=true)) (fun i _=>xs.length-(intOf i).toNat)
  case atStart=>exact⟨Below.refl _ _,0,Nat.zero_le _,rfl,fun j _ _ h=>absurd h (Nat.not_lt_zero _)⟩
  case round=>
   obtain⟨hbr,k,hk,rfl,hall⟩:=hrel
   by_cases hlt:k<xs.length
   ·have hlt2:k<ys.length:=by have:=HN.out;omega
    have hki:(k:Int)<(xs.length:Int):=by omega
    have wO:(k:Int)<(ys.length:Int):=by omega
    obtain⟨t1,hc1,hp1⟩:=h1.at k hlt
    obtain⟨t2,hc2,hp2⟩:=h2.at k hlt2
    obtain⟨hcc,ax,hrr⟩:=aK hbr
    have hw1:=hb1
    have hw2:=hb2
    cases he:bH xs[k] ys[k]
    ·have HF:=Lib.hid (rW (eq:=bH) k hlt hlt2 he)
     go_wp2_with fail
     refine dZ hbr (by kernel_rfl) (by kernel_rfl) ?_
     repeat (go_big_quiet_step ((go_at_call 41;rename_i xw;exact Calls.iF (he▸ug _ _ _ _ _ (hp1.later (by exact xw.b)) (hp2.later (by exact xw.b))))))
     refine wpQuiet_nil ?_
     intro w2 aZ
     go_wp2_with fail
     go_ret
     exact⟨by rw[HF.out];rfl,aZ⟩
    ·have HS:=Lib.hid (show ∀j (ha:j<xs.length) (hb:j<ys.length),j<k+1→bH xs[j] ys[j]=true from fun j ha hb hj=>by
      by_cases e:j=k
      ·subst e;exact he
      ·exact hall.out j ha hb (by omega))
     go_wp2_with fail
     refine dZ hbr (by kernel_rfl) (by kernel_rfl) ?_
     repeat (go_big_quiet_step ((go_at_call 41;rename_i xw;exact Calls.iF (he▸ug _ _ _ _ _ (hp1.later (by exact xw.b)) (hp2.later (by exact xw.b))))))
     refine wpQuiet_nil ?_
     intro w2 aZ
     go_wp2_with fail
     go_roundw
     case rel=>exact⟨aZ,k+1,by omega,by go_num,HS.out⟩
     case measure=>simp[intOf];omega
   ·have HS:=Lib.hid (rX (eq:=bH) HN.out (fun j ha hb=>hall.out j ha hb (by omega)))
    go_wp2_with fail
    go_ret
    exact⟨by rw[HS.out];rfl,hbr⟩
 ·have hne:((xs.length:Int) != (ys.length:Int))=true:=by simp;omega
  have HF:=Lib.hid (rV (eq:=bH) hn)
  clear hn
  go_enter Tryz.func102,Tryz.ntmps102
  go_wp2_with fail
  go_ret
  exact⟨by rw[HF.out];rfl,Below.refl _ _⟩
theorem TY(s t:Sl)(p q:aW)(w:World)(hp:ig w s p)(hq:ig w t q):Calls Tryz.prog 101 #[.agg (aV s p),.agg (aV t q)] w fun e w'=>e=.returned (.bool (dW p q))∧Below w.heap.size w w':=by
 have hB:Below w.heap.size w ((w.alloc (.cells (aV s p) 49)).alloc (.cells (aV t q) 49)):=((Below.refl _ _).alloc (Nat.le_refl _) _).alloc (by simp) _
 obtain⟨R,hR⟩:∃R,R=dW p q:=⟨_,rfl⟩
 rw[←hR]
 have HR:=Lib.hid hR
 clear hR
 have l1:p.keys.length≤4294967000:=hp.1.1
 have l2:q.keys.length≤4294967000:=hq.1.1
 go_enter Tryz.func101,Tryz.ntmps101
 cases g0:(p.version == q.version)
 ·have g0':(p.version != q.version)=true:=by simp only[bne,g0];rfl
  have HN:=Lib.hid (show dW p q=false by simp[dW,g0])
  go_wp2_with fail
  go_ret
  exact⟨by rw[HR.out,HN.out];rfl,hB⟩
 have g0':(p.version != q.version)=false:=by simp only[bne,g0];rfl
 cases g1:(p.bF.toList == q.bF.toList)
 ·have g1':(p.bF.toList != q.bF.toList)=true:=by simp only[bne,g1];rfl
  have HN:=Lib.hid (show dW p q=false by simp[dW,g1])
  go_wp2_with fail
  go_ret
  exact⟨by rw[HR.out,HN.out];rfl,hB⟩
 have g1':(p.bF.toList != q.bF.toList)=false:=by simp only[bne,g1];rfl
 cases g2:(p.dm == q.dm)
 ·have g2':(p.dm != q.dm)=true:=by simp only[bne,g2];rfl
  have HN:=Lib.hid (show dW p q=false by simp[dW,g2])
  go_wp2_with fail
  go_ret
  exact⟨by rw[HR.out,HN.out];rfl,hB⟩
 have g2':(p.dm != q.dm)=false:=by simp only[bne,g2];rfl
 cases g3:(p.created == q.created)
 ·have g3':(p.created != q.created)=true:=by simp only[bne,g3];rfl
  have HN:=Lib.hid (show dW p q=false by simp[dW,g3])
  go_wp2_with fail
  go_ret
  exact⟨by rw[HR.out,HN.out];rfl,hB⟩
 have g3':(p.created != q.created)=false:=by simp only[bne,g3];rfl
 by_cases hn:p.keys.length=q.keys.length
 ·have hne:((p.keys.length:Int) != (q.keys.length:Int))=false:=by simp[hn]
  have HL:=Lib.hid (show dW p q=gm sameKey p.keys q.keys by simp[dW,g0,g1,g2,g3])
  have HN:=Lib.hid hn
  clear hn
  go_wp2_with fail
  clear g0 g1 g2 g3 g0' g1' g2' g3'
  go_loopw [5] (fun i wr=>Below ((w.alloc (.cells (aV s p) 49)).alloc (.cells (aV t q) 49)).heap.size ((w.alloc (.cells (aV s p) 49)).alloc (.cells (aV t q) 49)) wr∧∃k:Nat,k≤p.keys.length∧i=.int .i64 k∧Hid (∀j (ha:j<p.keys.length) (hb:j<q.keys.length),j<k→sameKey p.keys[j] q.keys[j]=true)) (fun i _=>p.keys.length-(intOf i).toNat)
  case atStart=>exact⟨Below.refl _ _,0,Nat.zero_le _,rfl,fun j _ _ h=>absurd h (Nat.not_lt_zero _)⟩
  case round=>
   obtain⟨hbr,k,hk,rfl,hall⟩:=hrel
   obtain⟨hcc,ax,hrr⟩:=aK hbr
   have hsz:w.heap.size+1<wr.heap.size:=by have:=hbr.size;simp at this;omega
   have hsz0:w.heap.size<wr.heap.size:=by omega
   by_cases hlt:k<p.keys.length
   ·have hlt2:k<q.keys.length:=by have:=HN.out;omega
    have hki:(k:Int)<(p.keys.length:Int):=by omega
    have wO:(k:Int)<(q.keys.length:Int):=by omega
    obtain⟨b1,o1,t1,ha1,hc1,hp1⟩:=hp.1.get k hlt
    obtain⟨b2,o2,t2,ha2,hc2,hp2⟩:=hq.1.get k hlt2
    have hb1:b1<w.heap.size:=kT hc1
    have hb1':b1<w.heap.size+1+1:=by omega
    have hb2:b2<w.heap.size:=kT hc2
    have hb2':b2<w.heap.size+1+1:=by omega
    cases he:sameKey p.keys[k] q.keys[k]
    ·have HF:=Lib.hid (rW (eq:=sameKey) k hlt hlt2 he)
     go_wp2_with fail
     refine dZ hbr (by kernel_rfl) (by kernel_rfl) ?_
     repeat (go_big_quiet_step ((go_at_call 148;rename_i xw;exact Calls.iF (he▸TW _ _ _ _ _ (iR.later (hB.trans (xw.b.mono (by simp;omega))) hp1) (iR.later (hB.trans (xw.b.mono (by simp;omega))) hp2)))))
     refine wpQuiet_nil ?_
     intro w2 aZ
     go_wp2_with fail
     go_ret
     exact⟨by rw[HR.out,HL.out,HF.out];rfl,hB.trans (aZ.mono (by simp;omega))⟩
    ·have HS:=Lib.hid (show ∀j (ha:j<p.keys.length) (hb:j<q.keys.length),j<k+1→sameKey p.keys[j] q.keys[j]=true from fun j ha hb hj=>by
      by_cases e:j=k
      ·subst e;exact he
      ·exact hall.out j ha hb (by omega))
     go_wp2_with fail
     refine dZ hbr (by kernel_rfl) (by kernel_rfl) ?_
     repeat (go_big_quiet_step ((go_at_call 148;rename_i xw;exact Calls.iF (he▸TW _ _ _ _ _ (iR.later (hB.trans (xw.b.mono (by simp;omega))) hp1) (iR.later (hB.trans (xw.b.mono (by simp;omega))) hp2)))))
     refine wpQuiet_nil ?_
     intro w2 aZ
     go_wp2_with fail
     go_roundw
     case rel=>exact⟨aZ,k+1,by omega,by go_num,HS.out⟩
     case measure=>simp[intOf];omega
   ·have HS:=Lib.hid (rX (eq:=sameKey) HN.out (fun j ha hb=>hall.out j ha hb (by omega)))
    go_wp2_with fail
    go_ret
    exact⟨by rw[HR.out,HL.out,HS.out];rfl,hB.trans (hbr.mono (by simp;omega))⟩
 ·have hne:((p.keys.length:Int) != (q.keys.length:Int))=true:=by simp;omega
  have HF:=Lib.hid (show dW p q=false by simp[dW,rV (eq:=sameKey) hn])
  clear hn
  go_wp2_with fail
  go_ret
  exact⟨by rw[HR.out,HF.out];rfl,hB⟩
theorem aft(r t:aC)(d f:Entry)(w:World)(hd:iT w r d)(hf:iT w t f):Calls Tryz.prog 42 #[.agg (ay r d),.agg (ay t f)] w fun e w'=>e=.returned (.bool (bn d f))∧Below w.heap.size w w':=by
 have hB:Below w.heap.size w ((w.alloc (.cells (ay r d) 32)).alloc (.cells (ay t f) 32)):=((Below.refl _ _).alloc (Nat.le_refl _) _).alloc (by simp) _
 obtain⟨R,hR⟩:∃R,R=bn d f:=⟨_,rfl⟩
 rw[←hR]
 have HR:=Lib.hid hR
 clear hR
 have l1:d.keys.length≤4294967000:=hd.keys.1
 have l2:f.keys.length≤4294967000:=hf.keys.1
 have l3:d.history.length≤4294967000:=hd.history.1
 have l4:f.history.length≤4294967000:=hf.history.1
 go_enter Tryz.func42,Tryz.ntmps42
 by_cases hn:d.keys.length=f.keys.length
 case neg=>
  have hne:((d.keys.length:Int) != (f.keys.length:Int))=true:=by simp;omega
  have HF:=Lib.hid (show bn d f=false by simp[bn,rV (eq:=dW) hn])
  clear hn
  go_wp2_with fail
  go_ret
  exact⟨by rw[HR.out,HF.out];rfl,hB⟩
 have hne:((d.keys.length:Int) != (f.keys.length:Int))=false:=by simp[hn]
 by_cases hm:d.history.length=f.history.length
 case neg=>
  have hme:((d.history.length:Int) != (f.history.length:Int))=true:=by simp;omega
  have HF:=Lib.hid (show bn d f=false by simp[bn,rV (eq:=fO) hm])
  clear hn hm
  go_wp2_with fail
  go_ret
  exact⟨by rw[HR.out,HF.out];rfl,hB⟩
 have hme:((d.history.length:Int) != (f.history.length:Int))=false:=by simp[hm]
 have HN:=Lib.hid hn
 have HM:=Lib.hid hm
 clear hn hm
 go_wp2_with fail
 clear hne hme
 go_loopw [5] (fun i wr=>Below ((w.alloc (.cells (ay r d) 32)).alloc (.cells (ay t f) 32)).heap.size ((w.alloc (.cells (ay r d) 32)).alloc (.cells (ay t f) 32)) wr∧∃k:Nat,k≤d.keys.length∧i=.int .i64 k∧Hid (∀j (ha:j<d.keys.length) (hb:j<f.keys.length),j<k→dW d.keys[j] f.keys[j]=true)) (fun i _=>d.keys.length-(intOf i).toNat)
 case atStart=>exact⟨Below.refl _ _,0,Nat.zero_le _,rfl,fun j _ _ h=>absurd h (Nat.not_lt_zero _)⟩
 case round=>
  obtain⟨hbr,k,hk,rfl,hall⟩:=hrel
  obtain⟨hcc,ax,hrr⟩:=aK hbr
  have hsz:w.heap.size+1<wr.heap.size:=by have:=hbr.size;simp at this;omega
  have hsz0:w.heap.size<wr.heap.size:=by omega
  by_cases hlt:k<d.keys.length
  ·have hlt2:k<f.keys.length:=by have:=HN.out;omega
   have hki:(k:Int)<(d.keys.length:Int):=by omega
   have wO:(k:Int)<(f.keys.length:Int):=by omega
   obtain⟨b1,o1,t1,ha1,hc1,hp1⟩:=hd.keys.get k hlt
   obtain⟨b2,o2,t2,ha2,hc2,hp2⟩:=hf.keys.get k hlt2
   have hb1:b1<w.heap.size:=kT hc1
   have hb1':b1<w.heap.size+1+1:=by omega
   have hb2:b2<w.heap.size:=kT hc2
   have hb2':b2<w.heap.size+1+1:=by omega
   cases he:dW d.keys[k] f.keys[k]
   ·have HF:=Lib.hid (show bn d f=false by simp[bn,rW (eq:=dW) k hlt hlt2 he])
    go_wp2_with fail
    refine dZ hbr (by kernel_rfl) (by kernel_rfl) ?_
    repeat (go_big_quiet_step ((go_at_call 101;rename_i xw;exact Calls.iF (he▸TY _ _ _ _ _ (ig.later (hB.trans (xw.b.mono (by simp;omega))) hp1) (ig.later (hB.trans (xw.b.mono (by simp;omega))) hp2)))))
    refine wpQuiet_nil ?_
    intro w2 aZ
    go_wp2_with fail
    go_ret
    exact⟨by rw[HR.out,HF.out];rfl,hB.trans (aZ.mono (by simp;omega))⟩
   ·have HS:=Lib.hid (show ∀j (ha:j<d.keys.length) (hb:j<f.keys.length),j<k+1→dW d.keys[j] f.keys[j]=true from fun j ha hb hj=>by
     by_cases e:j=k
     ·subst e;exact he
     ·exact hall.out j ha hb (by omega))
    go_wp2_with fail
    refine dZ hbr (by kernel_rfl) (by kernel_rfl) ?_
    repeat (go_big_quiet_step ((go_at_call 101;rename_i xw;exact Calls.iF (he▸TY _ _ _ _ _ (ig.later (hB.trans (xw.b.mono (by simp;omega))) hp1) (ig.later (hB.trans (xw.b.mono (by simp;omega))) hp2)))))
    refine wpQuiet_nil ?_
    intro w2 aZ
    go_wp2_with fail
    go_roundw
    case rel=>exact⟨aZ,k+1,by omega,by go_num,HS.out⟩
    case measure=>simp[intOf];omega
  have HK:=Lib.hid (rX (eq:=dW) HN.out (fun j ha hb=>hall.out j ha hb (by omega)))
  clear hall
  go_wp2_with fail
  clear hcc ax hrr hsz hsz0 hlt hk l1 l2
  have IK:=hbr
  clear hbr
  obtain⟨wo,hwo⟩:∃wo:World,wo=wr:=⟨_,rfl⟩
  subst hwo
  go_loopw [6] (fun i wr=>Below ((w.alloc (.cells (ay r d) 32)).alloc (.cells (ay t f) 32)).heap.size ((w.alloc (.cells (ay r d) 32)).alloc (.cells (ay t f) 32)) wr∧∃k:Nat,k≤d.history.length∧i=.int .i64 k∧Hid (∀j (ha:j<d.history.length) (hb:j<f.history.length),j<k→fO d.history[j] f.history[j]=true)) (fun i _=>d.history.length-(intOf i).toNat)
  case atStart=>exact⟨IK,0,Nat.zero_le _,rfl,fun j _ _ h=>absurd h (Nat.not_lt_zero _)⟩
  case round=>
   obtain⟨hbr,k,hk,rfl,hall⟩:=hrel
   obtain⟨hcc,ax,hrr⟩:=aK hbr
   have hsz:w.heap.size+1<wr.heap.size:=by have:=hbr.size;simp at this;omega
   have hsz0:w.heap.size<wr.heap.size:=by omega
   by_cases hlt:k<d.history.length
   ·have hlt2:k<f.history.length:=by have:=HM.out;omega
    have hki:(k:Int)<(d.history.length:Int):=by omega
    have wO:(k:Int)<(f.history.length:Int):=by omega
    obtain⟨b1,o1,t1,ha1,hc1,hp1⟩:=hd.history.get k hlt
    obtain⟨b2,o2,t2,ha2,hc2,hp2⟩:=hf.history.get k hlt2
    have hb1:b1<w.heap.size:=World.block_lt_of_cell? w _ hc1
    have hb1':b1<w.heap.size+1+1:=by omega
    have hb2:b2<w.heap.size:=World.block_lt_of_cell? w _ hc2
    have hb2':b2<w.heap.size+1+1:=by omega
    have k1:∀x:Later ((w.alloc (.cells (ay r d) 32)).alloc (.cells (ay t f) 32)),(convert 41 9 (.slice t1.a d.history[k].length t1.cap)).run Tryz.prog x.w=.ok (.string ⟨d.history[k].toArray⟩) x.w:=fun x=>uH t1.a t1.cap d.history[k] _ (BytesAt.later (hB.trans (x.b.mono (by simp;omega))) hp1)
    have k2:∀x:Later ((w.alloc (.cells (ay r d) 32)).alloc (.cells (ay t f) 32)),(convert 41 9 (.slice t2.a f.history[k].length t2.cap)).run Tryz.prog x.w=.ok (.string ⟨f.history[k].toArray⟩) x.w:=fun x=>uH t2.a t2.cap f.history[k] _ (BytesAt.later (hB.trans (x.b.mono (by simp;omega))) hp2)
    obtain⟨S1,hS1⟩:∃S,S=(ByteArray.mk d.history[k].toArray):=⟨_,rfl⟩
    obtain⟨S2,hS2⟩:∃S,S=(ByteArray.mk f.history[k].toArray):=⟨_,rfl⟩
    rw[←hS1]at k1
    rw[←hS2]at k2
    have hD:(S1.toList == S2.toList)=fO d.history[k] f.history[k]:=by
     rw[hS1,hS2,ByteArray.toList_eq,ByteArray.toList_eq]
     unfold fO
     by_cases h:d.history[k]=f.history[k]
     ·rw[h];simp
     ·simp[h]
    clear hS1 hS2
    cases he:fO d.history[k] f.history[k]
    ·rw[he]at hD
     have hD':(S1.toList != S2.toList)=true:=by simp only[bne,hD];rfl
     have HF:=Lib.hid (show bn d f=false by simp[bn,rW (eq:=fO) k hlt hlt2 he])
     clear he
     go_wp2_with fail
     refine dZ hbr (by kernel_rfl) (by kernel_rfl) ?_
     repeat (go_big_quiet_step (fail))
     refine wpQuiet_nil ?_
     intro w2 aZ
     go_wp2_with fail
     go_ret
     exact⟨by rw[HR.out,HF.out];rfl,hB.trans (aZ.mono (by simp;omega))⟩
    ·rw[he]at hD
     have hD':(S1.toList != S2.toList)=false:=by simp only[bne,hD];rfl
     have HS:=Lib.hid (show ∀j (ha:j<d.history.length) (hb:j<f.history.length),j<k+1→fO d.history[j] f.history[j]=true from fun j ha hb hj=>by
      by_cases e:j=k
      ·subst e;exact he
      ·exact hall.out j ha hb (by omega))
     clear he
     go_wp2_with fail
     refine dZ hbr (by kernel_rfl) (by kernel_rfl) ?_
     repeat (go_big_quiet_step (fail))
     refine wpQuiet_nil ?_
     intro w2 aZ
     go_wp2_with fail
     go_roundw
     case rel=>first|exact⟨aZ,k+1,by omega,by go_num,HS.out⟩|((repeat apply Exists.intro);exact⟨⟨aZ,k+1,by omega,by go_num,HS.out⟩,rfl⟩)
     case measure=>simp[intOf];omega
   have HH:=Lib.hid (rX (eq:=fO) HM.out (fun j ha hb=>hall.out j ha hb (by omega)))
   clear hall hk l3 l4
   have hb0:=hbr
   clear hbr
   have HB0:=Lib.hid (af hB hb0)
   cases g0:(d.attrs == f.attrs)
   ·have g0':(d.attrs != f.attrs)=true:=by simp only[bne,g0];rfl
    have HF:=Lib.hid (show bn d f=false by simp[bn,g0])
    go_wp2_with fail
    go_ret
    exact⟨by rw[HR.out,HF.out];rfl,HB0.out⟩
   have g0':(d.attrs != f.attrs)=false:=by simp only[bne,g0];rfl
   cases g1:(d.dF == f.dF)
   ·have g1':(d.dF != f.dF)=true:=by simp only[bne,g1];rfl
    have HF:=Lib.hid (show bn d f=false by simp[bn,g1])
    go_wp2_with fail
    go_ret
    exact⟨by rw[HR.out,HF.out];rfl,HB0.out⟩
   have g1':(d.dF != f.dF)=false:=by simp only[bne,g1];rfl
   cases g2:(d.dn.toList == f.dn.toList)
   ·have g2':(d.dn.toList != f.dn.toList)=true:=by simp only[bne,g2];rfl
    have HF:=Lib.hid (show bn d f=false by simp[bn,g2])
    go_wp2_with fail
    go_ret
    exact⟨by rw[HR.out,HF.out];rfl,HB0.out⟩
   have g2':(d.dn.toList != f.dn.toList)=false:=by simp only[bne,g2];rfl
   cases g3:(d.fQ == f.fQ)
   ·have g3':(d.fQ != f.fQ)=true:=by simp only[bne,g3];rfl
    have HF:=Lib.hid (show bn d f=false by simp[bn,g3])
    go_wp2_with fail
    go_ret
    exact⟨by rw[HR.out,HF.out];rfl,HB0.out⟩
   have g3':(d.fQ != f.fQ)=false:=by simp only[bne,g3];rfl
   cases g4:(d.fU == f.fU)
   ·have g4':(d.fU != f.fU)=true:=by simp only[bne,g4];rfl
    have HF:=Lib.hid (show bn d f=false by simp[bn,g4])
    go_wp2_with fail
    go_ret
    exact⟨by rw[HR.out,HF.out];rfl,HB0.out⟩
   have g4':(d.fU != f.fU)=false:=by simp only[bne,g4];rfl
   cases g5:(d.fF == f.fF)
   ·have g5':(d.fF != f.fF)=true:=by simp only[bne,g5];rfl
    have HF:=Lib.hid (show bn d f=false by simp[bn,g5])
    go_wp2_with fail
    go_ret
    exact⟨by rw[HR.out,HF.out];rfl,HB0.out⟩
   have g5':(d.fF != f.fF)=false:=by simp only[bne,g5];rfl
   cases g6:(d.fG == f.fG)
   ·have g6':(d.fG != f.fG)=true:=by simp only[bne,g6];rfl
    have HF:=Lib.hid (show bn d f=false by simp[bn,g6])
    go_wp2_with fail
    go_ret
    exact⟨by rw[HR.out,HF.out];rfl,HB0.out⟩
   have g6':(d.fG != f.fG)=false:=by simp only[bne,g6];rfl
   have HT:=Lib.hid (show(bH d.name f.name&&(gm bH d.aliases f.aliases&&((d.fails == f.fails)&&((d.eP == f.eP)&&((d.gq == f.gq)&&(gm bH d.targets f.targets&&gm bH d.aP f.aP))))))=bn d f by simp[bn,HK.out,HH.out,g0,g1,g2,g3,g4,g5,g6])
   clear HK HH
   go_wp2_with fail
   refine(ug r.parts t.parts d.name f.name _ (hd.name.later HB0.out) (hf.name.later HB0.out)).mono ?_
   rintro e w1 ⟨rfl,hk1⟩
   have hb1:=af hb0 hk1
   clear hk1 hcc ax hrr hsz0 hsz
   have HB1:=Lib.hid (af hB hb1)
   obtain⟨hcc,ax,hrr⟩:=aK hb1
   have hsz:w.heap.size+1<w1.heap.size:=by have:=hb1.size;simp at this;omega
   have hsz0:w.heap.size<w1.heap.size:=by omega
   cases q0:(bH d.name f.name)
   ·go_wp2_with fail
    go_ret
    exact⟨by rw[HR.out,←HT.out];simp[q0],HB1.out⟩
   go_wp2_with fail
   refine(Kq r.aliases.a t.aliases.a r.aliases.cap t.aliases.cap d.aliases f.aliases _ (hd.aliases.later HB1.out) (hf.aliases.later HB1.out)).mono ?_
   rintro e w2 ⟨rfl,hk2⟩
   have hb2:=af hb1 hk2
   clear hk2 hcc ax hrr hsz0 hsz
   have HB2:=Lib.hid (af hB hb2)
   obtain⟨hcc,ax,hrr⟩:=aK hb2
   have hsz:w.heap.size+1<w2.heap.size:=by have:=hb2.size;simp at this;omega
   have hsz0:w.heap.size<w2.heap.size:=by omega
   cases q1:(gm bH d.aliases f.aliases)
   ·go_wp2_with fail
    go_ret
    exact⟨by rw[HR.out,←HT.out];simp[q0,q1],HB2.out⟩
   cases q2:(d.fails == f.fails)
   ·go_wp2_with fail
    go_ret
    exact⟨by rw[HR.out,←HT.out];simp[q0,q1,q2],HB2.out⟩
   cases q3:(d.eP == f.eP)
   ·go_wp2_with fail
    go_ret
    exact⟨by rw[HR.out,←HT.out];simp[q0,q1,q2,q3],HB2.out⟩
   cases q4:(d.gq == f.gq)
   ·go_wp2_with fail
    go_ret
    exact⟨by rw[HR.out,←HT.out];simp[q0,q1,q2,q3,q4],HB2.out⟩
   go_wp2_with fail
   refine(Kq r.targets.a t.targets.a r.targets.cap t.targets.cap d.targets f.targets _ (hd.targets.later HB2.out) (hf.targets.later HB2.out)).mono ?_
   rintro e w3 ⟨rfl,hk3⟩
   have hb3:=af hb2 hk3
   clear hk3 hcc ax hrr hsz0 hsz
   have HB3:=Lib.hid (af hB hb3)
   obtain⟨hcc,ax,hrr⟩:=aK hb3
   have hsz:w.heap.size+1<w3.heap.size:=by have:=hb3.size;simp at this;omega
   have hsz0:w.heap.size<w3.heap.size:=by omega
   cases q5:(gm bH d.targets f.targets)
   ·go_wp2_with fail
    go_ret
    exact⟨by rw[HR.out,←HT.out];simp[q0,q1,q2,q3,q4,q5],HB3.out⟩
   go_wp2_with fail
   refine(Kq r.aP.a t.aP.a r.aP.cap t.aP.cap d.aP f.aP _ (hd.aP.later HB3.out) (hf.aP.later HB3.out)).mono ?_
   rintro e w4 ⟨rfl,hk4⟩
   have hb4:=af hb3 hk4
   clear hk4 hcc ax hrr hsz0 hsz
   have HB4:=Lib.hid (af hB hb4)
   obtain⟨hcc,ax,hrr⟩:=aK hb4
   have hsz:w.heap.size+1<w4.heap.size:=by have:=hb4.size;simp at this;omega
   have hsz0:w.heap.size<w4.heap.size:=by omega
   go_wp2_with fail
   go_ret
   exact⟨by rw[HR.out,←HT.out];simp[q0,q1,q2,q3,q4,q5],HB4.out⟩
theorem wR(x y:aT)(s t:Sl)(r q:aC)(w:World)(hx:dV w s r x)(hy:dV w t q y):Calls Tryz.prog 9 #[.agg (aH x s r),.agg (aH y t q)] w fun e w'=>e=.returned (.bool (bJ x y))∧Below w.heap.size w w':=by
 have hB:Below w.heap.size w ((w.alloc (.cells (aH x s r) 36)).alloc (.cells (aH y t q) 36)):=((Below.refl _ _).alloc (Nat.le_refl _) _).alloc (by simp) _
 have HB0:=Lib.hid hB
 obtain⟨R,hR⟩:∃R,R=bJ x y:=⟨_,rfl⟩
 rw[←hR]
 have HR:=Lib.hid hR
 clear hR
 unfold aH at *
 go_enter Tryz.func9,Tryz.ntmps9
 iterate 26 (first|go_values|go_skip|go_guarded|go_step|go_upon|go_in|go_back)
 cases h1:(x.i == y.i)
 ·try dsimp only
  first|go_values|go_step|go_upon
  refine dN 4 (by kernel_rfl) ?_
  intro a' y1 y2
  go_wp2_with fail
  refine bodyPost_ret (results_tmp (t:=4) (by rfl) _ _ _) y2 ?_
  exact⟨by rw[y1,HR.out,show bJ x y=false by unfold bJ;rw[h1];rfl],HB0.out⟩
 try dsimp only
 iterate 12 (first|go_values|go_skip|go_guarded|go_step|go_upon|go_in|go_back)
 cases h2:(x.t == y.t)
 ·try dsimp only
  first|go_values|go_step|go_upon
  refine dN 4 (by kernel_rfl) ?_
  intro a' y1 y2
  go_wp2_with fail
  refine bodyPost_ret (results_tmp (t:=4) (by rfl) _ _ _) y2 ?_
  exact⟨by rw[y1,HR.out,show bJ x y=false by unfold bJ;rw[h1,h2];rfl],HB0.out⟩
 try dsimp only
 iterate 14 (first|go_values|go_skip|go_guarded|go_step|go_upon|go_in|go_back)
 cases h3:(x.m == y.m)
 ·try dsimp only
  first|go_values|go_step|go_upon
  refine dN 4 (by kernel_rfl) ?_
  intro a' y1 y2
  go_wp2_with fail
  refine bodyPost_ret (results_tmp (t:=4) (by rfl) _ _ _) y2 ?_
  exact⟨by rw[y1,HR.out,show bJ x y=false by unfold bJ;rw[h1,h2,h3];rfl],HB0.out⟩
 try dsimp only
 iterate 14 (first|go_values|go_skip|go_guarded|go_step|go_upon|go_in|go_back)
 cases h4:(x.k == y.k)
 ·try dsimp only
  first|go_values|go_step|go_upon
  refine dN 4 (by kernel_rfl) ?_
  intro a' y1 y2
  go_wp2_with fail
  refine bodyPost_ret (results_tmp (t:=4) (by rfl) _ _ _) y2 ?_
  exact⟨by rw[y1,HR.out,show bJ x y=false by unfold bJ;rw[h1,h2,h3,h4];rfl],HB0.out⟩
 go_wp2_with fail
 refine(EU s t x.n y.n _ (hx.1.later HB0.out) (hy.1.later HB0.out)).mono ?_
 rintro e w1 ⟨rfl,hk1⟩
 have hb1:=hk1
 clear hk1
 have HB1:=Lib.hid (af hB hb1)
 obtain⟨hcc,ax,hrr⟩:=aK hb1
 have hsz1:w.heap.size+1<w1.heap.size:=by have:=hb1.size;simp at this;omega
 have hsz0:w.heap.size<w1.heap.size:=by omega
 cases h5:(bH x.n y.n)
 ·try dsimp only
  first|go_values|go_step|go_upon
  refine dN 4 (by kernel_rfl) ?_
  intro a' y1 y2
  go_wp2_with fail
  refine bodyPost_ret (results_tmp (t:=4) (by rfl) _ _ _) y2 ?_
  exact⟨by rw[y1,HR.out,show bJ x y=false by unfold bJ;rw[h1,h2,h3,h4,h5];rfl],HB1.out⟩
 go_wp2_with fail
 refine(aeN r q x.d y.d _ (hx.2.1.later HB1.out) (hy.2.1.later HB1.out)).mono ?_
 rintro e w2 ⟨rfl,hk2⟩
 have hb2:=af hb1 hk2
 clear hk2 hcc ax hrr hsz0 hsz1
 have HB2:=Lib.hid (af hB hb2)
 obtain⟨hcc,ax,hrr⟩:=aK hb2
 have hsz1:w.heap.size+1<w2.heap.size:=by have:=hb2.size;simp at this;omega
 have hsz0:w.heap.size<w2.heap.size:=by omega
 cases h6:(bn x.d y.d)
 ·try dsimp only
  first|go_values|go_step|go_upon
  refine dN 4 (by kernel_rfl) ?_
  intro a' y1 y2
  go_wp2_with fail
  refine bodyPost_ret (results_tmp (t:=4) (by rfl) _ _ _) y2 ?_
  exact⟨by rw[y1,HR.out,show bJ x y=false by unfold bJ;rw[h1,h2,h3,h4,h5,h6];rfl],HB2.out⟩
 try dsimp only
 iterate 16 (first|go_values|go_skip|go_guarded|go_step|go_upon|go_in|go_back)
 cases h7:(uK x.q y.q)
 ·try dsimp only
  first|go_values|go_step|go_upon
  refine dN 4 (by kernel_rfl) ?_
  intro a' y1 y2
  go_wp2_with fail
  refine bodyPost_ret (results_tmp (t:=4) (by rfl) _ _ _) y2 ?_
  exact⟨by rw[y1,HR.out,show bJ x y=false by unfold bJ;rw[h1,h2,h3,h4,h5,h6,h7];rfl],HB2.out⟩
 try dsimp only
 iterate 16 (first|go_values|go_skip|go_guarded|go_step|go_upon|go_in|go_back)
 cases h8:(x.pn.toList == y.pn.toList)
 ·try dsimp only
  first|go_values|go_step|go_upon
  refine dN 4 (by kernel_rfl) ?_
  intro a' y1 y2
  go_wp2_with fail
  refine bodyPost_ret (results_tmp (t:=4) (by rfl) _ _ _) y2 ?_
  exact⟨by rw[y1,HR.out,show bJ x y=false by unfold bJ;rw[h1,h2,h3,h4,h5,h6,h7,h8];rfl],HB2.out⟩
 try dsimp only
 iterate 16 (first|go_values|go_skip|go_guarded|go_step|go_upon|go_in|go_back)
 cases h9:(x.f == y.f)
 ·try dsimp only
  first|go_values|go_step|go_upon
  refine dN 4 (by kernel_rfl) ?_
  intro a' y1 y2
  go_wp2_with fail
  refine bodyPost_ret (results_tmp (t:=4) (by rfl) _ _ _) y2 ?_
  exact⟨by rw[y1,HR.out,show bJ x y=false by unfold bJ;rw[h1,h2,h3,h4,h5,h6,h7,h8,h9];rfl],HB2.out⟩
 try dsimp only
 iterate 16 (first|go_values|go_skip|go_guarded|go_step|go_upon|go_in|go_back)
 cases h10:(x.a == y.a)
 ·try dsimp only
  first|go_values|go_step|go_upon
  refine dN 4 (by kernel_rfl) ?_
  intro a' y1 y2
  go_wp2_with fail
  refine bodyPost_ret (results_tmp (t:=4) (by rfl) _ _ _) y2 ?_
  exact⟨by rw[y1,HR.out,show bJ x y=false by unfold bJ;rw[h1,h2,h3,h4,h5,h6,h7,h8,h9,h10];rfl],HB2.out⟩
 go_wp2_with fail
 go_ret
 exact⟨by rw[HR.out,show bJ x y=(x.b == y.b) by unfold bJ;rw[h1,h2,h3,h4,h5,h6,h7,h8,h9,h10];rfl];rfl,HB2.out⟩
theorem sF(x y:aT)(s t:Sl)(r q:aC)(w:World)(hx:dV w s r x)(hy:dV w t q y):Calls Tryz.prog 10 #[.agg (aH x s r),.agg (aH y t q)] w fun e w'=>e=.returned (.bool (bJ x y))∧Below w.heap.size w w':=by
 have hB:Below w.heap.size w ((w.alloc (.cells (aH x s r) 36)).alloc (.cells (aH y t q) 36)):=((Below.refl _ _).alloc (Nat.le_refl _) _).alloc (by simp) _
 have HB0:=Lib.hid hB
 obtain⟨R,hR⟩:∃R,R=bJ x y:=⟨_,rfl⟩
 rw[←hR]
 have HR:=Lib.hid hR
 clear hR
 unfold aH at *
 go_enter Tryz.func10,Tryz.ntmps10
 iterate 26 (first|go_values|go_skip|go_guarded|go_step|go_upon|go_in|go_back)
 cases h1:(x.i == y.i)
 ·try dsimp only
  first|go_values|go_step|go_upon
  refine dN 4 (by kernel_rfl) ?_
  intro a' y1 y2
  go_wp2_with fail
  refine bodyPost_ret (results_tmp (t:=4) (by rfl) _ _ _) y2 ?_
  exact⟨by rw[y1,HR.out,show bJ x y=false by unfold bJ;rw[h1];rfl],HB0.out⟩
 try dsimp only
 iterate 12 (first|go_values|go_skip|go_guarded|go_step|go_upon|go_in|go_back)
 cases h2:(x.t == y.t)
 ·try dsimp only
  first|go_values|go_step|go_upon
  refine dN 4 (by kernel_rfl) ?_
  intro a' y1 y2
  go_wp2_with fail
  refine bodyPost_ret (results_tmp (t:=4) (by rfl) _ _ _) y2 ?_
  exact⟨by rw[y1,HR.out,show bJ x y=false by unfold bJ;rw[h1,h2];rfl],HB0.out⟩
 try dsimp only
 iterate 14 (first|go_values|go_skip|go_guarded|go_step|go_upon|go_in|go_back)
 cases h3:(x.m == y.m)
 ·try dsimp only
  first|go_values|go_step|go_upon
  refine dN 4 (by kernel_rfl) ?_
  intro a' y1 y2
  go_wp2_with fail
  refine bodyPost_ret (results_tmp (t:=4) (by rfl) _ _ _) y2 ?_
  exact⟨by rw[y1,HR.out,show bJ x y=false by unfold bJ;rw[h1,h2,h3];rfl],HB0.out⟩
 try dsimp only
 iterate 14 (first|go_values|go_skip|go_guarded|go_step|go_upon|go_in|go_back)
 cases h4:(x.k == y.k)
 ·try dsimp only
  first|go_values|go_step|go_upon
  refine dN 4 (by kernel_rfl) ?_
  intro a' y1 y2
  go_wp2_with fail
  refine bodyPost_ret (results_tmp (t:=4) (by rfl) _ _ _) y2 ?_
  exact⟨by rw[y1,HR.out,show bJ x y=false by unfold bJ;rw[h1,h2,h3,h4];rfl],HB0.out⟩
 go_wp2_with fail
 refine(ug s t x.n y.n _ (hx.1.later HB0.out) (hy.1.later HB0.out)).mono ?_
 rintro e w1 ⟨rfl,hk1⟩
 have hb1:=hk1
 clear hk1
 have HB1:=Lib.hid (af hB hb1)
 obtain⟨hcc,ax,hrr⟩:=aK hb1
 have hsz1:w.heap.size+1<w1.heap.size:=by have:=hb1.size;simp at this;omega
 have hsz0:w.heap.size<w1.heap.size:=by omega
 cases h5:(bH x.n y.n)
 ·try dsimp only
  first|go_values|go_step|go_upon
  refine dN 4 (by kernel_rfl) ?_
  intro a' y1 y2
  go_wp2_with fail
  refine bodyPost_ret (results_tmp (t:=4) (by rfl) _ _ _) y2 ?_
  exact⟨by rw[y1,HR.out,show bJ x y=false by unfold bJ;rw[h1,h2,h3,h4,h5];rfl],HB1.out⟩
 go_wp2_with fail
 refine(aft r q x.d y.d _ (hx.2.1.later HB1.out) (hy.2.1.later HB1.out)).mono ?_
 rintro e w2 ⟨rfl,hk2⟩
 have hb2:=af hb1 hk2
 clear hk2 hcc ax hrr hsz0 hsz1
 have HB2:=Lib.hid (af hB hb2)
 obtain⟨hcc,ax,hrr⟩:=aK hb2
 have hsz1:w.heap.size+1<w2.heap.size:=by have:=hb2.size;simp at this;omega
 have hsz0:w.heap.size<w2.heap.size:=by omega
 cases h6:(bn x.d y.d)
 ·try dsimp only
  first|go_values|go_step|go_upon
  refine dN 4 (by kernel_rfl) ?_
  intro a' y1 y2
  go_wp2_with fail
  refine bodyPost_ret (results_tmp (t:=4) (by rfl) _ _ _) y2 ?_
  exact⟨by rw[y1,HR.out,show bJ x y=false by unfold bJ;rw[h1,h2,h3,h4,h5,h6];rfl],HB2.out⟩
 try dsimp only
 iterate 16 (first|go_values|go_skip|go_guarded|go_step|go_upon|go_in|go_back)
 cases h7:(uK x.q y.q)
 ·try dsimp only
  first|go_values|go_step|go_upon
  refine dN 4 (by kernel_rfl) ?_
  intro a' y1 y2
  go_wp2_with fail
  refine bodyPost_ret (results_tmp (t:=4) (by rfl) _ _ _) y2 ?_
  exact⟨by rw[y1,HR.out,show bJ x y=false by unfold bJ;rw[h1,h2,h3,h4,h5,h6,h7];rfl],HB2.out⟩
 try dsimp only
 iterate 16 (first|go_values|go_skip|go_guarded|go_step|go_upon|go_in|go_back)
 cases h8:(x.pn.toList == y.pn.toList)
 ·try dsimp only
  first|go_values|go_step|go_upon
  refine dN 4 (by kernel_rfl) ?_
  intro a' y1 y2
  go_wp2_with fail
  refine bodyPost_ret (results_tmp (t:=4) (by rfl) _ _ _) y2 ?_
  exact⟨by rw[y1,HR.out,show bJ x y=false by unfold bJ;rw[h1,h2,h3,h4,h5,h6,h7,h8];rfl],HB2.out⟩
 try dsimp only
 iterate 16 (first|go_values|go_skip|go_guarded|go_step|go_upon|go_in|go_back)
 cases h9:(x.f == y.f)
 ·try dsimp only
  first|go_values|go_step|go_upon
  refine dN 4 (by kernel_rfl) ?_
  intro a' y1 y2
  go_wp2_with fail
  refine bodyPost_ret (results_tmp (t:=4) (by rfl) _ _ _) y2 ?_
  exact⟨by rw[y1,HR.out,show bJ x y=false by unfold bJ;rw[h1,h2,h3,h4,h5,h6,h7,h8,h9];rfl],HB2.out⟩
 try dsimp only
 iterate 16 (first|go_values|go_skip|go_guarded|go_step|go_upon|go_in|go_back)
 cases h10:(x.a == y.a)
 ·try dsimp only
  first|go_values|go_step|go_upon
  refine dN 4 (by kernel_rfl) ?_
  intro a' y1 y2
  go_wp2_with fail
  refine bodyPost_ret (results_tmp (t:=4) (by rfl) _ _ _) y2 ?_
  exact⟨by rw[y1,HR.out,show bJ x y=false by unfold bJ;rw[h1,h2,h3,h4,h5,h6,h7,h8,h9,h10];rfl],HB2.out⟩
 go_wp2_with fail
 go_ret
 exact⟨by rw[HR.out,show bJ x y=(x.b == y.b) by unfold bJ;rw[h1,h2,h3,h4,h5,h6,h7,h8,h9,h10];rfl];rfl,HB2.out⟩
theorem lq(v lo hi:Int)(w:World):Calls Tryz.prog 27 #[.int .i64 v,.int .i64 lo,.int .i64 hi] w fun e w'=>e=.returned (.bool (ag v lo hi))∧w=w':=by
 go_enter Tryz.func27,Tryz.ntmps27
 go_wp2
 all_goals go_ret
 all_goals exact⟨by first|(simp[ag, *];done)|(simp[ag];omega),rfl⟩
theorem mW(v:Int)(w:World):Calls Tryz.prog 28 #[.int .i64 v] w fun e w'=>e=.returned (.bool (ag v 0 1099511627776))∧w=w':=by
 go_enter Tryz.func28,Tryz.ntmps28
 go_wp2_with (go_at_call 27;refine(lq _ _ _ _).mono ?_;rintro e w' ⟨rfl,rfl⟩)
 go_ret
 exact⟨rfl,rfl⟩
theorem kN(v:Int)(w:World):Calls Tryz.prog 33 #[.int .i64 v] w fun e w'=>e=.returned (.bool (ag v 0 1099511627776))∧w=w':=by
 go_enter Tryz.func33,Tryz.ntmps33
 go_wp2
 all_goals go_ret
 all_goals exact⟨by first|(simp[ag, *];done)|(simp[ag];omega),rfl⟩
theorem afw(s:ByteArray)(w:World)(hs:s.size≤maxLen):Calls Tryz.prog 32 #[.string s] w fun e w'=>e=.returned (.bool (eQ s))∧w=w':=by
 unfold maxLen at hs
 go_enter Tryz.func32,Tryz.ntmps32
 go_wp2
 go_loop [6] (fun i=>∃k:Nat,k≤s.size∧i=.int .i64 k∧Hid ((s.data.toList.take k).all kW=true)) (fun i=>s.size-(intOf i).toNat)
 case atStart=>exact⟨0,Nat.zero_le _,rfl,by simp[Hid]⟩
 case round=>
  obtain⟨k,hk,rfl,hall⟩:=hrel
  by_cases hlt:k<s.size
  ·go_wp2
   all_goals first
    |(go_ret;exact⟨by rw[show eQ s=false from by rw[eQ,show visible s=false from vT s k hlt (by simp[kW];omega)];rfl];rfl,rfl⟩)
    |(go_round
      case rel=>exact⟨k+1,by omega,by go_num,lL s k hlt hall.out (by simp[kW];omega)⟩
      case measure=>simp[intOf];omega)
  ·go_wp2_with (go_at_call 27;refine(lq _ _ _ _).mono ?_;rintro e w' ⟨rfl,rfl⟩)
   go_ret
   exact⟨by rw[show eQ s=sized s from by rw[eQ,show visible s=true from vU s k (by omega) hall.out];rfl];rfl,rfl⟩
theorem afx(s:ByteArray)(w:World)(hs:s.size≤maxLen):Calls Tryz.prog 38 #[.string s] w fun e w'=>e=.returned (.bool (eQ s))∧w=w':=by
 unfold maxLen at hs
 go_enter Tryz.func38,Tryz.ntmps38
 go_wp2
 go_loop [3] (fun i=>∃k:Nat,k≤s.size∧i=.int .i64 k∧Hid ((s.data.toList.take k).all kW=true)) (fun i=>s.size-(intOf i).toNat)
 case atStart=>exact⟨0,Nat.zero_le _,rfl,by simp[Hid]⟩
 case round=>
  obtain⟨k,hk,rfl,hall⟩:=hrel
  by_cases hlt:k<s.size
  ·go_wp2
   all_goals first
    |(go_ret;exact⟨by rw[show eQ s=false from by rw[eQ,show visible s=false from vT s k hlt (by simp[kW];omega)];rfl];rfl,rfl⟩)
    |(go_round
      case rel=>exact⟨k+1,by omega,by go_num,lL s k hlt hall.out (by simp[kW];omega)⟩
      case measure=>simp[intOf];omega)
  ·have HS:=Lib.hid (show eQ s=sized s from by rw[eQ,show visible s=true from vU s k (by omega) hall.out];rfl)
   clear hall
   go_wp2
   all_goals go_ret
   all_goals exact⟨by rw[HS.out];first|(simp[sized, *];done)|(simp[sized];omega),rfl⟩
end Go.Proofs.YtibhckkjciflaaaGreatDoor
namespace Go.WW
structure amP{α:Type}(c:α→α→Int):Prop where
 zero:∀a b,c a b=0↔a=b
 amQ:∀a b,c b a=- c a b
 trans:∀a b d,c a b<0→c b d<0→c a d<0
def uM(a b:ByteArray):Int:=if Op.bytesLess a.toList b.toList then -1 else if Op.bytesLess b.toList a.toList then 1 else 0
theorem toList_inj{a b:ByteArray}(h:a.toList=b.toList):a=b:=by
 rw[ByteArray.toList_eq,ByteArray.toList_eq]at h;exact WideShapes.bytes_inj h
def cmpL{α:Type}(c:α→α→Int):List α→List α→Int
 | [],[]=>0
 | [],_::_=>-1
 |_::_,[]=>1
 |a::x,b::y=>if c a b=0 then cmpL c x y else c a b
def afy:List ByteArray→List ByteArray→Int:=cmpL uM
def amR(p q:aG):Int:=if uM p.aQ q.aQ=0 then afy p.parts q.parts else uM p.aQ q.aQ
section
variable {α β:Type} {c:β→β→Int} (k:α→β)
def Sorted(c:β→β→Int)(k:α→β)(l:List α):Prop:=l.Pairwise fun a b=>c (k a) (k b)<0
def afz(c:β→β→Int)(k:α→β)(e:α):List α→List α
 | []=>[e]
 |d::l=>if c (k e) (k d)<0 then e::d::l else d::afz c k e l
end
end Go.WW
namespace Go.WW
open Go.RowKit
structure But(S:Nat→Prop)(w w':World):Prop where
 os:w'.os=w.os
 tape:w'.tape=w.tape
 output:w'.output=w.output
 size:w.heap.size≤w'.heap.size
 block:∀k,k<w.heap.size→¬S k→w'.heap[k]?=w.heap[k]?
theorem But.refl(S:Nat→Prop)(w:World):But S w w:=⟨rfl,rfl,rfl,Nat.le_refl _,fun _ _ _=>rfl⟩
theorem But.trans{S:Nat→Prop}{a b c:World}(h:But S a b)(k:But S b c):But S a c:=
 ⟨k.os.trans h.os,k.tape.trans h.tape,k.output.trans h.output,Nat.le_trans h.size k.size,fun i hi hS=>(k.block i (Nat.lt_of_lt_of_le hi h.size) hS).trans (h.block i hi hS)⟩
theorem But.of_below{S:Nat→Prop}{w w':World}(h:Below w.heap.size w w'):But S w w':=⟨h.os,h.tape,h.output,h.size,fun k hk _=>h.block k hk⟩
theorem But.mono{S S':Nat→Prop}{w w':World}(h:But S w w')(hS:∀k,S k→S' k):But S' w w':=⟨h.os,h.tape,h.output,h.size,fun k hk hn=>h.block k hk (fun x=>hn (hS k x))⟩
theorem But.below{S:Nat→Prop}{w w':World}{n:Nat}(h:But S w w')(hn:n≤w.heap.size)(hS:∀k,S k→n≤k):Below n w w':=
 ⟨h.os,h.tape,h.output,h.size,fun k hk=>h.block k (Nat.lt_of_lt_of_le hk hn) (fun x=>absurd (hS k x) (by omega))⟩
structure TZ(es:Array MapEntry)(clock:Nat)(m:List (ByteArray×Value)):Prop where
 afA:es.toList.map (fun e=>(e.key,e.val))=m.map (fun x=>(Value.string x.1,x.2))
 keys:(m.map (·.1)).Nodup
 born:∀e∈es.toList,e.born<clock
 once:(es.toList.map (·.born)).Nodup
def MapOf(w:World)(b:Nat)(m:List (ByteArray×Value)):Prop:=∃es clock,w.heap[b]?=some (.map es clock)∧TZ es clock m
theorem MapOf.at{w w':World}{b:Nat}{m:List (ByteArray×Value)}(h:MapOf w b m)(e:w'.heap[b]?=w.heap[b]?):MapOf w' b m:=by
 obtain⟨es,clock,h1,h2⟩:=h
 exact⟨es,clock,e.trans h1,h2⟩
theorem MapOf.lt{w:World}{b:Nat}{m:List (ByteArray×Value)}(h:MapOf w b m):b<w.heap.size:=by
 obtain⟨es,clock,h1,_⟩:=h
 exact(Array.getElem?_eq_some_iff.1 h1).1
section
variable {P:Program} {w:World} {mty kt et:TypeId} {b:Nat} {m:List (ByteArray×Value)} {k:ByteArray}
def hasK(m:List (ByteArray×Value))(k:ByteArray):Bool:=m.any fun x=>decide (x.1=k)
def amS(m:List (ByteArray×Value))(k:ByteArray)(v:Value):List (ByteArray×Value):=if hasK m k=true then m.map (fun x=>if x.1=k then(k,v)else x)else m++[(k,v)]
def amT(m:List (ByteArray×Value))(k:ByteArray):List (ByteArray×Value):=m.filter fun x=>decide (x.1≠k)
theorem MapOf.len(h:MapOf w b m):∃es clock,w.heap[b]?=some (.map es clock)∧es.size=m.length:=by
 obtain⟨es,clock,hb,hr⟩:=h
 have h2:=congrArg List.length hr.afA
 simp only[List.length_map,Array.length_toList]at h2
 exact⟨es,clock,hb,h2⟩
end
end Go.WW
namespace Go.WW
open Go.RowKit
def wS(w:World)(i b:Nat)(m left:List (ByteArray×Value)):Prop:=
 ∃es clock seen c0,w.heap[i]?=some (.mapIter (some b) clock seen c0)∧w.heap[b]?=some (.map es clock)∧TZ es clock m∧clock≤c0∧(leftOf es seen).toList.map (fun e=>(e.key,e.val))=left.map (fun x=>(Value.string x.1,x.2))
theorem wS.map{w:World}{i b:Nat}{m left:List (ByteArray×Value)}(h:wS w i b m left):MapOf w b m:=by
 obtain⟨es,clock,seen,c0,h1,h2,h3,h4⟩:=h
 exact⟨es,clock,h2,h3⟩
theorem wS.at{w w':World}{i b:Nat}{m left:List (ByteArray×Value)}(h:wS w i b m left)(e:w'.heap[i]?=w.heap[i]?)(e':w'.heap[b]?=w.heap[b]?):wS w' i b m left:=by
 obtain⟨es,clock,seen,c0,h1,h2,h3,h4⟩:=h
 exact⟨es,clock,seen,c0,e.trans h1,e'.trans h2,h3,h4⟩
theorem wS.lt{w:World}{i b:Nat}{m left:List (ByteArray×Value)}(h:wS w i b m left):i<w.heap.size:=by
 obtain⟨es,clock,seen,c0,h1,h2,h3,h4⟩:=h
 exact(Array.getElem?_eq_some_iff.1 h1).1
section
variable {P:Program} {w:World} {i b:Nat} {m left:List (ByteArray×Value)}
end
end Go.WW
namespace Go.WW
open Go.RowKit
theorem But.drew{S:Nat→Prop}{a w:World}(h:But S a w):But S a w.drew:=⟨h.os,h.tape,h.output,h.size,h.block⟩
theorem But.cell{S:Nat→Prop}{w w':World}(h:But S w w'){b o:Nat}(hb:b<w.heap.size)(hn:¬S b):w'.cell? ⟨b,o,none⟩=w.cell? ⟨b,o,none⟩:=World.cell?_of_block (a:=⟨b,o,none⟩) (h.block b hb hn)
section
variable {P:Program} {ops:Array Oper} {S:World→Prop} {Q:Act→World→Prop}
def pM(o:Oper):Bool:=looks o || (match o.op with | .nilCheck _=>true|_=>false)
theorem afB{o:Oper}(h:pM o=true)(ρ:Operand→Value)(w:World):(∃v w',(execOp ρ o).run P w=.ok (.value v) w')∨∃h w',(execOp ρ o).run P w=.halt h w':=by
 cases hl:looks o
 ·obtain⟨dst,op,type,pos,after,guard⟩:=o
  unfold pM at h
  rw[hl]at h
  cases op<;>simp at h
  case nilCheck x=>
   simp only[execOp]
   split
   ·exact .inr ⟨_,_,rfl⟩
   ·exact .inr ⟨_,_,rfl⟩
   ·exact .inr ⟨_,_,rfl⟩
   ·split
    ·exact .inr ⟨_,_,rfl⟩
    ·simp only[Sem.run_bind]
     cases (program).run P w with
     |halt h w'=>exact .inr ⟨h,w',by simp⟩
     |ok p w1=>
      dsimp only[Result.andThen]
      cases (nilAhead (p.types.size+Made.depth) _ _ _).run P w1 with
      |halt h w'=>exact .inr ⟨h,w',by simp⟩
      |ok c w2=>
       dsimp only[Result.andThen]
       split
       ·exact .inr ⟨_,_,rfl⟩
       ·exact .inl ⟨_,_,rfl⟩
    ·exact .inl ⟨_,_,rfl⟩
   ·exact .inl ⟨_,_,rfl⟩
 ·exact Iw hl ρ w
theorem wU{o:Oper}{rest:List Oper}{a:Act}{w:World}(hw:Region.wanted o (yielded ops a.tmps)=true)(hs:pM o=true)
  (h:∀K:Act→Prop,(∀a',bu P ops pM S Q rest a' w→K a')→o.quiet P a S K):bu P ops pM S Q (o::rest) a w:=by
 rw[iG,if_pos hw,if_pos hs]
 obtain⟨v,hv,hh⟩:=h _ (fun _ x=>x)
 refine⟨v,fun w' hw'=>?_,hh⟩
 have:=hv w' hw'
 unfold Oper.quietAt at this
 rcases afB (P:=P) hs a.eval w' with⟨u,w'',e⟩|⟨x,w'',e⟩
 ·rw[e]at this ⊢
  obtain⟨rfl,rfl⟩:=this
  rfl
 ·rw[e]at this
  exact this.elim
theorem wV{o:Oper}{rest:List Oper}{a:Act}{w:World}(hw:Region.wanted o (yielded ops a.tmps)=true)(hs:pM o=false)
  (h:∀K:Act→World→Prop,(∀a' w',S w'→bu P ops pM S Q rest a' w'→K a' w')→o.wp P a w K never):bu P ops pM S Q (o::rest) a w:=by
 rw[iG,if_pos hw,if_neg (by simp[hs])]
 exact h _ (fun _ _ x y=>⟨x,y⟩)
end
structure sG(S:Nat→Prop)(W:World) where
 w:World
 b:But S W w
instance {S:Nat→Prop} {W:World}:Nonempty (sG S W):=⟨⟨W,But.refl _ _⟩⟩
section
variable {S:Nat→Prop} {W:World} (x:sG S W) (b o:Nat) (h:b<W.heap.size) (hn:¬S b)
include h hn
theorem sG.cell:x.w.cell? ⟨b,o,none⟩=W.cell? ⟨b,o,none⟩:=x.b.cell h hn
theorem sG.frozen:x.w.frozen? ⟨b,o,none⟩=W.frozen? ⟨b,o,none⟩:=by
 have:=x.b.block b h hn
 simp[World.frozen?,this]
theorem sG.row(n:Nat):row? x.w b o n=row? W b o n:=tJ (x.b.block b h hn) o n
end
attribute [go_sem] sG.cell sG.frozen sG.row
abbrev Kr(S:Nat→Prop)(w:World):World→Prop:=fun w'=>∃x:sG S w,w'=x.w
theorem Ua{P:Program}{id:Nat}{Q':Exit→Act→World→Prop}{a:Act}{W w:World}{l:List Oper}(S:Nat→Prop)(hW:But S W w)(hm:P.follows .mixedOrders=true)(hB:Ah pM l.toArray=true)
  (h:bu P l.toArray pM (Kr S W) (fun a' w'=>Q' .normal a' w') l a w.drew):(Code.region id l.toArray true).wp P Q' a w:=
 D6 (Kr S W) pM hm hB ⟨⟨w.drew,hW.drew⟩,rfl⟩ h
theorem wW{S:Nat→Prop}{W w:World}(h:But S W w):Kr S W w:=⟨⟨w,h⟩,rfl⟩
def one(p:Nat):Nat→Prop:=fun k=>k=p
theorem Kt{p k:Nat}(h:k≠p):¬one p k:=h
end Go.WW
namespace Go.WW
open Go.RowKit
structure afC(M:World→Prop)(w:World):Prop where
 out:M w
theorem bK{c:Code}{P:Program}{Q:Exit→Act→World→Prop}{a:Act}{w:World}(M:World→Prop)(F:Act)
  (h1:c.wp P (fun e a' w'=>e=.normal∧a'=F∧afC M w') a w) (h2:∀w',M w'→Q .normal F w'):c.wp P Q a w:=by
 refine wp_mono h1 ?_
 rintro e a' w' ⟨rfl,rfl,h⟩
 exact h2 w' h.out
end Go.WW
