/- A part of the proof. -/
import Derived.Test.YtfieenjdcpjmgaaGreatDoorA21
import Derived.Test.YtfieenjdcpjmgaaGreatDoorA11
import Derived.Test.YtfieenjdcpjmgaaGreatDoorA09
import Derived.Test.YtfieenjdcpjmgaaGreatDoorA02
import Derived.Test.YtfieenjdcpjmgaaGreatDoorA14
import Derived.Test.YtfieenjdcpjmgaaGreatDoorA20
set_option maxRecDepth 100000
set_option maxHeartbeats 16000000
namespace Go.WW
open Go.RowKit
theorem yY{P:Program}{o:Oper}{a:Act}{w:World}{K:Act→World→Prop}{Q:Exit→Act→World→Prop}(x y:Operand)(t:TypeId)(ho:o.op=.call {callee:=.builtin .append,args:=#[x,y],argTypes:=#[t,t]})
  {e:TypeId} {k bytes:Nat} (he:fQ P t e k bytes) {base:Nat} {s:Sl} {n:Nat} {rows:List (Array Value)} (hx:a.eval x=.slice s.a n s.cap) (hn:n=rows.length) (h:Own w base e k s rows) {A:Option Addr} {news:List (Array Value)} {m c:Nat}
  (hy:a.eval y=.slice A m c) (hm:m=news.length) (hs:cO w k A news) (hlen:(rows.length+news.length)*(bytes+1)≤140737488355328) (hbase:base≤w.heap.size)
  (hK:∀(s':Sl) w',Own w' base e k s' (rows++news)→w.grownBy w' s.blk→(s'.blk=s.blk∨s'.blk=some w.heap.size)→K (a.put o.dst (.slice s'.a (n+m) s'.cap)) w'):o.wp P a w K Q:=by
 subst hn hm
 exact JL x y t ho he hx h hy rfl hs hlen hbase hK
theorem iU.src{w:World}{a:Option Addr}{L:List ah}(h:iU w a L):cO w 10 a (L.map aG):=
 ⟨fun r hr=>by obtain⟨x,_,rfl⟩:=List.mem_map.1 hr;exact zV _,fun r hr=>by obtain⟨x,_,rfl⟩:=List.mem_map.1 hr;exact Qx _,fun i hi=>by
  obtain⟨b,o,ha,hr,-⟩:=iU.get h i (by simpa using hi)
  exact⟨b,o,ha,by rw[hr,List.getElem_map]⟩⟩
theorem cO.take{w:World}{k:Nat}{A:Option Addr}{rows:List (Array Value)}(h:cO w k A rows)(n:Nat):cO w k A (rows.take n):=
 ⟨fun r hr=>h.size r (List.mem_of_mem_take hr),fun r hr=>h.one r (List.mem_of_mem_take hr),fun i hi=>by
  have hi':i<rows.length:=by simp at hi;omega
  obtain⟨b,o,ha,hr⟩:=h.at_ i hi'
  exact⟨b,o,ha,by rw[hr,List.getElem_take]⟩⟩
theorem cO.drop{w:World}{k b o:Nat}{rows:List (Array Value)}(h:cO w k (some ⟨b,o,none⟩) rows)(n:Nat):cO w k (some ⟨b,o+n*k,none⟩) (rows.drop n):=
 ⟨fun r hr=>h.size r (List.mem_of_mem_drop hr),fun r hr=>h.one r (List.mem_of_mem_drop hr),fun i hi=>by
  have hi':n+i<rows.length:=by simp at hi;omega
  obtain⟨b',o',ha,hr⟩:=h.at_ (n+i) hi'
  cases ha
  exact⟨b,o+n*k,rfl,by rw[Nat.add_assoc,←Nat.add_mul,hr,List.getElem_drop]⟩⟩
theorem cO.tail{w:World}{a:Option Addr}{pb po:Nat}{rows:List (Array Value)}(h:cO w 10 a rows)(ha:a=some ⟨pb,po,none⟩)(cap n:Nat)(hc:rows.length≤cap):cO w 10 (if cap=n then a else Option.map (fun x=>x.add (n*10)) a) (rows.drop n):=by
 subst ha
 by_cases e:cap=n
 ·rw[List.drop_of_length_le (by omega)]
  exact⟨by simp,by simp,fun i hi=>absurd hi (Nat.not_lt_zero _)⟩
 ·rw[if_neg e]
  have hadd:(⟨pb,po,none⟩:Addr).add (n*10)=⟨pb,po+n*10,none⟩:=by unfold Addr.add;split<;>simp_all
  rw[Option.map_some,hadd]
  exact h.drop n
theorem jy.aO{w:World}{b o:Nat}{l:List Entry}(x:jy w (some ⟨b,o,none⟩) l)(i:Nat)(h:i<l.length):w.cell? ⟨b,o+i*17+6,none⟩=some (.string l[i].aO):=by
 obtain⟨r,hr,-⟩:=jy.at x i h
 have:=gJ hr 6 (by omega)
 rw[Jq]at this
 exact this
end Go.WW
namespace Go.Proofs.YtfieenjdcpjmgaaGreatDoor
open Go.RowKit Go.WW
theorem ajL(e q:Sl)(D:Db)(k:ByteArray)(w:World)(hp:iU w q.a D.ax)(hi:idxOf (fun z=>decide (z.name=k)) D.ax=-1):Calls Tryz.prog 40 #[.agg (au e q D),.string k] w fun x w'=>x=.returned (.tuple #[.agg (au e q D),.int .i64 9])∧Below w.heap.size w w':=by
 have hB:Below w.heap.size w ((w.alloc (.cells (au e q D) 32)).alloc (.cells #[.string ⟨#[]⟩,.int .i64 0,.slice none 0 0,.slice none 0 0] 32)):=((Below.refl _ _).alloc (Nat.le_refl _) _).alloc (by simp) _
 have hx2:((w.alloc (.cells (au e q D) 32)).alloc (.cells #[.string ⟨#[]⟩,.int .i64 0,.slice none 0 0,.slice none 0 0] 32)).heap[w.heap.size]?=some (.cells (au e q D) 32):=jQ w _ _
 have hz:aQ ((w.alloc (.cells (au e q D) 32)).alloc (.cells #[.string ⟨#[]⟩,.int .i64 0,.slice none 0 0,.slice none 0 0] 32)) (w.heap.size+1) 0 4=true:=by simp[go_sem]
 have hW:((w.alloc (.cells (au e q D) 32)).alloc (.cells #[.string ⟨#[]⟩,.int .i64 0,.slice none 0 0,.slice none 0 0] 32)).heap.size=w.heap.size+1+1:=by simp
 go_enter Tryz.func40,Tryz.ntmps40
 go_wp2_with fail
 generalize ((w.alloc (.cells (au e q D) 32)).alloc (.cells #[.string ⟨#[]⟩,.int .i64 0,.slice none 0 0,.slice none 0 0] 32))=W at *
 refine(Ak _ _ _ _ _ (hp.later hB)).mono ?_
 rintro x w1 ⟨rfl,hb1⟩
 rw[hi]
 have hs1':=hb1.size
 obtain⟨hc,hf,hr,hlt⟩:=aC (aJ hb1 hx2)
 dsimp only
 have hlt4:w.heap.size+1<w1.heap.size:=by have:=hb1.size;omega
 have hz1:=(gI hb1 (w.heap.size+1) 0 4 (by omega)).trans hz
 have hne:w.heap.size+1≠w.heap.size:=by omega
 go_wp2_with fail
 have hrow:=iT (w:=w1) (jH e q D) hz1
 exact bodyPost_ret (kQ (by rfl) Tryz.underlying32 rfl (by kernel_rfl) rfl hrow) rfl ⟨rfl,Go.WW.Below.putRow (ag hB hb1) (by omega)⟩
theorem ajM(e q:Sl)(D:Db)(k:ByteArray)(w:World)(hp:iU w q.a D.ax)(jp:Nat)(hi:idxOf (fun z=>decide (z.name=k)) D.ax=(jp:Int))(hE:jy w e.a D.entries)(j:Nat)(hj:j<D.entries.length)(hjk:D.entries[j].aO=k)(hpre:∀i (h:i<D.entries.length),i<j→¬D.entries[i].aO=k):Calls Tryz.prog 40 #[.agg (au e q D),.string k] w fun x w'=>x=.returned (.tuple #[.agg (au e q D),.int .i64 11])∧Below w.heap.size w w':=by
 have hEl:D.entries.length≤4294967000:=hE.1
 rcases aV.addr hE with h0|⟨b,oo,ha,hb⟩
 ·omega
 have hB:Below w.heap.size w ((w.alloc (.cells (au e q D) 32)).alloc (.cells #[.string ⟨#[]⟩,.int .i64 0,.slice none 0 0,.slice none 0 0] 32)):=((Below.refl _ _).alloc (Nat.le_refl _) _).alloc (by simp) _
 have hx2:((w.alloc (.cells (au e q D) 32)).alloc (.cells #[.string ⟨#[]⟩,.int .i64 0,.slice none 0 0,.slice none 0 0] 32)).heap[w.heap.size]?=some (.cells (au e q D) 32):=jQ w _ _
 have hz:aQ ((w.alloc (.cells (au e q D) 32)).alloc (.cells #[.string ⟨#[]⟩,.int .i64 0,.slice none 0 0,.slice none 0 0] 32)) (w.heap.size+1) 0 4=true:=by simp[go_sem]
 have hW:((w.alloc (.cells (au e q D) 32)).alloc (.cells #[.string ⟨#[]⟩,.int .i64 0,.slice none 0 0,.slice none 0 0] 32)).heap.size=w.heap.size+1+1:=by simp
 go_enter Tryz.func40,Tryz.ntmps40
 go_wp2_with fail
 generalize ((w.alloc (.cells (au e q D) 32)).alloc (.cells #[.string ⟨#[]⟩,.int .i64 0,.slice none 0 0,.slice none 0 0] 32))=W at *
 refine(Ak _ _ _ _ _ (hp.later hB)).mono ?_
 rintro x w1 ⟨rfl,hb1⟩
 rw[hi]
 have hs1':=hb1.size
 obtain⟨hc,hf,hr,hlt⟩:=aC (aJ hb1 hx2)
 dsimp only
 have Hf:¬(jp:Int)<0:=by omega
 go_wp2_with fail
 go_loop [7] (fun iv=>∃i:Nat,i≤j∧iv=.int .i64 i) (fun iv=>j-(intOf iv).toNat)
 case atStart=>exact⟨0,Nat.zero_le _,rfl⟩
 case round=>
  obtain⟨i,hi',rfl⟩:=hrel
  have hB1:=ag hB hb1
  rw[ha]at hE
  have hil:i<D.entries.length:=by omega
  have hcell:=(hB1.cell (p:=⟨b,oo+i*17+6,none⟩) hb).trans (jy.aO hE i hil)
  have hii:(i:Int)<(D.entries.length:Int):=by omega
  have hbw:b<w1.heap.size:=Nat.lt_of_lt_of_le hb hB1.size
  have hc2:=(hc 2).trans (J9 e q D)
  rw[ha]at hc2
  by_cases hlt':i<j
  ·have hne':=kY _ _ (hpre i hil hlt')
   go_wp2_with fail
   go_round
   case rel=>exact⟨i+1,by omega,by go_num⟩
   case measure=>simp[intOf];omega
  ·obtain rfl:i=j:=by omega
   have heq':=str_eq _ _ hjk
   have hlt4:w.heap.size+1<w1.heap.size:=by have:=hb1.size;omega
   have hz1:=(gI hb1 (w.heap.size+1) 0 4 (by omega)).trans hz
   have hne:w.heap.size+1≠w.heap.size:=by omega
   go_wp2_with fail
   have hrow:=iT (w:=w1) (jH e q D) hz1
   exact bodyPost_ret (kQ (by rfl) Tryz.underlying32 rfl (by kernel_rfl) rfl hrow) rfl ⟨rfl,Go.WW.Below.putRow (ag hB hb1) (by omega)⟩
theorem ajN(e q:Sl)(D:Db)(k:ByteArray)(w:World)(hp:iU w q.a D.ax)(jp:Nat)(hi:idxOf (fun z=>decide (z.name=k)) D.ax=(jp:Int))(hE:jy w e.a D.entries)(hn:∀i (h:i<D.entries.length),¬D.entries[i].aO=k)(hjp:jp<D.ax.length)(hcap:D.ax.length≤q.cap)(hs0:0≤D.ay)(hs1:D.ay<1000000):Calls Tryz.prog 40 #[.agg (au e q D),.string k] w (LH e {D with ax:=D.ax.eraseIdx jp,ay:=D.ay+1} 0 w):=by
 have hEl:D.entries.length≤4294967000:=hE.1
 rcases aV.addr hp with h0|⟨pb,po,hpa,hpb⟩
 ·omega
 have WM:=Lib.hid hpa
 clear hpa
 have hB:Below w.heap.size w ((w.alloc (.cells (au e q D) 32)).alloc (.cells #[.string ⟨#[]⟩,.int .i64 0,.slice none 0 0,.slice none 0 0] 32)):=((Below.refl _ _).alloc (Nat.le_refl _) _).alloc (by simp) _
 have hx2:((w.alloc (.cells (au e q D) 32)).alloc (.cells #[.string ⟨#[]⟩,.int .i64 0,.slice none 0 0,.slice none 0 0] 32)).heap[w.heap.size]?=some (.cells (au e q D) 32):=jQ w _ _
 have hz:aQ ((w.alloc (.cells (au e q D) 32)).alloc (.cells #[.string ⟨#[]⟩,.int .i64 0,.slice none 0 0,.slice none 0 0] 32)) (w.heap.size+1) 0 4=true:=by simp[go_sem]
 have hW:((w.alloc (.cells (au e q D) 32)).alloc (.cells #[.string ⟨#[]⟩,.int .i64 0,.slice none 0 0,.slice none 0 0] 32)).heap.size=w.heap.size+1+1:=by simp
 go_enter Tryz.func40,Tryz.ntmps40
 go_wp2_with fail
 generalize ((w.alloc (.cells (au e q D) 32)).alloc (.cells #[.string ⟨#[]⟩,.int .i64 0,.slice none 0 0,.slice none 0 0] 32))=W at *
 refine(Ak _ _ _ _ _ (hp.later hB)).mono ?_
 rintro x w1 ⟨rfl,hb1⟩
 rw[hi]
 have hs1':=hb1.size
 obtain⟨hc,hf,hr,hlt⟩:=aC (aJ hb1 hx2)
 dsimp only
 have Hf:¬(jp:Int)<0:=by omega
 go_wp2_with fail
 go_loop [7] (fun iv=>∃i:Nat,i≤D.entries.length∧iv=.int .i64 i) (fun iv=>D.entries.length-(intOf iv).toNat)
 case atStart=>exact⟨0,Nat.zero_le _,rfl⟩
 case round=>
  obtain⟨i,hi',rfl⟩:=hrel
  have hB1:=ag hB hb1
  by_cases hlt':i<D.entries.length
  ·have hne':=kY _ _ (hn i hlt')
   obtain⟨b,oo,ha,hb⟩:∃b o,e.a=some ⟨b,o,none⟩∧b<w.heap.size:=by rcases aV.addr hE with h0|h0;omega;exact h0
   rw[ha]at hE
   have hcell:=(hB1.cell (p:=⟨b,oo+i*17+6,none⟩) hb).trans (jy.aO hE i hlt')
   have hii:(i:Int)<(D.entries.length:Int):=by omega
   have hbw:b<w1.heap.size:=Nat.lt_of_lt_of_le hb hB1.size
   have hc2:=(hc 2).trans (J9 e q D)
   rw[ha]at hc2
   go_wp2_with fail
   go_round
   case rel=>exact⟨i+1,by omega,by go_num⟩
   case measure=>simp[intOf];omega
  ·obtain rfl:i=D.entries.length:=by omega
   have hc3:=(hc 3).trans (Tz e q D)
   rw[WM.out]at hc3
   have hg1:(jp:Int)≤(q.cap:Int):=by omega
   have hg2:(jp:Int)+1≤(D.ax.length:Int):=by omega
   have hg3:(D.ax.length:Int)≤(q.cap:Int):=by omega
   have iP:=Lib.hid ((hp.later (ag hB1 (aj (Below.refl _ w1).drew (.cells #[] 50)))).src.take jp)
   have HO:=Lib.hid (Own.empty w1.drew 50 10)
   have hpl:D.ax.length≤4294967000:=hp.1
   go_wp2_with fail
   refine ajK (nH (fun _=>False) w1) fO (by kernel_rfl) (by kernel_rfl) (by kernel_rfl) ⟨⟨World.drew w1,(But.refl _ _).drew⟩,rfl⟩ ?_
   repeat (first|(refine ak (by rfl) ?_)|(refine aP (by rfl) (by rfl) (fun K hK=>?_);go_big_quiet_op;refine hK _ ?_;clear hK K))
   refine aT (by rfl) (by rfl) (fun K hK=>?_)
   go_wp2_with fail
   refine hK _ _ (cu (But.of_below (aj (Below.refl _ w1).drew _))) ?_
   clear hK K
   repeat (first|(refine ak (by rfl) ?_)|(refine aP (by rfl) (by rfl) (fun K hK=>?_);go_big_quiet_op;refine hK _ ?_;clear hK K))
   refine aT (by rfl) (by rfl) (fun K hK=>?_)
   refine yY (.tmp 30) (.tmp 34) _ rfl Dw (n:=0) (s:=⟨some ⟨w1.heap.size,0,none⟩,0⟩) rfl rfl HO.out rfl (by simp;omega) iP.out (by simp;omega) (by simp) ?_
   intro s3 w3 hown3 hg3 gq
   have hb3:Below w1.heap.size w1 w3:=(aj (Below.refl _ w1).drew (.cells #[] 50)).grown hg3 (by simp) (fun k' e'=>by cases e';exact Nat.le_refl _)
   go_wp2_with fail
   refine hK _ _ (cu (But.of_below hb3)) ?_
   clear hK K
   repeat (first|(refine ak (by rfl) ?_)|(refine aP (by rfl) (by rfl) (fun K hK=>?_);go_big_quiet_op;refine hK _ ?_;clear hK K))
   have hs2:=((hp.later (ag hB1 hb3)).src).tail WM.out q.cap (jp+1) (by rw[List.length_map];exact hcap)
   generalize (if q.cap=jp+1 then q.a else Option.map (fun x=>x.add ((jp+1)*10)) q.a)=A2 at *
   refine aT (by rfl) (by rfl) (fun K hK=>?_)
   refine yY (.tmp 35) (.tmp 40) _ rfl Dw (n:=jp) (s:=s3) rfl (by simp;omega) hown3 rfl (by rw[List.length_drop,List.length_map]) hs2 (by simp;omega) hb3.size ?_
   intro s4 w4 hown4 hg4 Ku
   have hb4:Below w1.heap.size w1 w4:=hb3.grown hg4 hb3.size (fun k' e'=>(hown3.base e').1)
   go_wp2_with fail
   refine hK _ _ (cu (But.of_below hb4)) ?_
   clear hK K
   repeat (first|(refine ak (by rfl) ?_)|(refine aP (by rfl) (by rfl) (fun K hK=>?_);go_big_quiet_op;refine hK _ ?_;clear hK K))
   refine bQ ?_
   unfold vG
   simp only[List.getLast?_cons_cons,List.getLast?_singleton]
   have oq:=ag hb1 hb4
   have hy2:=aJ oq hx2
   have WN:(D.ax.eraseIdx jp).length=jp+(D.ax.length-(jp+1)):=by rw[List.length_eraseIdx_of_lt hjp];omega
   have hLE:([]++(D.ax.map aG).take jp)++(D.ax.map aG).drop (jp+1)=(D.ax.eraseIdx jp).map aG:=by rw[List.nil_append,List.eraseIdx_eq_take_drop_succ,List.map_append,List.map_take,List.map_drop]
   rw[hLE]at hown4
   have HOW:=Lib.hid hown4
   have Ha:(D.ay+1).tmod 4611686018427387904=D.ay+1:=Int.tmod_eq_of_lt (by omega) (by omega)
   have hne2:w.heap.size+1≠w.heap.size:=by omega
   have hset:=dF (o:=1) (.int .i64 (D.ay+1)) (dF (o:=3) (.slice s4.a (jp+(D.ax.length-(jp+1))) s4.cap) hy2)
   have Dz:row? ((w4.setCell ⟨w.heap.size,3,none⟩ (.slice s4.a (jp+(D.ax.length-(jp+1))) s4.cap)).setCell ⟨w.heap.size,1,none⟩ (.int .i64 (D.ay+1))) w.heap.size 0 4=some (au e s4 {D with ax:=D.ax.eraseIdx jp,ay:=D.ay+1}):=(bP hset).trans (by rw[←WN];kernel_rfl)
   have hlt4:w.heap.size+1<w4.heap.size:=by have:=oq.size;omega
   have hcp:aQ ((w4.setCell ⟨w.heap.size,3,none⟩ (.slice s4.a (jp+(D.ax.length-(jp+1))) s4.cap)).setCell ⟨w.heap.size,1,none⟩ (.int .i64 (D.ay+1))) (w.heap.size+1) 0 4=true:=(lQ hne2).trans ((lQ hne2).trans ((gI oq (w.heap.size+1) 0 4 (by omega)).trans hz))
   clear hc hf hr hlt hown4 hown3 hset WN
   obtain⟨hc,hf,-,hlt⟩:=aC hy2
   generalize hX':D.ax.eraseIdx jp=X' at *
   have HXM:=Lib.hid (show ∀x∈X',x.name.size≤lim from fun x hx=>by
    have hx':x∈D.ax:=List.mem_of_mem_eraseIdx (by rw[hX'];exact hx)
    obtain⟨i',hi',rfl⟩:=List.mem_iff_getElem.1 hx'
    exact(iU.get hp i' hi').choose_spec.choose_spec.2.2)
   have ML:=Lib.hid (show X'.length≤lim by rw[←hX',List.length_eraseIdx_of_lt hjp];exact Nat.le_trans (Nat.sub_le _ _) hp.1)
   clear hX'
   go_wp2_with fail
   have hrow:=iT (jH e s4 {D with ax:=X',ay:=D.ay+1}) hcp
   refine bodyPost_ret (kQ (by rfl) Tryz.underlying32 rfl (by kernel_rfl) rfl hrow) rfl ⟨s4,rfl,Go.WW.Below.putRow (((ag hB1 hb4).setCell (Nat.le_refl _) _).setCell (Nat.le_refl _) _) (Nat.le_succ _),fun y hy=>?_⟩
   have hsz1:w.heap.size≤w1.heap.size:=hB1.size
   have aqb:w.heap.size+1+1≤w1.heap.size:=by omega
   have lW:=HOW.out.kept (w':=y) (fun g hg=>by
    have hg1:=HOW.out.base hg
    have h1:w1.heap.size≤g:=hg1.1
    rw[hy g ⟨by omega,by rw[kG];simp only[World.setCell,Array.size_modify];exact hg1.2⟩,iD (by omega),Below.heap_setCell _ _ _ _ (show g≠w.heap.size by omega),Below.heap_setCell _ _ _ _ (show g≠w.heap.size by omega)])
   exact⟨iU.ed lW ML.out HXM.out,by have h9:=Go.WW.Own.cap lW;rw[List.length_map]at h9;exact h9⟩
end Go.Proofs.YtfieenjdcpjmgaaGreatDoor
namespace Go.WW
open Go.RowKit
theorem WO{D:Db}{X:List EE}(hD:D.entries=X.map (·.2))(q:az) :
  (idxOf (fun z=>aX z.name q) D.entries=-1∧∀x∈X,aX x.2.name q=false)∨∃i,∃hi:i<X.length,idxOf (fun z=>aX z.name q) D.entries=(i:Int)∧aX X[i].2.name q=true:=by
 rw[hD]
 unfold idxOf
 cases hf:(X.map (·.2)).findIdx? (fun z=>aX z.name q)with
 |none=>
  refine .inl ⟨rfl,fun x hx=>?_⟩
  exact(List.findIdx?_eq_none_iff.1 hf) x.2 (List.mem_map.2 ⟨x,hx,rfl⟩)
 |some i=>
  obtain⟨hi,h1,-⟩:=List.findIdx?_eq_some_iff_getElem.1 hf
  refine .inr ⟨i,by simpa using hi,rfl,by simpa using h1⟩
theorem ajQ{D D':Db}{X X':List EE}{q:az}{no:Int}(h:rM D X q no D' X'):D'.ax=D.ax∧D'.aF=D.aF∧D.ay≤D'.ay∧D'.ay≤D.ay+1∧X'.length≤X.length:=by
 cases h with
 |none=>exact⟨rfl,rfl,by omega,by omega,by omega⟩
 |yes i hi=>exact⟨rfl,rfl,by simp;omega,by simp,by rw[List.length_eraseIdx_of_lt hi];omega⟩
theorem ajR{D D':Db}{X X':List EE}{q:az}{f a b no:Int}(h:uk D X q f a b no D' X'):D'.ax=D.ax∧D'.aF=D.aF∧D.ay≤D'.ay∧D'.ay≤D.ay+1∧X'.length≤X.length:=by
 cases h with
 |bad=>exact⟨rfl,rfl,by omega,by omega,by omega⟩
 |none=>exact⟨rfl,rfl,by omega,by omega,by omega⟩
 |yes=>exact⟨rfl,rfl,by simp;omega,by simp,by simp⟩
theorem ajS{D D':Db}{k:ByteArray}{no:Int}(h:qj D k no D'):D'.entries=D.entries∧D'.aF=D.aF∧D.ay≤D'.ay∧D'.ay≤D.ay+1∧D'.ax.length≤D.ax.length∧D'.ax.Sublist D.ax:=by
 cases h with
 |none=>exact⟨rfl,rfl,by omega,by omega,by omega,List.Sublist.refl _⟩
 |busy=>exact⟨rfl,rfl,by omega,by omega,by omega,List.Sublist.refl _⟩
 |yes i hi=>exact⟨rfl,rfl,by simp;omega,by simp,by simp only[];rw[List.length_eraseIdx_of_lt hi];omega,List.eraseIdx_sublist _ _⟩
theorem L9.dK{w:World}{a:Option Addr}{X:List EE}(h:L9 w a X):jy w a (X.map (·.2)):=h.rows.dK h.each
end Go.WW
namespace Go.Proofs.YtfieenjdcpjmgaaGreatDoor
open Go.RowKit Go.WW
section
variable (S:Nat→Prop) (es ps:Sl) (D:Db) (X:List EE) (w:World)
theorem ajT(t:Sl)(q:az)(h:iE S es ps D X w)(hS:∀k,S k→k<w.heap.size)(hq:bz w t q)(hD:D.entries=X.map (·.2))(hs0:0≤D.ay)(hs1:D.ay<1000000) :
  Calls Tryz.prog 36 #[.agg (au es ps D),.agg (ai t q)] w fun z w'=>∃(no:Int) (es':Sl) (D':Db) (X':List EE),z=.returned (.tuple #[.agg (au es' ps D'),.int .i64 no])∧Below w.heap.size w w'∧iE S es' ps D' X' w'∧rM D X q no D' X':=by
 have hX:=h.dK.out.rows
 have hm:=h.dK.out.each
 rcases WO hD q with⟨hi,hn⟩|⟨i,hi,hat,hn⟩
 ·refine(ajv es ps D t q w hq (by rw[hD];exact h.dK.out.dK) hi).mono ?_
  rintro z w' ⟨rfl,hb⟩
  exact⟨9,es,D,X,rfl,hb,h.later hb,.none hn⟩
 ·refine(ajw es ps D t q w hq X hX hm hD i hi hat hs0 hs1).mono ?_
  rintro z w' ⟨s,rfl,hb,hd⟩
  have hsub:=List.eraseIdx_sublist X i
  exact⟨0,s,_,X.eraseIdx i,rfl,hb,⟨fun y hy=>⟨jJ.DJ hd hS y hy,fun x hx=>(h.dK y ((But.of_below hb).trans hy)).each x (hsub.mem hx)⟩,h.dQ.later hb,h.cap⟩,.yes i hi hn⟩
theorem ajU(t:Sl)(q:az)(f la su:Int)(h:iE S es ps D X w)(hS:∀k,S k→k<w.heap.size)(hq:bz w t q)(hD:D.entries=X.map (·.2))(hg:gW (X.map (·.2)))(hs0:0≤D.ay)(hs1:D.ay<1000000) :
  Calls Tryz.prog 38 #[.agg (au es ps D),.agg (ai t q),.int .i64 f,.int .i64 la,.int .i64 su] w fun z w'=>∃(no:Int) (es':Sl) (D':Db) (X':List EE),z=.returned (.tuple #[.agg (au es' ps D'),.int .i64 no])∧Below w.heap.size w w'∧iE S es' ps D' X' w'∧uk D X q f la su no D' X':=by
 have hX:=h.dK.out.rows
 have hm:=h.dK.out.each
 cases hv:jZ f la su with
 |false=>
  refine(ajz es ps D t q w hq f la su hv).mono ?_
  rintro z w' ⟨rfl,hb⟩
  exact⟨2,es,D,X,rfl,hb,h.later hb,.bad hv⟩
 |true=>
  rcases WO hD q with⟨hi,hn⟩|⟨i,hi,hat,hn⟩
  ·refine(ajA es ps D t q w hq f la su hv (by rw[hD];exact h.dK.out.dK) hi).mono ?_
   rintro z w' ⟨rfl,hb⟩
   exact⟨9,es,D,X,rfl,hb,h.later hb,.none hv hn⟩
  ·have hk:textOf X[i].2.name=eP q:=(MC (hg.ok _ (List.mem_map.2 ⟨_,List.getElem_mem hi,rfl⟩))).1 hn
   refine(ajB es ps D t q w hq f la su hv X hX hm hD i hi hat hs0 hs1 (X.map (uj (eP q) f la su)) (ai0 hg hi hk f la su)).mono ?_
   rintro z w' ⟨s,rfl,hb,hd⟩
   refine⟨0,s,_,_,rfl,hb,⟨fun y hy=>⟨jJ.DJ hd hS y hy,fun x hx=>?_⟩,h.dQ.later hb,h.cap⟩,.yes hv i hi hn⟩
   obtain⟨z,hz,rfl⟩:=List.mem_map.1 hx
   exact((h.dK y ((But.of_below hb).trans hy)).each z hz).touched _ _ _ _
theorem ajV(k:ByteArray)(h:iE S es ps D X w)(hS:∀k,S k→k<w.heap.size)(hD:D.entries=X.map (·.2))(_hn:(D.ax.map (·.name)).Nodup)(hs0:0≤D.ay)(hs1:D.ay<1000000) :
  Calls Tryz.prog 40 #[.agg (au es ps D),.string k] w fun z w'=>∃(no:Int) (ps':Sl) (D':Db),z=.returned (.tuple #[.agg (au es ps' D'),.int .i64 no])∧Below w.heap.size w w'∧iE S es ps' D' X w'∧qj D k no D':=by
 have hp:=h.dQ.out
 have hE:jy w es.a D.entries:=by rw[hD];exact h.dK.out.dK
 rcases AL D.ax k with⟨hi,ha⟩|⟨i,hil,hi,hnm,-⟩
 ·refine(ajL es ps D k w hp hi).mono ?_
  rintro z w' ⟨rfl,hb⟩
  exact⟨9,ps,D,rfl,hb,h.later hb,.none ha⟩
 ·by_cases hb:∃j,∃hj:j<D.entries.length,D.entries[j].aO=k
  ·obtain⟨j,⟨hj,hjk⟩,hpre⟩:∃j,(∃hj:j<D.entries.length,D.entries[j].aO=k)∧∀i,i<j→¬∃hi:i<D.entries.length,D.entries[i].aO=k:=by
    obtain⟨j0,hj0,e0⟩:=hb
    obtain⟨j,-,h2,h3⟩:=VR (fun j=>∃hj:j<D.entries.length,D.entries[j].aO=k) (j0+1) ⟨j0,by omega,hj0,e0⟩
    exact⟨j,h2,h3⟩
   refine(ajM es ps D k w hp i hi hE j hj hjk (fun i' hi' hlt e=>hpre i' hlt ⟨hi',e⟩)).mono ?_
   rintro z w' ⟨rfl,hb'⟩
   exact⟨11,ps,D,rfl,hb',h.later hb',.busy i hil hnm ⟨_,List.getElem_mem hj,hjk⟩⟩
  ·refine(ajN es ps D k w hp i hi hE (fun j hj e=>hb ⟨j,hj,e⟩) hil h.cap hs0 hs1).mono ?_
   rintro z w' ⟨s,rfl,hb',hd⟩
   refine⟨0,s,_,rfl,hb',⟨h.dK.later hb',fun y hy=>(jJ.DJ hd hS y hy).1,hd.out.2⟩,.yes i hil hnm fun x hx e=>?_⟩
   obtain⟨j,hj,rfl⟩:=List.mem_iff_getElem.1 hx
   exact hb ⟨j,hj,e⟩
end
end Go.Proofs.YtfieenjdcpjmgaaGreatDoor
namespace Go.WW
open Go.RowKit
def ou(v v':Value):Prop:=v'=v∨(∃s s',v=.string s∧v'=.string s')∨(∃k a b,v=.int k a∧v'=.int k b)
theorem ou.refl(v:Value):ou v v:=.inl rfl
theorem ou.trans{a b c:Value}(h:ou a b)(k:ou b c):ou a c:=by
 rcases h with rfl|⟨s,s',rfl,rfl⟩|⟨t,x,y,rfl,rfl⟩
 ·exact k
 ·rcases k with rfl|⟨s1,s2,h1,rfl⟩|⟨t,x,y,h1,rfl⟩
  iterate 2
   ·exact .inr (.inl ⟨_,_,rfl,rfl⟩)
  ·cases h1
 ·rcases k with rfl|⟨s1,s2,h1,rfl⟩|⟨t',x',y',h1,rfl⟩
  ·exact .inr (.inr ⟨_,_,_,rfl,rfl⟩)
  ·cases h1
  ·cases h1;exact .inr (.inr ⟨_,_,_,rfl,rfl⟩)
structure Sp(m:Nat)(w w':World):Prop where
 os:w'.os=w.os
 tape:w'.tape=w.tape
 output:w'.output=w.output
 size:w'.heap.size=w.heap.size
 block:∀b,b<m→w'.heap[b]?=w.heap[b]?
 cells:∀(b:Nat) c t f,w.heap[b]?=some (Obj.cells c t f)→∃c',w'.heap[b]?=some (Obj.cells c' t f)∧c'.size=c.size∧∀(i:Nat) v,c[i]?=some v→∃v',c'[i]?=some v'∧ou v v'
theorem Sp.refl(m:Nat)(w:World):Sp m w w:=⟨rfl,rfl,rfl,rfl,fun _ _=>rfl,fun _ c _ _ h=>⟨c,h,rfl,fun _ v hv=>⟨v,hv,ou.refl v⟩⟩⟩
theorem Sp.but{m:Nat}{w w':World}(h:Sp m w w'):But (fun b=>m≤b) w w':=⟨h.os,h.tape,h.output,by rw[h.size];exact Nat.le_refl _,fun b _ hn=>h.block b (by omega)⟩
theorem Sp.kin{m:Nat}{w w':World}(h:Sp m w w'){b o:Nat}{v:Value}(hc:w.cell? ⟨b,o,none⟩=some v):∃v',w'.cell? ⟨b,o,none⟩=some v'∧ou v v':=by
 unfold World.cell? at hc ⊢
 dsimp only at hc ⊢
 split at hc
 ·rename_i c t f hb
  obtain⟨c',h1,h2,h3⟩:=h.cells b c t f hb
  rw[h1]
  simp only[Option.isSome_none,Bool.false_eq_true,if_false]at hc ⊢
  exact h3 o v hc
 ·cases hc
theorem Sp.slice{m:Nat}{w w':World}(h:Sp m w w'){b o n c:Nat}{a:Option Addr}(hc:w.cell? ⟨b,o,none⟩=some (.slice a n c)):w'.cell? ⟨b,o,none⟩=some (.slice a n c):=by
 obtain⟨v',h1,rfl|⟨s,s',h2,-⟩|⟨k,x,y,h2,-⟩⟩:=h.kin hc
 ·exact h1
 ·cases h2
 ·cases h2
theorem Sp.string{m:Nat}{w w':World}(h:Sp m w w'){b o:Nat}{s:ByteArray}(hc:w.cell? ⟨b,o,none⟩=some (.string s)):∃s',w'.cell? ⟨b,o,none⟩=some (.string s'):=by
 obtain⟨v',h1,rfl|⟨s1,s',h2,rfl⟩|⟨k,x,y,h2,-⟩⟩:=h.kin hc
 ·exact⟨s,h1⟩
 ·exact⟨s',h1⟩
 ·cases h2
theorem Sp.int{m:Nat}{w w':World}(h:Sp m w w'){b o:Nat}{k:IntKind}{x:Int}(hc:w.cell? ⟨b,o,none⟩=some (.int k x)):∃y,w'.cell? ⟨b,o,none⟩=some (.int k y):=by
 obtain⟨v',h1,rfl|⟨s1,s',h2,rfl⟩|⟨k',x',y,h2,rfl⟩⟩:=h.kin hc
 ·exact⟨x,h1⟩
 ·cases h2
 ·cases h2;exact⟨y,h1⟩
theorem Sp.aQ{m:Nat}{w w':World}(h:Sp m w w'){b o n:Nat}(hp:aQ w b o n=true):aQ w' b o n=true:=by
 unfold Go.WW.aQ at hp ⊢
 split at hp
 ·rename_i c t f hb
  obtain⟨c',h1,h2,h3⟩:=h.cells b c t f hb
  rw[h1]
  simpa only[h2]using hp
 ·cases hp
theorem xq{w:World}{b o n:Nat}(hp:aQ w b o n=true)(o':Nat):w.frozen? ⟨b,o',none⟩=false:=by
 unfold aQ at hp
 split at hp
 ·rename_i c t f hb
  simp only[Bool.and_eq_true,decide_eq_true_eq]at hp
  obtain⟨-,rfl⟩:=hp
  exact frozen_of_row w b o' c t hb
 ·cases hp
theorem Sp.setCell{m:Nat}{w w':World}(h:Sp m w w'){b o:Nat}{v0 v:Value}(hm:m≤b)(hc:w.cell? ⟨b,o,none⟩=some v0)(hk:ou v0 v):Sp m w (w'.setCell ⟨b,o,none⟩ v):=by
 refine⟨h.os,h.tape,h.output,by rw[←h.size];simp[World.setCell],fun k hk'=>(Below.heap_setCell _ _ _ _ (by simp;omega)).trans (h.block k hk'),fun k c t f hkb=>?_⟩
 obtain⟨c',h1,h2,h3⟩:=h.cells k c t f hkb
 by_cases e:k=b
 ·subst e
  refine⟨c'.setIfInBounds o v,?_,by simp[h2],fun i u hu=>?_⟩
  ·have hlt:k<w'.heap.size:=(Array.getElem?_eq_some_iff.1 h1).1
   simp only[World.setCell]
   rw[Array.getElem?_modify,if_pos rfl,h1]
   rfl
  ·obtain⟨u',h4,h5⟩:=h3 i u hu
   by_cases ei:o=i
   ·subst ei
    refine⟨v,by rw[Array.getElem?_setIfInBounds,if_pos rfl,if_pos (Array.getElem?_eq_some_iff.1 h4).1],?_⟩
    have:u=v0:=by
     unfold World.cell? at hc
     dsimp only at hc
     rw[hkb]at hc
     simp only[Option.isSome_none,Bool.false_eq_true,if_false]at hc
     rw[hu]at hc;cases hc;rfl
    rw[this];exact hk
   ·exact⟨u',by rw[Array.getElem?_setIfInBounds,if_neg ei];exact h4,h5⟩
 ·exact⟨c',(Below.heap_setCell _ _ _ _ (by simpa using e)).trans h1,h2,h3⟩
theorem qZ.later{m:Nat}{w w':World}{r:aN}{d:Entry}(h:qZ m w r d)(hb:Below w.heap.size w w'):qZ m w' r d:=by
 have wr:∀{a:Option Addr} {n k:Nat},iM m w a n k→iM m w' a n k:=fun h1 i hi=>by
  obtain⟨b,o,e,h2,h3⟩:=h1 i hi
  refine⟨b,o,e,h2,?_⟩
  have hlt:b<w.heap.size:=by
   unfold aQ at h3
   split at h3
   ·rename_i hb';exact(Array.getElem?_eq_some_iff.1 hb').1
   ·cases h3
  rw[sO (hb.block b hlt)];exact h3
 refine⟨h.at_.later hb,wr h.name,wr h.aliases,aV.later hb (fun i cs=>?_) h.keys.1,wr h.keys.2⟩
 rintro⟨p,s,h1,h2,h3,h4⟩
 refine⟨p,s,h1,h2,aV.later hb (fun j cs=>?_) h3,h4⟩
 rintro⟨q,t,h5,h6,h7,h8⟩
 exact⟨q,t,h5,h6,BytesAt.later hb h7,wr h8⟩
theorem nV.get{m:Nat}{w:World}{a:Option Addr}{l:List bn}(h:nV m w a l)(i:Nat)(hi:i<l.length) :
  ∃b o,∃s:Sl,a=some ⟨b,o,none⟩∧m≤b∧w.frozen? ⟨b,o+i*5,none⟩=false∧aQ w b (o+i*5) 5=true∧w.cell? ⟨b,o+i*5,none⟩=some (.int .i64 l[i].version)∧w.cell? ⟨b,o+i*5+1,none⟩=some (.slice s.a l[i].keys.length s.cap)∧tK m w s.a l[i].keys:=by
 obtain⟨b,o,ha,hm,hp⟩:=h.2 i hi
 obtain⟨b',o',cs,ha',hr,p,s,hp',rfl,hs⟩:=h.1.2 i hi
 rw[ha]at ha';cases ha'
 rw[List.getElem?_eq_getElem hi]at hp';cases hp'
 have h0:=gJ hr 0 (by omega)
 have h1:=gJ hr 1 (by omega)
 rw[BX]at h0
 rw[BZ]at h1
 exact⟨b,o,s,ha,hm,xq hp _,hp,by simpa using h0,h1,hs.1⟩
theorem tK.get{m:Nat}{w:World}{a:Option Addr}{l:List Key}(h:tK m w a l)(i:Nat)(hi:i<l.length) :
  ∃b o,∃s:Sl,a=some ⟨b,o,none⟩∧w.cell? ⟨b,o+i*3+2,none⟩=some (.slice s.a l[i].bytes.length s.cap)∧wP m w s.a l[i].bytes:=by
 obtain⟨b,o,cs,ha,hr,p,s,hp',rfl,hs⟩:=h.2 i hi
 rw[List.getElem?_eq_getElem hi]at hp';cases hp'
 have h1:=gJ hr 2 (by omega)
 rw[Ff]at h1
 exact⟨b,o,s,ha,h1,hs⟩
theorem wP.get{m:Nat}{w:World}{a:Option Addr}{l:List UInt8}(h:wP m w a l)(i:Nat)(hi:i<l.length) :
  ∃b o,a=some ⟨b,o,none⟩∧m≤b∧aQ w b (o+i) 1=true∧w.cell? ⟨b,o+i,none⟩=some (.int .u8 l[i].toNat):=by
 obtain⟨b,o,ha,hm,hp⟩:=h.2 i hi
 obtain⟨b',o',ha',hc⟩:=BytesAt.get h.1 i hi
 rw[ha]at ha';cases ha'
 exact⟨b,o,ha,hm,by simpa using hp,hc⟩
theorem qZ.part{m:Nat}{w:World}{r:aN}{d:Entry}(h:qZ m w r d)(i:Nat)(hi:i<d.name.parts.length) :
  ∃b o s,r.parts.a=some ⟨b,o,none⟩∧m≤b∧aQ w b (o+i) 1=true∧w.cell? ⟨b,o+i,none⟩=some (.string s):=by
 obtain⟨b,o,ha,hm,hp⟩:=h.name i hi
 obtain⟨b',o',ha',hc,-⟩:=kC.get h.at_.name.1 i hi
 rw[ha]at ha';cases ha'
 exact⟨b,o,_,ha,hm,by simpa using hp,hc⟩
theorem qZ.alias{m:Nat}{w:World}{r:aN}{d:Entry}(h:qZ m w r d)(i:Nat)(hi:i<d.aliases.length) :
  ∃b o s,r.aliases.a=some ⟨b,o,none⟩∧m≤b∧aQ w b (o+i*2) 2=true∧w.cell? ⟨b,o+i*2+1,none⟩=some (.string s):=by
 obtain⟨b,o,ha,hm,hp⟩:=h.aliases i hi
 obtain⟨b',o',s,ha',hr,-⟩:=fF.get h.at_.aliases i hi
 rw[ha]at ha';cases ha'
 have h1:=gJ hr 1 (by omega)
 rw[Fe]at h1
 exact⟨b,o,_,ha,hm,hp,h1⟩
end Go.WW
namespace Go.Proofs.YtfieenjdcpjmgaaGreatDoor
open Go.RowKit Go.WW
end Go.Proofs.YtfieenjdcpjmgaaGreatDoor
namespace Go.WW
open Go.RowKit
def lY(S:Nat→Prop)(w:World)(a:Option Addr)(n k:Nat):Prop:=∀i,i<n→∃b o,a=some ⟨b,o,Option.none⟩∧S b∧aQ w b (o+i*k) k=true
def xu(S:Nat→Prop)(w:World)(a:Option Addr)(l:List UInt8):Prop:=BytesAt w a l∧lY S w a l.length 1
def ajW(S:Nat→Prop)(w:World)(s:Sl)(k:Key):Prop:=xu S w s.a k.bytes
def uq(S:Nat→Prop)(w:World)(a:Option Addr)(l:List Key):Prop:=aV w 3 a l.length fun i cs=>∃p s,l[i]?=some p∧cs=bW s p∧ajW S w s p
def WQ(S:Nat→Prop)(w:World)(s:Sl)(k:bn):Prop:=uq S w s.a k.keys∧k.df.size≤lim
def AV(S:Nat→Prop)(w:World)(a:Option Addr)(l:List bn):Prop:=(aV w 5 a l.length fun i cs=>∃p s,l[i]?=some p∧cs=aZ s p∧WQ S w s p)∧lY S w a l.length 5
structure rQ(S:Nat→Prop)(w:World)(r:aN)(d:Entry):Prop where
 at_:bJ w r d
 name:lY S w r.parts.a d.name.parts.length 1
 aliases:lY S w r.aliases.a d.aliases.length 2
 keys:AV S w r.keys.a d.keys
theorem lY.mono{S T:Nat→Prop}{w:World}{a:Option Addr}{n k:Nat}(h:lY S w a n k)(hS:∀b,S b→T b):lY T w a n k:=fun i hi=>by
 obtain⟨b,o,e,h1,h2⟩:=h i hi
 exact⟨b,o,e,hS b h1,h2⟩
theorem uq.mono{S T:Nat→Prop}{w:World}{a:Option Addr}{l:List Key}(h:uq S w a l)(hS:∀b,S b→T b):uq T w a l:=
 aV.imp h fun _ _ ⟨p,s,h1,h2,h3⟩=>⟨p,s,h1,h2,h3.1,h3.2.mono hS⟩
theorem uq.at_{S:Nat→Prop}{w:World}{a:Option Addr}{l:List Key}(h:uq S w a l):kP w a l:=aV.imp h fun _ _ ⟨p,s,h1,h2,h3⟩=>⟨p,s,h1,h2,h3.1⟩
theorem AV.at_{S:Nat→Prop}{w:World}{a:Option Addr}{l:List bn}(h:AV S w a l):mg w a l:=aV.imp h.1 fun _ _ ⟨p,s,h1,h2,h3⟩=>⟨p,s,h1,h2,h3.1.at_,h3.2⟩
theorem rQ.later{S:Nat→Prop}{w w':World}{r:aN}{d:Entry}(h:rQ S w r d)(hb:Below w.heap.size w w'):rQ S w' r d:=by
 have wr:∀{a:Option Addr} {n k:Nat},lY S w a n k→lY S w' a n k:=fun h1 i hi=>by
  obtain⟨b,o,e,h2,h3⟩:=h1 i hi
  refine⟨b,o,e,h2,?_⟩
  have hlt:b<w.heap.size:=by
   unfold aQ at h3
   split at h3
   ·rename_i hb';exact(Array.getElem?_eq_some_iff.1 hb').1
   ·cases h3
  rw[sO (hb.block b hlt)];exact h3
 refine⟨h.at_.later hb,wr h.name,wr h.aliases,aV.later hb (fun i cs=>?_) h.keys.1,wr h.keys.2⟩
 rintro⟨p,s,h1,h2,h3,h4⟩
 refine⟨p,s,h1,h2,aV.later hb (fun j cs=>?_) h3,h4⟩
 rintro⟨q,t,h5,h6,h7,h8⟩
 exact⟨q,t,h5,h6,BytesAt.later hb h7,wr h8⟩
structure jK(S:Nat→Prop)(w w':World):Prop where
 os:w'.os=w.os
 tape:w'.tape=w.tape
 output:w'.output=w.output
 size:w'.heap.size=w.heap.size
 block:∀b,¬S b→w'.heap[b]?=w.heap[b]?
 cells:∀(b:Nat) c t f,w.heap[b]?=some (Obj.cells c t f)→∃c',w'.heap[b]?=some (Obj.cells c' t f)∧c'.size=c.size∧∀(i:Nat) v,c[i]?=some v→∃v',c'[i]?=some v'∧ou v v'
theorem jK.refl(S:Nat→Prop)(w:World):jK S w w:=⟨rfl,rfl,rfl,rfl,fun _ _=>rfl,fun _ c _ _ h=>⟨c,h,rfl,fun _ v hv=>⟨v,hv,ou.refl v⟩⟩⟩
theorem jK.but{S:Nat→Prop}{w w':World}(h:jK S w w'):But S w w':=⟨h.os,h.tape,h.output,by rw[h.size];exact Nat.le_refl _,fun b _ hn=>h.block b hn⟩
theorem jK.kin{S:Nat→Prop}{w w':World}(h:jK S w w'){b o:Nat}{v:Value}(hc:w.cell? ⟨b,o,none⟩=some v):∃v',w'.cell? ⟨b,o,none⟩=some v'∧ou v v':=by
 unfold World.cell? at hc ⊢
 dsimp only at hc ⊢
 split at hc
 ·rename_i c t f hb
  obtain⟨c',h1,h2,h3⟩:=h.cells b c t f hb
  rw[h1]
  simp only[Option.isSome_none,Bool.false_eq_true,if_false]at hc ⊢
  exact h3 o v hc
 ·cases hc
theorem jK.slice{S:Nat→Prop}{w w':World}(h:jK S w w'){b o n c:Nat}{a:Option Addr}(hc:w.cell? ⟨b,o,none⟩=some (.slice a n c)):w'.cell? ⟨b,o,none⟩=some (.slice a n c):=by
 obtain⟨v',h1,rfl|⟨s,s',h2,-⟩|⟨k,x,y,h2,-⟩⟩:=h.kin hc
 ·exact h1
 ·cases h2
 ·cases h2
theorem jK.string{S:Nat→Prop}{w w':World}(h:jK S w w'){b o:Nat}{s:ByteArray}(hc:w.cell? ⟨b,o,none⟩=some (.string s)):∃s',w'.cell? ⟨b,o,none⟩=some (.string s'):=by
 obtain⟨v',h1,rfl|⟨s1,s',h2,rfl⟩|⟨k,x,y,h2,-⟩⟩:=h.kin hc
 ·exact⟨s,h1⟩
 ·exact⟨s',h1⟩
 ·cases h2
theorem jK.int{S:Nat→Prop}{w w':World}(h:jK S w w'){b o:Nat}{k:IntKind}{x:Int}(hc:w.cell? ⟨b,o,none⟩=some (.int k x)):∃y,w'.cell? ⟨b,o,none⟩=some (.int k y):=by
 obtain⟨v',h1,rfl|⟨s1,s',h2,rfl⟩|⟨k',x',y,h2,rfl⟩⟩:=h.kin hc
 ·exact⟨x,h1⟩
 ·cases h2
 ·cases h2;exact⟨y,h1⟩
theorem jK.aQ{S:Nat→Prop}{w w':World}(h:jK S w w'){b o n:Nat}(hp:aQ w b o n=true):aQ w' b o n=true:=by
 unfold Go.WW.aQ at hp ⊢
 split at hp
 ·rename_i c t f hb
  obtain⟨c',h1,h2,h3⟩:=h.cells b c t f hb
  rw[h1]
  simpa only[h2]using hp
 ·cases hp
theorem jK.setCell{S:Nat→Prop}{w w':World}(h:jK S w w'){b o:Nat}{v0 v:Value}(hm:S b)(hc:w.cell? ⟨b,o,none⟩=some v0)(hk:ou v0 v):jK S w (w'.setCell ⟨b,o,none⟩ v):=by
 refine⟨h.os,h.tape,h.output,by rw[←h.size];simp[World.setCell],fun k hk'=>(Below.heap_setCell _ _ _ _ (show k≠b by rintro rfl;exact hk' hm)).trans (h.block k hk'),fun k c t f hkb=>?_⟩
 obtain⟨c',h1,h2,h3⟩:=h.cells k c t f hkb
 by_cases e:k=b
 ·subst e
  refine⟨c'.setIfInBounds o v,?_,by simp[h2],fun i u hu=>?_⟩
  ·have hlt:k<w'.heap.size:=(Array.getElem?_eq_some_iff.1 h1).1
   simp only[World.setCell]
   rw[Array.getElem?_modify,if_pos rfl,h1]
   rfl
  ·obtain⟨u',h4,h5⟩:=h3 i u hu
   by_cases ei:o=i
   ·subst ei
    refine⟨v,by rw[Array.getElem?_setIfInBounds,if_pos rfl,if_pos (Array.getElem?_eq_some_iff.1 h4).1],?_⟩
    have:u=v0:=by
     unfold World.cell? at hc
     dsimp only at hc
     rw[hkb]at hc
     simp only[Option.isSome_none,Bool.false_eq_true,if_false]at hc
     rw[hu]at hc;cases hc;rfl
    rw[this];exact hk
   ·exact⟨u',by rw[Array.getElem?_setIfInBounds,if_neg ei];exact h4,h5⟩
 ·exact⟨c',(Below.heap_setCell _ _ _ _ (by simpa using e)).trans h1,h2,h3⟩
theorem AV.get{S:Nat→Prop}{w:World}{a:Option Addr}{l:List bn}(h:AV S w a l)(i:Nat)(hi:i<l.length) :
  ∃b o,∃s:Sl,a=some ⟨b,o,none⟩∧S b∧w.frozen? ⟨b,o+i*5,none⟩=false∧aQ w b (o+i*5) 5=true∧w.cell? ⟨b,o+i*5,none⟩=some (.int .i64 l[i].version)∧w.cell? ⟨b,o+i*5+1,none⟩=some (.slice s.a l[i].keys.length s.cap)∧uq S w s.a l[i].keys:=by
 obtain⟨b,o,ha,hm,hp⟩:=h.2 i hi
 obtain⟨b',o',cs,ha',hr,p,s,hp',rfl,hs⟩:=h.1.2 i hi
 rw[ha]at ha';cases ha'
 rw[List.getElem?_eq_getElem hi]at hp';cases hp'
 have h0:=gJ hr 0 (by omega)
 have h1:=gJ hr 1 (by omega)
 rw[BX]at h0
 rw[BZ]at h1
 exact⟨b,o,s,ha,hm,xq hp _,hp,by simpa using h0,h1,hs.1⟩
theorem uq.get{S:Nat→Prop}{w:World}{a:Option Addr}{l:List Key}(h:uq S w a l)(i:Nat)(hi:i<l.length) :
  ∃b o,∃s:Sl,a=some ⟨b,o,none⟩∧w.cell? ⟨b,o+i*3+2,none⟩=some (.slice s.a l[i].bytes.length s.cap)∧xu S w s.a l[i].bytes:=by
 obtain⟨b,o,cs,ha,hr,p,s,hp',rfl,hs⟩:=h.2 i hi
 rw[List.getElem?_eq_getElem hi]at hp';cases hp'
 have h1:=gJ hr 2 (by omega)
 rw[Ff]at h1
 exact⟨b,o,s,ha,h1,hs⟩
theorem xu.get{S:Nat→Prop}{w:World}{a:Option Addr}{l:List UInt8}(h:xu S w a l)(i:Nat)(hi:i<l.length) :
  ∃b o,a=some ⟨b,o,none⟩∧S b∧aQ w b (o+i) 1=true∧w.cell? ⟨b,o+i,none⟩=some (.int .u8 l[i].toNat):=by
 obtain⟨b,o,ha,hm,hp⟩:=h.2 i hi
 obtain⟨b',o',ha',hc⟩:=BytesAt.get h.1 i hi
 rw[ha]at ha';cases ha'
 exact⟨b,o,ha,hm,by simpa using hp,hc⟩
theorem rQ.part{S:Nat→Prop}{w:World}{r:aN}{d:Entry}(h:rQ S w r d)(i:Nat)(hi:i<d.name.parts.length) :
  ∃b o s,r.parts.a=some ⟨b,o,none⟩∧S b∧aQ w b (o+i) 1=true∧w.cell? ⟨b,o+i,none⟩=some (.string s):=by
 obtain⟨b,o,ha,hm,hp⟩:=h.name i hi
 obtain⟨b',o',ha',hc,-⟩:=kC.get h.at_.name.1 i hi
 rw[ha]at ha';cases ha'
 exact⟨b,o,_,ha,hm,by simpa using hp,hc⟩
theorem rQ.alias{S:Nat→Prop}{w:World}{r:aN}{d:Entry}(h:rQ S w r d)(i:Nat)(hi:i<d.aliases.length) :
  ∃b o s,r.aliases.a=some ⟨b,o,none⟩∧S b∧aQ w b (o+i*2) 2=true∧w.cell? ⟨b,o+i*2+1,none⟩=some (.string s):=by
 obtain⟨b,o,ha,hm,hp⟩:=h.aliases i hi
 obtain⟨b',o',s,ha',hr,-⟩:=fF.get h.at_.aliases i hi
 rw[ha]at ha';cases ha'
 have h1:=gJ hr 1 (by omega)
 rw[Fe]at h1
 exact⟨b,o,_,ha,hm,hp,h1⟩
end Go.WW
namespace Go.Proofs.YtfieenjdcpjmgaaGreatDoor
open Go.RowKit Go.WW
theorem ajX(S:Nat→Prop)(r:aN)(d:Entry)(w:World)(he0:rQ S w r d):Calls Tryz.prog 35 #[.agg (ae r d)] w fun e w'=>e=.returned (.tuple #[])∧But S w w':=by
 have hB:Below w.heap.size w (w.alloc (.cells (ae r d) 47)):=(Below.refl _ w).alloc (Nat.le_refl _) _
 have hx:=World.alloc_heap_new w (.cells (ae r d) 47)
 have he:=he0.later hB
 obtain⟨hc,hf,hr,hlt⟩:=aC hx
 have hc0:=(hc 0).trans (Qq r d)
 have hc2:=(hc 2).trans (Qr r d)
 have hc5:=(hc 5).trans (Cc r d)
 clear hc hf hr hx hlt he0
 go_enter Tryz.func35,Tryz.ntmps35
 go_wp2_with fail
 generalize (w.alloc (.cells (ae r d) 47))=W at *
 have HE:=Lib.hid he
 clear he
 have n0:d.name.parts.length≤4294967000:=HE.out.at_.name.1.1
 have n1:d.aliases.length≤4294967000:=HE.out.at_.aliases.1
 have n2:d.keys.length≤4294967000:=HE.out.keys.1.1
 go_loopw [2] (fun i wr=>∃k:Nat,k≤d.name.parts.length∧i=.int .i64 k∧jK S W wr) (fun i _=>d.name.parts.length-(intOf i).toNat)
 case atStart=>exact⟨0,Nat.zero_le _,rfl,jK.refl S W⟩
 case round=>
  obtain⟨k,hk,rfl,hS⟩:=hrel
  have g0:=hS.slice hc0
  by_cases hlt:k<d.name.parts.length
  ·obtain⟨b,o,s,ha,hmb,hp,hcs⟩:=HE.out.part k hlt
   obtain⟨s',h1⟩:=hS.string hcs
   have h2:=xq (hS.aQ hp) (o+k)
   rw[ha]at g0
   have HX:=Lib.hid (hS.setCell (v:=.string ⟨#[63]⟩) hmb hcs (.inr (.inl ⟨_,_,rfl,rfl⟩)))
   go_wp2_with fail
   go_roundw
   case rel=>exact⟨k+1,by omega,by go_num,HX.out⟩
   case measure=>simp[intOf];omega
  go_wp2_with fail
  go_loopw [3] (fun i wr=>∃k:Nat,k≤d.aliases.length∧i=.int .i64 k∧jK S W wr) (fun i _=>d.aliases.length-(intOf i).toNat)
  case atStart=>exact⟨0,Nat.zero_le _,rfl,hS⟩
  case round=>
   clear hS g0 hlt hk
   obtain⟨k,hk,rfl,hS⟩:=hrel
   have g2:=hS.slice hc2
   by_cases hlt:k<d.aliases.length
   ·obtain⟨b,o,s,ha,hmb,hp,hcs⟩:=HE.out.alias k hlt
    obtain⟨s',h1⟩:=hS.string hcs
    have h2:=xq (hS.aQ hp) (o+k*2+1)
    rw[ha]at g2
    have HX:=Lib.hid (hS.setCell (v:=.string ⟨#[63]⟩) hmb hcs (.inr (.inl ⟨_,_,rfl,rfl⟩)))
    go_wp2_with fail
    go_roundw
    case rel=>exact⟨k+1,by omega,by go_num,HX.out⟩
    case measure=>simp[intOf];omega
   go_wp2_with fail
   go_loopw [4] (fun i wr=>∃k:Nat,k≤d.keys.length∧i=.int .i64 k∧jK S W wr) (fun i _=>d.keys.length-(intOf i).toNat)
   case atStart=>exact⟨0,Nat.zero_le _,rfl,hS⟩
   case round=>
    clear hS g2 hlt hk
    obtain⟨k,hk,rfl,hS⟩:=hrel
    have g5:=hS.slice hc5
    by_cases hlt:k<d.keys.length
    ·obtain⟨b,o,s,ha,hmb,-,hp,hv,hks,WR⟩:=HE.out.keys.get k hlt
     have n3:d.keys[k].keys.length≤4294967000:=WR.1
     go_wp2_with fail
     go_loopw [5] (fun i wr=>∃j:Nat,j≤d.keys[k].keys.length∧i=.int .i64 j∧jK S W wr) (fun i _=>d.keys[k].keys.length-(intOf i).toNat)
     case atStart=>exact⟨0,Nat.zero_le _,rfl,hS⟩
     case round=>
      clear hS g5
      obtain⟨j,hj,rfl,hS⟩:=hrel
      have g5:=hS.slice hc5
      rw[ha]at g5
      have g6:=hS.slice hks
      by_cases hjt:j<d.keys[k].keys.length
      ·obtain⟨b2,o2,s2,ha2,hkb,HB⟩:=WR.get j hjt
       have n4:d.keys[k].keys[j].bytes.length≤4294967000:=HB.1.1
       go_wp2_with fail
       go_loopw [6] (fun i wr=>∃t:Nat,t≤d.keys[k].keys[j].bytes.length∧i=.int .i64 t∧jK S W wr) (fun i _=>d.keys[k].keys[j].bytes.length-(intOf i).toNat)
       case atStart=>exact⟨0,Nat.zero_le _,rfl,hS⟩
       case round=>
        clear hS g5 g6
        obtain⟨t,ht,rfl,hS⟩:=hrel
        have g5:=hS.slice hc5
        rw[ha]at g5
        have g6:=hS.slice hks
        rw[ha2]at g6
        have g7:=hS.slice hkb
        by_cases htt:t<d.keys[k].keys[j].bytes.length
        ·obtain⟨b3,o3,um,yg,hp3,hcb⟩:=HB.get t htt
         rw[um]at g7
         obtain⟨y,h1⟩:=hS.int hcb
         have h2:=xq (hS.aQ hp3) (o3+t)
         have HX:=fun v:Int=>Lib.hid (hS.setCell (v:=.int .u8 v) yg hcb (.inr (.inr ⟨_,_,_,rfl,rfl⟩)))
         go_wp2_with fail
         go_roundw
         case rel=>exact⟨t+1,by omega,by go_num,(HX _).out⟩
         case measure=>simp[intOf];omega
        ·go_wp2_with fail
         go_roundw
         case rel=>exact⟨j+1,by omega,by go_num,hS⟩
         case measure=>simp[intOf];omega
      ·obtain⟨y,h1⟩:=hS.int hv
       have h2:=xq (hS.aQ hp) (o+k*5)
       have HX:=Lib.hid (hS.setCell (v:=.int .i64 0) hmb hv (.inr (.inr ⟨_,_,_,rfl,rfl⟩)))
       go_wp2_with fail
       go_roundw
       case rel=>exact⟨k+1,by omega,by go_num,HX.out⟩
       case measure=>simp[intOf];omega
    ·go_wp2_with fail
     go_end0
     exact⟨rfl,(But.of_below hB).trans hS.but⟩
end Go.Proofs.YtfieenjdcpjmgaaGreatDoor
namespace Go.WW
open Go.RowKit
structure AX(M:World→Prop)(w:World):Prop where
 out:M w
theorem uu{ι:Type}{c:Code}{P:Program}{Q:Exit→Act→World→Prop}{a:Act}{w:World}(M:ι→World→Prop)(F:ι→Act)
  (h1:c.wp P (fun e a' w'=>e=.normal∧∃i,a'=F i∧AX (M i) w') a w) (h2:∀i w',M i w'→Q .normal (F i) w'):c.wp P Q a w:=by
 refine wp_mono h1 ?_
 rintro e a' w' ⟨rfl,i,rfl,h⟩
 exact h2 i w' h.out
theorem MN{c:Code}{P:Program}{Q:Exit→Act→World→Prop}{a:Act}{w:World}(M:World→Prop)(F:Act)
  (h1:c.wp P (fun e a' w'=>e=.normal∧a'=F∧AX M w') a w) (h2:∀w',M w'→Q .normal F w'):c.wp P Q a w:=by
 refine wp_mono h1 ?_
 rintro e a' w' ⟨rfl,rfl,h⟩
 exact h2 w' h.out
theorem WS{ι κ:Type}{c:Code}{P:Program}{Q:Exit→Act→World→Prop}{a:Act}{w:World}(M:ι→κ→World→Prop)(F:ι→κ→Act)
  (h1:c.wp P (fun e a' w'=>e=.normal∧∃i j,a'=F i j∧AX (M i j) w') a w) (h2:∀i j w',M i j w'→Q .normal (F i j) w'):c.wp P Q a w:=by
 refine wp_mono h1 ?_
 rintro e a' w' ⟨rfl,i,j,rfl,h⟩
 exact h2 i j w' h.out
theorem ajY{w:World}{l:List bn}(i:Nat)(cs:Array Value)(h:∃p s,l[i]?=some p∧cs=aZ s p∧jq w s p):cs.size=5∧dG cs=true:=by
 obtain⟨p,s,_,rfl,_⟩:=h;exact⟨Qn s p,Qo s p⟩
theorem ajZ{w:World}{l:List Key}(i:Nat)(cs:Array Value)(h:∃p s,l[i]?=some p∧cs=bW s p∧kD w s p):cs.size=3∧dG cs=true:=by
 obtain⟨p,s,_,rfl,_⟩:=h;exact⟨Ql s p,Qm s p⟩
theorem aj0(r:aN)(d:Entry)(s:Sl):(ae r d).setIfInBounds 0 (.slice s.a d.name.parts.length s.cap)=ae {r with parts:=s} d:=by kernel_rfl
theorem aj1(r:aN)(d:Entry)(s:Sl):(ae r d).setIfInBounds 2 (.slice s.a d.aliases.length s.cap)=ae {r with aliases:=s} d:=by kernel_rfl
theorem aj2(r:aN)(d:Entry)(s:Sl):(ae r d).setIfInBounds 5 (.slice s.a d.keys.length s.cap)=ae {r with keys:=s} d:=by kernel_rfl
theorem aj3(t:Sl)(k:bn)(s:Sl):(aZ t k).setIfInBounds 1 (.slice s.a k.keys.length s.cap)=aZ s k:=by kernel_rfl
theorem aj6(t:Sl)(k:Key)(s:Sl):(bW t k).setIfInBounds 2 (.slice s.a k.bytes.length s.cap)=bW s k:=by kernel_rfl
theorem DV{W w w':World}{E:TypeId}{k:Nat}{s:Sl}{rows:List (Array Value)}(h:Own w W.heap.size E k s rows)(hb:Below W.heap.size W w)(hg:w.grownBy w' s.blk):Below W.heap.size W w':=hb.grown hg hb.size (fun _ e=>(h.base e).1)
theorem Own.but{S:Nat→Prop}{w w':World}{base k:Nat}{e:TypeId}{s:Sl}{rows:List (Array Value)}(h:Own w base e k s rows)(hb:But S w w')(hn:∀g,s.blk=some g→¬S g):Own w' base e k s rows:=
 h.kept fun g hg=>hb.block g (h.base hg).2 (hn g hg)
theorem MO{V w3:World}{bx o k:Nat}{T tb:TypeId}{s:Sl}{rows:List (Array Value)}{c:Array Value}(h:Own w3 V.heap.size T k s ([]++rows))(hb3:Below V.heap.size V w3)(hbx:V.heap[bx]?=some (.cells c tb))(v:Value) :
  Own (w3.setCell ⟨bx,o,none⟩ v) V.heap.size T k s rows∧(w3.setCell ⟨bx,o,none⟩ v).heap[bx]?=some (.cells (c.setIfInBounds o v) tb)∧But (·=bx) V (w3.setCell ⟨bx,o,none⟩ v):=by
 have hlt:=(Array.getElem?_eq_some_iff.1 hbx).1
 rw[List.nil_append]at h
 refine⟨h.kept fun g hg=>Below.heap_setCell _ _ _ _ ?_,dF v (aJ hb3 hbx),AP (But.of_below hb3) (.inl rfl)⟩
 have:=(h.base hg).1
 show g≠bx
 omega
theorem aj7{k:Nat}(rows:List (Array Value))(hs:∀r∈rows,r.size=k)(i j:Nat)(hi:i<rows.length)(hj:j<k)(v:Value):flat (rows.set i (rows[i].setIfInBounds j v))=(flat rows).set (i*k+j) v:=by
 have hs':∀r∈rows.set i (rows[i].setIfInBounds j v),r.size=k:=fun r hr=>by
  rcases List.mem_or_eq_of_mem_set hr with h|rfl
  ·exact hs r h
  ·rw[Array.size_setIfInBounds];exact hs _ (List.getElem_mem hi)
 have hk:0<k:=by omega
 have hl1:(flat (rows.set i (rows[i].setIfInBounds j v))).length=rows.length*k:=by rw[flat_length hs',List.length_set]
 have hl2:(flat rows).length=rows.length*k:=flat_length hs
 refine List.ext_getElem? fun p=>?_
 by_cases hp:p<rows.length*k
 ·have hpi:p / k<rows.length:=by rw[Nat.div_lt_iff_lt_mul hk];exact hp
  have MP:p % k<k:=Nat.mod_lt _ hk
  have e:p / k*k+p % k=p:=Nat.div_add_mod' p k
  have g1:=flat_get hs' (p / k) (p % k) (by simpa using hpi) MP
  have g2:=flat_get hs (p / k) (p % k) hpi MP
  rw[e]at g1 g2
  rw[g1,List.getElem?_set,g2,List.getElem_set]
  by_cases hpe:i=p / k
  ·subst hpe
   rw[if_pos rfl]
   have hsz:=hs _ (List.getElem_mem hpi)
   by_cases hje:j=p % k
   ·have:p / k*k+j=p:=by rw[hje];exact e
    rw[if_pos this,if_pos (by rw[hl2];omega),hje,Array.getElem?_setIfInBounds,if_pos rfl,if_pos (by rw[hsz];exact MP)]
   ·have:¬p / k*k+j=p:=fun h=>hje (by omega)
    rw[if_neg this,Array.getElem?_setIfInBounds,if_neg hje]
  ·rw[if_neg hpe]
   have:¬i*k+j=p:=fun h=>hpe (by
    rw[←h,Nat.mul_comm,Nat.mul_add_div hk,Nat.div_eq_of_lt hj,Nat.add_zero])
   rw[if_neg this]
 ·rw[List.getElem?_eq_none (by omega),List.getElem?_eq_none (by rw[List.length_set];omega)]
theorem Own.setCell{w:World}{base k:Nat}{e:TypeId}{s:Sl}{rows:List (Array Value)}(h:Own w base e k s rows){g:Nat}(hg:s.a=some ⟨g,0,none⟩)(i j:Nat)(hi:i<rows.length)(hj:j<k)(v:Value) :
  Own (w.setCell ⟨g,i*k+j,none⟩ v) base e k s (rows.set i (rows[i].setIfInBounds j v)):=by
 have hs':∀r∈rows.set i (rows[i].setIfInBounds j v),r.size=k:=fun r hr=>by
  rcases List.mem_or_eq_of_mem_set hr with h1|rfl
  ·exact h.size r h1
  ·rw[Array.size_setIfInBounds];exact h.size _ (List.getElem_mem hi)
 refine⟨⟨by rw[flat_length hs'],?_⟩,hs'⟩
 rcases h.own.2 with⟨_,hn⟩|⟨g',cap,cur,hv,hb,hh,hle,hm,hsz,ht⟩
 ·omega
 ·have e1:g'=g:=by
   have:s.a=some ⟨g',0,none⟩:=by injection hv
   rw[hg]at this;cases this;rfl
  subst e1
  have hcap:s.cap=cap:=by injection hv
  refine .inr ⟨g',cap,cur.setIfInBounds (i*k+j) v,by rw[List.length_set,hg,hcap],hb,dF v hh,by rw[List.length_set];exact hle,hm,by simp[hsz],?_⟩
  rw[List.length_set,aj7 rows h.size i j hi hj,←ht]
  have h1:i*k+j<rows.length*k:=by
   have:i*k+k≤rows.length*k:=by rw[←Nat.succ_mul];exact Nat.mul_le_mul_right _ hi
   omega
  rw[Array.toList_setIfInBounds,List.take_set]
theorem Own.at_{w:World}{base k:Nat}{e:TypeId}{s:Sl}{rows:List (Array Value)}(h:Own w base e k s rows)(i:Nat)(hi:i<rows.length) :
  ∃g,s.a=some ⟨g,0,none⟩∧s.blk=some g∧g<w.heap.size∧row? w g (i*k) k=some rows[i]∧aQ w g (i*k) k=true:=by
 obtain⟨g,h1,h2,h3⟩:=h.row i hi
 rw[Nat.zero_add]at h3
 refine⟨g,h1,h2,(h.base h2).2,h3,?_⟩
 obtain⟨b',o',e',hb',hp⟩:=iM.ed h rfl i hi
 rw[h1]at e';cases e'
 simpa using hp
theorem lY.ed{S:Nat→Prop}{w:World}{base k:Nat}{e:TypeId}{s:Sl}{rows:List (Array Value)}(h:Own w base e k s rows){n:Nat}(hn:rows.length=n)(hS:∀g,s.blk=some g→S g):lY S w s.a n k:=by
 subst hn
 intro i hi
 obtain⟨g,h1,h2,h3,h4,h5⟩:=h.at_ i hi
 exact⟨g,0,h1,hS g h2,by simpa using h5⟩
end Go.WW
