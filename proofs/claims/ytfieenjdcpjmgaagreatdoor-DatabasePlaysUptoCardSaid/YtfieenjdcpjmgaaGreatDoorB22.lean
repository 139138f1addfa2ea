/- A part of the proof. -/
import Derived.Test.YtfieenjdcpjmgaaGreatDoorB21
import Derived.Test.YtfieenjdcpjmgaaGreatDoorB11
import Derived.Test.YtfieenjdcpjmgaaGreatDoorB09
import Derived.Test.YtfieenjdcpjmgaaGreatDoorB02
import Derived.Test.YtfieenjdcpjmgaaGreatDoorB14
import Derived.Test.YtfieenjdcpjmgaaGreatDoorB20
set_option maxRecDepth 100000
set_option maxHeartbeats 16000000
namespace Go.WW
open Go.RowKit
theorem zi{P:Program}{o:Oper}{a:Act}{w:World}{K:Act→World→Prop}{Q:Exit→Act→World→Prop}(x y:Operand)(t:TypeId)(ho:o.op=.call {callee:=.builtin .append,args:=#[x,y],argTypes:=#[t,t]})
  {e:TypeId} {k bytes:Nat} (he:gp P t e k bytes) {base:Nat} {s:Sl} {n:Nat} {rows:List (Array Value)} (hx:a.eval x=.slice s.a n s.cap) (hn:n=rows.length) (h:Own w base e k s rows) {A:Option Addr} {news:List (Array Value)} {m c:Nat}
  (hy:a.eval y=.slice A m c) (hm:m=news.length) (hs:cZ w k A news) (hlen:(rows.length+news.length)*(bytes+1)≤140737488355328) (hbase:base≤w.heap.size)
  (hK:∀(s':Sl) w',Own w' base e k s' (rows++news)→w.grownBy w' s.blk→(s'.blk=s.blk∨s'.blk=some w.heap.size)→K (a.put o.dst (.slice s'.a (n+m) s'.cap)) w'):o.wp P a w K Q:=by
 subst hn hm
 exact J5 x y t ho he hx h hy rfl hs hlen hbase hK
theorem je.src{w:World}{a:Option Addr}{L:List ai}(h:je w a L):cZ w 10 a (L.map aC):=
 ⟨fun r hr=>by obtain⟨x,_,rfl⟩:=List.mem_map.1 hr;exact wL _,fun r hr=>by obtain⟨x,_,rfl⟩:=List.mem_map.1 hr;exact QV _,fun i hi=>by
  obtain⟨b,o,ha,hr,-⟩:=je.get h i (by simpa using hi)
  exact⟨b,o,ha,by rw[hr,List.getElem_map]⟩⟩
theorem cZ.take{w:World}{k:Nat}{A:Option Addr}{rows:List (Array Value)}(h:cZ w k A rows)(n:Nat):cZ w k A (rows.take n):=
 ⟨fun r hr=>h.size r (List.mem_of_mem_take hr),fun r hr=>h.one r (List.mem_of_mem_take hr),fun i hi=>by
  have hi':i<rows.length:=by simp at hi;omega
  obtain⟨b,o,ha,hr⟩:=h.at_ i hi'
  exact⟨b,o,ha,by rw[hr,List.getElem_take]⟩⟩
theorem cZ.drop{w:World}{k b o:Nat}{rows:List (Array Value)}(h:cZ w k (some ⟨b,o,none⟩) rows)(n:Nat):cZ w k (some ⟨b,o+n*k,none⟩) (rows.drop n):=
 ⟨fun r hr=>h.size r (List.mem_of_mem_drop hr),fun r hr=>h.one r (List.mem_of_mem_drop hr),fun i hi=>by
  have hi':n+i<rows.length:=by simp at hi;omega
  obtain⟨b',o',ha,hr⟩:=h.at_ (n+i) hi'
  cases ha
  exact⟨b,o+n*k,rfl,by rw[Nat.add_assoc,←Nat.add_mul,hr,List.getElem_drop]⟩⟩
theorem cZ.tail{w:World}{a:Option Addr}{pb po:Nat}{rows:List (Array Value)}(h:cZ w 10 a rows)(ha:a=some ⟨pb,po,none⟩)(cap n:Nat)(hc:rows.length≤cap):cZ w 10 (if cap=n then a else Option.map (fun x=>x.add (n*10)) a) (rows.drop n):=by
 subst ha
 by_cases e:cap=n
 ·rw[List.drop_of_length_le (by omega)]
  exact⟨by simp,by simp,fun i hi=>absurd hi (Nat.not_lt_zero _)⟩
 ·rw[if_neg e]
  have hadd:(⟨pb,po,none⟩:Addr).add (n*10)=⟨pb,po+n*10,none⟩:=by unfold Addr.add;split<;>simp_all
  rw[Option.map_some,hadd]
  exact h.drop n
theorem jd.aO{w:World}{b o:Nat}{l:List Entry}(x:jd w (some ⟨b,o,none⟩) l)(i:Nat)(h:i<l.length):w.cell? ⟨b,o+i*17+6,none⟩=some (.string l[i].aO):=by
 obtain⟨r,hr,-⟩:=jd.at x i h
 have:=gX hr 6 (by omega)
 rw[FB]at this
 exact this
end Go.WW
namespace Go.Proofs.YtfieenjdcpjmgaaGreatDoor
open Go.RowKit Go.WW
theorem akk(e q:Sl)(D:Db)(k:ByteArray)(w:World)(hp:je w q.a D.au)(hi:idxOf (fun z=>decide (z.name=k)) D.au=-1):Calls Tryz.prog 40 #[.agg (ak e q D),.string k] w fun x w'=>x=.returned (.tuple #[.agg (ak e q D),.int .i64 9])∧Below w.heap.size w w':=by
 have hB:Below w.heap.size w ((w.alloc (.cells (ak e q D) 32)).alloc (.cells #[.string ⟨#[]⟩,.int .i64 0,.slice none 0 0,.slice none 0 0] 32)):=((Below.refl _ _).alloc (Nat.le_refl _) _).alloc (by simp) _
 have hx2:((w.alloc (.cells (ak e q D) 32)).alloc (.cells #[.string ⟨#[]⟩,.int .i64 0,.slice none 0 0,.slice none 0 0] 32)).heap[w.heap.size]?=some (.cells (ak e q D) 32):=jq w _ _
 have hz:aS ((w.alloc (.cells (ak e q D) 32)).alloc (.cells #[.string ⟨#[]⟩,.int .i64 0,.slice none 0 0,.slice none 0 0] 32)) (w.heap.size+1) 0 4=true:=by simp[go_sem]
 have hW:((w.alloc (.cells (ak e q D) 32)).alloc (.cells #[.string ⟨#[]⟩,.int .i64 0,.slice none 0 0,.slice none 0 0] 32)).heap.size=w.heap.size+1+1:=by simp
 go_enter Tryz.func40,Tryz.ntmps40
 go_wp2_with fail
 generalize ((w.alloc (.cells (ak e q D) 32)).alloc (.cells #[.string ⟨#[]⟩,.int .i64 0,.slice none 0 0,.slice none 0 0] 32))=W at *
 refine(yB _ _ _ _ _ (hp.later hB)).mono ?_
 rintro x w1 ⟨rfl,hb1⟩
 rw[hi]
 have hs1':=hb1.size
 obtain⟨hc,hf,hr,hlt⟩:=aB (aJ hb1 hx2)
 dsimp only
 have hlt4:w.heap.size+1<w1.heap.size:=by have:=hb1.size;omega
 have hz1:=(gG hb1 (w.heap.size+1) 0 4 (by omega)).trans hz
 have hne:w.heap.size+1≠w.heap.size:=by omega
 go_wp2_with fail
 have hrow:=iO (w:=w1) (jD e q D) hz1
 exact bodyPost_ret (jE (by rfl) Tryz.underlying32 rfl (by kernel_rfl) rfl hrow) rfl ⟨rfl,Go.WW.Below.putRow (ag hB hb1) (by omega)⟩
theorem akl(e q:Sl)(D:Db)(k:ByteArray)(w:World)(hp:je w q.a D.au)(jp:Nat)(hi:idxOf (fun z=>decide (z.name=k)) D.au=(jp:Int))(hE:jd w e.a D.entries)(j:Nat)(hj:j<D.entries.length)(hjk:D.entries[j].aO=k)(hpre:∀i (h:i<D.entries.length),i<j→¬D.entries[i].aO=k):Calls Tryz.prog 40 #[.agg (ak e q D),.string k] w fun x w'=>x=.returned (.tuple #[.agg (ak e q D),.int .i64 11])∧Below w.heap.size w w':=by
 have hEl:D.entries.length≤4294967000:=hE.1
 rcases aX.addr hE with h0|⟨b,oo,ha,hb⟩
 ·omega
 have hB:Below w.heap.size w ((w.alloc (.cells (ak e q D) 32)).alloc (.cells #[.string ⟨#[]⟩,.int .i64 0,.slice none 0 0,.slice none 0 0] 32)):=((Below.refl _ _).alloc (Nat.le_refl _) _).alloc (by simp) _
 have hx2:((w.alloc (.cells (ak e q D) 32)).alloc (.cells #[.string ⟨#[]⟩,.int .i64 0,.slice none 0 0,.slice none 0 0] 32)).heap[w.heap.size]?=some (.cells (ak e q D) 32):=jq w _ _
 have hz:aS ((w.alloc (.cells (ak e q D) 32)).alloc (.cells #[.string ⟨#[]⟩,.int .i64 0,.slice none 0 0,.slice none 0 0] 32)) (w.heap.size+1) 0 4=true:=by simp[go_sem]
 have hW:((w.alloc (.cells (ak e q D) 32)).alloc (.cells #[.string ⟨#[]⟩,.int .i64 0,.slice none 0 0,.slice none 0 0] 32)).heap.size=w.heap.size+1+1:=by simp
 go_enter Tryz.func40,Tryz.ntmps40
 go_wp2_with fail
 generalize ((w.alloc (.cells (ak e q D) 32)).alloc (.cells #[.string ⟨#[]⟩,.int .i64 0,.slice none 0 0,.slice none 0 0] 32))=W at *
 refine(yB _ _ _ _ _ (hp.later hB)).mono ?_
 rintro x w1 ⟨rfl,hb1⟩
 rw[hi]
 have hs1':=hb1.size
 obtain⟨hc,hf,hr,hlt⟩:=aB (aJ hb1 hx2)
 dsimp only
 have Hr:¬(jp:Int)<0:=by omega
 go_wp2_with fail
 go_loop [7] (fun iv=>∃i:Nat,i≤j∧iv=.int .i64 i) (fun iv=>j-(intOf iv).toNat)
 case atStart=>exact⟨0,Nat.zero_le _,rfl⟩
 case round=>
  obtain⟨i,hi',rfl⟩:=hrel
  have hB1:=ag hB hb1
  rw[ha]at hE
  have hil:i<D.entries.length:=by omega
  have hcell:=(hB1.cell (p:=⟨b,oo+i*17+6,none⟩) hb).trans (jd.aO hE i hil)
  have hii:(i:Int)<(D.entries.length:Int):=by omega
  have hbw:b<w1.heap.size:=Nat.lt_of_lt_of_le hb hB1.size
  have hc2:=(hc 2).trans (KF e q D)
  rw[ha]at hc2
  by_cases hlt':i<j
  ·have hne':=lu _ _ (hpre i hil hlt')
   go_wp2_with fail
   go_round
   case rel=>exact⟨i+1,by omega,by go_num⟩
   case measure=>simp[intOf];omega
  ·obtain rfl:i=j:=by omega
   have heq':=str_eq _ _ hjk
   have hlt4:w.heap.size+1<w1.heap.size:=by have:=hb1.size;omega
   have hz1:=(gG hb1 (w.heap.size+1) 0 4 (by omega)).trans hz
   have hne:w.heap.size+1≠w.heap.size:=by omega
   go_wp2_with fail
   have hrow:=iO (w:=w1) (jD e q D) hz1
   exact bodyPost_ret (jE (by rfl) Tryz.underlying32 rfl (by kernel_rfl) rfl hrow) rfl ⟨rfl,Go.WW.Below.putRow (ag hB hb1) (by omega)⟩
theorem akm(e q:Sl)(D:Db)(k:ByteArray)(w:World)(hp:je w q.a D.au)(jp:Nat)(hi:idxOf (fun z=>decide (z.name=k)) D.au=(jp:Int))(hE:jd w e.a D.entries)(hn:∀i (h:i<D.entries.length),¬D.entries[i].aO=k)(hjp:jp<D.au.length)(hcap:D.au.length≤q.cap)(hs0:0≤D.ay)(hs1:D.ay<1000000):Calls Tryz.prog 40 #[.agg (ak e q D),.string k] w (MG e {D with au:=D.au.eraseIdx jp,ay:=D.ay+1} 0 w):=by
 have hEl:D.entries.length≤4294967000:=hE.1
 rcases aX.addr hp with h0|⟨pb,po,hpa,hpb⟩
 ·omega
 have WY:=Lib.hid hpa
 clear hpa
 have hB:Below w.heap.size w ((w.alloc (.cells (ak e q D) 32)).alloc (.cells #[.string ⟨#[]⟩,.int .i64 0,.slice none 0 0,.slice none 0 0] 32)):=((Below.refl _ _).alloc (Nat.le_refl _) _).alloc (by simp) _
 have hx2:((w.alloc (.cells (ak e q D) 32)).alloc (.cells #[.string ⟨#[]⟩,.int .i64 0,.slice none 0 0,.slice none 0 0] 32)).heap[w.heap.size]?=some (.cells (ak e q D) 32):=jq w _ _
 have hz:aS ((w.alloc (.cells (ak e q D) 32)).alloc (.cells #[.string ⟨#[]⟩,.int .i64 0,.slice none 0 0,.slice none 0 0] 32)) (w.heap.size+1) 0 4=true:=by simp[go_sem]
 have hW:((w.alloc (.cells (ak e q D) 32)).alloc (.cells #[.string ⟨#[]⟩,.int .i64 0,.slice none 0 0,.slice none 0 0] 32)).heap.size=w.heap.size+1+1:=by simp
 go_enter Tryz.func40,Tryz.ntmps40
 go_wp2_with fail
 generalize ((w.alloc (.cells (ak e q D) 32)).alloc (.cells #[.string ⟨#[]⟩,.int .i64 0,.slice none 0 0,.slice none 0 0] 32))=W at *
 refine(yB _ _ _ _ _ (hp.later hB)).mono ?_
 rintro x w1 ⟨rfl,hb1⟩
 rw[hi]
 have hs1':=hb1.size
 obtain⟨hc,hf,hr,hlt⟩:=aB (aJ hb1 hx2)
 dsimp only
 have Hr:¬(jp:Int)<0:=by omega
 go_wp2_with fail
 go_loop [7] (fun iv=>∃i:Nat,i≤D.entries.length∧iv=.int .i64 i) (fun iv=>D.entries.length-(intOf iv).toNat)
 case atStart=>exact⟨0,Nat.zero_le _,rfl⟩
 case round=>
  obtain⟨i,hi',rfl⟩:=hrel
  have hB1:=ag hB hb1
  by_cases hlt':i<D.entries.length
  ·have hne':=lu _ _ (hn i hlt')
   obtain⟨b,oo,ha,hb⟩:∃b o,e.a=some ⟨b,o,none⟩∧b<w.heap.size:=by rcases aX.addr hE with h0|h0;omega;exact h0
   rw[ha]at hE
   have hcell:=(hB1.cell (p:=⟨b,oo+i*17+6,none⟩) hb).trans (jd.aO hE i hlt')
   have hii:(i:Int)<(D.entries.length:Int):=by omega
   have hbw:b<w1.heap.size:=Nat.lt_of_lt_of_le hb hB1.size
   have hc2:=(hc 2).trans (KF e q D)
   rw[ha]at hc2
   go_wp2_with fail
   go_round
   case rel=>exact⟨i+1,by omega,by go_num⟩
   case measure=>simp[intOf];omega
  ·obtain rfl:i=D.entries.length:=by omega
   have hc3:=(hc 3).trans (TR e q D)
   rw[WY.out]at hc3
   have hg1:(jp:Int)≤(q.cap:Int):=by omega
   have hg2:(jp:Int)+1≤(D.au.length:Int):=by omega
   have hg3:(D.au.length:Int)≤(q.cap:Int):=by omega
   have jy:=Lib.hid ((hp.later (ag hB1 (aj (Below.refl _ w1).drew (.cells #[] 50)))).src.take jp)
   have HO:=Lib.hid (Own.empty w1.drew 50 10)
   have hpl:D.au.length≤4294967000:=hp.1
   go_wp2_with fail
   refine akj (nK (fun _=>False) w1) fQ (by kernel_rfl) (by kernel_rfl) (by kernel_rfl) ⟨⟨World.drew w1,(But.refl _ _).drew⟩,rfl⟩ ?_
   repeat (first|(refine ax (by rfl) ?_)|(refine aP (by rfl) (by rfl) (fun K hK=>?_);go_big_quiet_op;refine hK _ ?_;clear hK K))
   refine aU (by rfl) (by rfl) (fun K hK=>?_)
   go_wp2_with fail
   refine hK _ _ (dw (But.of_below (aj (Below.refl _ w1).drew _))) ?_
   clear hK K
   repeat (first|(refine ax (by rfl) ?_)|(refine aP (by rfl) (by rfl) (fun K hK=>?_);go_big_quiet_op;refine hK _ ?_;clear hK K))
   refine aU (by rfl) (by rfl) (fun K hK=>?_)
   refine zi (.tmp 30) (.tmp 34) _ rfl DF (n:=0) (s:=⟨some ⟨w1.heap.size,0,none⟩,0⟩) rfl rfl HO.out rfl (by simp;omega) jy.out (by simp;omega) (by simp) ?_
   intro s3 w3 hown3 hg3 gJ
   have hb3:Below w1.heap.size w1 w3:=(aj (Below.refl _ w1).drew (.cells #[] 50)).grown hg3 (by simp) (fun k' e'=>by cases e';exact Nat.le_refl _)
   go_wp2_with fail
   refine hK _ _ (dw (But.of_below hb3)) ?_
   clear hK K
   repeat (first|(refine ax (by rfl) ?_)|(refine aP (by rfl) (by rfl) (fun K hK=>?_);go_big_quiet_op;refine hK _ ?_;clear hK K))
   have hs2:=((hp.later (ag hB1 hb3)).src).tail WY.out q.cap (jp+1) (by rw[List.length_map];exact hcap)
   generalize (if q.cap=jp+1 then q.a else Option.map (fun x=>x.add ((jp+1)*10)) q.a)=A2 at *
   refine aU (by rfl) (by rfl) (fun K hK=>?_)
   refine zi (.tmp 35) (.tmp 40) _ rfl DF (n:=jp) (s:=s3) rfl (by simp;omega) hown3 rfl (by rw[List.length_drop,List.length_map]) hs2 (by simp;omega) hb3.size ?_
   intro s4 w4 hown4 hg4 KO
   have hb4:Below w1.heap.size w1 w4:=hb3.grown hg4 hb3.size (fun k' e'=>(hown3.base e').1)
   go_wp2_with fail
   refine hK _ _ (dw (But.of_below hb4)) ?_
   clear hK K
   repeat (first|(refine ax (by rfl) ?_)|(refine aP (by rfl) (by rfl) (fun K hK=>?_);go_big_quiet_op;refine hK _ ?_;clear hK K))
   refine bV ?_
   unfold vJ
   simp only[List.getLast?_cons_cons,List.getLast?_singleton]
   have oG:=ag hb1 hb4
   have hy2:=aJ oG hx2
   have WZ:(D.au.eraseIdx jp).length=jp+(D.au.length-(jp+1)):=by rw[List.length_eraseIdx_of_lt hjp];omega
   have hLE:([]++(D.au.map aC).take jp)++(D.au.map aC).drop (jp+1)=(D.au.eraseIdx jp).map aC:=by rw[List.nil_append,List.eraseIdx_eq_take_drop_succ,List.map_append,List.map_take,List.map_drop]
   rw[hLE]at hown4
   have HOW:=Lib.hid hown4
   have Hm:(D.ay+1).tmod 4611686018427387904=D.ay+1:=Int.tmod_eq_of_lt (by omega) (by omega)
   have hne2:w.heap.size+1≠w.heap.size:=by omega
   have hset:=dI (o:=1) (.int .i64 (D.ay+1)) (dI (o:=3) (.slice s4.a (jp+(D.au.length-(jp+1))) s4.cap) hy2)
   have DK:row? ((w4.setCell ⟨w.heap.size,3,none⟩ (.slice s4.a (jp+(D.au.length-(jp+1))) s4.cap)).setCell ⟨w.heap.size,1,none⟩ (.int .i64 (D.ay+1))) w.heap.size 0 4=some (ak e s4 {D with au:=D.au.eraseIdx jp,ay:=D.ay+1}):=(bQ hset).trans (by rw[←WZ];kernel_rfl)
   have hlt4:w.heap.size+1<w4.heap.size:=by have:=oG.size;omega
   have hcp:aS ((w4.setCell ⟨w.heap.size,3,none⟩ (.slice s4.a (jp+(D.au.length-(jp+1))) s4.cap)).setCell ⟨w.heap.size,1,none⟩ (.int .i64 (D.ay+1))) (w.heap.size+1) 0 4=true:=(lZ hne2).trans ((lZ hne2).trans ((gG oG (w.heap.size+1) 0 4 (by omega)).trans hz))
   clear hc hf hr hlt hown4 hown3 hset WZ
   obtain⟨hc,hf,-,hlt⟩:=aB hy2
   generalize hX':D.au.eraseIdx jp=X' at *
   have HXM:=Lib.hid (show ∀x∈X',x.name.size≤lim from fun x hx=>by
    have hx':x∈D.au:=List.mem_of_mem_eraseIdx (by rw[hX'];exact hx)
    obtain⟨i',hi',rfl⟩:=List.mem_iff_getElem.1 hx'
    exact(je.get hp i' hi').choose_spec.choose_spec.2.2)
   have Nq:=Lib.hid (show X'.length≤lim by rw[←hX',List.length_eraseIdx_of_lt hjp];exact Nat.le_trans (Nat.sub_le _ _) hp.1)
   clear hX'
   go_wp2_with fail
   have hrow:=iO (jD e s4 {D with au:=X',ay:=D.ay+1}) hcp
   refine bodyPost_ret (jE (by rfl) Tryz.underlying32 rfl (by kernel_rfl) rfl hrow) rfl ⟨s4,rfl,Go.WW.Below.putRow (((ag hB1 hb4).setCell (Nat.le_refl _) _).setCell (Nat.le_refl _) _) (Nat.le_succ _),fun y hy=>?_⟩
   have hsz1:w.heap.size≤w1.heap.size:=hB1.size
   have aqG:w.heap.size+1+1≤w1.heap.size:=by omega
   have mi:=HOW.out.kept (w':=y) (fun g hg=>by
    have hg1:=HOW.out.base hg
    have h1:w1.heap.size≤g:=hg1.1
    rw[hy g ⟨by omega,by rw[kN];simp only[World.setCell,Array.size_modify];exact hg1.2⟩,iI (by omega),Below.heap_setCell _ _ _ _ (show g≠w.heap.size by omega),Below.heap_setCell _ _ _ _ (show g≠w.heap.size by omega)])
   exact⟨je.eG mi Nq.out HXM.out,by have h9:=Go.WW.Own.cap mi;rw[List.length_map]at h9;exact h9⟩
end Go.Proofs.YtfieenjdcpjmgaaGreatDoor
namespace Go.WW
open Go.RowKit
theorem Xa{D:Db}{X:List EE}(hD:D.entries=X.map (·.2))(q:az) :
  (idxOf (fun z=>aY z.name q) D.entries=-1∧∀x∈X,aY x.2.name q=false)∨∃i,∃hi:i<X.length,idxOf (fun z=>aY z.name q) D.entries=(i:Int)∧aY X[i].2.name q=true:=by
 rw[hD]
 unfold idxOf
 cases hf:(X.map (·.2)).findIdx? (fun z=>aY z.name q)with
 |none=>
  refine .inl ⟨rfl,fun x hx=>?_⟩
  exact(List.findIdx?_eq_none_iff.1 hf) x.2 (List.mem_map.2 ⟨x,hx,rfl⟩)
 |some i=>
  obtain⟨hi,h1,-⟩:=List.findIdx?_eq_some_iff_getElem.1 hf
  refine .inr ⟨i,by simpa using hi,rfl,by simpa using h1⟩
theorem akp{D D':Db}{X X':List EE}{q:az}{no:Int}(h:rU D X q no D' X'):D'.au=D.au∧D'.aG=D.aG∧D.ay≤D'.ay∧D'.ay≤D.ay+1∧X'.length≤X.length:=by
 cases h with
 |none=>exact⟨rfl,rfl,by omega,by omega,by omega⟩
 |yes i hi=>exact⟨rfl,rfl,by simp;omega,by simp,by rw[List.length_eraseIdx_of_lt hi];omega⟩
theorem akq{D D':Db}{X X':List EE}{q:az}{f a b no:Int}(h:uo D X q f a b no D' X'):D'.au=D.au∧D'.aG=D.aG∧D.ay≤D'.ay∧D'.ay≤D.ay+1∧X'.length≤X.length:=by
 cases h with
 |bad=>exact⟨rfl,rfl,by omega,by omega,by omega⟩
 |none=>exact⟨rfl,rfl,by omega,by omega,by omega⟩
 |yes=>exact⟨rfl,rfl,by simp;omega,by simp,by simp⟩
theorem akr{D D':Db}{k:ByteArray}{no:Int}(h:qw D k no D'):D'.entries=D.entries∧D'.aG=D.aG∧D.ay≤D'.ay∧D'.ay≤D.ay+1∧D'.au.length≤D.au.length∧D'.au.Sublist D.au:=by
 cases h with
 |none=>exact⟨rfl,rfl,by omega,by omega,by omega,List.Sublist.refl _⟩
 |busy=>exact⟨rfl,rfl,by omega,by omega,by omega,List.Sublist.refl _⟩
 |yes i hi=>exact⟨rfl,rfl,by simp;omega,by simp,by simp only[];rw[List.length_eraseIdx_of_lt hi];omega,List.eraseIdx_sublist _ _⟩
theorem MR.dG{w:World}{a:Option Addr}{X:List EE}(h:MR w a X):jd w a (X.map (·.2)):=h.rows.dG h.each
end Go.WW
namespace Go.Proofs.YtfieenjdcpjmgaaGreatDoor
open Go.RowKit Go.WW
section
variable (S:Nat→Prop) (es ps:Sl) (D:Db) (X:List EE) (w:World)
theorem aks(t:Sl)(q:az)(h:iK S es ps D X w)(hS:∀k,S k→k<w.heap.size)(hq:bn w t q)(hD:D.entries=X.map (·.2))(hs0:0≤D.ay)(hs1:D.ay<1000000) :
  Calls Tryz.prog 36 #[.agg (ak es ps D),.agg (ah t q)] w fun z w'=>∃(no:Int) (es':Sl) (D':Db) (X':List EE),z=.returned (.tuple #[.agg (ak es' ps D'),.int .i64 no])∧Below w.heap.size w w'∧iK S es' ps D' X' w'∧rU D X q no D' X':=by
 have hX:=h.dG.out.rows
 have hm:=h.dG.out.each
 rcases Xa hD q with⟨hi,hn⟩|⟨i,hi,hat,hn⟩
 ·refine(aj2 es ps D t q w hq (by rw[hD];exact h.dG.out.dG) hi).mono ?_
  rintro z w' ⟨rfl,hb⟩
  exact⟨9,es,D,X,rfl,hb,h.later hb,.none hn⟩
 ·refine(aj3 es ps D t q w hq X hX hm hD i hi hat hs0 hs1).mono ?_
  rintro z w' ⟨s,rfl,hb,hd⟩
  have hsub:=List.eraseIdx_sublist X i
  exact⟨0,s,_,X.eraseIdx i,rfl,hb,⟨fun y hy=>⟨jL.DU hd hS y hy,fun x hx=>(h.dG y ((But.of_below hb).trans hy)).each x (hsub.mem hx)⟩,h.dL.later hb,h.cap⟩,.yes i hi hn⟩
theorem akt(t:Sl)(q:az)(f la su:Int)(h:iK S es ps D X w)(hS:∀k,S k→k<w.heap.size)(hq:bn w t q)(hD:D.entries=X.map (·.2))(hg:gY (X.map (·.2)))(hs0:0≤D.ay)(hs1:D.ay<1000000) :
  Calls Tryz.prog 38 #[.agg (ak es ps D),.agg (ah t q),.int .i64 f,.int .i64 la,.int .i64 su] w fun z w'=>∃(no:Int) (es':Sl) (D':Db) (X':List EE),z=.returned (.tuple #[.agg (ak es' ps D'),.int .i64 no])∧Below w.heap.size w w'∧iK S es' ps D' X' w'∧uo D X q f la su no D' X':=by
 have hX:=h.dG.out.rows
 have hm:=h.dG.out.each
 cases hv:kC f la su with
 |false=>
  refine(aj8 es ps D t q w hq f la su hv).mono ?_
  rintro z w' ⟨rfl,hb⟩
  exact⟨2,es,D,X,rfl,hb,h.later hb,.bad hv⟩
 |true=>
  rcases Xa hD q with⟨hi,hn⟩|⟨i,hi,hat,hn⟩
  ·refine(aj9 es ps D t q w hq f la su hv (by rw[hD];exact h.dG.out.dG) hi).mono ?_
   rintro z w' ⟨rfl,hb⟩
   exact⟨9,es,D,X,rfl,hb,h.later hb,.none hv hn⟩
  ·have hk:textOf X[i].2.name=dQ q:=(Nb (hg.ok _ (List.mem_map.2 ⟨_,List.getElem_mem hi,rfl⟩))).1 hn
   refine(aka es ps D t q w hq f la su hv X hX hm hD i hi hat hs0 hs1 (X.map (um (dQ q) f la su)) (ajv hg hi hk f la su)).mono ?_
   rintro z w' ⟨s,rfl,hb,hd⟩
   refine⟨0,s,_,_,rfl,hb,⟨fun y hy=>⟨jL.DU hd hS y hy,fun x hx=>?_⟩,h.dL.later hb,h.cap⟩,.yes hv i hi hn⟩
   obtain⟨z,hz,rfl⟩:=List.mem_map.1 hx
   exact((h.dG y ((But.of_below hb).trans hy)).each z hz).touched _ _ _ _
theorem aku(k:ByteArray)(h:iK S es ps D X w)(hS:∀k,S k→k<w.heap.size)(hD:D.entries=X.map (·.2))(_hn:(D.au.map (·.name)).Nodup)(hs0:0≤D.ay)(hs1:D.ay<1000000) :
  Calls Tryz.prog 40 #[.agg (ak es ps D),.string k] w fun z w'=>∃(no:Int) (ps':Sl) (D':Db),z=.returned (.tuple #[.agg (ak es ps' D'),.int .i64 no])∧Below w.heap.size w w'∧iK S es ps' D' X w'∧qw D k no D':=by
 have hp:=h.dL.out
 have hE:jd w es.a D.entries:=by rw[hD];exact h.dG.out.dG
 rcases A8 D.au k with⟨hi,ha⟩|⟨i,hil,hi,hnm,-⟩
 ·refine(akk es ps D k w hp hi).mono ?_
  rintro z w' ⟨rfl,hb⟩
  exact⟨9,ps,D,rfl,hb,h.later hb,.none ha⟩
 ·by_cases hb:∃j,∃hj:j<D.entries.length,D.entries[j].aO=k
  ·obtain⟨j,⟨hj,hjk⟩,hpre⟩:∃j,(∃hj:j<D.entries.length,D.entries[j].aO=k)∧∀i,i<j→¬∃hi:i<D.entries.length,D.entries[i].aO=k:=by
    obtain⟨j0,hj0,e0⟩:=hb
    obtain⟨j,-,h2,h3⟩:=Wj (fun j=>∃hj:j<D.entries.length,D.entries[j].aO=k) (j0+1) ⟨j0,by omega,hj0,e0⟩
    exact⟨j,h2,h3⟩
   refine(akl es ps D k w hp i hi hE j hj hjk (fun i' hi' hlt e=>hpre i' hlt ⟨hi',e⟩)).mono ?_
   rintro z w' ⟨rfl,hb'⟩
   exact⟨11,ps,D,rfl,hb',h.later hb',.busy i hil hnm ⟨_,List.getElem_mem hj,hjk⟩⟩
  ·refine(akm es ps D k w hp i hi hE (fun j hj e=>hb ⟨j,hj,e⟩) hil h.cap hs0 hs1).mono ?_
   rintro z w' ⟨s,rfl,hb',hd⟩
   refine⟨0,s,_,rfl,hb',⟨h.dG.later hb',fun y hy=>(jL.DU hd hS y hy).1,hd.out.2⟩,.yes i hil hnm fun x hx e=>?_⟩
   obtain⟨j,hj,rfl⟩:=List.mem_iff_getElem.1 hx
   exact hb ⟨j,hj,e⟩
end
end Go.Proofs.YtfieenjdcpjmgaaGreatDoor
namespace Go.WW
open Go.RowKit
def oH(v v':Value):Prop:=v'=v∨(∃s s',v=.string s∧v'=.string s')∨(∃k a b,v=.int k a∧v'=.int k b)
theorem oH.refl(v:Value):oH v v:=.inl rfl
theorem oH.trans{a b c:Value}(h:oH a b)(k:oH b c):oH a c:=by
 rcases h with rfl|⟨s,s',rfl,rfl⟩|⟨t,x,y,rfl,rfl⟩
 ·exact k
 ·rcases k with rfl|⟨s1,s2,h1,rfl⟩|⟨t,x,y,h1,rfl⟩
  iterate 2
   ·exact .inr (.inl ⟨_,_,rfl,rfl⟩)
  ·cases h1
 ·rcases k with rfl|⟨s1,s2,h1,rfl⟩|⟨t',x',y',h1,rfl⟩
  ·exact .inr (.inr ⟨_,_,_,rfl,rfl⟩)
  ·cases h1
  ·cases h1;exact .inr (.inr ⟨_,_,_,rfl,rfl⟩)
structure Sp(m:Nat)(w w':World):Prop where
 os:w'.os=w.os
 tape:w'.tape=w.tape
 output:w'.output=w.output
 size:w'.heap.size=w.heap.size
 block:∀b,b<m→w'.heap[b]?=w.heap[b]?
 cells:∀(b:Nat) c t f,w.heap[b]?=some (Obj.cells c t f)→∃c',w'.heap[b]?=some (Obj.cells c' t f)∧c'.size=c.size∧∀(i:Nat) v,c[i]?=some v→∃v',c'[i]?=some v'∧oH v v'
theorem Sp.refl(m:Nat)(w:World):Sp m w w:=⟨rfl,rfl,rfl,rfl,fun _ _=>rfl,fun _ c _ _ h=>⟨c,h,rfl,fun _ v hv=>⟨v,hv,oH.refl v⟩⟩⟩
theorem Sp.but{m:Nat}{w w':World}(h:Sp m w w'):But (fun b=>m≤b) w w':=⟨h.os,h.tape,h.output,by rw[h.size];exact Nat.le_refl _,fun b _ hn=>h.block b (by omega)⟩
theorem Sp.kin{m:Nat}{w w':World}(h:Sp m w w'){b o:Nat}{v:Value}(hc:w.cell? ⟨b,o,none⟩=some v):∃v',w'.cell? ⟨b,o,none⟩=some v'∧oH v v':=by
 unfold World.cell? at hc ⊢
 dsimp only at hc ⊢
 split at hc
 ·rename_i c t f hb
  obtain⟨c',h1,h2,h3⟩:=h.cells b c t f hb
  rw[h1]
  simp only[Option.isSome_none,Bool.false_eq_true,if_false]at hc ⊢
  exact h3 o v hc
 ·cases hc
theorem Sp.slice{m:Nat}{w w':World}(h:Sp m w w'){b o n c:Nat}{a:Option Addr}(hc:w.cell? ⟨b,o,none⟩=some (.slice a n c)):w'.cell? ⟨b,o,none⟩=some (.slice a n c):=by
 obtain⟨v',h1,rfl|⟨s,s',h2,-⟩|⟨k,x,y,h2,-⟩⟩:=h.kin hc
 ·exact h1
 ·cases h2
 ·cases h2
theorem Sp.string{m:Nat}{w w':World}(h:Sp m w w'){b o:Nat}{s:ByteArray}(hc:w.cell? ⟨b,o,none⟩=some (.string s)):∃s',w'.cell? ⟨b,o,none⟩=some (.string s'):=by
 obtain⟨v',h1,rfl|⟨s1,s',h2,rfl⟩|⟨k,x,y,h2,-⟩⟩:=h.kin hc
 ·exact⟨s,h1⟩
 ·exact⟨s',h1⟩
 ·cases h2
theorem Sp.int{m:Nat}{w w':World}(h:Sp m w w'){b o:Nat}{k:IntKind}{x:Int}(hc:w.cell? ⟨b,o,none⟩=some (.int k x)):∃y,w'.cell? ⟨b,o,none⟩=some (.int k y):=by
 obtain⟨v',h1,rfl|⟨s1,s',h2,rfl⟩|⟨k',x',y,h2,rfl⟩⟩:=h.kin hc
 ·exact⟨x,h1⟩
 ·cases h2
 ·cases h2;exact⟨y,h1⟩
theorem Sp.aS{m:Nat}{w w':World}(h:Sp m w w'){b o n:Nat}(hp:aS w b o n=true):aS w' b o n=true:=by
 unfold Go.WW.aS at hp ⊢
 split at hp
 ·rename_i c t f hb
  obtain⟨c',h1,h2,h3⟩:=h.cells b c t f hb
  rw[h1]
  simpa only[h2]using hp
 ·cases hp
theorem xF{w:World}{b o n:Nat}(hp:aS w b o n=true)(o':Nat):w.frozen? ⟨b,o',none⟩=false:=by
 unfold aS at hp
 split at hp
 ·rename_i c t f hb
  simp only[Bool.and_eq_true,decide_eq_true_eq]at hp
  obtain⟨-,rfl⟩:=hp
  exact frozen_of_row w b o' c t hb
 ·cases hp
theorem Sp.setCell{m:Nat}{w w':World}(h:Sp m w w'){b o:Nat}{v0 v:Value}(hm:m≤b)(hc:w.cell? ⟨b,o,none⟩=some v0)(hk:oH v0 v):Sp m w (w'.setCell ⟨b,o,none⟩ v):=by
 refine⟨h.os,h.tape,h.output,by rw[←h.size];simp[World.setCell],fun k hk'=>(Below.heap_setCell _ _ _ _ (by simp;omega)).trans (h.block k hk'),fun k c t f hkb=>?_⟩
 obtain⟨c',h1,h2,h3⟩:=h.cells k c t f hkb
 by_cases e:k=b
 ·subst e
  refine⟨c'.setIfInBounds o v,?_,by simp[h2],fun i u hu=>?_⟩
  ·have hlt:k<w'.heap.size:=(Array.getElem?_eq_some_iff.1 h1).1
   simp only[World.setCell]
   rw[Array.getElem?_modify,if_pos rfl,h1]
   rfl
  ·obtain⟨u',h4,h5⟩:=h3 i u hu
   by_cases ei:o=i
   ·subst ei
    refine⟨v,by rw[Array.getElem?_setIfInBounds,if_pos rfl,if_pos (Array.getElem?_eq_some_iff.1 h4).1],?_⟩
    have:u=v0:=by
     unfold World.cell? at hc
     dsimp only at hc
     rw[hkb]at hc
     simp only[Option.isSome_none,Bool.false_eq_true,if_false]at hc
     rw[hu]at hc;cases hc;rfl
    rw[this];exact hk
   ·exact⟨u',by rw[Array.getElem?_setIfInBounds,if_neg ei];exact h4,h5⟩
 ·exact⟨c',(Below.heap_setCell _ _ _ _ (by simpa using e)).trans h1,h2,h3⟩
theorem ry.later{m:Nat}{w w':World}{r:aN}{d:Entry}(h:ry m w r d)(hb:Below w.heap.size w w'):ry m w' r d:=by
 have wr:∀{a:Option Addr} {n k:Nat},iV m w a n k→iV m w' a n k:=fun h1 i hi=>by
  obtain⟨b,o,e,h2,h3⟩:=h1 i hi
  refine⟨b,o,e,h2,?_⟩
  have hlt:b<w.heap.size:=by
   unfold aS at h3
   split at h3
   ·rename_i hb';exact(Array.getElem?_eq_some_iff.1 hb').1
   ·cases h3
  rw[sS (hb.block b hlt)];exact h3
 refine⟨h.at_.later hb,wr h.name,wr h.aliases,aX.later hb (fun i cs=>?_) h.keys.1,wr h.keys.2⟩
 rintro⟨p,s,h1,h2,h3,h4⟩
 refine⟨p,s,h1,h2,aX.later hb (fun j cs=>?_) h3,h4⟩
 rintro⟨q,t,h5,h6,h7,h8⟩
 exact⟨q,t,h5,h6,BytesAt.later hb h7,wr h8⟩
theorem oq.get{m:Nat}{w:World}{a:Option Addr}{l:List bC}(h:oq m w a l)(i:Nat)(hi:i<l.length) :
  ∃b o,∃s:Sl,a=some ⟨b,o,none⟩∧m≤b∧w.frozen? ⟨b,o+i*5,none⟩=false∧aS w b (o+i*5) 5=true∧w.cell? ⟨b,o+i*5,none⟩=some (.int .i64 l[i].version)∧w.cell? ⟨b,o+i*5+1,none⟩=some (.slice s.a l[i].keys.length s.cap)∧tN m w s.a l[i].keys:=by
 obtain⟨b,o,ha,hm,hp⟩:=h.2 i hi
 obtain⟨b',o',cs,ha',hr,p,s,hp',rfl,hs⟩:=h.1.2 i hi
 rw[ha]at ha';cases ha'
 rw[List.getElem?_eq_getElem hi]at hp';cases hp'
 have h0:=gX hr 0 (by omega)
 have h1:=gX hr 1 (by omega)
 rw[Cb]at h0
 rw[Cc]at h1
 exact⟨b,o,s,ha,hm,xF hp _,hp,by simpa using h0,h1,hs.1⟩
theorem tN.get{m:Nat}{w:World}{a:Option Addr}{l:List Key}(h:tN m w a l)(i:Nat)(hi:i<l.length) :
  ∃b o,∃s:Sl,a=some ⟨b,o,none⟩∧w.cell? ⟨b,o+i*3+2,none⟩=some (.slice s.a l[i].bytes.length s.cap)∧wY m w s.a l[i].bytes:=by
 obtain⟨b,o,cs,ha,hr,p,s,hp',rfl,hs⟩:=h.2 i hi
 rw[List.getElem?_eq_getElem hi]at hp';cases hp'
 have h1:=gX hr 2 (by omega)
 rw[Fz]at h1
 exact⟨b,o,s,ha,h1,hs⟩
theorem wY.get{m:Nat}{w:World}{a:Option Addr}{l:List UInt8}(h:wY m w a l)(i:Nat)(hi:i<l.length) :
  ∃b o,a=some ⟨b,o,none⟩∧m≤b∧aS w b (o+i) 1=true∧w.cell? ⟨b,o+i,none⟩=some (.int .u8 l[i].toNat):=by
 obtain⟨b,o,ha,hm,hp⟩:=h.2 i hi
 obtain⟨b',o',ha',hc⟩:=BytesAt.get h.1 i hi
 rw[ha]at ha';cases ha'
 exact⟨b,o,ha,hm,by simpa using hp,hc⟩
theorem ry.part{m:Nat}{w:World}{r:aN}{d:Entry}(h:ry m w r d)(i:Nat)(hi:i<d.name.parts.length) :
  ∃b o s,r.parts.a=some ⟨b,o,none⟩∧m≤b∧aS w b (o+i) 1=true∧w.cell? ⟨b,o+i,none⟩=some (.string s):=by
 obtain⟨b,o,ha,hm,hp⟩:=h.name i hi
 obtain⟨b',o',ha',hc,-⟩:=kH.get h.at_.name.1 i hi
 rw[ha]at ha';cases ha'
 exact⟨b,o,_,ha,hm,by simpa using hp,hc⟩
theorem ry.alias{m:Nat}{w:World}{r:aN}{d:Entry}(h:ry m w r d)(i:Nat)(hi:i<d.aliases.length) :
  ∃b o s,r.aliases.a=some ⟨b,o,none⟩∧m≤b∧aS w b (o+i*2) 2=true∧w.cell? ⟨b,o+i*2+1,none⟩=some (.string s):=by
 obtain⟨b,o,ha,hm,hp⟩:=h.aliases i hi
 obtain⟨b',o',s,ha',hr,-⟩:=fJ.get h.at_.aliases i hi
 rw[ha]at ha';cases ha'
 have h1:=gX hr 1 (by omega)
 rw[Fv]at h1
 exact⟨b,o,_,ha,hm,hp,h1⟩
end Go.WW
namespace Go.Proofs.YtfieenjdcpjmgaaGreatDoor
open Go.RowKit Go.WW
end Go.Proofs.YtfieenjdcpjmgaaGreatDoor
namespace Go.WW
open Go.RowKit
def mF(S:Nat→Prop)(w:World)(a:Option Addr)(n k:Nat):Prop:=∀i,i<n→∃b o,a=some ⟨b,o,Option.none⟩∧S b∧aS w b (o+i*k) k=true
def xG(S:Nat→Prop)(w:World)(a:Option Addr)(l:List UInt8):Prop:=BytesAt w a l∧mF S w a l.length 1
def akv(S:Nat→Prop)(w:World)(s:Sl)(k:Key):Prop:=xG S w s.a k.bytes
def uw(S:Nat→Prop)(w:World)(a:Option Addr)(l:List Key):Prop:=aX w 3 a l.length fun i cs=>∃p s,l[i]?=some p∧cs=bZ s p∧akv S w s p
def Xb(S:Nat→Prop)(w:World)(s:Sl)(k:bC):Prop:=uw S w s.a k.keys∧k.di.size≤lim
def Bf(S:Nat→Prop)(w:World)(a:Option Addr)(l:List bC):Prop:=(aX w 5 a l.length fun i cs=>∃p s,l[i]?=some p∧cs=bz s p∧Xb S w s p)∧mF S w a l.length 5
structure pF(S:Nat→Prop)(w:World)(r:aN)(d:Entry):Prop where
 at_:bK w r d
 name:mF S w r.parts.a d.name.parts.length 1
 aliases:mF S w r.aliases.a d.aliases.length 2
 keys:Bf S w r.keys.a d.keys
theorem mF.mono{S T:Nat→Prop}{w:World}{a:Option Addr}{n k:Nat}(h:mF S w a n k)(hS:∀b,S b→T b):mF T w a n k:=fun i hi=>by
 obtain⟨b,o,e,h1,h2⟩:=h i hi
 exact⟨b,o,e,hS b h1,h2⟩
theorem uw.mono{S T:Nat→Prop}{w:World}{a:Option Addr}{l:List Key}(h:uw S w a l)(hS:∀b,S b→T b):uw T w a l:=
 aX.imp h fun _ _ ⟨p,s,h1,h2,h3⟩=>⟨p,s,h1,h2,h3.1,h3.2.mono hS⟩
theorem uw.at_{S:Nat→Prop}{w:World}{a:Option Addr}{l:List Key}(h:uw S w a l):kV w a l:=aX.imp h fun _ _ ⟨p,s,h1,h2,h3⟩=>⟨p,s,h1,h2,h3.1⟩
theorem Bf.at_{S:Nat→Prop}{w:World}{a:Option Addr}{l:List bC}(h:Bf S w a l):mO w a l:=aX.imp h.1 fun _ _ ⟨p,s,h1,h2,h3⟩=>⟨p,s,h1,h2,h3.1.at_,h3.2⟩
theorem pF.later{S:Nat→Prop}{w w':World}{r:aN}{d:Entry}(h:pF S w r d)(hb:Below w.heap.size w w'):pF S w' r d:=by
 have wr:∀{a:Option Addr} {n k:Nat},mF S w a n k→mF S w' a n k:=fun h1 i hi=>by
  obtain⟨b,o,e,h2,h3⟩:=h1 i hi
  refine⟨b,o,e,h2,?_⟩
  have hlt:b<w.heap.size:=by
   unfold aS at h3
   split at h3
   ·rename_i hb';exact(Array.getElem?_eq_some_iff.1 hb').1
   ·cases h3
  rw[sS (hb.block b hlt)];exact h3
 refine⟨h.at_.later hb,wr h.name,wr h.aliases,aX.later hb (fun i cs=>?_) h.keys.1,wr h.keys.2⟩
 rintro⟨p,s,h1,h2,h3,h4⟩
 refine⟨p,s,h1,h2,aX.later hb (fun j cs=>?_) h3,h4⟩
 rintro⟨q,t,h5,h6,h7,h8⟩
 exact⟨q,t,h5,h6,BytesAt.later hb h7,wr h8⟩
structure jO(S:Nat→Prop)(w w':World):Prop where
 os:w'.os=w.os
 tape:w'.tape=w.tape
 output:w'.output=w.output
 size:w'.heap.size=w.heap.size
 block:∀b,¬S b→w'.heap[b]?=w.heap[b]?
 cells:∀(b:Nat) c t f,w.heap[b]?=some (Obj.cells c t f)→∃c',w'.heap[b]?=some (Obj.cells c' t f)∧c'.size=c.size∧∀(i:Nat) v,c[i]?=some v→∃v',c'[i]?=some v'∧oH v v'
theorem jO.refl(S:Nat→Prop)(w:World):jO S w w:=⟨rfl,rfl,rfl,rfl,fun _ _=>rfl,fun _ c _ _ h=>⟨c,h,rfl,fun _ v hv=>⟨v,hv,oH.refl v⟩⟩⟩
theorem jO.but{S:Nat→Prop}{w w':World}(h:jO S w w'):But S w w':=⟨h.os,h.tape,h.output,by rw[h.size];exact Nat.le_refl _,fun b _ hn=>h.block b hn⟩
theorem jO.kin{S:Nat→Prop}{w w':World}(h:jO S w w'){b o:Nat}{v:Value}(hc:w.cell? ⟨b,o,none⟩=some v):∃v',w'.cell? ⟨b,o,none⟩=some v'∧oH v v':=by
 unfold World.cell? at hc ⊢
 dsimp only at hc ⊢
 split at hc
 ·rename_i c t f hb
  obtain⟨c',h1,h2,h3⟩:=h.cells b c t f hb
  rw[h1]
  simp only[Option.isSome_none,Bool.false_eq_true,if_false]at hc ⊢
  exact h3 o v hc
 ·cases hc
theorem jO.slice{S:Nat→Prop}{w w':World}(h:jO S w w'){b o n c:Nat}{a:Option Addr}(hc:w.cell? ⟨b,o,none⟩=some (.slice a n c)):w'.cell? ⟨b,o,none⟩=some (.slice a n c):=by
 obtain⟨v',h1,rfl|⟨s,s',h2,-⟩|⟨k,x,y,h2,-⟩⟩:=h.kin hc
 ·exact h1
 ·cases h2
 ·cases h2
theorem jO.string{S:Nat→Prop}{w w':World}(h:jO S w w'){b o:Nat}{s:ByteArray}(hc:w.cell? ⟨b,o,none⟩=some (.string s)):∃s',w'.cell? ⟨b,o,none⟩=some (.string s'):=by
 obtain⟨v',h1,rfl|⟨s1,s',h2,rfl⟩|⟨k,x,y,h2,-⟩⟩:=h.kin hc
 ·exact⟨s,h1⟩
 ·exact⟨s',h1⟩
 ·cases h2
theorem jO.int{S:Nat→Prop}{w w':World}(h:jO S w w'){b o:Nat}{k:IntKind}{x:Int}(hc:w.cell? ⟨b,o,none⟩=some (.int k x)):∃y,w'.cell? ⟨b,o,none⟩=some (.int k y):=by
 obtain⟨v',h1,rfl|⟨s1,s',h2,rfl⟩|⟨k',x',y,h2,rfl⟩⟩:=h.kin hc
 ·exact⟨x,h1⟩
 ·cases h2
 ·cases h2;exact⟨y,h1⟩
theorem jO.aS{S:Nat→Prop}{w w':World}(h:jO S w w'){b o n:Nat}(hp:aS w b o n=true):aS w' b o n=true:=by
 unfold Go.WW.aS at hp ⊢
 split at hp
 ·rename_i c t f hb
  obtain⟨c',h1,h2,h3⟩:=h.cells b c t f hb
  rw[h1]
  simpa only[h2]using hp
 ·cases hp
theorem jO.setCell{S:Nat→Prop}{w w':World}(h:jO S w w'){b o:Nat}{v0 v:Value}(hm:S b)(hc:w.cell? ⟨b,o,none⟩=some v0)(hk:oH v0 v):jO S w (w'.setCell ⟨b,o,none⟩ v):=by
 refine⟨h.os,h.tape,h.output,by rw[←h.size];simp[World.setCell],fun k hk'=>(Below.heap_setCell _ _ _ _ (show k≠b by rintro rfl;exact hk' hm)).trans (h.block k hk'),fun k c t f hkb=>?_⟩
 obtain⟨c',h1,h2,h3⟩:=h.cells k c t f hkb
 by_cases e:k=b
 ·subst e
  refine⟨c'.setIfInBounds o v,?_,by simp[h2],fun i u hu=>?_⟩
  ·have hlt:k<w'.heap.size:=(Array.getElem?_eq_some_iff.1 h1).1
   simp only[World.setCell]
   rw[Array.getElem?_modify,if_pos rfl,h1]
   rfl
  ·obtain⟨u',h4,h5⟩:=h3 i u hu
   by_cases ei:o=i
   ·subst ei
    refine⟨v,by rw[Array.getElem?_setIfInBounds,if_pos rfl,if_pos (Array.getElem?_eq_some_iff.1 h4).1],?_⟩
    have:u=v0:=by
     unfold World.cell? at hc
     dsimp only at hc
     rw[hkb]at hc
     simp only[Option.isSome_none,Bool.false_eq_true,if_false]at hc
     rw[hu]at hc;cases hc;rfl
    rw[this];exact hk
   ·exact⟨u',by rw[Array.getElem?_setIfInBounds,if_neg ei];exact h4,h5⟩
 ·exact⟨c',(Below.heap_setCell _ _ _ _ (by simpa using e)).trans h1,h2,h3⟩
theorem Bf.get{S:Nat→Prop}{w:World}{a:Option Addr}{l:List bC}(h:Bf S w a l)(i:Nat)(hi:i<l.length) :
  ∃b o,∃s:Sl,a=some ⟨b,o,none⟩∧S b∧w.frozen? ⟨b,o+i*5,none⟩=false∧aS w b (o+i*5) 5=true∧w.cell? ⟨b,o+i*5,none⟩=some (.int .i64 l[i].version)∧w.cell? ⟨b,o+i*5+1,none⟩=some (.slice s.a l[i].keys.length s.cap)∧uw S w s.a l[i].keys:=by
 obtain⟨b,o,ha,hm,hp⟩:=h.2 i hi
 obtain⟨b',o',cs,ha',hr,p,s,hp',rfl,hs⟩:=h.1.2 i hi
 rw[ha]at ha';cases ha'
 rw[List.getElem?_eq_getElem hi]at hp';cases hp'
 have h0:=gX hr 0 (by omega)
 have h1:=gX hr 1 (by omega)
 rw[Cb]at h0
 rw[Cc]at h1
 exact⟨b,o,s,ha,hm,xF hp _,hp,by simpa using h0,h1,hs.1⟩
theorem uw.get{S:Nat→Prop}{w:World}{a:Option Addr}{l:List Key}(h:uw S w a l)(i:Nat)(hi:i<l.length) :
  ∃b o,∃s:Sl,a=some ⟨b,o,none⟩∧w.cell? ⟨b,o+i*3+2,none⟩=some (.slice s.a l[i].bytes.length s.cap)∧xG S w s.a l[i].bytes:=by
 obtain⟨b,o,cs,ha,hr,p,s,hp',rfl,hs⟩:=h.2 i hi
 rw[List.getElem?_eq_getElem hi]at hp';cases hp'
 have h1:=gX hr 2 (by omega)
 rw[Fz]at h1
 exact⟨b,o,s,ha,h1,hs⟩
theorem xG.get{S:Nat→Prop}{w:World}{a:Option Addr}{l:List UInt8}(h:xG S w a l)(i:Nat)(hi:i<l.length) :
  ∃b o,a=some ⟨b,o,none⟩∧S b∧aS w b (o+i) 1=true∧w.cell? ⟨b,o+i,none⟩=some (.int .u8 l[i].toNat):=by
 obtain⟨b,o,ha,hm,hp⟩:=h.2 i hi
 obtain⟨b',o',ha',hc⟩:=BytesAt.get h.1 i hi
 rw[ha]at ha';cases ha'
 exact⟨b,o,ha,hm,by simpa using hp,hc⟩
theorem pF.part{S:Nat→Prop}{w:World}{r:aN}{d:Entry}(h:pF S w r d)(i:Nat)(hi:i<d.name.parts.length) :
  ∃b o s,r.parts.a=some ⟨b,o,none⟩∧S b∧aS w b (o+i) 1=true∧w.cell? ⟨b,o+i,none⟩=some (.string s):=by
 obtain⟨b,o,ha,hm,hp⟩:=h.name i hi
 obtain⟨b',o',ha',hc,-⟩:=kH.get h.at_.name.1 i hi
 rw[ha]at ha';cases ha'
 exact⟨b,o,_,ha,hm,by simpa using hp,hc⟩
theorem pF.alias{S:Nat→Prop}{w:World}{r:aN}{d:Entry}(h:pF S w r d)(i:Nat)(hi:i<d.aliases.length) :
  ∃b o s,r.aliases.a=some ⟨b,o,none⟩∧S b∧aS w b (o+i*2) 2=true∧w.cell? ⟨b,o+i*2+1,none⟩=some (.string s):=by
 obtain⟨b,o,ha,hm,hp⟩:=h.aliases i hi
 obtain⟨b',o',s,ha',hr,-⟩:=fJ.get h.at_.aliases i hi
 rw[ha]at ha';cases ha'
 have h1:=gX hr 1 (by omega)
 rw[Fv]at h1
 exact⟨b,o,_,ha,hm,hp,h1⟩
end Go.WW
namespace Go.Proofs.YtfieenjdcpjmgaaGreatDoor
open Go.RowKit Go.WW
theorem Xc(S:Nat→Prop)(r:aN)(d:Entry)(w:World)(he0:pF S w r d):Calls Tryz.prog 35 #[.agg (ae r d)] w fun e w'=>e=.returned (.tuple #[])∧But S w w':=by
 have hB:Below w.heap.size w (w.alloc (.cells (ae r d) 47)):=(Below.refl _ w).alloc (Nat.le_refl _) _
 have hx:=World.alloc_heap_new w (.cells (ae r d) 47)
 have he:=he0.later hB
 obtain⟨hc,hf,hr,hlt⟩:=aB hx
 have hc0:=(hc 0).trans (QO r d)
 have hc2:=(hc 2).trans (QQ r d)
 have hc5:=(hc 5).trans (Ce r d)
 clear hc hf hr hx hlt he0
 go_enter Tryz.func35,Tryz.ntmps35
 go_wp2_with fail
 generalize (w.alloc (.cells (ae r d) 47))=W at *
 have HE:=Lib.hid he
 clear he
 have n0:d.name.parts.length≤4294967000:=HE.out.at_.name.1.1
 have n1:d.aliases.length≤4294967000:=HE.out.at_.aliases.1
 have n2:d.keys.length≤4294967000:=HE.out.keys.1.1
 go_loopw [2] (fun i wr=>∃k:Nat,k≤d.name.parts.length∧i=.int .i64 k∧jO S W wr) (fun i _=>d.name.parts.length-(intOf i).toNat)
 case atStart=>exact⟨0,Nat.zero_le _,rfl,jO.refl S W⟩
 case round=>
  obtain⟨k,hk,rfl,hS⟩:=hrel
  have g0:=hS.slice hc0
  by_cases hlt:k<d.name.parts.length
  ·obtain⟨b,o,s,ha,hmb,hp,hcs⟩:=HE.out.part k hlt
   obtain⟨s',h1⟩:=hS.string hcs
   have h2:=xF (hS.aS hp) (o+k)
   rw[ha]at g0
   have HX:=Lib.hid (hS.setCell (v:=.string ⟨#[63]⟩) hmb hcs (.inr (.inl ⟨_,_,rfl,rfl⟩)))
   go_wp2_with fail
   go_roundw
   case rel=>exact⟨k+1,by omega,by go_num,HX.out⟩
   case measure=>simp[intOf];omega
  go_wp2_with fail
  go_loopw [3] (fun i wr=>∃k:Nat,k≤d.aliases.length∧i=.int .i64 k∧jO S W wr) (fun i _=>d.aliases.length-(intOf i).toNat)
  case atStart=>exact⟨0,Nat.zero_le _,rfl,hS⟩
  case round=>
   clear hS g0 hlt hk
   obtain⟨k,hk,rfl,hS⟩:=hrel
   have g2:=hS.slice hc2
   by_cases hlt:k<d.aliases.length
   ·obtain⟨b,o,s,ha,hmb,hp,hcs⟩:=HE.out.alias k hlt
    obtain⟨s',h1⟩:=hS.string hcs
    have h2:=xF (hS.aS hp) (o+k*2+1)
    rw[ha]at g2
    have HX:=Lib.hid (hS.setCell (v:=.string ⟨#[63]⟩) hmb hcs (.inr (.inl ⟨_,_,rfl,rfl⟩)))
    go_wp2_with fail
    go_roundw
    case rel=>exact⟨k+1,by omega,by go_num,HX.out⟩
    case measure=>simp[intOf];omega
   go_wp2_with fail
   go_loopw [4] (fun i wr=>∃k:Nat,k≤d.keys.length∧i=.int .i64 k∧jO S W wr) (fun i _=>d.keys.length-(intOf i).toNat)
   case atStart=>exact⟨0,Nat.zero_le _,rfl,hS⟩
   case round=>
    clear hS g2 hlt hk
    obtain⟨k,hk,rfl,hS⟩:=hrel
    have g5:=hS.slice hc5
    by_cases hlt:k<d.keys.length
    ·obtain⟨b,o,s,ha,hmb,-,hp,hv,hks,Xd⟩:=HE.out.keys.get k hlt
     have n3:d.keys[k].keys.length≤4294967000:=Xd.1
     go_wp2_with fail
     go_loopw [5] (fun i wr=>∃j:Nat,j≤d.keys[k].keys.length∧i=.int .i64 j∧jO S W wr) (fun i _=>d.keys[k].keys.length-(intOf i).toNat)
     case atStart=>exact⟨0,Nat.zero_le _,rfl,hS⟩
     case round=>
      clear hS g5
      obtain⟨j,hj,rfl,hS⟩:=hrel
      have g5:=hS.slice hc5
      rw[ha]at g5
      have g6:=hS.slice hks
      by_cases hjt:j<d.keys[k].keys.length
      ·obtain⟨b2,o2,s2,ha2,hkb,HB⟩:=Xd.get j hjt
       have n4:d.keys[k].keys[j].bytes.length≤4294967000:=HB.1.1
       go_wp2_with fail
       go_loopw [6] (fun i wr=>∃t:Nat,t≤d.keys[k].keys[j].bytes.length∧i=.int .i64 t∧jO S W wr) (fun i _=>d.keys[k].keys[j].bytes.length-(intOf i).toNat)
       case atStart=>exact⟨0,Nat.zero_le _,rfl,hS⟩
       case round=>
        clear hS g5 g6
        obtain⟨t,ht,rfl,hS⟩:=hrel
        have g5:=hS.slice hc5
        rw[ha]at g5
        have g6:=hS.slice hks
        rw[ha2]at g6
        have g7:=hS.slice hkb
        by_cases htt:t<d.keys[k].keys[j].bytes.length
        ·obtain⟨b3,o3,uq,Gf,hp3,hcb⟩:=HB.get t htt
         rw[uq]at g7
         obtain⟨y,h1⟩:=hS.int hcb
         have h2:=xF (hS.aS hp3) (o3+t)
         have HX:=fun v:Int=>Lib.hid (hS.setCell (v:=.int .u8 v) Gf hcb (.inr (.inr ⟨_,_,_,rfl,rfl⟩)))
         go_wp2_with fail
         go_roundw
         case rel=>exact⟨t+1,by omega,by go_num,(HX _).out⟩
         case measure=>simp[intOf];omega
        ·go_wp2_with fail
         go_roundw
         case rel=>exact⟨j+1,by omega,by go_num,hS⟩
         case measure=>simp[intOf];omega
      ·obtain⟨y,h1⟩:=hS.int hv
       have h2:=xF (hS.aS hp) (o+k*5)
       have HX:=Lib.hid (hS.setCell (v:=.int .i64 0) hmb hv (.inr (.inr ⟨_,_,_,rfl,rfl⟩)))
       go_wp2_with fail
       go_roundw
       case rel=>exact⟨k+1,by omega,by go_num,HX.out⟩
       case measure=>simp[intOf];omega
    ·go_wp2_with fail
     go_end0
     exact⟨rfl,(But.of_below hB).trans hS.but⟩
end Go.Proofs.YtfieenjdcpjmgaaGreatDoor
namespace Go.WW
open Go.RowKit
structure Bg(M:World→Prop)(w:World):Prop where
 out:M w
theorem qy{ι:Type}{c:Code}{P:Program}{Q:Exit→Act→World→Prop}{a:Act}{w:World}(M:ι→World→Prop)(F:ι→Act)
  (h1:c.wp P (fun e a' w'=>e=.normal∧∃i,a'=F i∧Bg (M i) w') a w) (h2:∀i w',M i w'→Q .normal (F i) w'):c.wp P Q a w:=by
 refine wp_mono h1 ?_
 rintro e a' w' ⟨rfl,i,rfl,h⟩
 exact h2 i w' h.out
theorem Ig{c:Code}{P:Program}{Q:Exit→Act→World→Prop}{a:Act}{w:World}(M:World→Prop)(F:Act)
  (h1:c.wp P (fun e a' w'=>e=.normal∧a'=F∧Bg M w') a w) (h2:∀w',M w'→Q .normal F w'):c.wp P Q a w:=by
 refine wp_mono h1 ?_
 rintro e a' w' ⟨rfl,rfl,h⟩
 exact h2 w' h.out
theorem Xe{ι κ:Type}{c:Code}{P:Program}{Q:Exit→Act→World→Prop}{a:Act}{w:World}(M:ι→κ→World→Prop)(F:ι→κ→Act)
  (h1:c.wp P (fun e a' w'=>e=.normal∧∃i j,a'=F i j∧Bg (M i j) w') a w) (h2:∀i j w',M i j w'→Q .normal (F i j) w'):c.wp P Q a w:=by
 refine wp_mono h1 ?_
 rintro e a' w' ⟨rfl,i,j,rfl,h⟩
 exact h2 i j w' h.out
theorem akw{w:World}{l:List bC}(i:Nat)(cs:Array Value)(h:∃p s,l[i]?=some p∧cs=bz s p∧jA w s p):cs.size=5∧dJ cs=true:=by
 obtain⟨p,s,_,rfl,_⟩:=h;exact⟨QL s p,QM s p⟩
theorem akx{w:World}{l:List Key}(i:Nat)(cs:Array Value)(h:∃p s,l[i]?=some p∧cs=bZ s p∧kJ w s p):cs.size=3∧dJ cs=true:=by
 obtain⟨p,s,_,rfl,_⟩:=h;exact⟨QI s p,QJ s p⟩
theorem aky(r:aN)(d:Entry)(s:Sl):(ae r d).setIfInBounds 0 (.slice s.a d.name.parts.length s.cap)=ae {r with parts:=s} d:=by kernel_rfl
theorem akz(r:aN)(d:Entry)(s:Sl):(ae r d).setIfInBounds 2 (.slice s.a d.aliases.length s.cap)=ae {r with aliases:=s} d:=by kernel_rfl
theorem akA(r:aN)(d:Entry)(s:Sl):(ae r d).setIfInBounds 5 (.slice s.a d.keys.length s.cap)=ae {r with keys:=s} d:=by kernel_rfl
theorem akB(t:Sl)(k:bC)(s:Sl):(bz t k).setIfInBounds 1 (.slice s.a k.keys.length s.cap)=bz s k:=by kernel_rfl
theorem akC(t:Sl)(k:Key)(s:Sl):(bZ t k).setIfInBounds 2 (.slice s.a k.bytes.length s.cap)=bZ s k:=by kernel_rfl
theorem DZ{W w w':World}{E:TypeId}{k:Nat}{s:Sl}{rows:List (Array Value)}(h:Own w W.heap.size E k s rows)(hb:Below W.heap.size W w)(hg:w.grownBy w' s.blk):Below W.heap.size W w':=hb.grown hg hb.size (fun _ e=>(h.base e).1)
theorem Own.but{S:Nat→Prop}{w w':World}{base k:Nat}{e:TypeId}{s:Sl}{rows:List (Array Value)}(h:Own w base e k s rows)(hb:But S w w')(hn:∀g,s.blk=some g→¬S g):Own w' base e k s rows:=
 h.kept fun g hg=>hb.block g (h.base hg).2 (hn g hg)
theorem Nu{V w3:World}{bx o k:Nat}{T tb:TypeId}{s:Sl}{rows:List (Array Value)}{c:Array Value}(h:Own w3 V.heap.size T k s ([]++rows))(hb3:Below V.heap.size V w3)(hbx:V.heap[bx]?=some (.cells c tb))(v:Value) :
  Own (w3.setCell ⟨bx,o,none⟩ v) V.heap.size T k s rows∧(w3.setCell ⟨bx,o,none⟩ v).heap[bx]?=some (.cells (c.setIfInBounds o v) tb)∧But (·=bx) V (w3.setCell ⟨bx,o,none⟩ v):=by
 have hlt:=(Array.getElem?_eq_some_iff.1 hbx).1
 rw[List.nil_append]at h
 refine⟨h.kept fun g hg=>Below.heap_setCell _ _ _ _ ?_,dI v (aJ hb3 hbx),Bc (But.of_below hb3) (.inl rfl)⟩
 have:=(h.base hg).1
 show g≠bx
 omega
theorem akD{k:Nat}(rows:List (Array Value))(hs:∀r∈rows,r.size=k)(i j:Nat)(hi:i<rows.length)(hj:j<k)(v:Value):flat (rows.set i (rows[i].setIfInBounds j v))=(flat rows).set (i*k+j) v:=by
 have hs':∀r∈rows.set i (rows[i].setIfInBounds j v),r.size=k:=fun r hr=>by
  rcases List.mem_or_eq_of_mem_set hr with h|rfl
  ·exact hs r h
  ·rw[Array.size_setIfInBounds];exact hs _ (List.getElem_mem hi)
 have hk:0<k:=by omega
 have hl1:(flat (rows.set i (rows[i].setIfInBounds j v))).length=rows.length*k:=by rw[flat_length hs',List.length_set]
 have hl2:(flat rows).length=rows.length*k:=flat_length hs
 refine List.ext_getElem? fun p=>?_
 by_cases hp:p<rows.length*k
 ·have hpi:p / k<rows.length:=by rw[Nat.div_lt_iff_lt_mul hk];exact hp
  have Nv:p % k<k:=Nat.mod_lt _ hk
  have e:p / k*k+p % k=p:=Nat.div_add_mod' p k
  have g1:=flat_get hs' (p / k) (p % k) (by simpa using hpi) Nv
  have g2:=flat_get hs (p / k) (p % k) hpi Nv
  rw[e]at g1 g2
  rw[g1,List.getElem?_set,g2,List.getElem_set]
  by_cases hpe:i=p / k
  ·subst hpe
   rw[if_pos rfl]
   have hsz:=hs _ (List.getElem_mem hpi)
   by_cases hje:j=p % k
   ·have:p / k*k+j=p:=by rw[hje];exact e
    rw[if_pos this,if_pos (by rw[hl2];omega),hje,Array.getElem?_setIfInBounds,if_pos rfl,if_pos (by rw[hsz];exact Nv)]
   ·have:¬p / k*k+j=p:=fun h=>hje (by omega)
    rw[if_neg this,Array.getElem?_setIfInBounds,if_neg hje]
  ·rw[if_neg hpe]
   have:¬i*k+j=p:=fun h=>hpe (by
    rw[←h,Nat.mul_comm,Nat.mul_add_div hk,Nat.div_eq_of_lt hj,Nat.add_zero])
   rw[if_neg this]
 ·rw[List.getElem?_eq_none (by omega),List.getElem?_eq_none (by rw[List.length_set];omega)]
theorem Own.setCell{w:World}{base k:Nat}{e:TypeId}{s:Sl}{rows:List (Array Value)}(h:Own w base e k s rows){g:Nat}(hg:s.a=some ⟨g,0,none⟩)(i j:Nat)(hi:i<rows.length)(hj:j<k)(v:Value) :
  Own (w.setCell ⟨g,i*k+j,none⟩ v) base e k s (rows.set i (rows[i].setIfInBounds j v)):=by
 have hs':∀r∈rows.set i (rows[i].setIfInBounds j v),r.size=k:=fun r hr=>by
  rcases List.mem_or_eq_of_mem_set hr with h1|rfl
  ·exact h.size r h1
  ·rw[Array.size_setIfInBounds];exact h.size _ (List.getElem_mem hi)
 refine⟨⟨by rw[flat_length hs'],?_⟩,hs'⟩
 rcases h.own.2 with⟨_,hn⟩|⟨g',cap,cur,hv,hb,hh,hle,hm,hsz,ht⟩
 ·omega
 ·have e1:g'=g:=by
   have:s.a=some ⟨g',0,none⟩:=by injection hv
   rw[hg]at this;cases this;rfl
  subst e1
  have hcap:s.cap=cap:=by injection hv
  refine .inr ⟨g',cap,cur.setIfInBounds (i*k+j) v,by rw[List.length_set,hg,hcap],hb,dI v hh,by rw[List.length_set];exact hle,hm,by simp[hsz],?_⟩
  rw[List.length_set,akD rows h.size i j hi hj,←ht]
  have h1:i*k+j<rows.length*k:=by
   have:i*k+k≤rows.length*k:=by rw[←Nat.succ_mul];exact Nat.mul_le_mul_right _ hi
   omega
  rw[Array.toList_setIfInBounds,List.take_set]
theorem Own.at_{w:World}{base k:Nat}{e:TypeId}{s:Sl}{rows:List (Array Value)}(h:Own w base e k s rows)(i:Nat)(hi:i<rows.length) :
  ∃g,s.a=some ⟨g,0,none⟩∧s.blk=some g∧g<w.heap.size∧row? w g (i*k) k=some rows[i]∧aS w g (i*k) k=true:=by
 obtain⟨g,h1,h2,h3⟩:=h.row i hi
 rw[Nat.zero_add]at h3
 refine⟨g,h1,h2,(h.base h2).2,h3,?_⟩
 obtain⟨b',o',e',hb',hp⟩:=iV.eG h rfl i hi
 rw[h1]at e';cases e'
 simpa using hp
theorem mF.eG{S:Nat→Prop}{w:World}{base k:Nat}{e:TypeId}{s:Sl}{rows:List (Array Value)}(h:Own w base e k s rows){n:Nat}(hn:rows.length=n)(hS:∀g,s.blk=some g→S g):mF S w s.a n k:=by
 subst hn
 intro i hi
 obtain⟨g,h1,h2,h3,h4,h5⟩:=h.at_ i hi
 exact⟨g,0,h1,hS g h2,by simpa using h5⟩
end Go.WW
