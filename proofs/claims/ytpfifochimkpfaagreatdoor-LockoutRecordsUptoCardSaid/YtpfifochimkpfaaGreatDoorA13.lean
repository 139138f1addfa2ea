/- A part of the proof. -/
import Derived.Test.YtpfifochimkpfaaGreatDoorA12
import Derived.Test.YtpfifochimkpfaaGreatDoorA06
set_option maxRecDepth 100000
set_option maxHeartbeats 2000000
namespace Go.Proofs.YtpfifochimkpfaaGreatDoor
open Go.RowKit Go.WW
theorem gm{w:World}{b n e p:Nat}{re:ByteArray}{s:Int}(h:w.heap[b]?=some (.cells (lN re s n e p) 100)):w.cell? ⟨b,0,none⟩=some (.string re)∧w.cell? ⟨b,1,none⟩=some (.int .i64 s)∧w.cell? ⟨b,2,none⟩=some (.map (some n))∧w.cell? ⟨b,3,none⟩=some (.map (some e))∧w.cell? ⟨b,4,none⟩=some (.map (some p))∧w.frozen? ⟨b,1,none⟩=false∧b<w.heap.size:=by
 obtain⟨hc,hf,_,hl⟩:=ax h
 exact⟨hc 0,hc 1,hc 2,hc 3,hc 4,hf 1,hl⟩
theorem KF{w:World}{p:Nat}{P:List ah}(h:MapOf w p (P.map fun q=>(q.name,Value.agg (ak q))))(q:ah)(hq:q∈P):(Instr.lookup 96 (.map (some p)) (.string q.name) true).run Tryz.prog w=.ok (.tuple #[.agg (ak q),.bool true]) w:=by
 have:=EU (P:=Tryz.prog) true Tryz.underlying96 Tryz.underlying9 h (List.mem_map.2 ⟨q,hq,rfl⟩)
 simpa using this
theorem afj(b n e p:Nat)(re:ByteArray)(s:Int)(N:List (ByteArray×Value))(E:List EE)(P:List ah)(q:ah)(w:World)(h:dG w b n e p re s N E P)(hre:¬re=⟨#[]⟩)(hq:q∈P):Calls Tryz.prog 78 #[.pointer (some ⟨b,0,none⟩),.string q.name] w fun x w'=>x=.returned (.tuple #[.agg (ak q),.int .i64 0])∧Below w.heap.size w w':=by
 have hB:Below w.heap.size w (w.alloc (.cells #[.string ⟨#[]⟩,.int .i64 0,.int .i64 0,.int .i64 0,.int .i64 0,.int .i64 0,.int .i64 0,.int .i64 0,.int .i64 0,.int .i64 0] 52)):=(Below.refl _ _).alloc (Nat.le_refl _) _
 have h':=h.later hB
 have hz:aX (w.alloc (.cells #[.string ⟨#[]⟩,.int .i64 0,.int .i64 0,.int .i64 0,.int .i64 0,.int .i64 0,.int .i64 0,.int .i64 0,.int .i64 0,.int .i64 0] 52)) w.heap.size 0 10=true:=by simp[go_sem]
 have hW:w.heap.size<(w.alloc (.cells #[.string ⟨#[]⟩,.int .i64 0,.int .i64 0,.int .i64 0,.int .i64 0,.int .i64 0,.int .i64 0,.int .i64 0,.int .i64 0,.int .i64 0] 52)).heap.size:=by simp
 go_enter Tryz.func78,Tryz.ntmps78
 go_wp2_with fail
 generalize (w.alloc (.cells #[.string ⟨#[]⟩,.int .i64 0,.int .i64 0,.int .i64 0,.int .i64 0,.int .i64 0,.int .i64 0,.int .i64 0,.int .i64 0,.int .i64 0] 52))=W at *
 obtain⟨c0,c1,c2,c3,c4,f1,hl⟩:=gm h'.box
 have hlk:=KF h'.pm q hq
 refine(nI _ _ _ c0 hre).mono ?_
 rintro x w' ⟨rfl,rfl⟩
 have hne:W.heap.size≠w.heap.size:=by omega
 dsimp only
 go_wp2_with fail
 have hrow:=gJ (w:=W.alloc (.cells (ak q) 52)) (og q) ((x9 hW).trans hz)
 exact bodyPost_ret (kT (by rfl) Tryz.underlying52 rfl (by kernel_rfl) rfl hrow) rfl ⟨rfl,Go.WW.Below.putRow (hB.alloc hB.size _) (by omega)⟩
end Go.Proofs.YtpfifochimkpfaaGreatDoor
namespace Go.WW
open Go.RowKit
def dE:ah:=⟨⟨#[]⟩,0,0,0,0,0,0,0,0,0⟩
theorem AV{P:Program}{w:World}{b:Nat}{m:List (ByteArray×Value)}{mty kt et ty:TypeId}{oU:Array TypeId}(ht:oU[0]?=some mty)(hm:P.underlying mty=some (.map kt et))(h:MapOf w b m):(Builtin.len_ oU ty #[.map (some b)]).run P w=.ok (.int .i64 (m.length:Int)) w:=by
 obtain⟨es,clock,hb,hes⟩:=h.len
 simp[Builtin.len_,ht,run_underlying hm,MapKept.run_getObj_map hb,Result.andThen,goInt,hes]
def qf(P:List ah)(q:ah):List ah:=if P.any (fun x=>decide (x.name=q.name))=true then P.map (fun x=>if x.name=q.name then q else x)else P++[q]
theorem TA(P:List ah)(q:ah):ou (P.map fun x=>(x.name,Value.agg (ak x))) q.name (.agg (ak q))=(qf P q).map fun x=>(x.name,Value.agg (ak x)):=by
 have h:hasK (P.map fun x=>(x.name,Value.agg (ak x))) q.name=P.any (fun x=>decide (x.name=q.name)):=by
  unfold hasK;rw[List.any_map];rfl
 unfold ou qf
 rw[h]
 split
 ·rw[List.map_map,List.map_map]
  refine List.map_congr_left fun x _=>?_
  simp only[Function.comp]
  split<;>rfl
 ·simp
end Go.WW
namespace Go.Proofs.YtpfifochimkpfaaGreatDoor
open Go.RowKit Go.WW
theorem KG{w:World}{p:Nat}{P:List ah}(h:MapOf w p (P.map fun q=>(q.name,Value.agg (ak q))))(k:ByteArray)(hq:P.any (fun x=>decide (x.name=k))=false):(Instr.lookup 96 (.map (some p)) (.string k) true).run Tryz.prog w=.ok (.tuple #[.agg (ak dE),.bool false]) w:=by
 have hn:k∉(P.map fun q=>(q.name,Value.agg (ak q))).map (·.1):=by
  intro hk
  rw[List.map_map]at hk
  obtain⟨x,hx,e⟩:=List.mem_map.1 hk
  have:=List.any_eq_false.1 hq x hx
  simp only[Function.comp]at e
  simp[e]at this
 have:=EW (P:=Tryz.prog) (z:=.agg (ak dE)) true Tryz.underlying96 Tryz.underlying9 h (by kernel_rfl) hn
 simpa using this
def aW(b n e p:Nat):Nat→Prop:=fun k=>k=b∨k=n∨k=e∨k=p
theorem afk(b n e p:Nat)(re:ByteArray)(s:Int)(N:List (ByteArray×Value))(E:List EE)(P:List ah)(q:ah)(w:World)(h:dG w b n e p re s N E P)(hre:¬re=⟨#[]⟩)(hs:q.name.size≤lim)(hv:dA q=false):Calls Tryz.prog 29 #[.pointer (some ⟨b,0,none⟩),.agg (ak q)] w fun x w'=>x=.returned (.int .i64 2)∧Below w.heap.size w w':=by
 have hB:Below w.heap.size w (w.alloc (.cells (ak q) 52)):=(Below.refl _ _).alloc (Nat.le_refl _) _
 have h':=h.later hB
 have hx3:(w.alloc (.cells (ak q) 52)).heap[w.heap.size]?=some (.cells (ak q) 52):=World.alloc_heap_new _ _
 go_enter Tryz.func29,Tryz.ntmps29
 go_wp2_with fail
 generalize (w.alloc (.cells (ak q) 52))=W at *
 obtain⟨c0,c1,c2,c3,c4,f1,hl⟩:=gm h'.box
 obtain⟨hc,hf,hr,hlt⟩:=ax hx3
 refine(nI _ _ _ c0 hre).mono ?_
 rintro x w' ⟨rfl,rfl⟩
 dsimp only
 go_wp2_with fail
 refine(Cj _ _ hs).mono ?_
 rintro x w2 ⟨rfl,hb2⟩
 rw[hv]
 dsimp only
 go_wp2_with fail
 go_ret
 exact⟨rfl,ag hB hb2⟩
theorem afl(b n e p:Nat)(re:ByteArray)(s:Int)(N:List (ByteArray×Value))(E:List EE)(P:List ah)(q:ah)(w:World)(h:dG w b n e p re s N E P)(hre:¬re=⟨#[]⟩)(hs:q.name.size≤lim)(hv:dA q=true)(hP:P.any (fun x=>decide (x.name=q.name))=false)(hn:P.length<64)(hs0:0≤s)(hs1:s<1000000):Calls Tryz.prog 29 #[.pointer (some ⟨b,0,none⟩),.agg (ak q)] w fun x w'=>x=.returned (.int .i64 0)∧But (aW b n e p) w w'∧dG w' b n e p re (s+1) N E (qf P q):=by
 have hB:Below w.heap.size w (w.alloc (.cells (ak q) 52)):=(Below.refl _ _).alloc (Nat.le_refl _) _
 have h':=h.later hB
 have hx3:(w.alloc (.cells (ak q) 52)).heap[w.heap.size]?=some (.cells (ak q) 52):=World.alloc_heap_new _ _
 go_enter Tryz.func29,Tryz.ntmps29
 go_wp2_with fail
 generalize (w.alloc (.cells (ak q) 52))=W at *
 obtain⟨c0,c1,c2,c3,c4,f1,hl⟩:=gm h'.box
 obtain⟨hc,hf,hr,hlt⟩:=ax hx3
 refine(nI _ _ _ c0 hre).mono ?_
 rintro x w' ⟨rfl,rfl⟩
 dsimp only
 go_wp2_with fail
 refine(Cj _ _ hs).mono ?_
 rintro x w2 ⟨rfl,hb2⟩
 rw[hv]
 have h2:=h'.later hb2
 have hx32:=aI hb2 hx3
 clear c0 c1 c2 c3 c4 f1 hl hc hf hr hlt
 obtain⟨c0,c1,c2,c3,c4,f1,hl⟩:=gm h2.box
 obtain⟨hc,hf,hr,hlt⟩:=ax hx32
 have hlk:∀x:Later w2,(Instr.lookup 96 (.map (some p)) (.string q.name) true).run Tryz.prog x.w=.ok (.tuple #[.agg (ak dE),.bool false]) x.w:=fun x=>KG (h2.pm.at (x.b.block p h2.pm.lt)) _ hP
 dsimp only
 go_wp2_with fail
 refine sU (Below.refl _ w2) (by kernel_rfl) (by kernel_rfl) ?_
 intro w3 hb3
 repeat (first|(refine ai (by rfl) ?_)|(refine bC (by rfl) (by rfl) (fun K hK=>?_);go_big_quiet_op;refine hK _ ?_;clear hK K))
 refine bZ (by rfl) (by rfl) (fun K hK=>?_)
 go_wp2_with fail
 refine hK _ _ (aj (ay hb3 _)) ?_
 clear hK K
 repeat (first|(refine ai (by rfl) ?_)|(refine bC (by rfl) (by rfl) (fun K hK=>?_);go_big_quiet_op;refine hK _ ?_;clear hK K))
 refine bZ (by rfl) (by rfl) (fun K hK=>?_)
 go_wp2_with fail
 refine hK _ _ (aj (ay hb3 (.cells (ak dE) 52))) ?_
 clear hK K
 repeat (first|(refine ai (by rfl) ?_)|(refine bC (by rfl) (by rfl) (fun K hK=>?_);go_big_quiet_op;refine hK _ ?_;clear hK K))
 refine bz ?_
 have hb4:=ay hb3 (.cells (ak dE) 52)
 clear hb3 hlk
 generalize (w3.alloc (.cells (ak dE) 52))=V at *
 have h4:=h2.later hb4
 have hx34:=aI hb4 hx32
 clear c0 c1 c2 c3 c4 f1 hl hc hf hr hlt
 obtain⟨c0,c1,c2,c3,c4,f1,hl⟩:=gm h4.box
 obtain⟨hc,hf,hr,hlt⟩:=ax hx34
 have hln:=AV (P:=Tryz.prog) (ty:=3) (oU:=#[96]) rfl Tryz.underlying96 h4.pm
 rw[List.length_map]at hln
 have h64:¬(64:Int)≤(P.length:Int):=by omega
 have hbp:b≠p:=jo h4.box h4.pm
 have hwp:w.heap.size≠p:=jo hx34 h4.pm
 have nb:=bU hbp
 have nw:=bU hwp
 obtain⟨U,hrun,rf,iE,TB⟩:=Am (P:=Tryz.prog) (k:=q.name) (v:=.agg (ak q)) (w:=V.drew) Tryz.underlying96 Tryz.underlying9 (h4.pm.at rfl)
 rw[TA]at rf
 have rq:But (one p) V U:=⟨iE.os,iE.tape,iE.output,iE.size,iE.block⟩
 go_wp2_with fail
 refine oV (one p) (But.refl _ V) (by kernel_rfl) (by kernel_rfl) ?_
 repeat (first|(refine ai (by rfl) ?_)|(refine bC (by rfl) (by rfl) (fun K hK=>?_);go_big_quiet_op;refine hK _ ?_;clear hK K))
 refine bZ (by rfl) (by rfl) (fun K hK=>?_)
 go_wp2_with fail
 refine hK _ _ (fU rq) ?_
 clear hK K
 repeat (first|(refine ai (by rfl) ?_)|(refine bC (by rfl) (by rfl) (fun K hK=>?_);go_big_quiet_op;refine hK _ ?_;clear hK K))
 refine bz ?_
 have ku:U.heap[b]?=some (.cells (lN re s n e p) 100):=(rq.block b hl nb).trans h4.box
 obtain⟨ru,yO,KH,KI⟩:=ax ku
 have hc91:=ru 1
 have yP:=yO 1
 go_wp2_with fail
 refine(CJ b s U hc91 yP hs0 hs1).mono ?_
 rintro x w' ⟨rfl,rfl⟩
 dsimp only
 go_wp2_with fail
 go_ret
 have hnb:n≠b:=fun e'=>jo h4.box h4.nm e'.symm
 have heb:e≠b:=fun e'=>jo h4.box h4.em e'.symm
 refine⟨rfl,?_,⟨?_,?_,?_,?_,h.ne⟩⟩
 ·have kM:=ag (ag hB hb2) hb4
  refine⟨iE.os.trans kM.os,iE.tape.trans kM.tape,iE.output.trans kM.output,?_,fun k hk hn'=>?_⟩
  ·show w.heap.size≤(U.setCell ⟨b,1,none⟩ (.int .i64 (s+1))).heap.size
   have:=kM.size
   have:=iE.size
   simp only[World.setCell,Array.size_modify]
   exact Nat.le_trans ‹w.heap.size≤V.heap.size› ‹_›
  ·rw[Below.heap_setCell _ _ _ _ (show k≠b from fun e'=>hn' (.inl e')),rq.block k (Nat.lt_of_lt_of_le hk kM.size) (bU (fun e'=>hn' (.inr (.inr (.inr e'))))),kM.block k hk]
 ·rw[dH _ ku,CG]
 ·exact h4.nm.at ((Below.heap_setCell _ _ _ _ hnb).trans (rq.block n h4.nm.lt (bU h.ne.2.1)))
 ·exact h4.em.at ((Below.heap_setCell _ _ _ _ heb).trans (rq.block e h4.em.lt (bU h.ne.2.2)))
 ·exact rf.at (Below.heap_setCell _ _ _ _ (Ne.symm hbp))
theorem afm(b n e p:Nat)(re:ByteArray)(s:Int)(N:List (ByteArray×Value))(E:List EE)(P:List ah)(q:ah)(w:World)(h:dG w b n e p re s N E P)(hre:¬re=⟨#[]⟩)(hs:q.name.size≤lim)(hv:dA q=true)(q0:ah)(hq0:q0∈P)(hnm:q0.name=q.name)(hs0:0≤s)(hs1:s<1000000):Calls Tryz.prog 29 #[.pointer (some ⟨b,0,none⟩),.agg (ak q)] w fun x w'=>x=.returned (.int .i64 0)∧But (aW b n e p) w w'∧dG w' b n e p re (s+1) N E (qf P q):=by
 have hB:Below w.heap.size w (w.alloc (.cells (ak q) 52)):=(Below.refl _ _).alloc (Nat.le_refl _) _
 have h':=h.later hB
 have hx3:(w.alloc (.cells (ak q) 52)).heap[w.heap.size]?=some (.cells (ak q) 52):=World.alloc_heap_new _ _
 go_enter Tryz.func29,Tryz.ntmps29
 go_wp2_with fail
 generalize (w.alloc (.cells (ak q) 52))=W at *
 obtain⟨c0,c1,c2,c3,c4,f1,hl⟩:=gm h'.box
 obtain⟨hc,hf,hr,hlt⟩:=ax hx3
 refine(nI _ _ _ c0 hre).mono ?_
 rintro x w' ⟨rfl,rfl⟩
 dsimp only
 go_wp2_with fail
 refine(Cj _ _ hs).mono ?_
 rintro x w2 ⟨rfl,hb2⟩
 rw[hv]
 have h2:=h'.later hb2
 have hx32:=aI hb2 hx3
 clear c0 c1 c2 c3 c4 f1 hl hc hf hr hlt
 obtain⟨c0,c1,c2,c3,c4,f1,hl⟩:=gm h2.box
 obtain⟨hc,hf,hr,hlt⟩:=ax hx32
 have hlk:∀x:Later w2,(Instr.lookup 96 (.map (some p)) (.string q.name) true).run Tryz.prog x.w=.ok (.tuple #[.agg (ak q0),.bool true]) x.w:=fun x=>hnm▸KF (h2.pm.at (x.b.block p h2.pm.lt)) q0 hq0
 dsimp only
 go_wp2_with fail
 refine sU (Below.refl _ w2) (by kernel_rfl) (by kernel_rfl) ?_
 intro w3 hb3
 repeat (first|(refine ai (by rfl) ?_)|(refine bC (by rfl) (by rfl) (fun K hK=>?_);go_big_quiet_op;refine hK _ ?_;clear hK K))
 refine bZ (by rfl) (by rfl) (fun K hK=>?_)
 go_wp2_with fail
 refine hK _ _ (aj (ay hb3 _)) ?_
 clear hK K
 repeat (first|(refine ai (by rfl) ?_)|(refine bC (by rfl) (by rfl) (fun K hK=>?_);go_big_quiet_op;refine hK _ ?_;clear hK K))
 refine bZ (by rfl) (by rfl) (fun K hK=>?_)
 go_wp2_with fail
 refine hK _ _ (aj (ay hb3 (.cells (ak q0) 52))) ?_
 clear hK K
 repeat (first|(refine ai (by rfl) ?_)|(refine bC (by rfl) (by rfl) (fun K hK=>?_);go_big_quiet_op;refine hK _ ?_;clear hK K))
 refine bz ?_
 have hb4:=ay hb3 (.cells (ak q0) 52)
 clear hb3 hlk
 generalize (w3.alloc (.cells (ak q0) 52))=V at *
 have h4:=h2.later hb4
 have hx34:=aI hb4 hx32
 clear c0 c1 c2 c3 c4 f1 hl hc hf hr hlt
 obtain⟨c0,c1,c2,c3,c4,f1,hl⟩:=gm h4.box
 obtain⟨hc,hf,hr,hlt⟩:=ax hx34
 have hbp:b≠p:=jo h4.box h4.pm
 have hwp:w.heap.size≠p:=jo hx34 h4.pm
 have nb:=bU hbp
 have nw:=bU hwp
 obtain⟨U,hrun,rf,iE,TB⟩:=Am (P:=Tryz.prog) (k:=q.name) (v:=.agg (ak q)) (w:=V.drew) Tryz.underlying96 Tryz.underlying9 (h4.pm.at rfl)
 rw[TA]at rf
 have rq:But (one p) V U:=⟨iE.os,iE.tape,iE.output,iE.size,iE.block⟩
 go_wp2_with fail
 refine oV (one p) (But.refl _ V) (by kernel_rfl) (by kernel_rfl) ?_
 repeat (first|(refine ai (by rfl) ?_)|(refine bC (by rfl) (by rfl) (fun K hK=>?_);go_big_quiet_op;refine hK _ ?_;clear hK K))
 refine bZ (by rfl) (by rfl) (fun K hK=>?_)
 go_wp2_with fail
 refine hK _ _ (fU rq) ?_
 clear hK K
 repeat (first|(refine ai (by rfl) ?_)|(refine bC (by rfl) (by rfl) (fun K hK=>?_);go_big_quiet_op;refine hK _ ?_;clear hK K))
 refine bz ?_
 have ku:U.heap[b]?=some (.cells (lN re s n e p) 100):=(rq.block b hl nb).trans h4.box
 obtain⟨ru,yO,KH,KI⟩:=ax ku
 have hc91:=ru 1
 have yP:=yO 1
 go_wp2_with fail
 refine(CJ b s U hc91 yP hs0 hs1).mono ?_
 rintro x w' ⟨rfl,rfl⟩
 dsimp only
 go_wp2_with fail
 go_ret
 have hnb:n≠b:=fun e'=>jo h4.box h4.nm e'.symm
 have heb:e≠b:=fun e'=>jo h4.box h4.em e'.symm
 refine⟨rfl,?_,⟨?_,?_,?_,?_,h.ne⟩⟩
 ·have kM:=ag (ag hB hb2) hb4
  refine⟨iE.os.trans kM.os,iE.tape.trans kM.tape,iE.output.trans kM.output,?_,fun k hk hn'=>?_⟩
  ·show w.heap.size≤(U.setCell ⟨b,1,none⟩ (.int .i64 (s+1))).heap.size
   have:=kM.size
   have:=iE.size
   simp only[World.setCell,Array.size_modify]
   exact Nat.le_trans ‹w.heap.size≤V.heap.size› ‹_›
  ·rw[Below.heap_setCell _ _ _ _ (show k≠b from fun e'=>hn' (.inl e')),rq.block k (Nat.lt_of_lt_of_le hk kM.size) (bU (fun e'=>hn' (.inr (.inr (.inr e'))))),kM.block k hk]
 ·rw[dH _ ku,CG]
 ·exact h4.nm.at ((Below.heap_setCell _ _ _ _ hnb).trans (rq.block n h4.nm.lt (bU h.ne.2.1)))
 ·exact h4.em.at ((Below.heap_setCell _ _ _ _ heb).trans (rq.block e h4.em.lt (bU h.ne.2.2)))
 ·exact rf.at (Below.heap_setCell _ _ _ _ (Ne.symm hbp))
end Go.Proofs.YtpfifochimkpfaaGreatDoor
namespace Go.WW
def Gh(x y:Int):Int:=if x=0 then y else x
end Go.WW
namespace Go.Proofs.YtpfifochimkpfaaGreatDoor
open Go.RowKit Go.WW
theorem TC(a:ByteArray)(w:World):Calls Tryz.prog 188 #[.string a] w fun e w'=>e=.returned (.bool false)∧w=w':=by
 have h:=str_eq a a rfl
 go_enter Tryz.func188,Tryz.ntmps188
 go_wp2
 go_ret
 exact⟨rfl,rfl⟩
theorem KJ(a b:ByteArray)(w:World):Calls Tryz.prog 144 #[.string a,.string b] w fun e w'=>e=.returned (.int .i64 (dB a b))∧w=w':=by
 cases h:Op.bytesLess a.toList b.toList
 ·by_cases he:a=b
  ·have he':=str_eq _ _ he
   have HN:=Lib.hid (show dB a b=0 by subst he;exact JF a)
   clear he
   go_enter Tryz.func144,Tryz.ntmps144
   go_wp2_with (go_at_call 188;refine(TC _ _).mono ?_;rintro e w' ⟨rfl,rfl⟩)
   go_ret
   exact⟨by rw[HN.out];rfl,rfl⟩
  ·have he':=kJ _ _ he
   have HN:=Lib.hid (JE h he)
   clear he
   go_enter Tryz.func144,Tryz.ntmps144
   go_wp2_with (go_at_call 188;refine(TC _ _).mono ?_;rintro e w' ⟨rfl,rfl⟩)
   go_ret
   exact⟨by rw[HN.out];rfl,rfl⟩
 ·have HN:=Lib.hid (JD h)
  go_enter Tryz.func144,Tryz.ntmps144
  go_wp2_with (go_at_call 188;refine(TC _ _).mono ?_;rintro e w' ⟨rfl,rfl⟩)
  go_ret
  exact⟨by rw[HN.out];rfl,rfl⟩
theorem TD(a a':Option Addr)(cap cap':Nat)(m:List ByteArray)(w:World):Calls Tryz.prog 145 #[.slice a 0 cap,.slice a' m.length cap'] w fun e w'=>e=.returned (.int .i64 (oh [] m))∧w=w':=by
 cases m with
 |nil=>
  go_enter Tryz.func145,Tryz.ntmps145
  go_wp2
  refine wp_loop_rounds 1 ?_
  rw[rounds_succ]
  go_wp2
  go_ret
  exact⟨rfl,rfl⟩
 |cons x m=>
  have h1:(0:Int)<((x::m).length:Int):=by simp
  generalize hn:(x::m).length=n at *
  go_enter Tryz.func145,Tryz.ntmps145
  go_wp2
  refine wp_loop_rounds 1 ?_
  rw[rounds_succ]
  go_wp2
  go_ret
  exact⟨rfl,rfl⟩
theorem afn(a a':Option Addr)(cap cap':Nat)(l m:List ByteArray)(w:World)(hl:jH w a l)(hm:jH w a' m):Calls Tryz.prog 145 #[.slice a l.length cap,.slice a' m.length cap'] w fun e w'=>e=.returned (.int .i64 (oh l m))∧w=w':=by
 have hn:l.length≤4294967000:=hl.1
 have hn':m.length≤4294967000:=hm.1
 rcases dO.addr hl with h0|⟨b,o,rfl,hb⟩
 ·obtain rfl:l=[]:=List.eq_nil_of_length_eq_zero h0
  exact TD a a' cap cap' m w
 rcases dO.addr hm with h0|⟨b',o',rfl,hb'⟩
 ·obtain rfl:m=[]:=List.eq_nil_of_length_eq_zero h0
  cases l with
  |nil=>exact TD _ a' cap cap' [] w
  |cons x l=>
   have hc:w.cell? ⟨b,o,none⟩=some (.string x):=by have:=(jH.at hl 0 (by simp)).1;simpa using this
   have h1:(0:Int)<((x::l).length:Int):=by simp
   have HN:=Lib.hid (show oh (x::l) []=1 from rfl)
   generalize hnn:(x::l).length=n at *
   go_enter Tryz.func145,Tryz.ntmps145
   go_wp2
   refine wp_loop_rounds 1 ?_
   rw[rounds_succ]
   go_wp2
   go_ret
   exact⟨by rw[HN.out];rfl,rfl⟩
 go_enter Tryz.func145,Tryz.ntmps145
 go_wp2
 go_loop [11] (fun i=>∃k:Nat,k≤l.length∧k≤m.length∧i=.int .i64 k∧Hid (oh l m=oh (l.drop k) (m.drop k))) (fun i=>l.length-(intOf i).toNat)
 case atStart=>exact⟨0,Nat.zero_le _,Nat.zero_le _,rfl,rfl⟩
 case round=>
  obtain⟨k,hk,hk2,rfl,hall⟩:=hrel
  by_cases hlt:k<l.length
  ·have hki:(k:Int)<(l.length:Int):=by omega
   have hc:=(jH.at hl k hlt).1
   by_cases hlm:k<m.length
   ·have dZ:(k:Int)<(m.length:Int):=by omega
    have hc':=(jH.at hm k hlm).1
    have hst:oh l m=if dB l[k] m[k]=0 then oh (l.drop (k+1)) (m.drop (k+1))else dB l[k] m[k]:=by
     rw[hall.out,List.drop_eq_getElem_cons hlt,List.drop_eq_getElem_cons hlm];rfl
    generalize l[k]=x at *
    generalize m[k]=y at *
    by_cases hz:dB x y=0
    ·rw[if_pos hz]at hst
     have HS:=Lib.hid hst
     have hz':(dB x y != 0)=false:=by simp[hz]
     clear hst hz hall
     go_wp2_with (go_at_call 144;refine(KJ _ _ _).mono ?_;rintro e w' ⟨rfl,rfl⟩)
     go_round
     case rel=>exact⟨k+1,by omega,by omega,by go_num,HS.out⟩
     case measure=>simp[intOf];omega
    ·rw[if_neg hz]at hst
     have HS:=Lib.hid hst
     have hz':(dB x y != 0)=true:=by simp[hz]
     clear hst hz hall
     go_wp2_with (go_at_call 144;refine(KJ _ _ _).mono ?_;rintro e w' ⟨rfl,rfl⟩)
     go_ret
     exact⟨by rw[HS.out];rfl,rfl⟩
   ·have HN:=Lib.hid (show oh l m=1 by rw[hall.out,List.drop_eq_getElem_cons hlt,List.drop_of_length_le (show m.length≤k by omega)];rfl)
    have dZ:(m.length:Int)≤(k:Int):=by omega
    go_wp2
    go_ret
    exact⟨by rw[HN.out];rfl,rfl⟩
  ·by_cases hlm:k<m.length
   ·have HN:=Lib.hid (show oh l m=-1 by rw[hall.out,List.drop_of_length_le (show l.length≤k by omega),List.drop_eq_getElem_cons hlm];rfl)
    have h1:(l.length:Int)<(m.length:Int):=by omega
    go_wp2
    go_ret
    exact⟨by rw[HN.out];rfl,rfl⟩
   ·have HN:=Lib.hid (show oh l m=0 by rw[hall.out,List.drop_of_length_le (show l.length≤k by omega),List.drop_of_length_le (show m.length≤k by omega)];rfl)
    have h1:¬(l.length:Int)<(m.length:Int):=by omega
    go_wp2
    go_ret
    exact⟨by rw[HN.out];rfl,rfl⟩
theorem afo(g cap:Nat)(x y:Int)(w:World)(h0:w.cell? ⟨g,0,none⟩=some (.int .i64 x))(h1:w.cell? ⟨g,1,none⟩=some (.int .i64 y)):Calls Tryz.prog 143 #[.slice (some ⟨g,0,none⟩) 2 cap] w fun e w'=>e=.returned (.int .i64 (Gh x y))∧w=w':=by
 by_cases hx:x=0
 ·subst hx
  have HN:=Lib.hid (show Gh 0 y=y from rfl)
  by_cases hy:y=0
  ·subst hy
   go_enter Tryz.func143,Tryz.ntmps143
   go_wp2
   refine wp_loop_rounds 3 ?_
   rw[rounds_succ]
   go_wp2
   rw[rounds_succ]
   go_wp2
   rw[rounds_succ]
   go_wp2
   go_ret
   exact⟨rfl,rfl⟩
  ·have hy':(y != 0)=true:=by simp[hy]
   clear hy
   go_enter Tryz.func143,Tryz.ntmps143
   go_wp2
   refine wp_loop_rounds 3 ?_
   rw[rounds_succ]
   go_wp2
   rw[rounds_succ]
   go_wp2
   go_ret
   exact⟨by rw[HN.out];rfl,rfl⟩
 ·have hx':(x != 0)=true:=by simp[hx]
  have HN:=Lib.hid (show Gh x y=x from if_neg hx)
  clear hx
  go_enter Tryz.func143,Tryz.ntmps143
  go_wp2
  refine wp_loop_rounds 3 ?_
  rw[rounds_succ]
  go_wp2
  go_ret
  exact⟨by rw[HN.out];rfl,rfl⟩
theorem afp(s t:Sl)(p q:aH)(w:World)(hp:bK w s p)(hq:bK w t q):Calls Tryz.prog 89 #[.agg (az s p),.agg (az t q)] w fun e w'=>e=.returned (.int .i64 (fB p q))∧Below w.heap.size w w':=by
 have hB:Below w.heap.size w ((w.alloc (.cells (az s p) 35)).alloc (.cells (az t q) 35)):=((Below.refl _ _).alloc (Nat.le_refl _) _).alloc (by simp) _
 have HN:=Lib.hid (show fB p q=Gh (dB p.aJ q.aJ) (oh p.parts q.parts) from rfl)
 go_enter Tryz.func89,Tryz.ntmps89
 go_wp2_with fail
 refine nz (Below.refl _ _) (by kernel_rfl) (by kernel_rfl) ?_
 intro w1 hb1
 repeat (first|(refine ai (by rfl) ?_)|(refine au (by rfl) (by rfl) (fun K hK=>?_);go_big_quiet_op;refine hK _ ?_;clear hK K))
 refine aB (by rfl) (by rfl) (fun K hK=>?_)
 go_wp2_with fail
 refine(KJ _ _ _).mono ?_
 rintro e w' ⟨rfl,rfl⟩
 refine hK _ _ (aj hb1) ?_
 clear hK K
 repeat (first|(refine ai (by rfl) ?_)|(refine au (by rfl) (by rfl) (fun K hK=>?_);go_big_quiet_op;refine hK _ ?_;clear hK K))
 refine aB (by rfl) (by rfl) (fun K hK=>?_)
 go_wp2_with fail
 refine(afn _ _ _ _ _ _ _ (hp.1.later (ag hB hb1)) (hq.1.later (ag hB hb1))).mono ?_
 rintro e w' ⟨rfl,rfl⟩
 refine hK _ _ (aj hb1) ?_
 clear hK K
 repeat (first|(refine ai (by rfl) ?_)|(refine au (by rfl) (by rfl) (fun K hK=>?_);go_big_quiet_op;refine hK _ ?_;clear hK K))
 refine aB (by rfl) (by rfl) (fun K hK=>?_)
 go_wp2_with fail
 refine hK _ _ (aj (ay hb1 _)) ?_
 clear hK K
 repeat (first|(refine ai (by rfl) ?_)|(refine au (by rfl) (by rfl) (fun K hK=>?_);go_big_quiet_op;refine hK _ ?_;clear hK K))
 refine aB (by rfl) (by rfl) (fun K hK=>?_)
 go_wp2_with fail
 refine(afo _ _ (dB p.aJ q.aJ) (oh p.parts q.parts) _ (by simp[go_sem]) (by simp[go_sem])).mono ?_
 rintro e w' ⟨rfl,rfl⟩
 refine hK _ _ (aj (ay hb1 _)) ?_
 clear hK K
 repeat (first|(refine ai (by rfl) ?_)|(refine au (by rfl) (by rfl) (fun K hK=>?_);go_big_quiet_op;refine hK _ ?_;clear hK K))
 refine bz ?_
 go_wp2_with fail
 go_ret
 exact⟨by rw[HN.out];rfl,ag hB (ay hb1 _)⟩
theorem TE(r t:aK)(d g:Entry)(w:World)(hp:bK w r.parts d.name)(hq:bK w t.parts g.name):Calls Tryz.prog 88 #[.agg (ae r d),.agg (ae t g)] w fun e w'=>e=.returned (.int .i64 (fB d.name g.name))∧Below w.heap.size w w':=by
 have hB:Below w.heap.size w ((w.alloc (.cells (ae r d) 44)).alloc (.cells (ae t g) 44)):=((Below.refl _ _).alloc (Nat.le_refl _) _).alloc (by simp) _
 go_enter Tryz.func88,Tryz.ntmps88
 go_wp2_with fail
 refine(afp _ _ _ _ _ (hp.later hB) (hq.later hB)).mono ?_
 rintro e w' ⟨rfl,hb⟩
 go_wp2_with fail
 go_ret
 exact⟨rfl,ag hB hb⟩
end Go.Proofs.YtpfifochimkpfaaGreatDoor
namespace Go.WW
open Go.RowKit
section
variable {α β:Type} {c:β→β→Int} {k:α→β}
def Mid(c:β→β→Int)(k:α→β)(Y:List α)(i j:Nat):Prop:=∃A x B C,Y=A++x::(B++C)∧A.length=j∧A.length+B.length=i∧Sorted c k (A++B)∧∀b∈B,c (k x) (k b)<0
theorem TF{Y:List α}{i:Nat}(h:Sorted c k (Y.take i))(hi:i<Y.length):Mid c k Y i i:=
 ⟨Y.take i,Y[i],[],Y.drop (i+1),by rw[List.nil_append,←List.drop_eq_getElem_cons hi,List.take_append_drop],by simp;omega,by simp;omega,by simpa using h,by simp⟩
theorem mid_zero{Y:List α}{i:Nat}(h:Mid c k Y i 0):Sorted c k (Y.take (i+1)):=by
 obtain⟨A,x,B,C,rfl,hA,hi,hs,hb⟩:=h
 have:A=[]:=List.eq_nil_of_length_eq_zero hA
 subst this
 simp only[List.length_nil,Nat.zero_add,List.nil_append]at *
 subst hi
 rw[List.take_succ_cons,List.take_left']
 ·exact List.pairwise_cons.2 ⟨hb,hs⟩
 ·rfl
theorem mid_step{Y:List α}{i j:Nat}(h:Mid c k Y i (j+1))(h1:j+1<Y.length)(hc:c (k Y[j+1]) (k Y[j])<0):Mid c k ((Y.set (j+1) Y[j]).set j Y[j+1]) i j:=by
 obtain⟨A,x,B,C,rfl,hA,hi,hs,hb⟩:=h
 obtain⟨A',y,rfl⟩:∃A' y,A=A'++[y]:=⟨A.dropLast,A.getLast (by intro e;subst e;simp at hA),(List.dropLast_concat_getLast _).symm⟩
 have hA':A'.length=j:=by simpa using hA
 subst hA'
 have e1:(A'++[y]++x::(B++C))[A'.length+1]=x:=by simp
 have e0:(A'++[y]++x::(B++C))[A'.length]=y:=by simp
 rw[e1,e0]at hc
 refine⟨A',x,y::B,C,?_,rfl,by simp at hi ⊢;omega,by simpa using hs,fun b hbm=>?_⟩
 ·rw[e1,e0]
  simp
 ·rcases List.mem_cons.1 hbm with rfl|hbm
  ·exact hc
  ·exact hb b hbm
theorem TG(ht:yh c){Y:List α}{i j:Nat}(h:Mid c k Y i (j+1))(h1:j+1<Y.length)(hd:(Y.map k).Nodup)(hc:¬c (k Y[j+1]) (k Y[j])<0):Sorted c k (Y.take (i+1)):=by
 obtain⟨A,x,B,C,rfl,hA,hi,hs,hb⟩:=h
 obtain⟨A',y,rfl⟩:∃A' y,A=A'++[y]:=⟨A.dropLast,A.getLast (by intro e;subst e;simp at hA),(List.dropLast_concat_getLast _).symm⟩
 have hA':A'.length=j:=by simpa using hA
 subst hA'
 have e1:(A'++[y]++x::(B++C))[A'.length+1]=x:=by simp
 have e0:(A'++[y]++x::(B++C))[A'.length]=y:=by simp
 rw[e1,e0]at hc
 have hne:k x≠k y:=by
  intro e
  rw[List.map_append,List.map_append,List.map_cons,List.nodup_append]at hd
  exact hd.2.2 (k y) (by simp) (k x) (by simp) e.symm
 have hyx:c (k y) (k x)<0:=by
  have h0:c (k y) (k x)≠0:=fun e0=>hne ((ht.zero _ _).1 e0).symm
  have:=ht.sS (k y) (k x)
  omega
 have et:(A'++[y]++x::(B++C)).take (i+1)=(A'++[y])++x::B:=by
  have e:A'++[y]++x::(B++C)=((A'++[y])++x::B)++C:=by simp
  rw[e,List.take_left']
  simp at hi ⊢;omega
 rw[et]
 have hs':=List.pairwise_append.1 hs
 have hs1:=List.pairwise_append.1 hs'.1
 refine List.pairwise_append.2 ⟨hs'.1,List.pairwise_cons.2 ⟨hb,hs'.2.1⟩,fun a ha z hz=>?_⟩
 rcases List.mem_cons.1 hz with rfl|hz
 ·rcases List.mem_append.1 ha with ha|ha
  ·exact ht.trans _ _ _ (hs1.2.2 a ha y (by simp)) hyx
  ·simp at ha;subst ha;exact hyx
 ·exact hs'.2.2 a ha z hz
theorem swap_perm{Y:List α}{j:Nat}(h1:j+1<Y.length):((Y.set (j+1) Y[j]).set j Y[j+1]).Perm Y:=by
 have e:Y=Y.take j++Y[j]::Y[j+1]::Y.drop (j+2):=by
  conv=>lhs;rw[←List.take_append_drop j Y,List.drop_eq_getElem_cons (by omega),List.drop_eq_getElem_cons h1]
 have hl:(Y.take j).length=j:=by simp;omega
 generalize Y[j]=y at *
 generalize Y[j+1]=x at *
 generalize Y.take j=A at *
 generalize Y.drop (j+2)=C at *
 subst e
 subst hl
 simp
 exact(List.Perm.refl A).append (List.Perm.swap _ _ _)
end
theorem afq{c cs:Array Value}{o n:Nat}(hn:cs.size=n)(h:o+n≤c.size):gy (splice c o cs) o n=some cs:=by
 subst hn
 unfold gy
 rw[if_pos (by rw[Fg h];exact h)]
 congr 1
 apply Array.ext_getElem?
 intro i
 simp only[splice,Array.getElem?_extract,List.getElem?_toArray,List.getElem?_append,List.length_append,List.length_take,Array.length_toList,List.getElem?_take,List.getElem?_drop]
 have:min o c.size=o:=by omega
 by_cases hi:i<cs.size
 ·simp[this,hi,show ¬o+i<o by omega,show o+i<o+cs.size by omega]
 ·rw[if_neg (by omega),Array.getElem?_eq_none (by omega)]
theorem afr{c cs:Array Value}{o o' n:Nat}(h:o+cs.size≤c.size)(ha:o'+n≤o∨o+cs.size≤o'):gy (splice c o cs) o' n=gy c o' n:=by
 unfold gy
 rw[Fg h]
 split
 ·congr 1
  apply Array.ext_getElem?
  intro i
  simp only[splice,Array.getElem?_extract,List.getElem?_toArray,List.getElem?_append,List.length_append,List.length_take,Array.length_toList,List.getElem?_take,List.getElem?_drop,Array.getElem?_toList]
  have hm:min o c.size=o:=by omega
  have hsz:(List.take o c.toList++cs.toList++List.drop (o+cs.size) c.toList).length=c.size:=by simp;omega
  by_cases hi:i<n
  ·have h1:i<min (o'+n) c.size-o':=by omega
   rcases ha with ha|ha
   ·simp[hm,show o'+i<o by omega,show o'+i<o+cs.size by omega,show o+(cs.size+(c.size-(o+cs.size)))=c.size by omega]
   ·simp[hm,show ¬o'+i<o+cs.size by omega,show o+cs.size+(o'+i-(o+cs.size))=o'+i by omega,show o+(cs.size+(c.size-(o+cs.size)))=c.size by omega]
  ·rw[if_neg (by omega),if_neg (by omega)]
 ·rfl
def Open(w:World)(g n:Nat):Prop:=∃c t,w.heap[g]?=some (.cells c t)∧n≤c.size
theorem Open.put{w:World}{g n o:Nat}{cs:Array Value}(h:Open w g n)(ho:o+cs.size≤n):Open (putRow w g o cs) g n:=by
 obtain⟨c,t,hc,hn⟩:=h
 exact⟨_,t,jk hc (by omega),by rw[Fg (by omega)];exact hn⟩
theorem Open.can{w:World}{g n o m:Nat}(h:Open w g n)(ho:o+m≤n):aX w g o m=true:=by
 obtain⟨c,t,hc,hn⟩:=h
 exact iC hc (by omega)
theorem Open.at{w w':World}{g n:Nat}(h:Open w g n)(e:w'.heap[g]?=w.heap[g]?):Open w' g n:=by
 obtain⟨c,t,hc,hn⟩:=h
 exact⟨c,t,e.trans hc,hn⟩
theorem TJ{w:World}{g n o o' m:Nat}{cs:Array Value}(h:Open w g n)(ho:o+cs.size≤n)(ha:o'+m≤o∨o+cs.size≤o'):row? (putRow w g o cs) g o' m=row? w g o' m:=by
 obtain⟨c,t,hc,hn⟩:=h
 rw[dI (jk hc (by omega)),dI hc,afr (by omega) ha]
theorem TK{w:World}{g n o m:Nat}{cs:Array Value}(h:Open w g n)(hm:cs.size=m)(ho:o+m≤n):row? (putRow w g o cs) g o m=some cs:=by
 obtain⟨c,t,hc,hn⟩:=h
 rw[dI (jk hc (by omega)),afq hm (by omega)]
theorem Gi(x:EE):(cZ x).size=17:=rfl
theorem gz.put{w:World}{g:Nat}{Y:List EE}(h:gz w (some ⟨g,0,none⟩) Y)(ho:Open w g (Y.length*17)){i:Nat}(hi:i<Y.length)(x:EE):gz (putRow w g (0+i*17) (cZ x)) (some ⟨g,0,none⟩) (Y.set i x):=by
 refine⟨by simpa using h.1,fun j hj=>?_⟩
 have hj':j<Y.length:=by simpa using hj
 have hs:=Gi x
 by_cases e:j=i
 ·subst e
  exact⟨g,0,_,rfl,TK ho (Gi x) (by omega),x,by simp[hj'],rfl⟩
 ·obtain⟨b,o,cs,ha,hr,y,hy,rfl⟩:=h.2 j hj'
  cases ha
  refine⟨g,0,_,rfl,(TJ ho (by omega) (by omega)).trans hr,y,by rw[List.getElem?_set_ne (by omega)];exact hy,rfl⟩
theorem But.put{S:Nat→Prop}{W w:World}{g o:Nat}{cs:Array Value}(h:But S W w)(hg:S g):But S W (putRow w g o cs):=
 h.trans ⟨by have:=(Cc (Nat.le_refl g) cs.toList o w).os;exact this,(Cc (Nat.le_refl g) cs.toList o w).tape,(Cc (Nat.le_refl g) cs.toList o w).output,by rw[gV];exact Nat.le_refl _,fun k _ hn=>gU (fun e=>hn (e▸hg))⟩
end Go.WW
