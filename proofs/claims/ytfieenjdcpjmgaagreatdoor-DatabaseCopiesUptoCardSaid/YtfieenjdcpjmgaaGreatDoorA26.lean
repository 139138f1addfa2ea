/- A part of the proof. -/
import Derived.Test.YtfieenjdcpjmgaaGreatDoorA25
import Derived.Test.YtfieenjdcpjmgaaGreatDoorA09
import Derived.Lib.AppendStr
import Derived.Test.YtfieenjdcpjmgaaGreatDoorA10
set_option maxRecDepth 100000
set_option maxHeartbeats 8000000
namespace Go.WW
open Go.RowKit
def mf(w:World)(s s':Sl):Prop:=∀g,s'.blk=some g→s'.blk=s.blk∨w.heap.size≤g
theorem mf.refl(w:World)(s:Sl):mf w s s:=fun _ _=>.inl rfl
theorem mf.trans{w v:World}{a b c:Sl}(hs:w.heap.size≤v.heap.size)(h:mf w a b)(k:mf v b c):mf w a c:=fun g hg=>by
 rcases k g hg with h1|h1
 ·rcases h g (h1▸hg)with h2|h2
  ·exact .inl (h1.trans h2)
  ·exact .inr h2
 ·exact .inr (Nat.le_trans hs h1)
theorem mf.base{w v:World}{a b:Sl}(hs:w.heap.size≤v.heap.size)(k:mf v a b):mf w a b:=fun g hg=>(k g hg).imp id fun h=>Nat.le_trans hs h
def kV(w:World)(s:Sl)(w':World):Prop:=But (fun k=>s.blk=some k) w w'
theorem kV.refl(w:World)(s:Sl):kV w s w:=But.refl _ _
theorem kV.later{w v v':World}{s:Sl}(h:kV w s v)(hb:Below v.heap.size v v'):kV w s v':=But.trans h (But.of_below hb)
theorem kV.grown{w w':World}{s:Sl}(h:w.grownBy w' s.blk):kV w s w':=
 ⟨h.os,h.tape,h.output,h.size,fun j hj hn=>h.block j hj (fun e=>hn (by first|exact e|exact e.symm))⟩
theorem kV.trans{w v v':World}{s s1:Sl}(h:kV w s v)(n:mf w s s1)(k:kV v s1 v'):kV w s v':=
 ⟨k.os.trans h.os,k.tape.trans h.tape,k.output.trans h.output,Nat.le_trans h.size k.size,fun j hj hn=>(k.block j (Nat.lt_of_lt_of_le hj h.size) (fun e=>by
  rcases n j e with h1|h1
  ·exact hn (h1.symm.trans e)
  ·omega)).trans (h.block j hj hn)⟩
def X3(T:TypeId)(W w:World)(sb:Sl)(L:List UInt8)(e:Ending)(w':World):Prop:=
 ∃s':Sl,e=.returned (.slice s'.a L.length s'.cap)∧dE T W w' s' L∧kV w sb w'∧mf w sb s'
theorem alK{P:Program}{w w':World}{t u ty T:TypeId}{i:TypeInfo}(ht:P.underlying t=some (.slice T))(hu:P.underlying u=some .string)(hi:P.info? T=some i)(hz:i.zero=some (.int .u8 0))(hsz:i.size=1)(hby:i.bytes=1)
  {base:Nat} {s s':Sl} {n m:Nat} {xs:List Value} (hown:w.ownsRow base T 1 (.slice s.a n s.cap) n xs) {str:ByteArray} (h:n+str.size≤1000000000)
  (hnil:.slice s'.a m s'.cap=Value.slice none 0 0↔.slice s.a n s.cap=Value.slice none 0 0∧str.size=0)
  (hr:(Builtin.append_ #[t,u] ty #[.slice s.a n s.cap,.string str]).run P w=.ok (.slice s'.a m s'.cap) w'):∀g,s'.blk=some g→s'.blk=s.blk∨w.heap.size≤g:=by
 intro g hg
 have hlen:xs.length=n:=by simpa using hown.1
 have hcells:∀g0,s.a=some ⟨g0,0,none⟩→∀j v,xs[j]?=some v→w.cell? ((⟨g0,0,none⟩:Addr).add j)=some v:=fun g0 e=>hown.cells (g:=g0) (by rw[e];rfl)
 rcases hown.2 with⟨hv,hn⟩|⟨g0,cap,cur,hv,hbg,hh,hnc,hcm,hcs,htake⟩
 ·have hz0:str.size≠0:=fun e=>by
   have:=hnil.2 ⟨hv,e⟩
   have ha:s'.a=none:=by injection this
   rw[Sl.blk,ha]at hg;cases hg
  rw[hv,run_append_nil_string (P:=P) w t u ty T i (.int .u8 0) ht hu hi hz str (by omega) (by omega) (by rw[hby];omega)]at hr
  have ha:s'.a=some ⟨w.heap.size,0,none⟩:=by injection hr with h1 h2;injection h1 with h1;exact h1.symm
  rw[Sl.blk,ha]at hg
  cases hg
  exact .inr (Nat.le_refl _)
 ·have hsa:s.a=some ⟨g0,0,none⟩:=by injection hv
  by_cases hroom:n+str.size≤cap
  ·rw[hv,Lib.run_append_room_string (P:=P) w t u ty T i ht hu hi hsz g0 n cap cur hh str hroom (by omega)]at hr
   have ha:s'.a=some ⟨g0,0,none⟩:=by injection hr with h1 h2;injection h1 with h1;exact h1.symm
   left;rw[Sl.blk,Sl.blk,ha,hsa]
  ·rw[hv,Lib.run_append_grow_string (P:=P) w t u ty T i (.int .u8 0) ht hu hi hz ⟨g0,0,none⟩ n cap xs (by rw[hsz,hlen];omega) (hcells g0 hsa) str (by omega) (by omega) (by rw[hby];exact growslice_fits (by omega) (by omega))]at hr
   have ha:s'.a=some ⟨w.heap.size,0,none⟩:=by injection hr with h1 h2;injection h1 with h1;exact h1.symm
   rw[Sl.blk,ha]at hg
   cases hg
   exact .inr (Nat.le_refl _)
theorem alL{P:Program}{ops:Array Oper}{rest:List Oper}{o:Oper}{a:Act}{w:World}{Q:Exit→Act→World→Prop}(hgd:o.guard=Option.none)(x y:Operand)(t:TypeId)(ho:o.op=.call {callee:=.builtin .append,args:=#[x,y],argTypes:=#[t,t]})
  {T:TypeId} {b:Nat} (he:fQ P t T 1 b) (hb:b≤8) {W:World} {s:Sl} {l L:List UInt8} (h:dE T W w s l) {n:Nat} (hx:a.eval x=.slice s.a n s.cap) (hn:n=l.length) {A:Option Addr} {news:List UInt8} {m c:Nat}
  (hy:a.eval y=.slice A m c) (hm:m=news.length) (hs:BytesAt w A news) (hL:L=l++news) (hlen:L.length≤100000000)
  (hK:∀(s':Sl) w',dE T W w' s' L→kV w s w'→mf w s s'→wpList P ops Q rest (a.put o.dst (.slice s'.a L.length s'.cap)) w'):wpList P ops Q (o::rest) a w:=by
 subst hn hm hL
 rw[List.length_append]at hlen hK
 have hl:((dV l).length+(dV news).length)*(b+1)≤140737488355328:=by
  rw[fM,fM]
  have:=Nat.mul_le_mul hlen (show b+1≤9 by omega)
  omega
 exact gp hgd x y t ho he hx (fM l).symm h.own hy (fM news).symm hs.src hl h.b.size fun s' w' h1 h2 h3=>hK s' w' (h.app h1 h2) (kV.grown h2) fun g hg=>h3.imp id fun e=>by rw[e]at hg;cases hg;exact Nat.le_refl _
theorem alM{P:Program}{ops:Array Oper}{rest:List Oper}{o:Oper}{a:Act}{w:World}{Q:Exit→Act→World→Prop}(hgd:o.guard=Option.none)(x y:Operand)(t:TypeId)(ho:o.op=.call {callee:=.builtin .append,args:=#[x,y],argTypes:=#[t,t]})
  {T:TypeId} {b:Nat} (he:fQ P t T 1 b) (hb:b≤8) {W:World} {s:Sl} {l L:List UInt8} (h:dE T W w s l) {n:Nat} (hx:a.eval x=.slice s.a n s.cap) (hn:n=l.length) {A:Option Addr} {news:List UInt8} {m c:Nat}
  (hy:a.eval y=.slice A m c) (hm:m=news.length) (hs:BytesAt w A news) (hL:L=l++news) (hlen:L.length≤100000000)
  (hK:∀(s':Sl) w',dE T W w' s' L→w.grownBy w' s.blk→wpList P ops Q rest (a.put o.dst (.slice s'.a L.length s'.cap)) w'):wpList P ops Q (o::rest) a w:=by
 subst hn hm hL
 rw[List.length_append]at hlen hK
 have hl:((dV l).length+(dV news).length)*(b+1)≤140737488355328:=by
  rw[fM,fM]
  have:=Nat.mul_le_mul hlen (show b+1≤9 by omega)
  omega
 exact gp hgd x y t ho he hx (fM l).symm h.own hy (fM news).symm hs.src hl h.b.size fun s' w' h1 h2 _=>hK s' w' (h.app h1 h2) h2
theorem X4(l:List UInt8):flat (dV l)=l.map fun c=>Value.int .u8 c.toNat:=by
 unfold flat dV
 induction l with
 |nil=>rfl
 |cons a l ih=>simp only[List.map_cons,List.flatMap_cons,ih];rfl
theorem N8{P:Program}{ops:Array Oper}{rest:List Oper}{o:Oper}{a:Act}{w:World}{Q:Exit→Act→World→Prop}(hgd:o.guard=Option.none)(x y:Operand)(t u:TypeId)(ho:o.op=.call {callee:=.builtin .append,args:=#[x,y],argTypes:=#[t,u]})
  {T:TypeId} {i:TypeInfo} (ht:P.underlying t=some (.slice T)) (hu:P.underlying u=some .string) (hi:P.info? T=some i) (hz:i.zero=some (.int .u8 0)) (hsz:i.size=1) (hby:i.bytes=1)
  {W:World} {s:Sl} {l L:List UInt8} (h:dE T W w s l) {n:Nat} (hx:a.eval x=.slice s.a n s.cap) (hn:n=l.length) {str:ByteArray} (hy:a.eval y=.string str) (hL:L=l++str.data.toList) (hlen:L.length≤100000000)
  (hK:∀(s':Sl) w',dE T W w' s' L→kV w s w'→mf w s s'→wpList P ops Q rest (a.put o.dst (.slice s'.a L.length s'.cap)) w'):wpList P ops Q (o::rest) a w:=by
 subst hn hL
 have hsl:str.data.toList.length=str.size:=by simp
 rw[List.length_append,hsl]at hlen hK
 have hown:w.ownsRow W.heap.size T 1 (.slice s.a l.length s.cap) l.length (flat (dV l)):=by have:=h.own.own;rwa[fM]at this
 obtain⟨v',w',hr,h1,h2,h3⟩:=Lib.run_append_own_string (P:=P) w W.heap.size t u o.type T i ht hu hi hz hsz hby (.slice s.a l.length s.cap) l.length (flat (dV l)) hown str (by unfold maxLen;omega) (by omega) h.b.size
 rw[yc]at h2
 have hform:∃s':Sl,v'=.slice s'.a (l.length+str.size) s'.cap:=by
  rcases h1.2 with⟨hv,hn⟩|⟨g,cap,cur,hv,_⟩
  ·exact⟨⟨none,0⟩,by rw[hv,hn]⟩
  ·exact⟨⟨some ⟨g,0,none⟩,cap⟩,hv⟩
 obtain⟨s',rfl⟩:=hform
 have hrows:flat (dV l)++Lib.strCells str=flat (dV (l++str.data.toList)):=by
  rw[X4,X4,List.map_append]
  simp[Lib.strCells]
 have hO:Own w' W.heap.size T 1 s' (dV (l++str.data.toList)):=⟨by rw[fM,List.length_append,hsl,←hrows];exact h1,fun r hr=>by
  simp only[dV,List.mem_map]at hr
  obtain⟨c,-,rfl⟩:=hr
  rfl⟩
 have alN:mf w s s':=alK ht hu hi hz hsz hby hown (by omega) h3 hr
 refine wpList_plain hgd fun _ hK'=>?_
 unfold Oper.wp execOp
 simp only[ho,resolve,invoke,builtin,Sem.run_bind,Sem.run_pure,Result.andThen_ok,List.map_toArray,List.map_cons,List.map_nil,hx,hy,hr]
 exact hK' _ _ (hK s' w' ⟨h.b.grown h2 h.b.size (fun _ e=>(h.own.base e).1),hO⟩ (kV.grown h2) alN)
end Go.WW
namespace Go.Proofs.YtfieenjdcpjmgaaGreatDoor
open Go.RowKit Go.WW
theorem Ei(v n:Nat)(w:World)(hn:n≤8):Calls Tryz.prog 50 #[.int .i64 v,.int .i64 n] w (bG w (bK v n)):=by
 have hlen:=gX n v
 go_enter Tryz.func50,Tryz.ntmps50
 go_wp2_with fail
 go_loopw [5,6] (fun bv iv wr=>∃(k:Nat) (sb:Sl),k≤n∧iv=.int .i64 ((n:Int)-1-k)∧bv=.slice sb.a k sb.cap∧dE 5 w wr sb ((bK v n).take k)) (fun _ i _=>(intOf i+1).toNat)
 case atStart=>exact⟨0,⟨none,0⟩,Nat.zero_le _,by simp,rfl,dE.none _ (Below.refl _ _)⟩
 case round=>
  obtain⟨k,sb,hk,rfl,rfl,hR⟩:=hrel
  obtain⟨M,hM⟩:∃M,M=(bK v n).take k:=⟨_,rfl⟩
  have lI:=Lib.hid (show k=M.length by rw[hM,List.length_take];omega)
  rw[←hM]at hR
  by_cases hlt:k<n
  ·obtain⟨M',hM'⟩:∃M',M'=(bK v n).take (k+1):=⟨_,rfl⟩
   obtain⟨c,hc⟩:∃c,c=UInt8.ofNat (v / 256 ^ (n-1-k)):=⟨_,rfl⟩
   obtain⟨j,hj⟩:∃j:Nat,j=n-1-k:=⟨_,rfl⟩
   have hij:(n:Int)-1-k=j:=by omega
   have HA:=Lib.hid (show M'=M++[c] by rw[hM',hM,hc,List.take_add_one,Eb _ _ _ hlt];rfl)
   have xE:=Lib.hid (show M'.length=k+1 by rw[hM',List.length_take];omega)
   have uB:=Lib.hid hM'
   rw[hij]
   rw[←hj]at hc
   have HJ:=Lib.hid hj
   have XY:j<8:=by omega
   clear hM hM' hj hij
   go_wp2_with (at_builtin;refine iK (L:=M') rfl _ _ _ rfl dZ b8 (hR.later (aj (Below.refl _ _) _)) rfl lI.out (m:=1) rfl rfl (BytesAt.lit _ [c] (by simp) (by rw[XT,hc];rfl) (by simp[lim])) HA.out (by rw[xE.out];omega) ?_;intro s3 w3 cZ)
   go_roundw
   case rel=>exact⟨k+1,s3,by omega,by have:=HJ.out;go_num,by rw[xE.out],by rw[←uB.out];exact cZ⟩
   case measure=>simp[intOf]
  ·obtain rfl:k=n:=by omega
   have HE:=Lib.hid (show M=bK v k by rw[hM,List.take_of_length_le (by omega)])
   have HL:=Lib.hid (show(bK v k).length=k from hlen)
   clear hM hlen
   go_wp2_with fail
   go_ret
   rw[←HE.out]
   have:=hR.Eh (by rw[←lI.out];unfold lim;omega)
   rw[←lI.out]at this
   exact this
theorem IA(W w:World)(sb:Sl)(l:List UInt8)(v n:Nat)(h:dE 5 W w sb l)(hn:n≤8)(hl:l.length≤90000000):Calls Tryz.prog 58 #[.slice sb.a l.length sb.cap,.int .u64 v,.int .i64 n] w (X3 5 W w sb (l++bK v n)):=by
 have hlen:=gX n v
 have hnl:n≤8∧l.length≤90000000:=⟨hn,hl⟩
 have HNL:=Lib.hid hnl
 clear hnl
 go_enter Tryz.func58,Tryz.ntmps58
 go_wp2_with fail
 go_loopw [0,7] (fun bv iv wr=>∃(k:Nat) (sc:Sl),k≤n∧iv=.int .i64 ((n:Int)-1-k)∧bv=.slice sc.a (l.length+k) sc.cap∧dE 5 W wr sc (l++(bK v n).take k)∧Hid (kV w sb wr)∧Hid (mf w sb sc)) (fun _ i _=>(intOf i+1).toNat)
 case atStart=>exact⟨0,sb,Nat.zero_le _,by simp,rfl,by simpa using h,kV.refl _ _,mf.refl _ _⟩
 case round=>
  obtain⟨k,sc,hk,rfl,rfl,hR,N9,Oa⟩:=hrel
  obtain⟨M,hM⟩:∃M,M=l++(bK v n).take k:=⟨_,rfl⟩
  have lI:=Lib.hid (show l.length+k=M.length by rw[hM,List.length_append,List.length_take];omega)
  rw[←hM]at hR
  by_cases hlt:k<n
  ·obtain⟨M',hM'⟩:∃M',M'=l++(bK v n).take (k+1):=⟨_,rfl⟩
   obtain⟨c,hc⟩:∃c,c=UInt8.ofNat (v / 256 ^ (n-1-k)):=⟨_,rfl⟩
   obtain⟨j,hj⟩:∃j:Nat,j=n-1-k:=⟨_,rfl⟩
   have hij:(n:Int)-1-k=j:=by omega
   have HA:=Lib.hid (show M'=M++[c] by rw[hM',hM,hc,List.take_add_one,Eb _ _ _ hlt,List.append_assoc];rfl)
   have xE:=Lib.hid (show M'.length=l.length+(k+1) by rw[hM',List.length_append,List.length_take];omega)
   have uB:=Lib.hid hM'
   rw[hij]
   rw[←hj]at hc
   have HJ:=Lib.hid hj
   have XY:j<8:=by omega
   clear hM hM' hj hij
   go_wp2_with (at_builtin;refine alL (L:=M') rfl _ _ _ rfl dZ b8 (hR.later (aj (Below.refl _ _) _)) rfl lI.out (m:=1) rfl rfl (BytesAt.lit _ [c] (by simp) (by rw[XR,hc];rfl) (by simp[lim])) HA.out (by have:=HNL.out;rw[xE.out];omega) ?_;intro s3 w3 cZ zt hN3)
   go_roundw
   case rel=>exact⟨k+1,s3,by omega,by have:=HJ.out;go_num,by rw[xE.out],by rw[←uB.out];exact cZ,(N9.out.later (aj (Below.refl _ _) _)).trans Oa.out zt,Oa.out.trans (Nat.le_trans N9.out.size (aj (Below.refl _ _) _).size) hN3⟩
   case measure=>simp[intOf]
  ·obtain rfl:k=n:=by omega
   have HE:=Lib.hid (show M=l++bK v k by rw[hM,List.take_of_length_le (by omega)])
   clear hM hlen
   go_wp2_with fail
   go_ret
   rw[←HE.out]
   exact⟨sc,by rw[←lI.out];rfl,hR,N9.out,Oa.out⟩
theorem Ob(W w:World)(sb:Sl)(l:List UInt8)(s:ByteArray)(n:Nat)(h:dE 5 W w sb l)(hn:n≤8)(hl:l.length≤80000000)(hs:s.size≤10000000):Calls Tryz.prog 57 #[.slice sb.a l.length sb.cap,.string s,.int .i64 n] w (X3 5 W w sb (l++(bK s.size n++s.data.toList))):=by
 have HC:=Lib.hid (IA W w sb l s.size n h hn (by omega))
 have HL:=Lib.hid (show(l++bK s.size n).length≤80000008 by rw[List.length_append,gX];omega)
 have HS:=Lib.hid (show s.data.toList.length=s.size by simp)
 have NH:=Lib.hid hs
 have hs':s.size<18446744073709551616:=by omega
 obtain⟨N,hN⟩:∃N,N=l++bK s.size n:=⟨_,rfl⟩
 rw[←List.append_assoc]
 rw[←hN]at HC HL ⊢
 clear hN hn hl hs
 go_enter Tryz.func57,Tryz.ntmps57
 go_wp2_with fail
 refine HC.out.mono ?_
 rintro e w2 ⟨s2,rfl,hR2,hT2,X8⟩
 go_wp2_with (at_builtin;refine N8 (L:=N++s.data.toList) rfl _ _ _ _ rfl Tryz.underlying61 Tryz.underlying9 (i:=(Tryz.prog.info? 5).get (by kernel_rfl)) (by kernel_rfl) (by kernel_rfl) (by kernel_rfl) (by kernel_rfl) hR2 rfl rfl rfl rfl (by have h1:=HL.out;have h2:=NH.out;have h3:=HS.out;rw[List.length_append,h3];omega) ?_;intro s3 w3 cZ zt hN3)
 go_ret
 exact⟨s3,by rw[List.length_append,HS.out];rfl,cZ,hT2.trans X8 zt,X8.trans hT2.size hN3⟩
end Go.Proofs.YtfieenjdcpjmgaaGreatDoor
namespace Go.WW
open Go.RowKit
theorem alP{l:List (List UInt8)}{k:Nat}(h:k<l.length){M:List UInt8}(hM:M=(l.take k).flatten):(l.take (k+1)).flatten=M++l[k]:=by rw[xC h,hM]
def RH(l:List (List UInt8))(x:World)(i:Nat)(cs:Array Value):Prop:=∃v,cs=#[v]∧∃p,∃s:Sl,l[i]?=some p∧v=.slice s.a p.length s.cap∧BytesAt x s.a p
structure gY(T:TypeId)(W wr:World)(so:Sl)(l:List (List UInt8)):Prop where
 b:Below W.heap.size W wr
 c:∃rows:List (Array Value),rows.length=l.length∧jU T 1 (RH l) wr W.heap.size so rows
theorem gY.none(T:TypeId){W wr:World}(h:Below W.heap.size W wr):gY T W wr ⟨Option.none,0⟩ []:=⟨h,[],rfl,jU.nil T 1 (RH []) W W.heap.size |> fun c=>⟨Own.nil _ _ _ _,fun i hi=>by simp at hi⟩⟩
theorem RH.more{l:List (List UInt8)}{x:World}{i:Nat}{cs:Array Value}(p:List UInt8)(h:RH l x i cs):RH (l++[p]) x i cs:=by
 obtain⟨v,h1,q,s,h2,h3⟩:=h
 have hi:i<l.length:=(List.getElem?_eq_some_iff.1 h2).1
 exact⟨v,h1,q,s,by rw[List.getElem?_append_left hi];exact h2,h3⟩
theorem gY.kept{T:TypeId}{W wr w':World}{so:Sl}{l:List (List UInt8)}(h:gY T W wr so l)(hb:Below wr.heap.size wr w'):gY T W w' so l:=by
 obtain⟨rows,h1,h2⟩:=h.c
 refine⟨ag h.b hb,rows,h1,h2.own.kept fun g hg=>hb.block g (h2.own.base hg).2,fun i hi=>(h2.each i hi).to (fun k hk=>hb.block k hk.2.1) (fun k hk=>⟨hk.1,Nat.lt_of_lt_of_le hk.2.1 hb.size,hk.2.2⟩)⟩
theorem gY.hist{T:TypeId}{W wr:World}{so:Sl}{l:List (List UInt8)}(h:gY T W wr so l)(hl:l.length≤lim):bD wr (fresh W.heap.size wr) (fun x=>fG x so.a l):=by
 obtain⟨rows,h1,h2⟩:=h.c
 exact fun x hx=>dU.ed (h2.own.fresh hx) h1 hl (fun i hi=>(h2.each i hi) x (fun k hk=>hx k ⟨hk.1,hk.2.1⟩))
theorem rX{P:Program}{ops:Array Oper}{rest:List Oper}{o:Oper}{a:Act}{w2:World}{Q:Exit→Act→World→Prop}(hgd:o.guard=Option.none)(x y:Operand)(t:TypeId)(ho:o.op=.call {callee:=.builtin .append,args:=#[x,y],argTypes:=#[t,t]})
  {T T':TypeId} (he:fQ P t T 1 24) {W wr:World} {s s':Sl} {l L:List (List UInt8)} {p:List UInt8} (h:gY T W wr s l) (hb:Below wr.heap.size wr w2) (hd:bD w2 (fresh wr.heap.size w2) (fun x=>BytesAt x s'.a p))
  {n:Nat} (hx:a.eval x=.slice s.a n s.cap) (hn:n=l.length) {k c:Nat} (hy:a.eval y=.slice (some ⟨k,0,Option.none⟩) 1 c) (hk:k=w2.heap.size) (hL:L=l++[p]) (hlen:L.length≤1000000)
  (hK:∀(s3:Sl) w3,gY T W w3 s3 L→wpList P ops Q rest (a.put o.dst (.slice s3.a L.length s3.cap)) w3):wpList P ops Q (o::rest) a (w2.alloc (.cells #[.slice s'.a p.length s'.cap] T')):=by
 subst hn hk hL
 obtain⟨rows,hr,hC⟩:=h.c
 rw[List.length_append,List.length_singleton]at hlen hK
 have hown:=hC.carry hb (.cells #[.slice s'.a p.length s'.cap] T')
 refine gp hgd x y t ho he hx hr.symm hown hy rfl (cO.new w2 #[.slice s'.a p.length s'.cap] T' 1 (by simp) (by simp[dG,Value.oneCell'])) (by rw[hr];simp;omega) (by have h1:=h.b.size;have h2:=hb.size;simp;omega) ?_
 intro s3 w3 hown3 hg3 gq
 refine hK s3 w3 ⟨?_,_,?_,jU.step (R:=RH (l++[p])) ⟨hC.own,fun i hi=>?_⟩ (Below.refl _ _) hb (o:=.cells #[.slice s'.a p.length s'.cap] T') (fun x hx=>⟨_,rfl,p,s',by rw[hr];simp,rfl,hd x hx⟩) hown3 hg3 gq h.b.size⟩
 ·exact Dh hC h.b (Below.refl _ _) hb hg3
 ·simp[hr]
 ·exact fun x hx=>(hC.each i hi x hx).more p
theorem fG.lit{w:World}{k:Nat}(items:List (Sl×List UInt8)){cs:Array Value}{t:TypeId}(hk:k=w.heap.size)(hcs:cs=(items.map fun x=>Value.slice x.1.a x.2.length x.1.cap).toArray)(hb:∀x∈items,BytesAt w x.1.a x.2)(hl:items.length≤lim) :
  fG (w.alloc (.cells cs t)) (some ⟨k,0,Option.none⟩) (items.map (·.2)):=by
 subst hk hcs
 refine⟨by simpa using hl,fun i hi=>?_⟩
 have hi':i<items.length:=by simpa using hi
 refine⟨w.heap.size,0,.slice items[i].1.a items[i].2.length items[i].1.cap,rfl,?_,items[i].2,items[i].1,by simp[hi'],rfl,(hb _ (List.getElem_mem hi')).later (aj (Below.refl _ _) _)⟩
 rw[cell_of_row _ _ _ _ _ _ (World.alloc_heap_new _ _)]
 simp[hi']
structure Ps(W w:World)(items:List (Sl×List UInt8)):Prop where
 b:Below W.heap.size W w
 at_:∀x∈items,BytesAt w x.1.a x.2
theorem Ps.mid{W w w':World}{items:List (Sl×List UInt8)}(h:Ps W w items)(hb:Below w.heap.size w w'):Ps W w' items:=⟨ag h.b hb,fun x hx=>(h.at_ x hx).later hb⟩
theorem Ps.add{W w w':World}{items:List (Sl×List UInt8)}(h:Ps W w items)(hb:Below w.heap.size w w'){s:Sl}{l:List UInt8}(hB:BytesAt w' s.a l):Ps W w' (items++[(s,l)]):=
 ⟨ag h.b hb,fun x hx=>by
  rcases List.mem_append.1 hx with hx|hx
  ·exact(h.at_ x hx).later hb
  ·simp only[List.mem_cons,List.not_mem_nil,or_false]at hx;subst hx;exact hB⟩
end Go.WW
namespace Go.Proofs.YtfieenjdcpjmgaaGreatDoor
open Go.RowKit Go.WW
theorem uC(a:Option Addr)(cap:Nat)(l:List (List UInt8))(w:World)(h:fG w a l)(hn:l.flatten.length≤1000000):Calls Tryz.prog 86 #[.slice a l.length cap] w (bG w (dN l)):=by
 have hpl:l.length≤4294967000:=h.1
 have HS:=Lib.hid (show dN l=tlv 48 l.flatten from rfl)
 rw[HS.out]
 rcases dU.addr h with h0|⟨b,o,rfl,hb⟩
 ·obtain rfl:l=[]:=List.eq_nil_of_length_eq_zero h0
  go_enter Tryz.func86,Tryz.ntmps86
  go_wp2_with fail
  refine wp_loop_rounds 1 ?_
  rw[rounds_succ]
  go_wp2_with fail
  refine(vJ 48 48 _ 0 [] _ rfl (by exact⟨by simp[lim],fun i hi=>by simp at hi⟩) (by simp)).mono ?_
  rintro e w4 ⟨s4,rfl,hb4,hB4⟩
  go_wp2_with fail
  go_ret
  exact⟨s4,rfl,hb4,hB4⟩
 ·go_enter Tryz.func86,Tryz.ntmps86
  go_wp2_with fail
  go_loopw [3,4] (fun bv iv wr=>∃(k:Nat) (sb:Sl) (M:List UInt8),k≤l.length∧iv=.int .i64 k∧bv=.slice sb.a M.length sb.cap∧dE 5 w wr sb M∧Hid (M=(l.take k).flatten)) (fun _ i _=>l.length-(intOf i).toNat)
  case atStart=>exact⟨0,⟨none,0⟩,[],Nat.zero_le _,rfl,rfl,dE.none _ (Below.refl _ _),rfl⟩
  case round=>
   obtain⟨k,sb,M,hk,rfl,rfl,hR,HM⟩:=hrel
   by_cases hlt:k<l.length
   ·obtain⟨s,hc,hbk⟩:=(h.later hR.b).at k hlt
    obtain⟨M',hM'⟩:∃M',M'=(l.take (k+1)).flatten:=⟨_,rfl⟩
    have HA:=Lib.hid (show M'=M++l[k] by rw[hM',alP hlt HM.out])
    have Bi:M'.length≤100000000:=by have:=zn l (k+1);rw[hM'];omega
    have uB:=Lib.hid hM'
    clear hM'
    go_wp2_with (at_builtin;refine iK (L:=M') rfl _ _ _ rfl dZ b8 hR rfl rfl rfl rfl hbk HA.out Bi ?_;intro s3 w3 cZ)
    go_roundw
    case rel=>exact⟨k+1,s3,M',by omega,by go_num,rfl,cZ,uB.out⟩
    case measure=>simp[intOf];omega
   ·have HE:=Lib.hid (show M=l.flatten by rw[HM.out,List.take_of_length_le (by omega)])
    rw[←HE.out]at hn ⊢
    have vK:=hR.bytes (by unfold lim;omega)
    go_wp2_with fail
    refine(vJ 48 48 _ _ M _ rfl vK hn).mono ?_
    intro e w4 h4
    obtain⟨s4,rfl,hb4,hB4⟩:=bG.from h4 hR.b
    clear hR vK
    go_wp2_with fail
    go_ret
    rw[←HE.out]
    exact⟨s4,rfl,hb4,hB4⟩
theorem alQ(v:Nat)(w:World):Calls Tryz.prog 90 #[.int .i64 v] w (bG w (uz v)):=by
 have hl:=gX 4 v
 obtain⟨D,hD⟩:∃D,D=bK v 4:=⟨_,rfl⟩
 have HT:=Lib.hid (show uz v=tlv 3 ([0]++D) by rw[hD];rfl)
 rw[HT.out]
 obtain⟨M,hM⟩:∃M,M=[0]++D:=⟨_,rfl⟩
 have HM:=Lib.hid hM
 have Bi:M.length≤5:=by rw[hM,hD];simp[hl]
 rw[←hM]
 have HD:=Lib.hid hD
 have hR0:=dE.lit (T:=5) (Below.refl _ w) [0] (cs:=#[.int .u8 0]) rfl (by simp)
 clear hM hD hl
 go_enter Tryz.func90,Tryz.ntmps90
 go_wp2_with fail
 refine(XX v 4 _ (by decide)).mono ?_
 rw[←HD.out]
 intro e w1 h1
 obtain⟨s1,rfl,hb1,hB1⟩:=h1
 go_wp2_with (at_builtin;refine iK (L:=M) rfl _ _ _ rfl dZ b8 (hR0.later hb1) (n:=1) rfl rfl rfl rfl hB1.out HM.out (by omega) ?_;intro s3 w3 cZ)
 refine(vJ 3 3 _ _ M _ rfl (cZ.bytes (by unfold lim;omega)) (by omega)).mono ?_
 intro e w4 h4
 obtain⟨s4,rfl,hb4,hB4⟩:=bG.from h4 cZ.b
 clear hR0 cZ hB1 hb1
 go_wp2_with fail
 go_ret
 exact⟨s4,rfl,hb4,hB4⟩
theorem X9(s:Sl)(p:az)(w:World)(hp:bz w s p)(hok:bC p=true):Calls Tryz.prog 88 #[.agg (ai s p)] w (bG w (fD p)):=by
 obtain⟨hpn,hps,hpr⟩:=Ef hok
 have hp0:0<p.parts.length:=List.length_pos_iff.2 (sZ hok)
 have hB0:Below w.heap.size w (w.alloc (.cells (ai s p) 40)):=aj (Below.refl _ _) _
 obtain⟨sa,scap⟩:=s
 obtain⟨b,o,ha,-,-⟩:=hp.1.get 0 hp0
 dsimp only at ha
 subst ha
 have hpL:=(hp.later hB0).1
 have HS:=Lib.hid hps
 have hcR:(w.alloc (.cells (ai ⟨some ⟨b,o,none⟩,scap⟩ p) 40)).cell? ⟨w.heap.size,1,none⟩=some (.string p.aF):=by simp[go_sem]
 have hrow:row? (w.alloc (.cells (ai ⟨some ⟨b,o,none⟩,scap⟩ p) 40)) w.heap.size 0 2=some (ai ⟨some ⟨b,o,none⟩,scap⟩ p):=aax rfl (by simp[ai])
 go_enter Tryz.func88,Tryz.ntmps88
 go_wp2_with fail
 have hW:w.heap.size<(w.alloc (.cells (ai ⟨some ⟨b,o,none⟩,scap⟩ p) 40)).heap.size:=by simp
 have hc0:(w.alloc (.cells (ai ⟨some ⟨b,o,none⟩,scap⟩ p) 40)).cell? ⟨w.heap.size,0,none⟩=some (.slice (some ⟨b,o,none⟩) p.parts.length scap):=by simp[go_sem]
 generalize w.alloc (.cells (ai ⟨some ⟨b,o,none⟩,scap⟩ p) 40)=W0 at *
 go_loopw [3,4] (fun bv iv wr=>∃(k:Nat) (so:Sl) (L:List (List UInt8)),k≤p.parts.length∧iv=.int .i64 k∧bv=.slice so.a L.length so.cap∧gY 61 W0 wr so L∧Hid (L=(p.parts.take k).map eU)) (fun _ i _=>p.parts.length-(intOf i).toNat)
 case atStart=>exact⟨0,⟨none,0⟩,[],Nat.zero_le _,rfl,rfl,gY.none _ (Below.refl _ _),rfl⟩
 case round=>
  obtain⟨k,so,L,hk,rfl,rfl,hH,HL⟩:=hrel
  obtain⟨hcc,aS,hrr⟩:=aY hH.b
  have Bj:L.length=k:=by rw[HL.out];simp;omega
  have IB:=Lib.hid Bj
  have hw0:wr.cell? ⟨w.heap.size,0,none⟩=some (.slice (some ⟨b,o,none⟩) p.parts.length scap):=(hcc _ _ hW).trans hc0
  have hw1:wr.cell? ⟨w.heap.size,1,none⟩=some (.string p.aF):=(hcc _ _ hW).trans hcR
  have hwl:w.heap.size<wr.heap.size:=World.block_lt_of_cell? wr _ hw1
  clear Bj hcc aS hrr
  by_cases hlt:k<p.parts.length
  ·obtain⟨hck,hsk⟩:=(hpL.later hH.b).at k hlt
   have hbb:b<wr.heap.size:=World.block_lt_of_cell? wr _ hck
   have hsz:p.parts[k].size≤32:=HS.out _ (List.getElem_mem hlt)
   obtain⟨L',hL'⟩:∃L',L'=(p.parts.take (k+1)).map eU:=⟨_,rfl⟩
   obtain⟨x,hx⟩:∃x,x=eU p.parts[k]:=⟨_,rfl⟩
   have HA:=Lib.hid (show L'=L++[x] by rw[hL',HL.out,hx,List.take_succ_eq_append_getElem hlt,List.map_append];rfl)
   have hLn:L'.length≤1000000:=by rw[hL',List.length_map,List.length_take];omega
   have ku:=Lib.hid hL'
   have HX:=Lib.hid hx
   clear hL' hx
   go_wp2_with fail
   refine(Iz _ _ (Nat.le_trans hsz (by decide))).mono ?_
   rw[←HX.out]
   rintro e w2 ⟨s2,rfl,hb2,hd2⟩
   go_wp2_with (at_builtin;refine rX (L:=L') rfl _ _ _ rfl pW hH hb2 hd2 rfl rfl rfl rfl HA.out hLn ?_;intro s3 w3 hH3)
   go_roundw
   case rel=>exact⟨k+1,s3,L',by omega,by go_num,rfl,hH3,ku.out⟩
   case measure=>simp[intOf];omega
  ·have HE:=Lib.hid (show L=p.parts.map eU by rw[HL.out,List.take_of_length_le (by omega)])
   have hh:=hH.hist (by unfold lim;rw[IB.out];omega)
   have hfl:=NP hok
   rw[←HE.out]at hfl
   have hT1:(dN L).length≤1000000:=by have:=uA L;omega
   have hT2:(eU p.aF).length≤1000000:=by have:=Ee p.aF;omega
   have zt:[bM 0 (dN L),bM 1 (eU p.aF)].flatten.length≤1000000:=by
    have h1:=NQ hok
    rw[←HE.out]at h1
    simp only[dS]at h1
    exact Nat.le_trans h1 (by decide)
   go_wp2_with fail
   refine qH (Below.refl _ wr) (by kernel_rfl) (by kernel_rfl) ?_
   intro w1 hb1
   repeat (first|(refine ak (by rfl) ?_)|(refine aI (by rfl) (by rfl) (fun K hK=>?_);go_big_quiet_op;refine hK _ ?_;clear hK K))
   refine aK (by rfl) (by rfl) (fun K hK=>?_)
   go_wp2_with fail
   refine(uC _ _ L _ (hh.out.later hb1) (by omega)).mono ?_
   rintro e w2 ⟨s2,rfl,hb2,hd2⟩
   have hb2':=ag hb1 hb2
   refine hK _ _ (aA hb2') ?_
   clear hK K
   repeat (first|(refine ak (by rfl) ?_)|(refine aI (by rfl) (by rfl) (fun K hK=>?_);go_big_quiet_op;refine hK _ ?_;clear hK K))
   refine aK (by rfl) (by rfl) (fun K hK=>?_)
   go_wp2_with fail
   refine(jc 0 0 _ _ (dN L) _ rfl (by decide) hd2.out hT1).mono ?_
   rintro e w3 ⟨s3,rfl,hb3,hd3⟩
   have tX:=ag hb2' hb3
   refine hK _ _ (aA tX) ?_
   clear hK K
   repeat (first|(refine ak (by rfl) ?_)|(refine aI (by rfl) (by rfl) (fun K hK=>?_);go_big_quiet_op;refine hK _ ?_;clear hK K))
   refine aK (by rfl) (by rfl) (fun K hK=>?_)
   go_wp2_with fail
   refine(Iz _ _ (Nat.le_trans hpr (by decide))).mono ?_
   rintro e w4 ⟨s4,rfl,hb4,hd4⟩
   have jW:=ag tX hb4
   refine hK _ _ (aA jW) ?_
   clear hK K
   repeat (first|(refine ak (by rfl) ?_)|(refine aI (by rfl) (by rfl) (fun K hK=>?_);go_big_quiet_op;refine hK _ ?_;clear hK K))
   refine aK (by rfl) (by rfl) (fun K hK=>?_)
   go_wp2_with fail
   refine(jc 1 1 _ _ (eU p.aF) _ rfl (by decide) hd4.out hT2).mono ?_
   rintro e w5 ⟨s5,rfl,hb5,hd5⟩
   have jk:=ag jW hb5
   refine hK _ _ (aA jk) ?_
   clear hK K
   repeat (first|(refine ak (by rfl) ?_)|(refine aI (by rfl) (by rfl) (fun K hK=>?_);go_big_quiet_op;refine hK _ ?_;clear hK K))
   refine aK (by rfl) (by rfl) (fun K hK=>?_)
   go_wp2_with fail
   refine hK _ _ (aA (aj jk _)) ?_
   clear hK K
   repeat (first|(refine ak (by rfl) ?_)|(refine aI (by rfl) (by rfl) (fun K hK=>?_);go_big_quiet_op;refine hK _ ?_;clear hK K))
   refine aK (by rfl) (by rfl) (fun K hK=>?_)
   go_wp2_with fail
   refine(uC _ _ [bM 0 (dN L),bM 1 (eU p.aF)] _ (fG.lit [(s3,bM 0 (dN L)),(s5,bM 1 (eU p.aF))] rfl rfl (fun x hx=>?_) (by simp[lim])) zt).mono ?_
   ·simp only[List.mem_cons,List.not_mem_nil,or_false]at hx
    rcases hx with rfl|rfl
    ·exact(hd3.out.later hb4).later hb5
    ·exact hd5.out
   rintro e w6 ⟨s6,rfl,hb6,hd6⟩
   have lu:=ag (aj jk _) hb6
   have HB:=Lib.hid (bG.from (W:=w) ⟨s6,rfl,hb6,hd6⟩ (ag (ag hB0 hH.b) (aj jk _)))
   have HP:=Lib.hid (show fD p=dN [bM 0 (dN L),bM 1 (eU p.aF)] by rw[HE.out];rfl)
   clear hb2 hd2 hb3 hd3 hb4 hd4 hb5 hd5 hb6 hd6 hH hh
   refine hK _ _ (aA lu) ?_
   clear hK K
   repeat (first|(refine ak (by rfl) ?_)|(refine aI (by rfl) (by rfl) (fun K hK=>?_);go_big_quiet_op;refine hK _ ?_;clear hK K))
   refine bQ ?_
   go_wp2_with fail
   go_ret
   rw[HP.out]
   exact HB.out
end Go.Proofs.YtfieenjdcpjmgaaGreatDoor
namespace Go.WW
open Go.RowKit
end Go.WW
namespace Go.Proofs.YtfieenjdcpjmgaaGreatDoor
open Go.RowKit Go.WW
theorem Ej(v:Int)(w:World)(h0:0≤v)(hv:v<4611686018427387904):Calls Tryz.prog 148 #[.int .i64 v] w (bG w (eQ v.toNat)):=by
 have:=alG v.toNat w (by omega)
 rwa[Int.toNat_of_nonneg h0]at this
theorem Ya(v:Int)(w:World)(h0:0≤v):Calls Tryz.prog 149 #[.int .i64 v] w (bG w (lH v.toNat)):=by
 have:=alI v.toNat w
 rwa[Int.toNat_of_nonneg h0]at this
theorem vM{S:Nat→Prop}(c:Bool)(s:Sl)(l l':List UInt8)(w:World)(h:bD w S fun x=>BytesAt x s.a l)(hl:l'=cond c [] l):Calls Tryz.prog 92 #[.bool c,.slice s.a l.length s.cap] w fun e w'=>∃s':Sl,e=.returned (.slice s'.a l'.length s'.cap)∧w=w'∧bD w S fun x=>BytesAt x s'.a l':=by
 refine(alJ c _ w).mono ?_
 rintro e w' ⟨rfl,rfl⟩
 cases c
 ·subst hl;exact⟨s,rfl,rfl,h⟩
 ·subst hl;exact⟨⟨none,0⟩,rfl,rfl,fun _ _=>⟨by simp[lim],fun i hi=>by simp at hi⟩⟩
theorem alR(s:Sl)(k:Key)(w:World)(hk:kD w s k)(hf:zi k):Calls Tryz.prog 147 #[.agg (bW s k)] w (bG w (iw k)):=by
 have hfl:=NR hf
 obtain⟨h1,h2,h3⟩:=hf
 have e1:=rW (v:=k.profile.toNat) (k:=1) (by decide) (by simp;omega)
 have e2:=rW (v:=k.version.toNat) (k:=3) (by decide) (by simp;omega)
 have e3:=Bg k.bytes
 have hB0:Below w.heap.size w (w.alloc (.cells (bW s k) 69)):=aj (Below.refl _ _) _
 have nX:BytesAt (w.alloc (.cells (bW s k) 69)) s.a k.bytes:=BytesAt.later hB0 hk
 have HK:=Lib.hid (show iw k=dN [bM 0 (eQ k.profile.toNat),bM 1 (eQ k.version.toNat),bM 2 (fZ k.bytes)] from rfl)
 simp only[dS]at hfl
 rw[HK.out]
 go_enter Tryz.func147,Tryz.ntmps147
 go_wp2_with fail
 refine qH (Below.refl _ (w.alloc (.cells (bW s k) 69))) (by kernel_rfl) (by kernel_rfl) ?_
 intro v0 hv0
 have hP0:Ps (w.alloc (.cells (bW s k) 69)) v0 []:=⟨hv0,by simp⟩
 repeat (first|(refine ak (by rfl) ?_)|(refine aI (by rfl) (by rfl) (fun K hK=>?_);go_big_quiet_op;refine hK _ ?_;clear hK K))
 refine aK (by rfl) (by rfl) (fun K hK=>?_)
 go_wp2_with fail
 refine(Ej _ _ h1.1 (by omega)).mono ?_
 rintro e v1 ⟨s1,rfl,hb1,hd1⟩
 have hP1:=hP0.mid hb1
 refine hK _ _ (aA hP1.b) ?_
 clear hK K
 repeat (first|(refine ak (by rfl) ?_)|(refine aI (by rfl) (by rfl) (fun K hK=>?_);go_big_quiet_op;refine hK _ ?_;clear hK K))
 refine aK (by rfl) (by rfl) (fun K hK=>?_)
 go_wp2_with fail
 refine(jc 0 0 _ _ _ _ rfl (by decide) hd1.out (by omega)).mono ?_
 rintro e v2 ⟨s2,rfl,hb2,hd2⟩
 have hP2:=hP1.add hb2 hd2.out
 refine hK _ _ (aA hP2.b) ?_
 clear hK K
 repeat (first|(refine ak (by rfl) ?_)|(refine aI (by rfl) (by rfl) (fun K hK=>?_);go_big_quiet_op;refine hK _ ?_;clear hK K))
 refine aK (by rfl) (by rfl) (fun K hK=>?_)
 go_wp2_with fail
 refine(Ej _ _ h2.1 (by omega)).mono ?_
 rintro e v3 ⟨s3,rfl,hb3,hd3⟩
 have hP3:=hP2.mid hb3
 refine hK _ _ (aA hP3.b) ?_
 clear hK K
 repeat (first|(refine ak (by rfl) ?_)|(refine aI (by rfl) (by rfl) (fun K hK=>?_);go_big_quiet_op;refine hK _ ?_;clear hK K))
 refine aK (by rfl) (by rfl) (fun K hK=>?_)
 go_wp2_with fail
 refine(jc 1 1 _ _ _ _ rfl (by decide) hd3.out (by omega)).mono ?_
 rintro e v4 ⟨s4,rfl,hb4,hd4⟩
 have kz:=hP3.add hb4 hd4.out
 refine hK _ _ (aA kz.b) ?_
 clear hK K
 repeat (first|(refine ak (by rfl) ?_)|(refine aI (by rfl) (by rfl) (fun K hK=>?_);go_big_quiet_op;refine hK _ ?_;clear hK K))
 refine aK (by rfl) (by rfl) (fun K hK=>?_)
 go_wp2_with fail
 refine(XZ _ _ k.bytes _ (nX.later kz.b) (by omega)).mono ?_
 rintro e v5 ⟨s5,rfl,hb5,hd5⟩
 have jM:=kz.mid hb5
 refine hK _ _ (aA jM.b) ?_
 clear hK K
 repeat (first|(refine ak (by rfl) ?_)|(refine aI (by rfl) (by rfl) (fun K hK=>?_);go_big_quiet_op;refine hK _ ?_;clear hK K))
 refine aK (by rfl) (by rfl) (fun K hK=>?_)
 go_wp2_with fail
 refine(jc 2 2 _ _ _ _ rfl (by decide) hd5.out (by omega)).mono ?_
 rintro e v6 ⟨s6,rfl,hb6,hd6⟩
 have oH:=jM.add hb6 hd6.out
 refine hK _ _ (aA oH.b) ?_
 clear hK K
 repeat (first|(refine ak (by rfl) ?_)|(refine aI (by rfl) (by rfl) (fun K hK=>?_);go_big_quiet_op;refine hK _ ?_;clear hK K))
 refine aK (by rfl) (by rfl) (fun K hK=>?_)
 go_wp2_with fail
 refine hK _ _ (aA (aj oH.b _)) ?_
 clear hK K
 repeat (first|(refine ak (by rfl) ?_)|(refine aI (by rfl) (by rfl) (fun K hK=>?_);go_big_quiet_op;refine hK _ ?_;clear hK K))
 refine aK (by rfl) (by rfl) (fun K hK=>?_)
 go_wp2_with fail
 refine(uC _ _ [bM 0 (eQ k.profile.toNat),bM 1 (eQ k.version.toNat),bM 2 (fZ k.bytes)] _ (fG.lit _ rfl rfl oH.at_ (by simp[lim])) (Nat.le_trans hfl (by decide))).mono ?_
 rintro e v7 ⟨s7,rfl,hb7,hd7⟩
 have HB:=Lib.hid (bG.from (W:=w) ⟨s7,rfl,hb7,hd7⟩ (ag hB0 (aj oH.b _)))
 have jX:=ag (aj oH.b _) hb7
 clear hP0 hP1 hP2 hP3 kz jM oH hd1 hd2 hd3 hd4 hd5 hd6 hd7 hb1 hb2 hb3 hb4 hb5 hb6 hb7
 refine hK _ _ (aA jX) ?_
 clear hK K
 repeat (first|(refine ak (by rfl) ?_)|(refine aI (by rfl) (by rfl) (fun K hK=>?_);go_big_quiet_op;refine hK _ ?_;clear hK K))
 refine bQ ?_
 go_wp2_with fail
 go_ret
 exact HB.out
theorem Yb{v:Int}(h0:0≤v):fP v.toNat=cond (v == 0) [] (eQ v.toNat):=by
 unfold fP
 by_cases h:v=0
 ·subst h;rfl
 ·rw[if_neg (by omega),show(v == 0)=false by simpa using h];rfl
theorem alS{v:Int}(h0:0≤v):iZ v.toNat=cond (v == 0) [] (lH v.toNat):=by
 unfold iZ
 by_cases h:v=0
 ·subst h;rfl
 ·rw[if_neg (by omega),show(v == 0)=false by simpa using h];rfl
theorem IC(v:Int)(w:World)(h0:0≤v)(hv:v<4611686018427387904):Calls Tryz.prog 91 #[.int .i64 v] w (bG w (fP v.toNat)):=by
 have hc:=Lib.hid (Yb h0)
 go_enter Tryz.func91,Tryz.ntmps91
 go_wp2_with fail
 refine(Ej _ _ h0 hv).mono ?_
 rintro e w1 ⟨s1,rfl,hb1,hd1⟩
 go_wp2_with fail
 refine(vM _ s1 _ (fP v.toNat) _ hd1 hc.out).mono ?_
 rintro e w2 ⟨s2,rfl,rfl,hd2⟩
 go_wp2_with fail
 go_ret
 exact⟨s2,rfl,hb1,hd2⟩
theorem IE(v:Int)(w:World)(h0:0≤v):Calls Tryz.prog 94 #[.int .i64 v] w (bG w (iZ v.toNat)):=by
 have hc:=Lib.hid (alS h0)
 go_enter Tryz.func94,Tryz.ntmps94
 go_wp2_with fail
 refine(Ya _ _ h0).mono ?_
 rintro e w1 ⟨s1,rfl,hb1,hd1⟩
 go_wp2_with fail
 refine(vM _ s1 _ (iZ v.toNat) _ hd1 hc.out).mono ?_
 rintro e w2 ⟨s2,rfl,rfl,hd2⟩
 go_wp2_with fail
 go_ret
 exact⟨s2,rfl,hb1,hd2⟩
theorem Oc(l:List (List UInt8)):di l=cond ((l.length:Int) == 0) [] (dN l):=by
 unfold di
 by_cases h:l.length=0
 ·rw[if_pos h,show((l.length:Int) == 0)=true from beq_iff_eq.2 (by omega)];rfl
 ·rw[if_neg h,show((l.length:Int) == 0)=false from beq_eq_false_iff_ne.2 (by omega)];rfl
theorem vN{α β:Type}(f:α→β){l:List α}{k:Nat}(h:k<l.length){L:List β}(hL:L=(l.take k).map f):(l.take (k+1)).map f=L++[f l[k]]:=by
 rw[List.take_succ_eq_append_getElem h,List.map_append,hL];rfl
theorem vO{α β:Type}(f:α→β){l:List α}{k:Nat}(h:¬k<l.length):(l.take k).map f=l.map f:=by rw[List.take_of_length_le (by omega)]
theorem Oe(a:Option Addr)(cap:Nat)(l:List az)(w:World)(h:fF w a l)(hok:(∀p∈l,bC p=true)∧l.length≤16):Calls Tryz.prog 89 #[.slice a l.length cap] w (bG w (di (l.map fD))):=by
 rcases aV.addr h with h0|⟨b,o,rfl,hb⟩
 ·obtain rfl:l=[]:=List.eq_nil_of_length_eq_zero h0
  go_enter Tryz.func89,Tryz.ntmps89
  go_wp2_with fail
  refine wp_loop_rounds 1 ?_
  rw[rounds_succ]
  go_wp2_with fail
  refine(uC none 0 [] _ ⟨by simp[lim],fun i hi=>by simp at hi⟩ (by simp)).mono ?_
  rintro e w1 ⟨s1,rfl,hb1,hd1⟩
  go_wp2_with fail
  refine(vM _ s1 _ [] _ hd1 rfl).mono ?_
  rintro e w2 ⟨s2,rfl,rfl,hd2⟩
  go_wp2_with fail
  go_ret
  exact⟨s2,rfl,hb1,hd2⟩
 ·have HK:=Lib.hid hok
  have hfl:=map_le (f:=fD) (m:=205) (n:=16) (l:=l) (fun p hp=>Iy (hok.1 p hp)) hok.2
  have hn:=hok.2
  clear hok
  go_enter Tryz.func89,Tryz.ntmps89
  go_wp2_with fail
  go_loopw [3,4] (fun bv iv wr=>∃(k:Nat) (so:Sl) (L:List (List UInt8)),k≤l.length∧iv=.int .i64 k∧bv=.slice so.a L.length so.cap∧gY 61 w wr so L∧Hid (L=(l.take k).map fD)) (fun _ i _=>l.length-(intOf i).toNat)
  case atStart=>exact⟨0,⟨none,0⟩,[],Nat.zero_le _,rfl,rfl,gY.none _ (Below.refl _ _),rfl⟩
  case round=>
   obtain⟨k,so,L,hk,rfl,rfl,hH,HL⟩:=hrel
   by_cases hlt:k<l.length
   ·obtain⟨t,hrow,hp⟩:=(h.later hH.b).at k hlt
    obtain⟨L',hL'⟩:∃L',L'=(l.take (k+1)).map fD:=⟨_,rfl⟩
    obtain⟨x,hx⟩:∃x,x=fD l[k]:=⟨_,rfl⟩
    have HA:=Lib.hid (show L'=L++[x] by rw[hL',hx,vN _ hlt HL.out])
    have hLn:L'.length≤1000000:=by rw[hL',List.length_map,List.length_take];omega
    have ku:=Lib.hid hL'
    have HX:=Lib.hid hx
    clear hL' hx
    go_wp2_with fail
    refine(X9 t l[k] _ hp (HK.out.1 _ (List.getElem_mem hlt))).mono ?_
    rw[←HX.out]
    rintro e w2 ⟨s2,rfl,hb2,hd2⟩
    go_wp2_with (at_builtin;refine rX (L:=L') rfl _ _ _ rfl pW hH hb2 hd2 rfl rfl rfl rfl HA.out hLn ?_;intro s3 w3 hH3)
    go_roundw
    case rel=>exact⟨k+1,s3,L',by omega,by go_num,rfl,hH3,ku.out⟩
    case measure=>simp[intOf];omega
   ·have HE:=Lib.hid (show L=l.map fD by rw[HL.out,vO _ hlt])
    rw[←HE.out]at hfl ⊢
    have hll:L.length=l.length:=by rw[HE.out,List.length_map]
    have hh:=hH.hist (by unfold lim;omega)
    have HC:=Lib.hid (show di L=cond ((l.length:Int) == 0) [] (dN L) by rw[←hll];exact Oc L)
    clear hll
    go_wp2_with fail
    refine(uC _ _ L _ hh.out (by omega)).mono ?_
    rintro e w2 ⟨s2,rfl,hb2,hd2⟩
    go_wp2_with fail
    refine(vM _ s2 _ (di L) _ hd2 HC.out).mono ?_
    rintro e w3 ⟨s3,rfl,rfl,hd3⟩
    have HB:=Lib.hid (bG.from (W:=w) ⟨s3,rfl,hb2,hd3⟩ hH.b)
    rw[HE.out]at HB
    clear hH hh hd2 hd3
    go_wp2_with fail
    go_ret
    rw[HE.out]
    exact HB.out
end Go.Proofs.YtfieenjdcpjmgaaGreatDoor
namespace Go.WW
open Go.RowKit
theorem Og(s:ByteArray):jL s=cond s.toList.isEmpty [] (eU s):=by
 have hl:s.toList.length=s.size:=by rw[ByteArray.toList_eq];simp
 unfold jL
 by_cases h:s.size=0
 ·rw[if_pos h,show s.toList=[] from List.eq_nil_of_length_eq_zero (by omega)];rfl
 ·have hne:s.toList.isEmpty=false:=by
   cases hs:s.toList with
   |nil=>rw[hs]at hl;exact absurd hl.symm h
   |cons a l=>rfl
  rw[if_neg h,hne];rfl
end Go.WW
namespace Go.Proofs.YtfieenjdcpjmgaaGreatDoor
open Go.RowKit Go.WW
theorem alT(s:Sl)(k:bn)(w:World)(hk:jq w s k)(hf:zk k):Calls Tryz.prog 84 #[.agg (aZ s k)] w (bG w (ja k)):=by
 have hfl:=NS hf
 have e1:=rW (v:=k.version.toNat) (k:=3) (by decide) (by have:=hf.version;simp;omega)
 have e2:=Bh (f:=iw) (m:=295) (n:=4) (l:=k.keys) (fun k hk=>Eg (hf.keys k hk)) hf.few.2
 have e2':=map_le (f:=iw) (m:=295) (n:=4) (l:=k.keys) (fun k hk=>Eg (hf.keys k hk)) hf.few.2
 have e3:=Iw k.df
 have e4:=zh (v:=k.dH.toNat) (k:=3) (by decide) (by have:=hf.dH;simp;omega)
 have e4':=rW (v:=k.dH.toNat) (k:=3) (by decide) (by have:=hf.dH;simp;omega)
 have e5:=Iu k.created.toNat
 obtain⟨f1,f2,f3,f4,f5,f6⟩:=hf
 have c3:=Lib.hid (Og k.df)
 have c4:=Lib.hid (Yb f5.1)
 have HK:=Lib.hid f2
 have hB0:Below w.heap.size w (w.alloc (.cells (aZ s k) 67)):=aj (Below.refl _ _) _
 have nX:=kP.later hB0 hk.1
 have hkn:0<k.keys.length:=by omega
 obtain⟨sa,scap⟩:=s
 obtain⟨b,o,t0,ha,-,-⟩:=nX.get 0 hkn
 dsimp only at ha
 subst ha
 have HT:=Lib.hid (show ja k=dN [bM 0 (eQ k.version.toNat),bM 1 (di (k.keys.map iw)),bM 2 (jL k.df),bM 3 (fP k.dH.toNat),bM 4 (lH k.created.toNat)] from rfl)
 simp only[dS]at hfl
 rw[HT.out]
 go_enter Tryz.func84,Tryz.ntmps84
 go_wp2_with fail
 go_loopw [3,4] (fun bv iv wr=>∃(n:Nat) (so:Sl) (L:List (List UInt8)),n≤k.keys.length∧iv=.int .i64 n∧bv=.slice so.a L.length so.cap∧gY 61 (w.alloc (.cells (aZ ⟨some ⟨b,o,none⟩,scap⟩ k) 67)) wr so L∧Hid (L=(k.keys.take n).map iw)) (fun _ i _=>k.keys.length-(intOf i).toNat)
 case atStart=>exact⟨0,⟨none,0⟩,[],Nat.zero_le _,rfl,rfl,gY.none _ (Below.refl _ _),rfl⟩
 case round=>
  obtain⟨n,so,L,hn,rfl,rfl,hH,HL⟩:=hrel
  obtain⟨hcc,aS,hrr⟩:=aY hH.b
  have hwl:w.heap.size<wr.heap.size:=by have:=hH.b.size;simp at this;omega
  by_cases hlt:n<k.keys.length
  ·obtain⟨t,hrow,hp⟩:=(nX.later hH.b).at n hlt
   have hbb:b<wr.heap.size:=gG hrow
   obtain⟨L',hL'⟩:∃L',L'=(k.keys.take (n+1)).map iw:=⟨_,rfl⟩
   obtain⟨x,hx⟩:∃x,x=iw k.keys[n]:=⟨_,rfl⟩
   have HA:=Lib.hid (show L'=L++[x] by rw[hL',hx,vN _ hlt HL.out])
   have hLn:L'.length≤1000000:=by rw[hL',List.length_map,List.length_take];omega
   have ku:=Lib.hid hL'
   have HX:=Lib.hid hx
   clear hL' hx
   go_wp2_with fail
   refine(alR t k.keys[n] _ hp (HK.out _ (List.getElem_mem hlt))).mono ?_
   rw[←HX.out]
   rintro e w2 ⟨s2,rfl,hb2,hd2⟩
   clear hcc aS hrr
   go_wp2_with (at_builtin;refine rX (L:=L') rfl _ _ _ rfl pW hH hb2 hd2 rfl rfl rfl rfl HA.out hLn ?_;intro s3 w3 hH3)
   go_roundw
   case rel=>exact⟨n+1,s3,L',by omega,by go_num,rfl,hH3,ku.out⟩
   case measure=>simp[intOf];omega
  ·have HE:=Lib.hid (show L=k.keys.map iw by rw[HL.out,vO _ hlt])
   have hll:L.length=k.keys.length:=by rw[HE.out,List.length_map]
   have hh:=hH.hist (by unfold lim;omega)
   have HS:=Lib.hid (show di L=dN L by unfold di;rw[if_neg (by omega)])
   rw[←HE.out]at hfl e2 e2' HT ⊢
   have Oh:=ag hB0 hH.b
   clear hll
   go_wp2_with fail
   refine qH (Below.refl _ wr) (by kernel_rfl) (by kernel_rfl) ?_
   intro v0 hv0
   have hP0:Ps wr v0 []:=⟨hv0,by simp⟩
   repeat (first|(refine ak (by rfl) ?_)|(refine aI (by rfl) (by rfl) (fun K hK=>?_);go_big_quiet_op;refine hK _ ?_;clear hK K))
   refine aK (by rfl) (by rfl) (fun K hK=>?_)
   go_wp2_with fail
   refine(Ej _ _ f1.1 (by omega)).mono ?_
   rintro e v1 ⟨s1,rfl,hb1,hd1⟩
   have hP1:=hP0.mid hb1
   clear hP0 hb1
   refine hK _ _ (aA hP1.b) ?_
   clear hK K
   repeat (first|(refine ak (by rfl) ?_)|(refine aI (by rfl) (by rfl) (fun K hK=>?_);go_big_quiet_op;refine hK _ ?_;clear hK K))
   refine aK (by rfl) (by rfl) (fun K hK=>?_)
   go_wp2_with fail
   refine(jc 0 0 _ _ _ _ rfl (by decide) hd1.out (Nat.le_trans e1 (by decide))).mono ?_
   rintro e v2 ⟨s2,rfl,hb2,hd2⟩
   have hP2:=hP1.add hb2 hd2.out
   clear hP1 hb2 hd1 hd2
   refine hK _ _ (aA hP2.b) ?_
   clear hK K
   repeat (first|(refine ak (by rfl) ?_)|(refine aI (by rfl) (by rfl) (fun K hK=>?_);go_big_quiet_op;refine hK _ ?_;clear hK K))
   refine aK (by rfl) (by rfl) (fun K hK=>?_)
   go_wp2_with fail
   refine(uC _ _ L _ (hh.out.later hP2.b) (Nat.le_trans e2' (by decide))).mono ?_
   rintro e v3 ⟨s3,rfl,hb3,hd3⟩
   have hP3:=hP2.mid hb3
   clear hP2 hb3
   refine hK _ _ (aA hP3.b) ?_
   clear hK K
   repeat (first|(refine ak (by rfl) ?_)|(refine aI (by rfl) (by rfl) (fun K hK=>?_);go_big_quiet_op;refine hK _ ?_;clear hK K))
   refine aK (by rfl) (by rfl) (fun K hK=>?_)
   go_wp2_with fail
   refine(jc 1 1 _ _ (dN L) _ rfl (by decide) hd3.out (by rw[←HS.out];exact Nat.le_trans e2 (by decide))).mono ?_
   rintro e v4 ⟨s4,rfl,hb4,hd4⟩
   have kz:=hP3.add hb4 hd4.out
   clear hP3 hb4 hd3 hd4
   refine hK _ _ (aA kz.b) ?_
   clear hK K
   repeat (first|(refine ak (by rfl) ?_)|(refine aI (by rfl) (by rfl) (fun K hK=>?_);go_big_quiet_op;refine hK _ ?_;clear hK K))
   refine aK (by rfl) (by rfl) (fun K hK=>?_)
   go_wp2_with fail
   refine(Iz _ _ (Nat.le_trans f4 (by decide))).mono ?_
   rintro e v5 ⟨s5,rfl,hb5,hd5⟩
   have jM:=kz.mid hb5
   clear kz hb5
   refine hK _ _ (aA jM.b) ?_
   clear hK K
   repeat (first|(refine ak (by rfl) ?_)|(refine aI (by rfl) (by rfl) (fun K hK=>?_);go_big_quiet_op;refine hK _ ?_;clear hK K))
   refine aK (by rfl) (by rfl) (fun K hK=>?_)
   go_wp2_with fail
   refine(vM _ s5 _ (jL k.df) _ hd5 c3.out).mono ?_
   rintro e _ ⟨s6,rfl,rfl,hd6⟩
   clear hd5
   refine hK _ _ (aA jM.b) ?_
   clear hK K
   repeat (first|(refine ak (by rfl) ?_)|(refine aI (by rfl) (by rfl) (fun K hK=>?_);go_big_quiet_op;refine hK _ ?_;clear hK K))
   refine aK (by rfl) (by rfl) (fun K hK=>?_)
   go_wp2_with fail
   refine(jc 2 2 _ _ _ _ rfl (by decide) hd6.out (by omega)).mono ?_
   rintro e v7 ⟨s7,rfl,hb7,hd7⟩
   have rY:=jM.add hb7 hd7.out
   clear jM hb7 hd6 hd7
   refine hK _ _ (aA rY.b) ?_
   clear hK K
   repeat (first|(refine ak (by rfl) ?_)|(refine aI (by rfl) (by rfl) (fun K hK=>?_);go_big_quiet_op;refine hK _ ?_;clear hK K))
   refine aK (by rfl) (by rfl) (fun K hK=>?_)
   go_wp2_with fail
   refine(Ej _ _ f5.1 (by omega)).mono ?_
   rintro e v8 ⟨s8,rfl,hb8,hd8⟩
   have pI:=rY.mid hb8
   clear rY hb8
   refine hK _ _ (aA pI.b) ?_
   clear hK K
   repeat (first|(refine ak (by rfl) ?_)|(refine aI (by rfl) (by rfl) (fun K hK=>?_);go_big_quiet_op;refine hK _ ?_;clear hK K))
   refine aK (by rfl) (by rfl) (fun K hK=>?_)
   go_wp2_with fail
   refine(vM _ s8 _ (fP k.dH.toNat) _ hd8 c4.out).mono ?_
   rintro e _ ⟨s9,rfl,rfl,hd9⟩
   clear hd8
   refine hK _ _ (aA pI.b) ?_
   clear hK K
   repeat (first|(refine ak (by rfl) ?_)|(refine aI (by rfl) (by rfl) (fun K hK=>?_);go_big_quiet_op;refine hK _ ?_;clear hK K))
   refine aK (by rfl) (by rfl) (fun K hK=>?_)
   go_wp2_with fail
   refine(jc 3 3 _ _ _ _ rfl (by decide) hd9.out (Nat.le_trans e4 (by decide))).mono ?_
   rintro e v10 ⟨s10,rfl,Em,hd10⟩
   have zu:=pI.add Em hd10.out
   clear pI Em hd9 hd10
   refine hK _ _ (aA zu.b) ?_
   clear hK K
   repeat (first|(refine ak (by rfl) ?_)|(refine aI (by rfl) (by rfl) (fun K hK=>?_);go_big_quiet_op;refine hK _ ?_;clear hK K))
   refine aK (by rfl) (by rfl) (fun K hK=>?_)
   go_wp2_with fail
   refine(Ya _ _ f6.1).mono ?_
   rintro e v11 ⟨s11,rfl,xF,hd11⟩
   have rZ:=zu.mid xF
   clear zu xF
   refine hK _ _ (aA rZ.b) ?_
   clear hK K
   repeat (first|(refine ak (by rfl) ?_)|(refine aI (by rfl) (by rfl) (fun K hK=>?_);go_big_quiet_op;refine hK _ ?_;clear hK K))
   refine aK (by rfl) (by rfl) (fun K hK=>?_)
   go_wp2_with fail
   refine(jc 4 4 _ _ _ _ rfl (by decide) hd11.out (Nat.le_trans e5 (by decide))).mono ?_
   rintro e v12 ⟨s12,rfl,dW,xG⟩
   have nK:=rZ.add dW xG.out
   clear rZ dW hd11 xG
   refine hK _ _ (aA nK.b) ?_
   clear hK K
   repeat (first|(refine ak (by rfl) ?_)|(refine aI (by rfl) (by rfl) (fun K hK=>?_);go_big_quiet_op;refine hK _ ?_;clear hK K))
   refine aK (by rfl) (by rfl) (fun K hK=>?_)
   go_wp2_with fail
   refine hK _ _ (aA (aj nK.b _)) ?_
   clear hK K
   repeat (first|(refine ak (by rfl) ?_)|(refine aI (by rfl) (by rfl) (fun K hK=>?_);go_big_quiet_op;refine hK _ ?_;clear hK K))
   refine aK (by rfl) (by rfl) (fun K hK=>?_)
   go_wp2_with fail
   refine(uC _ _ [bM 0 (eQ k.version.toNat),bM 1 (dN L),bM 2 (jL k.df),bM 3 (fP k.dH.toNat),bM 4 (lH k.created.toNat)] _ (fG.lit _ rfl rfl nK.at_ (by simp[lim])) (by rw[←HS.out];exact Nat.le_trans hfl (by decide))).mono ?_
   rintro e vz ⟨sz,rfl,hbz,hdz⟩
   have HB:=Lib.hid (bG.from (W:=w) ⟨sz,rfl,hbz,hdz⟩ (ag Oh (aj nK.b _)))
   have sF:=ag (aj nK.b _) hbz
   clear nK hdz hbz
   refine hK _ _ (aA sF) ?_
   clear hK K
   repeat (first|(refine ak (by rfl) ?_)|(refine aI (by rfl) (by rfl) (fun K hK=>?_);go_big_quiet_op;refine hK _ ?_;clear hK K))
   refine bQ ?_
   go_wp2_with fail
   go_ret
   rw[←HE.out,HS.out]
   exact HB.out
end Go.Proofs.YtfieenjdcpjmgaaGreatDoor
