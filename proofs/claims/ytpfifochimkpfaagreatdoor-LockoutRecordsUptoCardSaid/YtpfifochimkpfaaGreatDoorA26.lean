/- A part of the proof. -/
import Derived.Test.YtpfifochimkpfaaGreatDoorA25
import Derived.Test.YtpfifochimkpfaaGreatDoorA03
import Derived.Lib.AppendStr
import Derived.Test.YtpfifochimkpfaaGreatDoorA10
set_option maxRecDepth 100000
set_option maxHeartbeats 8000000
namespace Go.WW
open Go.RowKit
def l7(w:World)(s s':Sl):Prop:=∀g,s'.blk=some g→s'.blk=s.blk∨w.heap.size≤g
theorem l7.refl(w:World)(s:Sl):l7 w s s:=fun _ _=>.inl rfl
theorem l7.trans{w v:World}{a b c:Sl}(hs:w.heap.size≤v.heap.size)(h:l7 w a b)(k:l7 v b c):l7 w a c:=fun g hg=>by
 rcases k g hg with h1|h1
 ·rcases h g (h1▸hg)with h2|h2
  ·exact .inl (h1.trans h2)
  ·exact .inr h2
 ·exact .inr (Nat.le_trans hs h1)
theorem l7.base{w v:World}{a b:Sl}(hs:w.heap.size≤v.heap.size)(k:l7 v a b):l7 w a b:=fun g hg=>(k g hg).imp id fun h=>Nat.le_trans hs h
def lh(w:World)(s:Sl)(w':World):Prop:=But (fun k=>s.blk=some k) w w'
theorem lh.refl(w:World)(s:Sl):lh w s w:=But.refl _ _
theorem lh.later{w v v':World}{s:Sl}(h:lh w s v)(hb:Below v.heap.size v v'):lh w s v':=But.trans h (But.of_below hb)
theorem lh.grown{w w':World}{s:Sl}(h:w.grownBy w' s.blk):lh w s w':=
 ⟨h.os,h.tape,h.output,h.size,fun j hj hn=>h.block j hj (fun e=>hn (by first|exact e|exact e.symm))⟩
theorem lh.trans{w v v':World}{s s1:Sl}(h:lh w s v)(n:l7 w s s1)(k:lh v s1 v'):lh w s v':=
 ⟨k.os.trans h.os,k.tape.trans h.tape,k.output.trans h.output,Nat.le_trans h.size k.size,fun j hj hn=>(k.block j (Nat.lt_of_lt_of_le hj h.size) (fun e=>by
  rcases n j e with h1|h1
  ·exact hn (h1.symm.trans e)
  ·omega)).trans (h.block j hj hn)⟩
def WA(T:TypeId)(W w:World)(sb:Sl)(L:List UInt8)(e:Ending)(w':World):Prop:=
 ∃s':Sl,e=.returned (.slice s'.a L.length s'.cap)∧dC T W w' s' L∧lh w sb w'∧l7 w sb s'
theorem ajC{P:Program}{w w':World}{t u ty T:TypeId}{i:TypeInfo}(ht:P.underlying t=some (.slice T))(hu:P.underlying u=some .string)(hi:P.info? T=some i)(hz:i.zero=some (.int .u8 0))(hsz:i.size=1)(hby:i.bytes=1)
  {base:Nat} {s s':Sl} {n m:Nat} {xs:List Value} (hown:w.ownsRow base T 1 (.slice s.a n s.cap) n xs) {str:ByteArray} (h:n+str.size≤1000000000)
  (hnil:.slice s'.a m s'.cap=Value.slice none 0 0↔.slice s.a n s.cap=Value.slice none 0 0∧str.size=0)
  (hr:(Builtin.append_ #[t,u] ty #[.slice s.a n s.cap,.string str]).run P w=.ok (.slice s'.a m s'.cap) w'):∀g,s'.blk=some g→s'.blk=s.blk∨w.heap.size≤g:=by
 intro g hg
 have hlen:xs.length=n:=by simpa using hown.1
 have hcells:∀g0,s.a=some ⟨g0,0,none⟩→∀j v,xs[j]?=some v→w.cell? ((⟨g0,0,none⟩:Addr).add j)=some v:=fun g0 e=>hown.cells (g:=g0) (by rw[e];rfl)
 rcases hown.2 with⟨hv,hn⟩|⟨g0,cap,cur,hv,hbg,hh,hnc,hcm,hcs,htake⟩
 ·have hz0:str.size≠0:=fun e=>by
   have:=hnil.2 ⟨hv,e⟩
   have ha:s'.a=none:=by injection this
   rw[Sl.blk,ha]at hg;cases hg
  rw[hv,run_append_nil_string (P:=P) w t u ty T i (.int .u8 0) ht hu hi hz str (by omega) (by omega) (by rw[hby];omega)]at hr
  have ha:s'.a=some ⟨w.heap.size,0,none⟩:=by injection hr with h1 h2;injection h1 with h1;exact h1.symm
  rw[Sl.blk,ha]at hg
  cases hg
  exact .inr (Nat.le_refl _)
 ·have hsa:s.a=some ⟨g0,0,none⟩:=by injection hv
  by_cases hroom:n+str.size≤cap
  ·rw[hv,Lib.run_append_room_string (P:=P) w t u ty T i ht hu hi hsz g0 n cap cur hh str hroom (by omega)]at hr
   have ha:s'.a=some ⟨g0,0,none⟩:=by injection hr with h1 h2;injection h1 with h1;exact h1.symm
   left;rw[Sl.blk,Sl.blk,ha,hsa]
  ·rw[hv,Lib.run_append_grow_string (P:=P) w t u ty T i (.int .u8 0) ht hu hi hz ⟨g0,0,none⟩ n cap xs (by rw[hsz,hlen];omega) (hcells g0 hsa) str (by omega) (by omega) (by rw[hby];exact growslice_fits (by omega) (by omega))]at hr
   have ha:s'.a=some ⟨w.heap.size,0,none⟩:=by injection hr with h1 h2;injection h1 with h1;exact h1.symm
   rw[Sl.blk,ha]at hg
   cases hg
   exact .inr (Nat.le_refl _)
theorem ajD{P:Program}{ops:Array Oper}{rest:List Oper}{o:Oper}{a:Act}{w:World}{Q:Exit→Act→World→Prop}(hgd:o.guard=Option.none)(x y:Operand)(t:TypeId)(ho:o.op=.call {callee:=.builtin .append,args:=#[x,y],argTypes:=#[t,t]})
  {T:TypeId} {b:Nat} (he:fV P t T 1 b) (hb:b≤8) {W:World} {s:Sl} {l L:List UInt8} (h:dC T W w s l) {n:Nat} (hx:a.eval x=.slice s.a n s.cap) (hn:n=l.length) {A:Option Addr} {news:List UInt8} {m c:Nat}
  (hy:a.eval y=.slice A m c) (hm:m=news.length) (hs:BytesAt w A news) (hL:L=l++news) (hlen:L.length≤100000000)
  (hK:∀(s':Sl) w',dC T W w' s' L→lh w s w'→l7 w s s'→wpList P ops Q rest (a.put o.dst (.slice s'.a L.length s'.cap)) w'):wpList P ops Q (o::rest) a w:=by
 subst hn hm hL
 rw[List.length_append]at hlen hK
 have hl:((dU l).length+(dU news).length)*(b+1)≤140737488355328:=by
  rw[fM,fM]
  have:=Nat.mul_le_mul hlen (show b+1≤9 by omega)
  omega
 exact gW hgd x y t ho he hx (fM l).symm h.own hy (fM news).symm hs.src hl h.b.size fun s' w' h1 h2 h3=>hK s' w' (h.app h1 h2) (lh.grown h2) fun g hg=>h3.imp id fun e=>by rw[e]at hg;cases hg;exact Nat.le_refl _
theorem ajE{P:Program}{ops:Array Oper}{rest:List Oper}{o:Oper}{a:Act}{w:World}{Q:Exit→Act→World→Prop}(hgd:o.guard=Option.none)(x y:Operand)(t:TypeId)(ho:o.op=.call {callee:=.builtin .append,args:=#[x,y],argTypes:=#[t,t]})
  {T:TypeId} {b:Nat} (he:fV P t T 1 b) (hb:b≤8) {W:World} {s:Sl} {l L:List UInt8} (h:dC T W w s l) {n:Nat} (hx:a.eval x=.slice s.a n s.cap) (hn:n=l.length) {A:Option Addr} {news:List UInt8} {m c:Nat}
  (hy:a.eval y=.slice A m c) (hm:m=news.length) (hs:BytesAt w A news) (hL:L=l++news) (hlen:L.length≤100000000)
  (hK:∀(s':Sl) w',dC T W w' s' L→w.grownBy w' s.blk→wpList P ops Q rest (a.put o.dst (.slice s'.a L.length s'.cap)) w'):wpList P ops Q (o::rest) a w:=by
 subst hn hm hL
 rw[List.length_append]at hlen hK
 have hl:((dU l).length+(dU news).length)*(b+1)≤140737488355328:=by
  rw[fM,fM]
  have:=Nat.mul_le_mul hlen (show b+1≤9 by omega)
  omega
 exact gW hgd x y t ho he hx (fM l).symm h.own hy (fM news).symm hs.src hl h.b.size fun s' w' h1 h2 _=>hK s' w' (h.app h1 h2) h2
theorem WB(l:List UInt8):flat (dU l)=l.map fun c=>Value.int .u8 c.toNat:=by
 unfold flat dU
 induction l with
 |nil=>rfl
 |cons a l ih=>simp only[List.map_cons,List.flatMap_cons,ih];rfl
theorem NP{P:Program}{ops:Array Oper}{rest:List Oper}{o:Oper}{a:Act}{w:World}{Q:Exit→Act→World→Prop}(hgd:o.guard=Option.none)(x y:Operand)(t u:TypeId)(ho:o.op=.call {callee:=.builtin .append,args:=#[x,y],argTypes:=#[t,u]})
  {T:TypeId} {i:TypeInfo} (ht:P.underlying t=some (.slice T)) (hu:P.underlying u=some .string) (hi:P.info? T=some i) (hz:i.zero=some (.int .u8 0)) (hsz:i.size=1) (hby:i.bytes=1)
  {W:World} {s:Sl} {l L:List UInt8} (h:dC T W w s l) {n:Nat} (hx:a.eval x=.slice s.a n s.cap) (hn:n=l.length) {str:ByteArray} (hy:a.eval y=.string str) (hL:L=l++str.data.toList) (hlen:L.length≤100000000)
  (hK:∀(s':Sl) w',dC T W w' s' L→lh w s w'→l7 w s s'→wpList P ops Q rest (a.put o.dst (.slice s'.a L.length s'.cap)) w'):wpList P ops Q (o::rest) a w:=by
 subst hn hL
 have hsl:str.data.toList.length=str.size:=by simp
 rw[List.length_append,hsl]at hlen hK
 have hown:w.ownsRow W.heap.size T 1 (.slice s.a l.length s.cap) l.length (flat (dU l)):=by have:=h.own.own;rwa[fM]at this
 obtain⟨v',w',hr,h1,h2,h3⟩:=Lib.run_append_own_string (P:=P) w W.heap.size t u o.type T i ht hu hi hz hsz hby (.slice s.a l.length s.cap) l.length (flat (dU l)) hown str (by unfold maxLen;omega) (by omega) h.b.size
 rw[yt]at h2
 have hform:∃s':Sl,v'=.slice s'.a (l.length+str.size) s'.cap:=by
  rcases h1.2 with⟨hv,hn⟩|⟨g,cap,cur,hv,_⟩
  ·exact⟨⟨none,0⟩,by rw[hv,hn]⟩
  ·exact⟨⟨some ⟨g,0,none⟩,cap⟩,hv⟩
 obtain⟨s',rfl⟩:=hform
 have hrows:flat (dU l)++Lib.strCells str=flat (dU (l++str.data.toList)):=by
  rw[WB,WB,List.map_append]
  simp[Lib.strCells]
 have hO:Own w' W.heap.size T 1 s' (dU (l++str.data.toList)):=⟨by rw[fM,List.length_append,hsl,←hrows];exact h1,fun r hr=>by
  simp only[dU,List.mem_map]at hr
  obtain⟨c,-,rfl⟩:=hr
  rfl⟩
 have ajF:l7 w s s':=ajC ht hu hi hz hsz hby hown (by omega) h3 hr
 refine wpList_plain hgd fun _ hK'=>?_
 unfold Oper.wp execOp
 simp only[ho,resolve,invoke,builtin,Sem.run_bind,Sem.run_pure,Result.andThen_ok,List.map_toArray,List.map_cons,List.map_nil,hx,hy,hr]
 exact hK' _ _ (hK s' w' ⟨h.b.grown h2 h.b.size (fun _ e=>(h.own.base e).1),hO⟩ (lh.grown h2) ajF)
end Go.WW
namespace Go.Proofs.YtpfifochimkpfaaGreatDoor
open Go.RowKit Go.WW
theorem D7(v n:Nat)(w:World)(hn:n≤8):Calls Tryz.prog 54 #[.int .i64 v,.int .i64 n] w (bG w (bM v n)):=by
 have hlen:=gZ n v
 go_enter Tryz.func54,Tryz.ntmps54
 go_wp2_with fail
 go_loopw [5,6] (fun bv iv wr=>∃(k:Nat) (sb:Sl),k≤n∧iv=.int .i64 ((n:Int)-1-k)∧bv=.slice sb.a k sb.cap∧dC 5 w wr sb ((bM v n).take k)) (fun _ i _=>(intOf i+1).toNat)
 case atStart=>exact⟨0,⟨none,0⟩,Nat.zero_le _,by simp,rfl,dC.none _ (Below.refl _ _)⟩
 case round=>
  obtain⟨k,sb,hk,rfl,rfl,hR⟩:=hrel
  obtain⟨M,hM⟩:∃M,M=(bM v n).take k:=⟨_,rfl⟩
  have lJ:=Lib.hid (show k=M.length by rw[hM,List.length_take];omega)
  rw[←hM]at hR
  by_cases hlt:k<n
  ·obtain⟨M',hM'⟩:∃M',M'=(bM v n).take (k+1):=⟨_,rfl⟩
   obtain⟨c,hc⟩:∃c,c=UInt8.ofNat (v / 256 ^ (n-1-k)):=⟨_,rfl⟩
   obtain⟨j,hj⟩:∃j:Nat,j=n-1-k:=⟨_,rfl⟩
   have hij:(n:Int)-1-k=j:=by omega
   have HA:=Lib.hid (show M'=M++[c] by rw[hM',hM,hc,List.take_add_one,DV _ _ _ hlt];rfl)
   have xO:=Lib.hid (show M'.length=k+1 by rw[hM',List.length_take];omega)
   have uF:=Lib.hid hM'
   rw[hij]
   rw[←hj]at hc
   have HJ:=Lib.hid hj
   have Wv:j<8:=by omega
   clear hM hM' hj hij
   go_wp2_with (at_builtin;refine iT (L:=M') rfl _ _ _ rfl eP b8 (hR.later (ay (Below.refl _ _) _)) rfl lJ.out (m:=1) rfl rfl (BytesAt.lit _ [c] (by simp) (by rw[Wn,hc];rfl) (by simp[lim])) HA.out (by rw[xO.out];omega) ?_;intro s3 w3 dV)
   go_roundw
   case rel=>exact⟨k+1,s3,by omega,by have:=HJ.out;go_num,by rw[xO.out],by rw[←uF.out];exact dV⟩
   case measure=>simp[intOf]
  ·obtain rfl:k=n:=by omega
   have HE:=Lib.hid (show M=bM v k by rw[hM,List.take_of_length_le (by omega)])
   have HL:=Lib.hid (show(bM v k).length=k from hlen)
   clear hM hlen
   go_wp2_with fail
   go_ret
   rw[←HE.out]
   have:=hR.D6 (by rw[←lJ.out];unfold lim;omega)
   rw[←lJ.out]at this
   exact this
theorem IG(W w:World)(sb:Sl)(l:List UInt8)(v n:Nat)(h:dC 5 W w sb l)(hn:n≤8)(hl:l.length≤90000000):Calls Tryz.prog 49 #[.slice sb.a l.length sb.cap,.int .u64 v,.int .i64 n] w (WA 5 W w sb (l++bM v n)):=by
 have hlen:=gZ n v
 have hnl:n≤8∧l.length≤90000000:=⟨hn,hl⟩
 have HNL:=Lib.hid hnl
 clear hnl
 go_enter Tryz.func49,Tryz.ntmps49
 go_wp2_with fail
 go_loopw [0,7] (fun bv iv wr=>∃(k:Nat) (sc:Sl),k≤n∧iv=.int .i64 ((n:Int)-1-k)∧bv=.slice sc.a (l.length+k) sc.cap∧dC 5 W wr sc (l++(bM v n).take k)∧Hid (lh w sb wr)∧Hid (l7 w sb sc)) (fun _ i _=>(intOf i+1).toNat)
 case atStart=>exact⟨0,sb,Nat.zero_le _,by simp,rfl,by simpa using h,lh.refl _ _,l7.refl _ _⟩
 case round=>
  obtain⟨k,sc,hk,rfl,rfl,hR,NQ,NR⟩:=hrel
  obtain⟨M,hM⟩:∃M,M=l++(bM v n).take k:=⟨_,rfl⟩
  have lJ:=Lib.hid (show l.length+k=M.length by rw[hM,List.length_append,List.length_take];omega)
  rw[←hM]at hR
  by_cases hlt:k<n
  ·obtain⟨M',hM'⟩:∃M',M'=l++(bM v n).take (k+1):=⟨_,rfl⟩
   obtain⟨c,hc⟩:∃c,c=UInt8.ofNat (v / 256 ^ (n-1-k)):=⟨_,rfl⟩
   obtain⟨j,hj⟩:∃j:Nat,j=n-1-k:=⟨_,rfl⟩
   have hij:(n:Int)-1-k=j:=by omega
   have HA:=Lib.hid (show M'=M++[c] by rw[hM',hM,hc,List.take_add_one,DV _ _ _ hlt,List.append_assoc];rfl)
   have xO:=Lib.hid (show M'.length=l.length+(k+1) by rw[hM',List.length_append,List.length_take];omega)
   have uF:=Lib.hid hM'
   rw[hij]
   rw[←hj]at hc
   have HJ:=Lib.hid hj
   have Wv:j<8:=by omega
   clear hM hM' hj hij
   go_wp2_with (at_builtin;refine ajD (L:=M') rfl _ _ _ rfl eP b8 (hR.later (ay (Below.refl _ _) _)) rfl lJ.out (m:=1) rfl rfl (BytesAt.lit _ [c] (by simp) (by rw[Wl,hc];rfl) (by simp[lim])) HA.out (by have:=HNL.out;rw[xO.out];omega) ?_;intro s3 w3 dV zS hN3)
   go_roundw
   case rel=>exact⟨k+1,s3,by omega,by have:=HJ.out;go_num,by rw[xO.out],by rw[←uF.out];exact dV,(NQ.out.later (ay (Below.refl _ _) _)).trans NR.out zS,NR.out.trans (Nat.le_trans NQ.out.size (ay (Below.refl _ _) _).size) hN3⟩
   case measure=>simp[intOf]
  ·obtain rfl:k=n:=by omega
   have HE:=Lib.hid (show M=l++bM v k by rw[hM,List.take_of_length_le (by omega)])
   clear hM hlen
   go_wp2_with fail
   go_ret
   rw[←HE.out]
   exact⟨sc,by rw[←lJ.out];rfl,hR,NQ.out,NR.out⟩
theorem NT(W w:World)(sb:Sl)(l:List UInt8)(s:ByteArray)(n:Nat)(h:dC 5 W w sb l)(hn:n≤8)(hl:l.length≤80000000)(hs:s.size≤10000000):Calls Tryz.prog 48 #[.slice sb.a l.length sb.cap,.string s,.int .i64 n] w (WA 5 W w sb (l++(bM s.size n++s.data.toList))):=by
 have HC:=Lib.hid (IG W w sb l s.size n h hn (by omega))
 have HL:=Lib.hid (show(l++bM s.size n).length≤80000008 by rw[List.length_append,gZ];omega)
 have HS:=Lib.hid (show s.data.toList.length=s.size by simp)
 have HSS:=Lib.hid hs
 have hs':s.size<18446744073709551616:=by omega
 obtain⟨N,hN⟩:∃N,N=l++bM s.size n:=⟨_,rfl⟩
 rw[←List.append_assoc]
 rw[←hN]at HC HL ⊢
 clear hN hn hl hs
 go_enter Tryz.func48,Tryz.ntmps48
 go_wp2_with fail
 refine HC.out.mono ?_
 rintro e w2 ⟨s2,rfl,hR2,hT2,WC⟩
 go_wp2_with (at_builtin;refine NP (L:=N++s.data.toList) rfl _ _ _ _ rfl Tryz.underlying58 Tryz.underlying9 (i:=(Tryz.prog.info? 5).get (by kernel_rfl)) (by kernel_rfl) (by kernel_rfl) (by kernel_rfl) (by kernel_rfl) hR2 rfl rfl rfl rfl (by have h1:=HL.out;have h2:=HSS.out;have h3:=HS.out;rw[List.length_append,h3];omega) ?_;intro s3 w3 dV zS hN3)
 go_ret
 exact⟨s3,by rw[List.length_append,HS.out];rfl,dV,hT2.trans WC zS,WC.trans hT2.size hN3⟩
end Go.Proofs.YtpfifochimkpfaaGreatDoor
namespace Go.WW
open Go.RowKit
theorem ajI{l:List (List UInt8)}{k:Nat}(h:k<l.length){M:List UInt8}(hM:M=(l.take k).flatten):(l.take (k+1)).flatten=M++l[k]:=by rw[xN h,hM]
def RH(l:List (List UInt8))(x:World)(i:Nat)(cs:Array Value):Prop:=∃v,cs=#[v]∧∃p,∃s:Sl,l[i]?=some p∧v=.slice s.a p.length s.cap∧BytesAt x s.a p
structure ig(T:TypeId)(W wr:World)(so:Sl)(l:List (List UInt8)):Prop where
 b:Below W.heap.size W wr
 c:∃rows:List (Array Value),rows.length=l.length∧jZ T 1 (RH l) wr W.heap.size so rows
theorem ig.none(T:TypeId){W wr:World}(h:Below W.heap.size W wr):ig T W wr ⟨Option.none,0⟩ []:=⟨h,[],rfl,jZ.nil T 1 (RH []) W W.heap.size |> fun c=>⟨Own.nil _ _ _ _,fun i hi=>by simp at hi⟩⟩
theorem RH.more{l:List (List UInt8)}{x:World}{i:Nat}{cs:Array Value}(p:List UInt8)(h:RH l x i cs):RH (l++[p]) x i cs:=by
 obtain⟨v,h1,q,s,h2,h3⟩:=h
 have hi:i<l.length:=(List.getElem?_eq_some_iff.1 h2).1
 exact⟨v,h1,q,s,by rw[List.getElem?_append_left hi];exact h2,h3⟩
theorem ig.kept{T:TypeId}{W wr w':World}{so:Sl}{l:List (List UInt8)}(h:ig T W wr so l)(hb:Below wr.heap.size wr w'):ig T W w' so l:=by
 obtain⟨rows,h1,h2⟩:=h.c
 refine⟨ag h.b hb,rows,h1,h2.own.kept fun g hg=>hb.block g (h2.own.base hg).2,fun i hi=>(h2.each i hi).to (fun k hk=>hb.block k hk.2.1) (fun k hk=>⟨hk.1,Nat.lt_of_lt_of_le hk.2.1 hb.size,hk.2.2⟩)⟩
theorem ig.hist{T:TypeId}{W wr:World}{so:Sl}{l:List (List UInt8)}(h:ig T W wr so l)(hl:l.length≤lim):bu wr (fresh W.heap.size wr) (fun x=>dY x so.a l):=by
 obtain⟨rows,h1,h2⟩:=h.c
 exact fun x hx=>dO.iM (h2.own.fresh hx) h1 hl (fun i hi=>(h2.each i hi) x (fun k hk=>hx k ⟨hk.1,hk.2.1⟩))
theorem rY{P:Program}{ops:Array Oper}{rest:List Oper}{o:Oper}{a:Act}{w2:World}{Q:Exit→Act→World→Prop}(hgd:o.guard=Option.none)(x y:Operand)(t:TypeId)(ho:o.op=.call {callee:=.builtin .append,args:=#[x,y],argTypes:=#[t,t]})
  {T T':TypeId} (he:fV P t T 1 24) {W wr:World} {s s':Sl} {l L:List (List UInt8)} {p:List UInt8} (h:ig T W wr s l) (hb:Below wr.heap.size wr w2) (hd:bu w2 (fresh wr.heap.size w2) (fun x=>BytesAt x s'.a p))
  {n:Nat} (hx:a.eval x=.slice s.a n s.cap) (hn:n=l.length) {k c:Nat} (hy:a.eval y=.slice (some ⟨k,0,Option.none⟩) 1 c) (hk:k=w2.heap.size) (hL:L=l++[p]) (hlen:L.length≤1000000)
  (hK:∀(s3:Sl) w3,ig T W w3 s3 L→wpList P ops Q rest (a.put o.dst (.slice s3.a L.length s3.cap)) w3):wpList P ops Q (o::rest) a (w2.alloc (.cells #[.slice s'.a p.length s'.cap] T')):=by
 subst hn hk hL
 obtain⟨rows,hr,hC⟩:=h.c
 rw[List.length_append,List.length_singleton]at hlen hK
 have hown:=hC.carry hb (.cells #[.slice s'.a p.length s'.cap] T')
 refine gW hgd x y t ho he hx hr.symm hown hy rfl (cO.new w2 #[.slice s'.a p.length s'.cap] T' 1 (by simp) (by simp[dL,Value.oneCell'])) (by rw[hr];simp;omega) (by have h1:=h.b.size;have h2:=hb.size;simp;omega) ?_
 intro s3 w3 hown3 hg3 iD
 refine hK s3 w3 ⟨?_,_,?_,jZ.step (R:=RH (l++[p])) ⟨hC.own,fun i hi=>?_⟩ (Below.refl _ _) hb (o:=.cells #[.slice s'.a p.length s'.cap] T') (fun x hx=>⟨_,rfl,p,s',by rw[hr];simp,rfl,hd x hx⟩) hown3 hg3 iD h.b.size⟩
 ·exact CX hC h.b (Below.refl _ _) hb hg3
 ·simp[hr]
 ·exact fun x hx=>(hC.each i hi x hx).more p
theorem dY.lit{w:World}{k:Nat}(items:List (Sl×List UInt8)){cs:Array Value}{t:TypeId}(hk:k=w.heap.size)(hcs:cs=(items.map fun x=>Value.slice x.1.a x.2.length x.1.cap).toArray)(hb:∀x∈items,BytesAt w x.1.a x.2)(hl:items.length≤lim) :
  dY (w.alloc (.cells cs t)) (some ⟨k,0,Option.none⟩) (items.map (·.2)):=by
 subst hk hcs
 refine⟨by simpa using hl,fun i hi=>?_⟩
 have hi':i<items.length:=by simpa using hi
 refine⟨w.heap.size,0,.slice items[i].1.a items[i].2.length items[i].1.cap,rfl,?_,items[i].2,items[i].1,by simp[hi'],rfl,(hb _ (List.getElem_mem hi')).later (ay (Below.refl _ _) _)⟩
 rw[cell_of_row _ _ _ _ _ _ (World.alloc_heap_new _ _)]
 simp[hi']
structure Ps(W w:World)(items:List (Sl×List UInt8)):Prop where
 b:Below W.heap.size W w
 at_:∀x∈items,BytesAt w x.1.a x.2
theorem Ps.mid{W w w':World}{items:List (Sl×List UInt8)}(h:Ps W w items)(hb:Below w.heap.size w w'):Ps W w' items:=⟨ag h.b hb,fun x hx=>(h.at_ x hx).later hb⟩
theorem Ps.add{W w w':World}{items:List (Sl×List UInt8)}(h:Ps W w items)(hb:Below w.heap.size w w'){s:Sl}{l:List UInt8}(hB:BytesAt w' s.a l):Ps W w' (items++[(s,l)]):=
 ⟨ag h.b hb,fun x hx=>by
  rcases List.mem_append.1 hx with hx|hx
  ·exact(h.at_ x hx).later hb
  ·simp only[List.mem_cons,List.not_mem_nil,or_false]at hx;subst hx;exact hB⟩
end Go.WW
namespace Go.Proofs.YtpfifochimkpfaaGreatDoor
open Go.RowKit Go.WW
theorem uG(a:Option Addr)(cap:Nat)(l:List (List UInt8))(w:World)(h:dY w a l)(hn:l.flatten.length≤1000000):Calls Tryz.prog 94 #[.slice a l.length cap] w (bG w (dM l)):=by
 have hpl:l.length≤4294967000:=h.1
 have HS:=Lib.hid (show dM l=tlv 48 l.flatten from rfl)
 rw[HS.out]
 rcases dO.addr h with h0|⟨b,o,rfl,hb⟩
 ·obtain rfl:l=[]:=List.eq_nil_of_length_eq_zero h0
  go_enter Tryz.func94,Tryz.ntmps94
  go_wp2_with fail
  refine wp_loop_rounds 1 ?_
  rw[rounds_succ]
  go_wp2_with fail
  refine(vV 48 48 _ 0 [] _ rfl (by exact⟨by simp[lim],fun i hi=>by simp at hi⟩) (by simp)).mono ?_
  rintro e w4 ⟨s4,rfl,hb4,hB4⟩
  go_wp2_with fail
  go_ret
  exact⟨s4,rfl,hb4,hB4⟩
 ·go_enter Tryz.func94,Tryz.ntmps94
  go_wp2_with fail
  go_loopw [3,4] (fun bv iv wr=>∃(k:Nat) (sb:Sl) (M:List UInt8),k≤l.length∧iv=.int .i64 k∧bv=.slice sb.a M.length sb.cap∧dC 5 w wr sb M∧Hid (M=(l.take k).flatten)) (fun _ i _=>l.length-(intOf i).toNat)
  case atStart=>exact⟨0,⟨none,0⟩,[],Nat.zero_le _,rfl,rfl,dC.none _ (Below.refl _ _),rfl⟩
  case round=>
   obtain⟨k,sb,M,hk,rfl,rfl,hR,HM⟩:=hrel
   by_cases hlt:k<l.length
   ·obtain⟨s,hc,hbk⟩:=(h.later hR.b).at k hlt
    obtain⟨M',hM'⟩:∃M',M'=(l.take (k+1)).flatten:=⟨_,rfl⟩
    have HA:=Lib.hid (show M'=M++l[k] by rw[hM',ajI hlt HM.out])
    have BB:M'.length≤100000000:=by have:=zN l (k+1);rw[hM'];omega
    have uF:=Lib.hid hM'
    clear hM'
    go_wp2_with (at_builtin;refine iT (L:=M') rfl _ _ _ rfl eP b8 hR rfl rfl rfl rfl hbk HA.out BB ?_;intro s3 w3 dV)
    go_roundw
    case rel=>exact⟨k+1,s3,M',by omega,by go_num,rfl,dV,uF.out⟩
    case measure=>simp[intOf];omega
   ·have HE:=Lib.hid (show M=l.flatten by rw[HM.out,List.take_of_length_le (by omega)])
    rw[←HE.out]at hn ⊢
    have vW:=hR.bytes (by unfold lim;omega)
    go_wp2_with fail
    refine(vV 48 48 _ _ M _ rfl vW hn).mono ?_
    intro e w4 h4
    obtain⟨s4,rfl,hb4,hB4⟩:=bG.from h4 hR.b
    clear hR vW
    go_wp2_with fail
    go_ret
    rw[←HE.out]
    exact⟨s4,rfl,hb4,hB4⟩
theorem ajJ(v:Nat)(w:World):Calls Tryz.prog 98 #[.int .i64 v] w (bG w (uC v)):=by
 have hl:=gZ 4 v
 obtain⟨D,hD⟩:∃D,D=bM v 4:=⟨_,rfl⟩
 have HT:=Lib.hid (show uC v=tlv 3 ([0]++D) by rw[hD];rfl)
 rw[HT.out]
 obtain⟨M,hM⟩:∃M,M=[0]++D:=⟨_,rfl⟩
 have HM:=Lib.hid hM
 have BB:M.length≤5:=by rw[hM,hD];simp[hl]
 rw[←hM]
 have HD:=Lib.hid hD
 have hR0:=dC.lit (T:=5) (Below.refl _ w) [0] (cs:=#[.int .u8 0]) rfl (by simp)
 clear hM hD hl
 go_enter Tryz.func98,Tryz.ntmps98
 go_wp2_with fail
 refine(Wu v 4 _ (by decide)).mono ?_
 rw[←HD.out]
 intro e w1 h1
 obtain⟨s1,rfl,hb1,hB1⟩:=h1
 go_wp2_with (at_builtin;refine iT (L:=M) rfl _ _ _ rfl eP b8 (hR0.later hb1) (n:=1) rfl rfl rfl rfl hB1.out HM.out (by omega) ?_;intro s3 w3 dV)
 refine(vV 3 3 _ _ M _ rfl (dV.bytes (by unfold lim;omega)) (by omega)).mono ?_
 intro e w4 h4
 obtain⟨s4,rfl,hb4,hB4⟩:=bG.from h4 dV.b
 clear hR0 dV hB1 hb1
 go_wp2_with fail
 go_ret
 exact⟨s4,rfl,hb4,hB4⟩
theorem WE(s:Sl)(p:aH)(w:World)(hp:bK w s p)(hok:aZ p=true):Calls Tryz.prog 96 #[.agg (az s p)] w (bG w (fF p)):=by
 obtain⟨hpn,hps,hpr⟩:=DZ hok
 have hp0:0<p.parts.length:=List.length_pos_iff.2 (tJ hok)
 have hB0:Below w.heap.size w (w.alloc (.cells (az s p) 35)):=ay (Below.refl _ _) _
 obtain⟨sa,scap⟩:=s
 obtain⟨b,o,ha,-,-⟩:=hp.1.get 0 hp0
 dsimp only at ha
 subst ha
 have hpL:=(hp.later hB0).1
 have HS:=Lib.hid hps
 have hcR:(w.alloc (.cells (az ⟨some ⟨b,o,none⟩,scap⟩ p) 35)).cell? ⟨w.heap.size,1,none⟩=some (.string p.aJ):=by simp[go_sem]
 have hrow:row? (w.alloc (.cells (az ⟨some ⟨b,o,none⟩,scap⟩ p) 35)) w.heap.size 0 2=some (az ⟨some ⟨b,o,none⟩,scap⟩ p):=YM rfl (by simp[az])
 go_enter Tryz.func96,Tryz.ntmps96
 go_wp2_with fail
 have hW:w.heap.size<(w.alloc (.cells (az ⟨some ⟨b,o,none⟩,scap⟩ p) 35)).heap.size:=by simp
 have hc0:(w.alloc (.cells (az ⟨some ⟨b,o,none⟩,scap⟩ p) 35)).cell? ⟨w.heap.size,0,none⟩=some (.slice (some ⟨b,o,none⟩) p.parts.length scap):=by simp[go_sem]
 generalize w.alloc (.cells (az ⟨some ⟨b,o,none⟩,scap⟩ p) 35)=W0 at *
 go_loopw [3,4] (fun bv iv wr=>∃(k:Nat) (so:Sl) (L:List (List UInt8)),k≤p.parts.length∧iv=.int .i64 k∧bv=.slice so.a L.length so.cap∧ig 58 W0 wr so L∧Hid (L=(p.parts.take k).map eY)) (fun _ i _=>p.parts.length-(intOf i).toNat)
 case atStart=>exact⟨0,⟨none,0⟩,[],Nat.zero_le _,rfl,rfl,ig.none _ (Below.refl _ _),rfl⟩
 case round=>
  obtain⟨k,so,L,hk,rfl,rfl,hH,HL⟩:=hrel
  obtain⟨hcc,bf,hrr⟩:=aQ hH.b
  have BC:L.length=k:=by rw[HL.out];simp;omega
  have II:=Lib.hid BC
  have hw0:wr.cell? ⟨w.heap.size,0,none⟩=some (.slice (some ⟨b,o,none⟩) p.parts.length scap):=(hcc _ _ hW).trans hc0
  have hw1:wr.cell? ⟨w.heap.size,1,none⟩=some (.string p.aJ):=(hcc _ _ hW).trans hcR
  have hwl:w.heap.size<wr.heap.size:=World.block_lt_of_cell? wr _ hw1
  clear BC hcc bf hrr
  by_cases hlt:k<p.parts.length
  ·obtain⟨hck,hsk⟩:=(hpL.later hH.b).at k hlt
   have hbb:b<wr.heap.size:=World.block_lt_of_cell? wr _ hck
   have hsz:p.parts[k].size≤32:=HS.out _ (List.getElem_mem hlt)
   obtain⟨L',hL'⟩:∃L',L'=(p.parts.take (k+1)).map eY:=⟨_,rfl⟩
   obtain⟨x,hx⟩:∃x,x=eY p.parts[k]:=⟨_,rfl⟩
   have HA:=Lib.hid (show L'=L++[x] by rw[hL',HL.out,hx,List.take_succ_eq_append_getElem hlt,List.map_append];rfl)
   have hLn:L'.length≤1000000:=by rw[hL',List.length_map,List.length_take];omega
   have kC:=Lib.hid hL'
   have HX:=Lib.hid hx
   clear hL' hx
   go_wp2_with fail
   refine(IE _ _ (Nat.le_trans hsz (by decide))).mono ?_
   rw[←HX.out]
   rintro e w2 ⟨s2,rfl,hb2,hd2⟩
   go_wp2_with (at_builtin;refine rY (L:=L') rfl _ _ _ rfl pX hH hb2 hd2 rfl rfl rfl rfl HA.out hLn ?_;intro s3 w3 hH3)
   go_roundw
   case rel=>exact⟨k+1,s3,L',by omega,by go_num,rfl,hH3,kC.out⟩
   case measure=>simp[intOf];omega
  ·have HE:=Lib.hid (show L=p.parts.map eY by rw[HL.out,List.take_of_length_le (by omega)])
   have hh:=hH.hist (by unfold lim;rw[II.out];omega)
   have hfl:=Ny hok
   rw[←HE.out]at hfl
   have hT1:(dM L).length≤1000000:=by have:=uD L;omega
   have hT2:(eY p.aJ).length≤1000000:=by have:=DY p.aJ;omega
   have zS:[bQ 0 (dM L),bQ 1 (eY p.aJ)].flatten.length≤1000000:=by
    have h1:=Nz hok
    rw[←HE.out]at h1
    simp only[dR]at h1
    exact Nat.le_trans h1 (by decide)
   go_wp2_with fail
   refine nz (Below.refl _ wr) (by kernel_rfl) (by kernel_rfl) ?_
   intro w1 hb1
   repeat (first|(refine ai (by rfl) ?_)|(refine au (by rfl) (by rfl) (fun K hK=>?_);go_big_quiet_op;refine hK _ ?_;clear hK K))
   refine aB (by rfl) (by rfl) (fun K hK=>?_)
   go_wp2_with fail
   refine(uG _ _ L _ (hh.out.later hb1) (by omega)).mono ?_
   rintro e w2 ⟨s2,rfl,hb2,hd2⟩
   have hb2':=ag hb1 hb2
   refine hK _ _ (aj hb2') ?_
   clear hK K
   repeat (first|(refine ai (by rfl) ?_)|(refine au (by rfl) (by rfl) (fun K hK=>?_);go_big_quiet_op;refine hK _ ?_;clear hK K))
   refine aB (by rfl) (by rfl) (fun K hK=>?_)
   go_wp2_with fail
   refine(jh 0 0 _ _ (dM L) _ rfl (by decide) hd2.out hT1).mono ?_
   rintro e w3 ⟨s3,rfl,hb3,hd3⟩
   have mG:=ag hb2' hb3
   refine hK _ _ (aj mG) ?_
   clear hK K
   repeat (first|(refine ai (by rfl) ?_)|(refine au (by rfl) (by rfl) (fun K hK=>?_);go_big_quiet_op;refine hK _ ?_;clear hK K))
   refine aB (by rfl) (by rfl) (fun K hK=>?_)
   go_wp2_with fail
   refine(IE _ _ (Nat.le_trans hpr (by decide))).mono ?_
   rintro e w4 ⟨s4,rfl,hb4,hd4⟩
   have iV:=ag mG hb4
   refine hK _ _ (aj iV) ?_
   clear hK K
   repeat (first|(refine ai (by rfl) ?_)|(refine au (by rfl) (by rfl) (fun K hK=>?_);go_big_quiet_op;refine hK _ ?_;clear hK K))
   refine aB (by rfl) (by rfl) (fun K hK=>?_)
   go_wp2_with fail
   refine(jh 1 1 _ _ (eY p.aJ) _ rfl (by decide) hd4.out hT2).mono ?_
   rintro e w5 ⟨s5,rfl,hb5,hd5⟩
   have bJ:=ag iV hb5
   refine hK _ _ (aj bJ) ?_
   clear hK K
   repeat (first|(refine ai (by rfl) ?_)|(refine au (by rfl) (by rfl) (fun K hK=>?_);go_big_quiet_op;refine hK _ ?_;clear hK K))
   refine aB (by rfl) (by rfl) (fun K hK=>?_)
   go_wp2_with fail
   refine hK _ _ (aj (ay bJ _)) ?_
   clear hK K
   repeat (first|(refine ai (by rfl) ?_)|(refine au (by rfl) (by rfl) (fun K hK=>?_);go_big_quiet_op;refine hK _ ?_;clear hK K))
   refine aB (by rfl) (by rfl) (fun K hK=>?_)
   go_wp2_with fail
   refine(uG _ _ [bQ 0 (dM L),bQ 1 (eY p.aJ)] _ (dY.lit [(s3,bQ 0 (dM L)),(s5,bQ 1 (eY p.aJ))] rfl rfl (fun x hx=>?_) (by simp[lim])) zS).mono ?_
   ·simp only[List.mem_cons,List.not_mem_nil,or_false]at hx
    rcases hx with rfl|rfl
    ·exact(hd3.out.later hb4).later hb5
    ·exact hd5.out
   rintro e w6 ⟨s6,rfl,hb6,hd6⟩
   have uh:=ag (ay bJ _) hb6
   have HB:=Lib.hid (bG.from (W:=w) ⟨s6,rfl,hb6,hd6⟩ (ag (ag hB0 hH.b) (ay bJ _)))
   have HP:=Lib.hid (show fF p=dM [bQ 0 (dM L),bQ 1 (eY p.aJ)] by rw[HE.out];rfl)
   clear hb2 hd2 hb3 hd3 hb4 hd4 hb5 hd5 hb6 hd6 hH hh
   refine hK _ _ (aj uh) ?_
   clear hK K
   repeat (first|(refine ai (by rfl) ?_)|(refine au (by rfl) (by rfl) (fun K hK=>?_);go_big_quiet_op;refine hK _ ?_;clear hK K))
   refine bz ?_
   go_wp2_with fail
   go_ret
   rw[HP.out]
   exact HB.out
end Go.Proofs.YtpfifochimkpfaaGreatDoor
namespace Go.WW
open Go.RowKit
end Go.WW
namespace Go.Proofs.YtpfifochimkpfaaGreatDoor
open Go.RowKit Go.WW
theorem D8(v:Int)(w:World)(h0:0≤v)(hv:v<4611686018427387904):Calls Tryz.prog 158 #[.int .i64 v] w (bG w (eU v.toNat)):=by
 have:=ajy v.toNat w (by omega)
 rwa[Int.toNat_of_nonneg h0]at this
theorem WG(v:Int)(w:World)(h0:0≤v):Calls Tryz.prog 159 #[.int .i64 v] w (bG w (lI v.toNat)):=by
 have:=ajA v.toNat w
 rwa[Int.toNat_of_nonneg h0]at this
theorem vX{S:Nat→Prop}(c:Bool)(s:Sl)(l l':List UInt8)(w:World)(h:bu w S fun x=>BytesAt x s.a l)(hl:l'=cond c [] l):Calls Tryz.prog 100 #[.bool c,.slice s.a l.length s.cap] w fun e w'=>∃s':Sl,e=.returned (.slice s'.a l'.length s'.cap)∧w=w'∧bu w S fun x=>BytesAt x s'.a l':=by
 refine(ajB c _ w).mono ?_
 rintro e w' ⟨rfl,rfl⟩
 cases c
 ·subst hl;exact⟨s,rfl,rfl,h⟩
 ·subst hl;exact⟨⟨none,0⟩,rfl,rfl,fun _ _=>⟨by simp[lim],fun i hi=>by simp at hi⟩⟩
theorem ajK(s:Sl)(k:Key)(w:World)(hk:mg w s k)(hf:zK k):Calls Tryz.prog 157 #[.agg (dD s k)] w (bG w (iH k)):=by
 have hfl:=NC hf
 obtain⟨h1,h2,h3⟩:=hf
 have e1:=rX (v:=k.profile.toNat) (k:=1) (by decide) (by simp;omega)
 have e2:=rX (v:=k.version.toNat) (k:=3) (by decide) (by simp;omega)
 have e3:=Bz k.bytes
 have hB0:Below w.heap.size w (w.alloc (.cells (dD s k) 176)):=ay (Below.refl _ _) _
 have mP:BytesAt (w.alloc (.cells (dD s k) 176)) s.a k.bytes:=BytesAt.later hB0 hk
 have HK:=Lib.hid (show iH k=dM [bQ 0 (eU k.profile.toNat),bQ 1 (eU k.version.toNat),bQ 2 (gp k.bytes)] from rfl)
 simp only[dR]at hfl
 rw[HK.out]
 go_enter Tryz.func157,Tryz.ntmps157
 go_wp2_with fail
 refine nz (Below.refl _ (w.alloc (.cells (dD s k) 176))) (by kernel_rfl) (by kernel_rfl) ?_
 intro v0 hv0
 have hP0:Ps (w.alloc (.cells (dD s k) 176)) v0 []:=⟨hv0,by simp⟩
 repeat (first|(refine ai (by rfl) ?_)|(refine au (by rfl) (by rfl) (fun K hK=>?_);go_big_quiet_op;refine hK _ ?_;clear hK K))
 refine aB (by rfl) (by rfl) (fun K hK=>?_)
 go_wp2_with fail
 refine(D8 _ _ h1.1 (by omega)).mono ?_
 rintro e v1 ⟨s1,rfl,hb1,hd1⟩
 have hP1:=hP0.mid hb1
 refine hK _ _ (aj hP1.b) ?_
 clear hK K
 repeat (first|(refine ai (by rfl) ?_)|(refine au (by rfl) (by rfl) (fun K hK=>?_);go_big_quiet_op;refine hK _ ?_;clear hK K))
 refine aB (by rfl) (by rfl) (fun K hK=>?_)
 go_wp2_with fail
 refine(jh 0 0 _ _ _ _ rfl (by decide) hd1.out (by omega)).mono ?_
 rintro e v2 ⟨s2,rfl,hb2,hd2⟩
 have hP2:=hP1.add hb2 hd2.out
 refine hK _ _ (aj hP2.b) ?_
 clear hK K
 repeat (first|(refine ai (by rfl) ?_)|(refine au (by rfl) (by rfl) (fun K hK=>?_);go_big_quiet_op;refine hK _ ?_;clear hK K))
 refine aB (by rfl) (by rfl) (fun K hK=>?_)
 go_wp2_with fail
 refine(D8 _ _ h2.1 (by omega)).mono ?_
 rintro e v3 ⟨s3,rfl,hb3,hd3⟩
 have hP3:=hP2.mid hb3
 refine hK _ _ (aj hP3.b) ?_
 clear hK K
 repeat (first|(refine ai (by rfl) ?_)|(refine au (by rfl) (by rfl) (fun K hK=>?_);go_big_quiet_op;refine hK _ ?_;clear hK K))
 refine aB (by rfl) (by rfl) (fun K hK=>?_)
 go_wp2_with fail
 refine(jh 1 1 _ _ _ _ rfl (by decide) hd3.out (by omega)).mono ?_
 rintro e v4 ⟨s4,rfl,hb4,hd4⟩
 have kD:=hP3.add hb4 hd4.out
 refine hK _ _ (aj kD.b) ?_
 clear hK K
 repeat (first|(refine ai (by rfl) ?_)|(refine au (by rfl) (by rfl) (fun K hK=>?_);go_big_quiet_op;refine hK _ ?_;clear hK K))
 refine aB (by rfl) (by rfl) (fun K hK=>?_)
 go_wp2_with fail
 refine(Wx _ _ k.bytes _ (mP.later kD.b) (by omega)).mono ?_
 rintro e v5 ⟨s5,rfl,hb5,hd5⟩
 have jP:=kD.mid hb5
 refine hK _ _ (aj jP.b) ?_
 clear hK K
 repeat (first|(refine ai (by rfl) ?_)|(refine au (by rfl) (by rfl) (fun K hK=>?_);go_big_quiet_op;refine hK _ ?_;clear hK K))
 refine aB (by rfl) (by rfl) (fun K hK=>?_)
 go_wp2_with fail
 refine(jh 2 2 _ _ _ _ rfl (by decide) hd5.out (by omega)).mono ?_
 rintro e v6 ⟨s6,rfl,hb6,hd6⟩
 have oN:=jP.add hb6 hd6.out
 refine hK _ _ (aj oN.b) ?_
 clear hK K
 repeat (first|(refine ai (by rfl) ?_)|(refine au (by rfl) (by rfl) (fun K hK=>?_);go_big_quiet_op;refine hK _ ?_;clear hK K))
 refine aB (by rfl) (by rfl) (fun K hK=>?_)
 go_wp2_with fail
 refine hK _ _ (aj (ay oN.b _)) ?_
 clear hK K
 repeat (first|(refine ai (by rfl) ?_)|(refine au (by rfl) (by rfl) (fun K hK=>?_);go_big_quiet_op;refine hK _ ?_;clear hK K))
 refine aB (by rfl) (by rfl) (fun K hK=>?_)
 go_wp2_with fail
 refine(uG _ _ [bQ 0 (eU k.profile.toNat),bQ 1 (eU k.version.toNat),bQ 2 (gp k.bytes)] _ (dY.lit _ rfl rfl oN.at_ (by simp[lim])) (Nat.le_trans hfl (by decide))).mono ?_
 rintro e v7 ⟨s7,rfl,hb7,hd7⟩
 have HB:=Lib.hid (bG.from (W:=w) ⟨s7,rfl,hb7,hd7⟩ (ag hB0 (ay oN.b _)))
 have nO:=ag (ay oN.b _) hb7
 clear hP0 hP1 hP2 hP3 kD jP oN hd1 hd2 hd3 hd4 hd5 hd6 hd7 hb1 hb2 hb3 hb4 hb5 hb6 hb7
 refine hK _ _ (aj nO) ?_
 clear hK K
 repeat (first|(refine ai (by rfl) ?_)|(refine au (by rfl) (by rfl) (fun K hK=>?_);go_big_quiet_op;refine hK _ ?_;clear hK K))
 refine bz ?_
 go_wp2_with fail
 go_ret
 exact HB.out
theorem WH{v:Int}(h0:0≤v):fP v.toNat=cond (v == 0) [] (eU v.toNat):=by
 unfold fP
 by_cases h:v=0
 ·subst h;rfl
 ·rw[if_neg (by omega),show(v == 0)=false by simpa using h];rfl
theorem ajL{v:Int}(h0:0≤v):jf v.toNat=cond (v == 0) [] (lI v.toNat):=by
 unfold jf
 by_cases h:v=0
 ·subst h;rfl
 ·rw[if_neg (by omega),show(v == 0)=false by simpa using h];rfl
theorem IJ(v:Int)(w:World)(h0:0≤v)(hv:v<4611686018427387904):Calls Tryz.prog 99 #[.int .i64 v] w (bG w (fP v.toNat)):=by
 have hc:=Lib.hid (WH h0)
 go_enter Tryz.func99,Tryz.ntmps99
 go_wp2_with fail
 refine(D8 _ _ h0 hv).mono ?_
 rintro e w1 ⟨s1,rfl,hb1,hd1⟩
 go_wp2_with fail
 refine(vX _ s1 _ (fP v.toNat) _ hd1 hc.out).mono ?_
 rintro e w2 ⟨s2,rfl,rfl,hd2⟩
 go_wp2_with fail
 go_ret
 exact⟨s2,rfl,hb1,hd2⟩
theorem IK(v:Int)(w:World)(h0:0≤v):Calls Tryz.prog 102 #[.int .i64 v] w (bG w (jf v.toNat)):=by
 have hc:=Lib.hid (ajL h0)
 go_enter Tryz.func102,Tryz.ntmps102
 go_wp2_with fail
 refine(WG _ _ h0).mono ?_
 rintro e w1 ⟨s1,rfl,hb1,hd1⟩
 go_wp2_with fail
 refine(vX _ s1 _ (jf v.toNat) _ hd1 hc.out).mono ?_
 rintro e w2 ⟨s2,rfl,rfl,hd2⟩
 go_wp2_with fail
 go_ret
 exact⟨s2,rfl,hb1,hd2⟩
theorem NU(l:List (List UInt8)):dm l=cond ((l.length:Int) == 0) [] (dM l):=by
 unfold dm
 by_cases h:l.length=0
 ·rw[if_pos h,show((l.length:Int) == 0)=true from beq_iff_eq.2 (by omega)];rfl
 ·rw[if_neg h,show((l.length:Int) == 0)=false from beq_eq_false_iff_ne.2 (by omega)];rfl
theorem vY{α β:Type}(f:α→β){l:List α}{k:Nat}(h:k<l.length){L:List β}(hL:L=(l.take k).map f):(l.take (k+1)).map f=L++[f l[k]]:=by
 rw[List.take_succ_eq_append_getElem h,List.map_append,hL];rfl
theorem vZ{α β:Type}(f:α→β){l:List α}{k:Nat}(h:¬k<l.length):(l.take k).map f=l.map f:=by rw[List.take_of_length_le (by omega)]
theorem NV(a:Option Addr)(cap:Nat)(l:List aH)(w:World)(h:fQ w a l)(hok:(∀p∈l,aZ p=true)∧l.length≤16):Calls Tryz.prog 97 #[.slice a l.length cap] w (bG w (dm (l.map fF))):=by
 rcases bH.addr h with h0|⟨b,o,rfl,hb⟩
 ·obtain rfl:l=[]:=List.eq_nil_of_length_eq_zero h0
  go_enter Tryz.func97,Tryz.ntmps97
  go_wp2_with fail
  refine wp_loop_rounds 1 ?_
  rw[rounds_succ]
  go_wp2_with fail
  refine(uG none 0 [] _ ⟨by simp[lim],fun i hi=>by simp at hi⟩ (by simp)).mono ?_
  rintro e w1 ⟨s1,rfl,hb1,hd1⟩
  go_wp2_with fail
  refine(vX _ s1 _ [] _ hd1 rfl).mono ?_
  rintro e w2 ⟨s2,rfl,rfl,hd2⟩
  go_wp2_with fail
  go_ret
  exact⟨s2,rfl,hb1,hd2⟩
 ·have HK:=Lib.hid hok
  have hfl:=map_le (f:=fF) (m:=205) (n:=16) (l:=l) (fun p hp=>IB (hok.1 p hp)) hok.2
  have hn:=hok.2
  clear hok
  go_enter Tryz.func97,Tryz.ntmps97
  go_wp2_with fail
  go_loopw [3,4] (fun bv iv wr=>∃(k:Nat) (so:Sl) (L:List (List UInt8)),k≤l.length∧iv=.int .i64 k∧bv=.slice so.a L.length so.cap∧ig 58 w wr so L∧Hid (L=(l.take k).map fF)) (fun _ i _=>l.length-(intOf i).toNat)
  case atStart=>exact⟨0,⟨none,0⟩,[],Nat.zero_le _,rfl,rfl,ig.none _ (Below.refl _ _),rfl⟩
  case round=>
   obtain⟨k,so,L,hk,rfl,rfl,hH,HL⟩:=hrel
   by_cases hlt:k<l.length
   ·obtain⟨t,hrow,hp⟩:=(h.later hH.b).at k hlt
    obtain⟨L',hL'⟩:∃L',L'=(l.take (k+1)).map fF:=⟨_,rfl⟩
    obtain⟨x,hx⟩:∃x,x=fF l[k]:=⟨_,rfl⟩
    have HA:=Lib.hid (show L'=L++[x] by rw[hL',hx,vY _ hlt HL.out])
    have hLn:L'.length≤1000000:=by rw[hL',List.length_map,List.length_take];omega
    have kC:=Lib.hid hL'
    have HX:=Lib.hid hx
    clear hL' hx
    go_wp2_with fail
    refine(WE t l[k] _ hp (HK.out.1 _ (List.getElem_mem hlt))).mono ?_
    rw[←HX.out]
    rintro e w2 ⟨s2,rfl,hb2,hd2⟩
    go_wp2_with (at_builtin;refine rY (L:=L') rfl _ _ _ rfl pX hH hb2 hd2 rfl rfl rfl rfl HA.out hLn ?_;intro s3 w3 hH3)
    go_roundw
    case rel=>exact⟨k+1,s3,L',by omega,by go_num,rfl,hH3,kC.out⟩
    case measure=>simp[intOf];omega
   ·have HE:=Lib.hid (show L=l.map fF by rw[HL.out,vZ _ hlt])
    rw[←HE.out]at hfl ⊢
    have hll:L.length=l.length:=by rw[HE.out,List.length_map]
    have hh:=hH.hist (by unfold lim;omega)
    have HC:=Lib.hid (show dm L=cond ((l.length:Int) == 0) [] (dM L) by rw[←hll];exact NU L)
    clear hll
    go_wp2_with fail
    refine(uG _ _ L _ hh.out (by omega)).mono ?_
    rintro e w2 ⟨s2,rfl,hb2,hd2⟩
    go_wp2_with fail
    refine(vX _ s2 _ (dm L) _ hd2 HC.out).mono ?_
    rintro e w3 ⟨s3,rfl,rfl,hd3⟩
    have HB:=Lib.hid (bG.from (W:=w) ⟨s3,rfl,hb2,hd3⟩ hH.b)
    rw[HE.out]at HB
    clear hH hh hd2 hd3
    go_wp2_with fail
    go_ret
    rw[HE.out]
    exact HB.out
end Go.Proofs.YtpfifochimkpfaaGreatDoor
namespace Go.WW
open Go.RowKit
theorem NW(s:ByteArray):jO s=cond s.toList.isEmpty [] (eY s):=by
 have hl:s.toList.length=s.size:=by rw[ByteArray.toList_eq];simp
 unfold jO
 by_cases h:s.size=0
 ·rw[if_pos h,show s.toList=[] from List.eq_nil_of_length_eq_zero (by omega)];rfl
 ·have hne:s.toList.isEmpty=false:=by
   cases hs:s.toList with
   |nil=>rw[hs]at hl;exact absurd hl.symm h
   |cons a l=>rfl
  rw[if_neg h,hne];rfl
end Go.WW
namespace Go.Proofs.YtpfifochimkpfaaGreatDoor
open Go.RowKit Go.WW
theorem ajM(s:Sl)(k:bP)(w:World)(hk:kG w s k)(hf:zL k):Calls Tryz.prog 92 #[.agg (bY s k)] w (bG w (jg k)):=by
 have hfl:=ND hf
 have e1:=rX (v:=k.version.toNat) (k:=3) (by decide) (by have:=hf.version;simp;omega)
 have e2:=BA (f:=iH) (m:=295) (n:=4) (l:=k.keys) (fun k hk=>D5 (hf.keys k hk)) hf.few.2
 have e2':=map_le (f:=iH) (m:=295) (n:=4) (l:=k.keys) (fun k hk=>D5 (hf.keys k hk)) hf.few.2
 have e3:=IA k.dK
 have e4:=zJ (v:=k.dX.toNat) (k:=3) (by decide) (by have:=hf.dX;simp;omega)
 have e4':=rX (v:=k.dX.toNat) (k:=3) (by decide) (by have:=hf.dX;simp;omega)
 have e5:=Iz k.created.toNat
 obtain⟨f1,f2,f3,f4,f5,f6⟩:=hf
 have c3:=Lib.hid (NW k.dK)
 have c4:=Lib.hid (WH f5.1)
 have HK:=Lib.hid f2
 have hB0:Below w.heap.size w (w.alloc (.cells (bY s k) 80)):=ay (Below.refl _ _) _
 have mP:=kF.later hB0 hk.1
 have hkn:0<k.keys.length:=by omega
 obtain⟨sa,scap⟩:=s
 obtain⟨b,o,t0,ha,-,-⟩:=mP.get 0 hkn
 dsimp only at ha
 subst ha
 have HT:=Lib.hid (show jg k=dM [bQ 0 (eU k.version.toNat),bQ 1 (dm (k.keys.map iH)),bQ 2 (jO k.dK),bQ 3 (fP k.dX.toNat),bQ 4 (lI k.created.toNat)] from rfl)
 simp only[dR]at hfl
 rw[HT.out]
 go_enter Tryz.func92,Tryz.ntmps92
 go_wp2_with fail
 go_loopw [3,4] (fun bv iv wr=>∃(n:Nat) (so:Sl) (L:List (List UInt8)),n≤k.keys.length∧iv=.int .i64 n∧bv=.slice so.a L.length so.cap∧ig 58 (w.alloc (.cells (bY ⟨some ⟨b,o,none⟩,scap⟩ k) 80)) wr so L∧Hid (L=(k.keys.take n).map iH)) (fun _ i _=>k.keys.length-(intOf i).toNat)
 case atStart=>exact⟨0,⟨none,0⟩,[],Nat.zero_le _,rfl,rfl,ig.none _ (Below.refl _ _),rfl⟩
 case round=>
  obtain⟨n,so,L,hn,rfl,rfl,hH,HL⟩:=hrel
  obtain⟨hcc,bf,hrr⟩:=aQ hH.b
  have hwl:w.heap.size<wr.heap.size:=by have:=hH.b.size;simp at this;omega
  by_cases hlt:n<k.keys.length
  ·obtain⟨t,hrow,hp⟩:=(mP.later hH.b).at n hlt
   have hbb:b<wr.heap.size:=fA hrow
   obtain⟨L',hL'⟩:∃L',L'=(k.keys.take (n+1)).map iH:=⟨_,rfl⟩
   obtain⟨x,hx⟩:∃x,x=iH k.keys[n]:=⟨_,rfl⟩
   have HA:=Lib.hid (show L'=L++[x] by rw[hL',hx,vY _ hlt HL.out])
   have hLn:L'.length≤1000000:=by rw[hL',List.length_map,List.length_take];omega
   have kC:=Lib.hid hL'
   have HX:=Lib.hid hx
   clear hL' hx
   go_wp2_with fail
   refine(ajK t k.keys[n] _ hp (HK.out _ (List.getElem_mem hlt))).mono ?_
   rw[←HX.out]
   rintro e w2 ⟨s2,rfl,hb2,hd2⟩
   clear hcc bf hrr
   go_wp2_with (at_builtin;refine rY (L:=L') rfl _ _ _ rfl pX hH hb2 hd2 rfl rfl rfl rfl HA.out hLn ?_;intro s3 w3 hH3)
   go_roundw
   case rel=>exact⟨n+1,s3,L',by omega,by go_num,rfl,hH3,kC.out⟩
   case measure=>simp[intOf];omega
  ·have HE:=Lib.hid (show L=k.keys.map iH by rw[HL.out,vZ _ hlt])
   have hll:L.length=k.keys.length:=by rw[HE.out,List.length_map]
   have hh:=hH.hist (by unfold lim;omega)
   have HS:=Lib.hid (show dm L=dM L by unfold dm;rw[if_neg (by omega)])
   rw[←HE.out]at hfl e2 e2' HT ⊢
   have NY:=ag hB0 hH.b
   clear hll
   go_wp2_with fail
   refine nz (Below.refl _ wr) (by kernel_rfl) (by kernel_rfl) ?_
   intro v0 hv0
   have hP0:Ps wr v0 []:=⟨hv0,by simp⟩
   repeat (first|(refine ai (by rfl) ?_)|(refine au (by rfl) (by rfl) (fun K hK=>?_);go_big_quiet_op;refine hK _ ?_;clear hK K))
   refine aB (by rfl) (by rfl) (fun K hK=>?_)
   go_wp2_with fail
   refine(D8 _ _ f1.1 (by omega)).mono ?_
   rintro e v1 ⟨s1,rfl,hb1,hd1⟩
   have hP1:=hP0.mid hb1
   clear hP0 hb1
   refine hK _ _ (aj hP1.b) ?_
   clear hK K
   repeat (first|(refine ai (by rfl) ?_)|(refine au (by rfl) (by rfl) (fun K hK=>?_);go_big_quiet_op;refine hK _ ?_;clear hK K))
   refine aB (by rfl) (by rfl) (fun K hK=>?_)
   go_wp2_with fail
   refine(jh 0 0 _ _ _ _ rfl (by decide) hd1.out (Nat.le_trans e1 (by decide))).mono ?_
   rintro e v2 ⟨s2,rfl,hb2,hd2⟩
   have hP2:=hP1.add hb2 hd2.out
   clear hP1 hb2 hd1 hd2
   refine hK _ _ (aj hP2.b) ?_
   clear hK K
   repeat (first|(refine ai (by rfl) ?_)|(refine au (by rfl) (by rfl) (fun K hK=>?_);go_big_quiet_op;refine hK _ ?_;clear hK K))
   refine aB (by rfl) (by rfl) (fun K hK=>?_)
   go_wp2_with fail
   refine(uG _ _ L _ (hh.out.later hP2.b) (Nat.le_trans e2' (by decide))).mono ?_
   rintro e v3 ⟨s3,rfl,hb3,hd3⟩
   have hP3:=hP2.mid hb3
   clear hP2 hb3
   refine hK _ _ (aj hP3.b) ?_
   clear hK K
   repeat (first|(refine ai (by rfl) ?_)|(refine au (by rfl) (by rfl) (fun K hK=>?_);go_big_quiet_op;refine hK _ ?_;clear hK K))
   refine aB (by rfl) (by rfl) (fun K hK=>?_)
   go_wp2_with fail
   refine(jh 1 1 _ _ (dM L) _ rfl (by decide) hd3.out (by rw[←HS.out];exact Nat.le_trans e2 (by decide))).mono ?_
   rintro e v4 ⟨s4,rfl,hb4,hd4⟩
   have kD:=hP3.add hb4 hd4.out
   clear hP3 hb4 hd3 hd4
   refine hK _ _ (aj kD.b) ?_
   clear hK K
   repeat (first|(refine ai (by rfl) ?_)|(refine au (by rfl) (by rfl) (fun K hK=>?_);go_big_quiet_op;refine hK _ ?_;clear hK K))
   refine aB (by rfl) (by rfl) (fun K hK=>?_)
   go_wp2_with fail
   refine(IE _ _ (Nat.le_trans f4 (by decide))).mono ?_
   rintro e v5 ⟨s5,rfl,hb5,hd5⟩
   have jP:=kD.mid hb5
   clear kD hb5
   refine hK _ _ (aj jP.b) ?_
   clear hK K
   repeat (first|(refine ai (by rfl) ?_)|(refine au (by rfl) (by rfl) (fun K hK=>?_);go_big_quiet_op;refine hK _ ?_;clear hK K))
   refine aB (by rfl) (by rfl) (fun K hK=>?_)
   go_wp2_with fail
   refine(vX _ s5 _ (jO k.dK) _ hd5 c3.out).mono ?_
   rintro e _ ⟨s6,rfl,rfl,hd6⟩
   clear hd5
   refine hK _ _ (aj jP.b) ?_
   clear hK K
   repeat (first|(refine ai (by rfl) ?_)|(refine au (by rfl) (by rfl) (fun K hK=>?_);go_big_quiet_op;refine hK _ ?_;clear hK K))
   refine aB (by rfl) (by rfl) (fun K hK=>?_)
   go_wp2_with fail
   refine(jh 2 2 _ _ _ _ rfl (by decide) hd6.out (by omega)).mono ?_
   rintro e v7 ⟨s7,rfl,hb7,hd7⟩
   have rZ:=jP.add hb7 hd7.out
   clear jP hb7 hd6 hd7
   refine hK _ _ (aj rZ.b) ?_
   clear hK K
   repeat (first|(refine ai (by rfl) ?_)|(refine au (by rfl) (by rfl) (fun K hK=>?_);go_big_quiet_op;refine hK _ ?_;clear hK K))
   refine aB (by rfl) (by rfl) (fun K hK=>?_)
   go_wp2_with fail
   refine(D8 _ _ f5.1 (by omega)).mono ?_
   rintro e v8 ⟨s8,rfl,hb8,hd8⟩
   have pK:=rZ.mid hb8
   clear rZ hb8
   refine hK _ _ (aj pK.b) ?_
   clear hK K
   repeat (first|(refine ai (by rfl) ?_)|(refine au (by rfl) (by rfl) (fun K hK=>?_);go_big_quiet_op;refine hK _ ?_;clear hK K))
   refine aB (by rfl) (by rfl) (fun K hK=>?_)
   go_wp2_with fail
   refine(vX _ s8 _ (fP k.dX.toNat) _ hd8 c4.out).mono ?_
   rintro e _ ⟨s9,rfl,rfl,hd9⟩
   clear hd8
   refine hK _ _ (aj pK.b) ?_
   clear hK K
   repeat (first|(refine ai (by rfl) ?_)|(refine au (by rfl) (by rfl) (fun K hK=>?_);go_big_quiet_op;refine hK _ ?_;clear hK K))
   refine aB (by rfl) (by rfl) (fun K hK=>?_)
   go_wp2_with fail
   refine(jh 3 3 _ _ _ _ rfl (by decide) hd9.out (Nat.le_trans e4 (by decide))).mono ?_
   rintro e v10 ⟨s10,rfl,xG,hd10⟩
   have zT:=pK.add xG hd10.out
   clear pK xG hd9 hd10
   refine hK _ _ (aj zT.b) ?_
   clear hK K
   repeat (first|(refine ai (by rfl) ?_)|(refine au (by rfl) (by rfl) (fun K hK=>?_);go_big_quiet_op;refine hK _ ?_;clear hK K))
   refine aB (by rfl) (by rfl) (fun K hK=>?_)
   go_wp2_with fail
   refine(WG _ _ f6.1).mono ?_
   rintro e v11 ⟨s11,rfl,rH,hd11⟩
   have sF:=zT.mid rH
   clear zT rH
   refine hK _ _ (aj sF.b) ?_
   clear hK K
   repeat (first|(refine ai (by rfl) ?_)|(refine au (by rfl) (by rfl) (fun K hK=>?_);go_big_quiet_op;refine hK _ ?_;clear hK K))
   refine aB (by rfl) (by rfl) (fun K hK=>?_)
   go_wp2_with fail
   refine(jh 4 4 _ _ _ _ rfl (by decide) hd11.out (Nat.le_trans e5 (by decide))).mono ?_
   rintro e v12 ⟨s12,rfl,fJ,xP⟩
   have nU:=sF.add fJ xP.out
   clear sF fJ hd11 xP
   refine hK _ _ (aj nU.b) ?_
   clear hK K
   repeat (first|(refine ai (by rfl) ?_)|(refine au (by rfl) (by rfl) (fun K hK=>?_);go_big_quiet_op;refine hK _ ?_;clear hK K))
   refine aB (by rfl) (by rfl) (fun K hK=>?_)
   go_wp2_with fail
   refine hK _ _ (aj (ay nU.b _)) ?_
   clear hK K
   repeat (first|(refine ai (by rfl) ?_)|(refine au (by rfl) (by rfl) (fun K hK=>?_);go_big_quiet_op;refine hK _ ?_;clear hK K))
   refine aB (by rfl) (by rfl) (fun K hK=>?_)
   go_wp2_with fail
   refine(uG _ _ [bQ 0 (eU k.version.toNat),bQ 1 (dM L),bQ 2 (jO k.dK),bQ 3 (fP k.dX.toNat),bQ 4 (lI k.created.toNat)] _ (dY.lit _ rfl rfl nU.at_ (by simp[lim])) (by rw[←HS.out];exact Nat.le_trans hfl (by decide))).mono ?_
   rintro e vz ⟨sz,rfl,hbz,hdz⟩
   have HB:=Lib.hid (bG.from (W:=w) ⟨sz,rfl,hbz,hdz⟩ (ag NY (ay nU.b _)))
   have sG:=ag (ay nU.b _) hbz
   clear nU hdz hbz
   refine hK _ _ (aj sG) ?_
   clear hK K
   repeat (first|(refine ai (by rfl) ?_)|(refine au (by rfl) (by rfl) (fun K hK=>?_);go_big_quiet_op;refine hK _ ?_;clear hK K))
   refine bz ?_
   go_wp2_with fail
   go_ret
   rw[←HE.out,HS.out]
   exact HB.out
end Go.Proofs.YtpfifochimkpfaaGreatDoor
