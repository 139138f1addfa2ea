/- A part of the proof. -/
import Derived.Test.YtfieenjdcpjmgaaGreatDoorB27
import Derived.Test.YtfieenjdcpjmgaaGreatDoorB09
import Derived.Lib.AppendStr
import Derived.Test.YtfieenjdcpjmgaaGreatDoorB10
set_option maxRecDepth 100000
set_option maxHeartbeats 8000000
namespace Go.WW
open Go.RowKit
def mM(w:World)(s s':Sl):Prop:=∀g,s'.blk=some g→s'.blk=s.blk∨w.heap.size≤g
theorem mM.refl(w:World)(s:Sl):mM w s s:=fun _ _=>.inl rfl
theorem mM.trans{w v:World}{a b c:Sl}(hs:w.heap.size≤v.heap.size)(h:mM w a b)(k:mM v b c):mM w a c:=fun g hg=>by
 rcases k g hg with h1|h1
 ·rcases h g (h1▸hg)with h2|h2
  ·exact .inl (h1.trans h2)
  ·exact .inr h2
 ·exact .inr (Nat.le_trans hs h1)
theorem mM.base{w v:World}{a b:Sl}(hs:w.heap.size≤v.heap.size)(k:mM v a b):mM w a b:=fun g hg=>(k g hg).imp id fun h=>Nat.le_trans hs h
def lh(w:World)(s:Sl)(w':World):Prop:=But (fun k=>s.blk=some k) w w'
theorem lh.refl(w:World)(s:Sl):lh w s w:=But.refl _ _
theorem lh.later{w v v':World}{s:Sl}(h:lh w s v)(hb:Below v.heap.size v v'):lh w s v':=But.trans h (But.of_below hb)
theorem lh.grown{w w':World}{s:Sl}(h:w.grownBy w' s.blk):lh w s w':=
 ⟨h.os,h.tape,h.output,h.size,fun j hj hn=>h.block j hj (fun e=>hn (by first|exact e|exact e.symm))⟩
theorem lh.trans{w v v':World}{s s1:Sl}(h:lh w s v)(n:mM w s s1)(k:lh v s1 v'):lh w s v':=
 ⟨k.os.trans h.os,k.tape.trans h.tape,k.output.trans h.output,Nat.le_trans h.size k.size,fun j hj hn=>(k.block j (Nat.lt_of_lt_of_le hj h.size) (fun e=>by
  rcases n j e with h1|h1
  ·exact hn (h1.symm.trans e)
  ·omega)).trans (h.block j hj hn)⟩
def YK(T:TypeId)(W w:World)(sb:Sl)(L:List UInt8)(e:Ending)(w':World):Prop:=
 ∃s':Sl,e=.returned (.slice s'.a L.length s'.cap)∧dF T W w' s' L∧lh w sb w'∧mM w sb s'
theorem amB{P:Program}{w w':World}{t u ty T:TypeId}{i:TypeInfo}(ht:P.underlying t=some (.slice T))(hu:P.underlying u=some .string)(hi:P.info? T=some i)(hz:i.zero=some (.int .u8 0))(hsz:i.size=1)(hby:i.bytes=1)
  {base:Nat} {s s':Sl} {n m:Nat} {xs:List Value} (hown:w.ownsRow base T 1 (.slice s.a n s.cap) n xs) {str:ByteArray} (h:n+str.size≤1000000000)
  (hnil:.slice s'.a m s'.cap=Value.slice none 0 0↔.slice s.a n s.cap=Value.slice none 0 0∧str.size=0)
  (hr:(Builtin.append_ #[t,u] ty #[.slice s.a n s.cap,.string str]).run P w=.ok (.slice s'.a m s'.cap) w'):∀g,s'.blk=some g→s'.blk=s.blk∨w.heap.size≤g:=by
 intro g hg
 have hlen:xs.length=n:=by simpa using hown.1
 have hcells:∀g0,s.a=some ⟨g0,0,none⟩→∀j v,xs[j]?=some v→w.cell? ((⟨g0,0,none⟩:Addr).add j)=some v:=fun g0 e=>hown.cells (g:=g0) (by rw[e];rfl)
 rcases hown.2 with⟨hv,hn⟩|⟨g0,cap,cur,hv,hbg,hh,hnc,hcm,hcs,htake⟩
 ·have hz0:str.size≠0:=fun e=>by
   have:=hnil.2 ⟨hv,e⟩
   have ha:s'.a=none:=by injection this
   rw[Sl.blk,ha]at hg;cases hg
  rw[hv,run_append_nil_string (P:=P) w t u ty T i (.int .u8 0) ht hu hi hz str (by omega) (by omega) (by rw[hby];omega)]at hr
  have ha:s'.a=some ⟨w.heap.size,0,none⟩:=by injection hr with h1 h2;injection h1 with h1;exact h1.symm
  rw[Sl.blk,ha]at hg
  cases hg
  exact .inr (Nat.le_refl _)
 ·have hsa:s.a=some ⟨g0,0,none⟩:=by injection hv
  by_cases hroom:n+str.size≤cap
  ·rw[hv,Lib.run_append_room_string (P:=P) w t u ty T i ht hu hi hsz g0 n cap cur hh str hroom (by omega)]at hr
   have ha:s'.a=some ⟨g0,0,none⟩:=by injection hr with h1 h2;injection h1 with h1;exact h1.symm
   left;rw[Sl.blk,Sl.blk,ha,hsa]
  ·rw[hv,Lib.run_append_grow_string (P:=P) w t u ty T i (.int .u8 0) ht hu hi hz ⟨g0,0,none⟩ n cap xs (by rw[hsz,hlen];omega) (hcells g0 hsa) str (by omega) (by omega) (by rw[hby];exact growslice_fits (by omega) (by omega))]at hr
   have ha:s'.a=some ⟨w.heap.size,0,none⟩:=by injection hr with h1 h2;injection h1 with h1;exact h1.symm
   rw[Sl.blk,ha]at hg
   cases hg
   exact .inr (Nat.le_refl _)
theorem amC{P:Program}{ops:Array Oper}{rest:List Oper}{o:Oper}{a:Act}{w:World}{Q:Exit→Act→World→Prop}(hgd:o.guard=Option.none)(x y:Operand)(t:TypeId)(ho:o.op=.call {callee:=.builtin .append,args:=#[x,y],argTypes:=#[t,t]})
  {T:TypeId} {b:Nat} (he:gp P t T 1 b) (hb:b≤8) {W:World} {s:Sl} {l L:List UInt8} (h:dF T W w s l) {n:Nat} (hx:a.eval x=.slice s.a n s.cap) (hn:n=l.length) {A:Option Addr} {news:List UInt8} {m c:Nat}
  (hy:a.eval y=.slice A m c) (hm:m=news.length) (hs:BytesAt w A news) (hL:L=l++news) (hlen:L.length≤100000000)
  (hK:∀(s':Sl) w',dF T W w' s' L→lh w s w'→mM w s s'→wpList P ops Q rest (a.put o.dst (.slice s'.a L.length s'.cap)) w'):wpList P ops Q (o::rest) a w:=by
 subst hn hm hL
 rw[List.length_append]at hlen hK
 have hl:((dZ l).length+(dZ news).length)*(b+1)≤140737488355328:=by
  rw[fP,fP]
  have:=Nat.mul_le_mul hlen (show b+1≤9 by omega)
  omega
 exact gI hgd x y t ho he hx (fP l).symm h.own hy (fP news).symm hs.src hl h.b.size fun s' w' h1 h2 h3=>hK s' w' (h.app h1 h2) (lh.grown h2) fun g hg=>h3.imp id fun e=>by rw[e]at hg;cases hg;exact Nat.le_refl _
theorem amD{P:Program}{ops:Array Oper}{rest:List Oper}{o:Oper}{a:Act}{w:World}{Q:Exit→Act→World→Prop}(hgd:o.guard=Option.none)(x y:Operand)(t:TypeId)(ho:o.op=.call {callee:=.builtin .append,args:=#[x,y],argTypes:=#[t,t]})
  {T:TypeId} {b:Nat} (he:gp P t T 1 b) (hb:b≤8) {W:World} {s:Sl} {l L:List UInt8} (h:dF T W w s l) {n:Nat} (hx:a.eval x=.slice s.a n s.cap) (hn:n=l.length) {A:Option Addr} {news:List UInt8} {m c:Nat}
  (hy:a.eval y=.slice A m c) (hm:m=news.length) (hs:BytesAt w A news) (hL:L=l++news) (hlen:L.length≤100000000)
  (hK:∀(s':Sl) w',dF T W w' s' L→w.grownBy w' s.blk→wpList P ops Q rest (a.put o.dst (.slice s'.a L.length s'.cap)) w'):wpList P ops Q (o::rest) a w:=by
 subst hn hm hL
 rw[List.length_append]at hlen hK
 have hl:((dZ l).length+(dZ news).length)*(b+1)≤140737488355328:=by
  rw[fP,fP]
  have:=Nat.mul_le_mul hlen (show b+1≤9 by omega)
  omega
 exact gI hgd x y t ho he hx (fP l).symm h.own hy (fP news).symm hs.src hl h.b.size fun s' w' h1 h2 _=>hK s' w' (h.app h1 h2) h2
theorem YL(l:List UInt8):flat (dZ l)=l.map fun c=>Value.int .u8 c.toNat:=by
 unfold flat dZ
 induction l with
 |nil=>rfl
 |cons a l ih=>simp only[List.map_cons,List.flatMap_cons,ih];rfl
theorem OG{P:Program}{ops:Array Oper}{rest:List Oper}{o:Oper}{a:Act}{w:World}{Q:Exit→Act→World→Prop}(hgd:o.guard=Option.none)(x y:Operand)(t u:TypeId)(ho:o.op=.call {callee:=.builtin .append,args:=#[x,y],argTypes:=#[t,u]})
  {T:TypeId} {i:TypeInfo} (ht:P.underlying t=some (.slice T)) (hu:P.underlying u=some .string) (hi:P.info? T=some i) (hz:i.zero=some (.int .u8 0)) (hsz:i.size=1) (hby:i.bytes=1)
  {W:World} {s:Sl} {l L:List UInt8} (h:dF T W w s l) {n:Nat} (hx:a.eval x=.slice s.a n s.cap) (hn:n=l.length) {str:ByteArray} (hy:a.eval y=.string str) (hL:L=l++str.data.toList) (hlen:L.length≤100000000)
  (hK:∀(s':Sl) w',dF T W w' s' L→lh w s w'→mM w s s'→wpList P ops Q rest (a.put o.dst (.slice s'.a L.length s'.cap)) w'):wpList P ops Q (o::rest) a w:=by
 subst hn hL
 have hsl:str.data.toList.length=str.size:=by simp
 rw[List.length_append,hsl]at hlen hK
 have hown:w.ownsRow W.heap.size T 1 (.slice s.a l.length s.cap) l.length (flat (dZ l)):=by have:=h.own.own;rwa[fP]at this
 obtain⟨v',w',hr,h1,h2,h3⟩:=Lib.run_append_own_string (P:=P) w W.heap.size t u o.type T i ht hu hi hz hsz hby (.slice s.a l.length s.cap) l.length (flat (dZ l)) hown str (by unfold maxLen;omega) (by omega) h.b.size
 rw[yt]at h2
 have hform:∃s':Sl,v'=.slice s'.a (l.length+str.size) s'.cap:=by
  rcases h1.2 with⟨hv,hn⟩|⟨g,cap,cur,hv,_⟩
  ·exact⟨⟨none,0⟩,by rw[hv,hn]⟩
  ·exact⟨⟨some ⟨g,0,none⟩,cap⟩,hv⟩
 obtain⟨s',rfl⟩:=hform
 have hrows:flat (dZ l)++Lib.strCells str=flat (dZ (l++str.data.toList)):=by
  rw[YL,YL,List.map_append]
  simp[Lib.strCells]
 have hO:Own w' W.heap.size T 1 s' (dZ (l++str.data.toList)):=⟨by rw[fP,List.length_append,hsl,←hrows];exact h1,fun r hr=>by
  simp only[dZ,List.mem_map]at hr
  obtain⟨c,-,rfl⟩:=hr
  rfl⟩
 have amE:mM w s s':=amB ht hu hi hz hsz hby hown (by omega) h3 hr
 refine wpList_plain hgd fun _ hK'=>?_
 unfold Oper.wp execOp
 simp only[ho,resolve,invoke,builtin,Sem.run_bind,Sem.run_pure,Result.andThen_ok,List.map_toArray,List.map_cons,List.map_nil,hx,hy,hr]
 exact hK' _ _ (hK s' w' ⟨h.b.grown h2 h.b.size (fun _ e=>(h.own.base e).1),hO⟩ (lh.grown h2) amE)
end Go.WW
namespace Go.Proofs.YtfieenjdcpjmgaaGreatDoor
open Go.RowKit Go.WW
theorem Ew(v n:Nat)(w:World)(hn:n≤8):Calls Tryz.prog 50 #[.int .i64 v,.int .i64 n] w (bI w (bM v n)):=by
 have hlen:=iy n v
 go_enter Tryz.func50,Tryz.ntmps50
 go_wp2_with fail
 go_loopw [5,6] (fun bv iv wr=>∃(k:Nat) (sb:Sl),k≤n∧iv=.int .i64 ((n:Int)-1-k)∧bv=.slice sb.a k sb.cap∧dF 5 w wr sb ((bM v n).take k)) (fun _ i _=>(intOf i+1).toNat)
 case atStart=>exact⟨0,⟨none,0⟩,Nat.zero_le _,by simp,rfl,dF.none _ (Below.refl _ _)⟩
 case round=>
  obtain⟨k,sb,hk,rfl,rfl,hR⟩:=hrel
  obtain⟨M,hM⟩:∃M,M=(bM v n).take k:=⟨_,rfl⟩
  have lS:=Lib.hid (show k=M.length by rw[hM,List.length_take];omega)
  rw[←hM]at hR
  by_cases hlt:k<n
  ·obtain⟨M',hM'⟩:∃M',M'=(bM v n).take (k+1):=⟨_,rfl⟩
   obtain⟨c,hc⟩:∃c,c=UInt8.ofNat (v / 256 ^ (n-1-k)):=⟨_,rfl⟩
   obtain⟨j,hj⟩:∃j:Nat,j=n-1-k:=⟨_,rfl⟩
   have hij:(n:Int)-1-k=j:=by omega
   have HA:=Lib.hid (show M'=M++[c] by rw[hM',hM,hc,List.take_add_one,Em _ _ _ hlt];rfl)
   have xN:=Lib.hid (show M'.length=k+1 by rw[hM',List.length_take];omega)
   have uD:=Lib.hid hM'
   rw[hij]
   rw[←hj]at hc
   have HJ:=Lib.hid hj
   have YH:j<8:=by omega
   clear hM hM' hj hij
   go_wp2_with (at_builtin;refine iU (L:=M') rfl _ _ _ rfl eF b8 (hR.later (aj (Below.refl _ _) _)) rfl lS.out (m:=1) rfl rfl (BytesAt.lit _ [c] (by simp) (by rw[YC,hc];rfl) (by simp[lim])) HA.out (by rw[xN.out];omega) ?_;intro s3 w3 dh)
   go_roundw
   case rel=>exact⟨k+1,s3,by omega,by have:=HJ.out;go_num,by rw[xN.out],by rw[←uD.out];exact dh⟩
   case measure=>simp[intOf]
  ·obtain rfl:k=n:=by omega
   have HE:=Lib.hid (show M=bM v k by rw[hM,List.take_of_length_le (by omega)])
   have HL:=Lib.hid (show(bM v k).length=k from hlen)
   clear hM hlen
   go_wp2_with fail
   go_ret
   rw[←HE.out]
   have:=hR.Eu (by rw[←lS.out];unfold lim;omega)
   rw[←lS.out]at this
   exact this
theorem IU(W w:World)(sb:Sl)(l:List UInt8)(v n:Nat)(h:dF 5 W w sb l)(hn:n≤8)(hl:l.length≤90000000):Calls Tryz.prog 58 #[.slice sb.a l.length sb.cap,.int .u64 v,.int .i64 n] w (YK 5 W w sb (l++bM v n)):=by
 have hlen:=iy n v
 have hnl:n≤8∧l.length≤90000000:=⟨hn,hl⟩
 have HNL:=Lib.hid hnl
 clear hnl
 go_enter Tryz.func58,Tryz.ntmps58
 go_wp2_with fail
 go_loopw [0,7] (fun bv iv wr=>∃(k:Nat) (sc:Sl),k≤n∧iv=.int .i64 ((n:Int)-1-k)∧bv=.slice sc.a (l.length+k) sc.cap∧dF 5 W wr sc (l++(bM v n).take k)∧Hid (lh w sb wr)∧Hid (mM w sb sc)) (fun _ i _=>(intOf i+1).toNat)
 case atStart=>exact⟨0,sb,Nat.zero_le _,by simp,rfl,by simpa using h,lh.refl _ _,mM.refl _ _⟩
 case round=>
  obtain⟨k,sc,hk,rfl,rfl,hR,OH,OI⟩:=hrel
  obtain⟨M,hM⟩:∃M,M=l++(bM v n).take k:=⟨_,rfl⟩
  have lS:=Lib.hid (show l.length+k=M.length by rw[hM,List.length_append,List.length_take];omega)
  rw[←hM]at hR
  by_cases hlt:k<n
  ·obtain⟨M',hM'⟩:∃M',M'=l++(bM v n).take (k+1):=⟨_,rfl⟩
   obtain⟨c,hc⟩:∃c,c=UInt8.ofNat (v / 256 ^ (n-1-k)):=⟨_,rfl⟩
   obtain⟨j,hj⟩:∃j:Nat,j=n-1-k:=⟨_,rfl⟩
   have hij:(n:Int)-1-k=j:=by omega
   have HA:=Lib.hid (show M'=M++[c] by rw[hM',hM,hc,List.take_add_one,Em _ _ _ hlt,List.append_assoc];rfl)
   have xN:=Lib.hid (show M'.length=l.length+(k+1) by rw[hM',List.length_append,List.length_take];omega)
   have uD:=Lib.hid hM'
   rw[hij]
   rw[←hj]at hc
   have HJ:=Lib.hid hj
   have YH:j<8:=by omega
   clear hM hM' hj hij
   go_wp2_with (at_builtin;refine amC (L:=M') rfl _ _ _ rfl eF b8 (hR.later (aj (Below.refl _ _) _)) rfl lS.out (m:=1) rfl rfl (BytesAt.lit _ [c] (by simp) (by rw[YB,hc];rfl) (by simp[lim])) HA.out (by have:=HNL.out;rw[xN.out];omega) ?_;intro s3 w3 dh zG hN3)
   go_roundw
   case rel=>exact⟨k+1,s3,by omega,by have:=HJ.out;go_num,by rw[xN.out],by rw[←uD.out];exact dh,(OH.out.later (aj (Below.refl _ _) _)).trans OI.out zG,OI.out.trans (Nat.le_trans OH.out.size (aj (Below.refl _ _) _).size) hN3⟩
   case measure=>simp[intOf]
  ·obtain rfl:k=n:=by omega
   have HE:=Lib.hid (show M=l++bM v k by rw[hM,List.take_of_length_le (by omega)])
   clear hM hlen
   go_wp2_with fail
   go_ret
   rw[←HE.out]
   exact⟨sc,by rw[←lS.out];rfl,hR,OH.out,OI.out⟩
theorem OJ(W w:World)(sb:Sl)(l:List UInt8)(s:ByteArray)(n:Nat)(h:dF 5 W w sb l)(hn:n≤8)(hl:l.length≤80000000)(hs:s.size≤10000000):Calls Tryz.prog 57 #[.slice sb.a l.length sb.cap,.string s,.int .i64 n] w (YK 5 W w sb (l++(bM s.size n++s.data.toList))):=by
 have HC:=Lib.hid (IU W w sb l s.size n h hn (by omega))
 have HL:=Lib.hid (show(l++bM s.size n).length≤80000008 by rw[List.length_append,iy];omega)
 have HS:=Lib.hid (show s.data.toList.length=s.size by simp)
 have OL:=Lib.hid hs
 have hs':s.size<18446744073709551616:=by omega
 obtain⟨N,hN⟩:∃N,N=l++bM s.size n:=⟨_,rfl⟩
 rw[←List.append_assoc]
 rw[←hN]at HC HL ⊢
 clear hN hn hl hs
 go_enter Tryz.func57,Tryz.ntmps57
 go_wp2_with fail
 refine HC.out.mono ?_
 rintro e w2 ⟨s2,rfl,hR2,hT2,YM⟩
 go_wp2_with (at_builtin;refine OG (L:=N++s.data.toList) rfl _ _ _ _ rfl Tryz.underlying61 Tryz.underlying9 (i:=(Tryz.prog.info? 5).get (by kernel_rfl)) (by kernel_rfl) (by kernel_rfl) (by kernel_rfl) (by kernel_rfl) hR2 rfl rfl rfl rfl (by have h1:=HL.out;have h2:=OL.out;have h3:=HS.out;rw[List.length_append,h3];omega) ?_;intro s3 w3 dh zG hN3)
 go_ret
 exact⟨s3,by rw[List.length_append,HS.out];rfl,dh,hT2.trans YM zG,YM.trans hT2.size hN3⟩
end Go.Proofs.YtfieenjdcpjmgaaGreatDoor
namespace Go.WW
open Go.RowKit
theorem amG{l:List (List UInt8)}{k:Nat}(h:k<l.length){M:List UInt8}(hM:M=(l.take k).flatten):(l.take (k+1)).flatten=M++l[k]:=by rw[xM h,hM]
def RH(l:List (List UInt8))(x:World)(i:Nat)(cs:Array Value):Prop:=∃v,cs=#[v]∧∃p,∃s:Sl,l[i]?=some p∧v=.slice s.a p.length s.cap∧BytesAt x s.a p
structure iC(T:TypeId)(W wr:World)(so:Sl)(l:List (List UInt8)):Prop where
 b:Below W.heap.size W wr
 c:∃rows:List (Array Value),rows.length=l.length∧jW T 1 (RH l) wr W.heap.size so rows
theorem iC.none(T:TypeId){W wr:World}(h:Below W.heap.size W wr):iC T W wr ⟨Option.none,0⟩ []:=⟨h,[],rfl,jW.nil T 1 (RH []) W W.heap.size |> fun c=>⟨Own.nil _ _ _ _,fun i hi=>by simp at hi⟩⟩
theorem RH.more{l:List (List UInt8)}{x:World}{i:Nat}{cs:Array Value}(p:List UInt8)(h:RH l x i cs):RH (l++[p]) x i cs:=by
 obtain⟨v,h1,q,s,h2,h3⟩:=h
 have hi:i<l.length:=(List.getElem?_eq_some_iff.1 h2).1
 exact⟨v,h1,q,s,by rw[List.getElem?_append_left hi];exact h2,h3⟩
theorem iC.kept{T:TypeId}{W wr w':World}{so:Sl}{l:List (List UInt8)}(h:iC T W wr so l)(hb:Below wr.heap.size wr w'):iC T W w' so l:=by
 obtain⟨rows,h1,h2⟩:=h.c
 refine⟨ag h.b hb,rows,h1,h2.own.kept fun g hg=>hb.block g (h2.own.base hg).2,fun i hi=>(h2.each i hi).to (fun k hk=>hb.block k hk.2.1) (fun k hk=>⟨hk.1,Nat.lt_of_lt_of_le hk.2.1 hb.size,hk.2.2⟩)⟩
theorem iC.hist{T:TypeId}{W wr:World}{so:Sl}{l:List (List UInt8)}(h:iC T W wr so l)(hl:l.length≤lim):bH wr (fresh W.heap.size wr) (fun x=>fK x so.a l):=by
 obtain⟨rows,h1,h2⟩:=h.c
 exact fun x hx=>dY.eG (h2.own.fresh hx) h1 hl (fun i hi=>(h2.each i hi) x (fun k hk=>hx k ⟨hk.1,hk.2.1⟩))
theorem sF{P:Program}{ops:Array Oper}{rest:List Oper}{o:Oper}{a:Act}{w2:World}{Q:Exit→Act→World→Prop}(hgd:o.guard=Option.none)(x y:Operand)(t:TypeId)(ho:o.op=.call {callee:=.builtin .append,args:=#[x,y],argTypes:=#[t,t]})
  {T T':TypeId} (he:gp P t T 1 24) {W wr:World} {s s':Sl} {l L:List (List UInt8)} {p:List UInt8} (h:iC T W wr s l) (hb:Below wr.heap.size wr w2) (hd:bH w2 (fresh wr.heap.size w2) (fun x=>BytesAt x s'.a p))
  {n:Nat} (hx:a.eval x=.slice s.a n s.cap) (hn:n=l.length) {k c:Nat} (hy:a.eval y=.slice (some ⟨k,0,Option.none⟩) 1 c) (hk:k=w2.heap.size) (hL:L=l++[p]) (hlen:L.length≤1000000)
  (hK:∀(s3:Sl) w3,iC T W w3 s3 L→wpList P ops Q rest (a.put o.dst (.slice s3.a L.length s3.cap)) w3):wpList P ops Q (o::rest) a (w2.alloc (.cells #[.slice s'.a p.length s'.cap] T')):=by
 subst hn hk hL
 obtain⟨rows,hr,hC⟩:=h.c
 rw[List.length_append,List.length_singleton]at hlen hK
 have hown:=hC.carry hb (.cells #[.slice s'.a p.length s'.cap] T')
 refine gI hgd x y t ho he hx hr.symm hown hy rfl (cZ.new w2 #[.slice s'.a p.length s'.cap] T' 1 (by simp) (by simp[dJ,Value.oneCell'])) (by rw[hr];simp;omega) (by have h1:=h.b.size;have h2:=hb.size;simp;omega) ?_
 intro s3 w3 hown3 hg3 gJ
 refine hK s3 w3 ⟨?_,_,?_,jW.step (R:=RH (l++[p])) ⟨hC.own,fun i hi=>?_⟩ (Below.refl _ _) hb (o:=.cells #[.slice s'.a p.length s'.cap] T') (fun x hx=>⟨_,rfl,p,s',by rw[hr];simp,rfl,hd x hx⟩) hown3 hg3 gJ h.b.size⟩
 ·exact Dj hC h.b (Below.refl _ _) hb hg3
 ·simp[hr]
 ·exact fun x hx=>(hC.each i hi x hx).more p
theorem fK.lit{w:World}{k:Nat}(items:List (Sl×List UInt8)){cs:Array Value}{t:TypeId}(hk:k=w.heap.size)(hcs:cs=(items.map fun x=>Value.slice x.1.a x.2.length x.1.cap).toArray)(hb:∀x∈items,BytesAt w x.1.a x.2)(hl:items.length≤lim) :
  fK (w.alloc (.cells cs t)) (some ⟨k,0,Option.none⟩) (items.map (·.2)):=by
 subst hk hcs
 refine⟨by simpa using hl,fun i hi=>?_⟩
 have hi':i<items.length:=by simpa using hi
 refine⟨w.heap.size,0,.slice items[i].1.a items[i].2.length items[i].1.cap,rfl,?_,items[i].2,items[i].1,by simp[hi'],rfl,(hb _ (List.getElem_mem hi')).later (aj (Below.refl _ _) _)⟩
 rw[cell_of_row _ _ _ _ _ _ (World.alloc_heap_new _ _)]
 simp[hi']
structure Ps(W w:World)(items:List (Sl×List UInt8)):Prop where
 b:Below W.heap.size W w
 at_:∀x∈items,BytesAt w x.1.a x.2
theorem Ps.mid{W w w':World}{items:List (Sl×List UInt8)}(h:Ps W w items)(hb:Below w.heap.size w w'):Ps W w' items:=⟨ag h.b hb,fun x hx=>(h.at_ x hx).later hb⟩
theorem Ps.add{W w w':World}{items:List (Sl×List UInt8)}(h:Ps W w items)(hb:Below w.heap.size w w'){s:Sl}{l:List UInt8}(hB:BytesAt w' s.a l):Ps W w' (items++[(s,l)]):=
 ⟨ag h.b hb,fun x hx=>by
  rcases List.mem_append.1 hx with hx|hx
  ·exact(h.at_ x hx).later hb
  ·simp only[List.mem_cons,List.not_mem_nil,or_false]at hx;subst hx;exact hB⟩
end Go.WW
namespace Go.Proofs.YtfieenjdcpjmgaaGreatDoor
open Go.RowKit Go.WW
theorem uF(a:Option Addr)(cap:Nat)(l:List (List UInt8))(w:World)(h:fK w a l)(hn:l.flatten.length≤1000000):Calls Tryz.prog 86 #[.slice a l.length cap] w (bI w (dR l)):=by
 have hpl:l.length≤4294967000:=h.1
 have HS:=Lib.hid (show dR l=tlv 48 l.flatten from rfl)
 rw[HS.out]
 rcases dY.addr h with h0|⟨b,o,rfl,hb⟩
 ·obtain rfl:l=[]:=List.eq_nil_of_length_eq_zero h0
  go_enter Tryz.func86,Tryz.ntmps86
  go_wp2_with fail
  refine wp_loop_rounds 1 ?_
  rw[rounds_succ]
  go_wp2_with fail
  refine(vO 48 48 _ 0 [] _ rfl (by exact⟨by simp[lim],fun i hi=>by simp at hi⟩) (by simp)).mono ?_
  rintro e w4 ⟨s4,rfl,hb4,hB4⟩
  go_wp2_with fail
  go_ret
  exact⟨s4,rfl,hb4,hB4⟩
 ·go_enter Tryz.func86,Tryz.ntmps86
  go_wp2_with fail
  go_loopw [3,4] (fun bv iv wr=>∃(k:Nat) (sb:Sl) (M:List UInt8),k≤l.length∧iv=.int .i64 k∧bv=.slice sb.a M.length sb.cap∧dF 5 w wr sb M∧Hid (M=(l.take k).flatten)) (fun _ i _=>l.length-(intOf i).toNat)
  case atStart=>exact⟨0,⟨none,0⟩,[],Nat.zero_le _,rfl,rfl,dF.none _ (Below.refl _ _),rfl⟩
  case round=>
   obtain⟨k,sb,M,hk,rfl,rfl,hR,HM⟩:=hrel
   by_cases hlt:k<l.length
   ·obtain⟨s,hc,hbk⟩:=(h.later hR.b).at k hlt
    obtain⟨M',hM'⟩:∃M',M'=(l.take (k+1)).flatten:=⟨_,rfl⟩
    have HA:=Lib.hid (show M'=M++l[k] by rw[hM',amG hlt HM.out])
    have Bz:M'.length≤100000000:=by have:=zC l (k+1);rw[hM'];omega
    have uD:=Lib.hid hM'
    clear hM'
    go_wp2_with (at_builtin;refine iU (L:=M') rfl _ _ _ rfl eF b8 hR rfl rfl rfl rfl hbk HA.out Bz ?_;intro s3 w3 dh)
    go_roundw
    case rel=>exact⟨k+1,s3,M',by omega,by go_num,rfl,dh,uD.out⟩
    case measure=>simp[intOf];omega
   ·have HE:=Lib.hid (show M=l.flatten by rw[HM.out,List.take_of_length_le (by omega)])
    rw[←HE.out]at hn ⊢
    have vP:=hR.bytes (by unfold lim;omega)
    go_wp2_with fail
    refine(vO 48 48 _ _ M _ rfl vP hn).mono ?_
    intro e w4 h4
    obtain⟨s4,rfl,hb4,hB4⟩:=bI.from h4 hR.b
    clear hR vP
    go_wp2_with fail
    go_ret
    rw[←HE.out]
    exact⟨s4,rfl,hb4,hB4⟩
theorem amH(v:Nat)(w:World):Calls Tryz.prog 90 #[.int .i64 v] w (bI w (uB v)):=by
 have hl:=iy 4 v
 obtain⟨D,hD⟩:∃D,D=bM v 4:=⟨_,rfl⟩
 have HT:=Lib.hid (show uB v=tlv 3 ([0]++D) by rw[hD];rfl)
 rw[HT.out]
 obtain⟨M,hM⟩:∃M,M=[0]++D:=⟨_,rfl⟩
 have HM:=Lib.hid hM
 have Bz:M.length≤5:=by rw[hM,hD];simp[hl]
 rw[←hM]
 have HD:=Lib.hid hD
 have hR0:=dF.lit (T:=5) (Below.refl _ w) [0] (cs:=#[.int .u8 0]) rfl (by simp)
 clear hM hD hl
 go_enter Tryz.func90,Tryz.ntmps90
 go_wp2_with fail
 refine(YG v 4 _ (by decide)).mono ?_
 rw[←HD.out]
 intro e w1 h1
 obtain⟨s1,rfl,hb1,hB1⟩:=h1
 go_wp2_with (at_builtin;refine iU (L:=M) rfl _ _ _ rfl eF b8 (hR0.later hb1) (n:=1) rfl rfl rfl rfl hB1.out HM.out (by omega) ?_;intro s3 w3 dh)
 refine(vO 3 3 _ _ M _ rfl (dh.bytes (by unfold lim;omega)) (by omega)).mono ?_
 intro e w4 h4
 obtain⟨s4,rfl,hb4,hB4⟩:=bI.from h4 dh.b
 clear hR0 dh hB1 hb1
 go_wp2_with fail
 go_ret
 exact⟨s4,rfl,hb4,hB4⟩
theorem YN(s:Sl)(p:az)(w:World)(hp:bn w s p)(hok:bG p=true):Calls Tryz.prog 88 #[.agg (ah s p)] w (bI w (fG p)):=by
 obtain⟨hpn,hps,hpr⟩:=Es hok
 have hp0:0<p.parts.length:=List.length_pos_iff.2 (tu hok)
 have hB0:Below w.heap.size w (w.alloc (.cells (ah s p) 40)):=aj (Below.refl _ _) _
 obtain⟨sa,scap⟩:=s
 obtain⟨b,o,ha,-,-⟩:=hp.1.get 0 hp0
 dsimp only at ha
 subst ha
 have hpL:=(hp.later hB0).1
 have HS:=Lib.hid hps
 have hcR:(w.alloc (.cells (ah ⟨some ⟨b,o,none⟩,scap⟩ p) 40)).cell? ⟨w.heap.size,1,none⟩=some (.string p.aG):=by simp[go_sem]
 have hrow:row? (w.alloc (.cells (ah ⟨some ⟨b,o,none⟩,scap⟩ p) 40)) w.heap.size 0 2=some (ah ⟨some ⟨b,o,none⟩,scap⟩ p):=aa6 rfl (by simp[ah])
 go_enter Tryz.func88,Tryz.ntmps88
 go_wp2_with fail
 have hW:w.heap.size<(w.alloc (.cells (ah ⟨some ⟨b,o,none⟩,scap⟩ p) 40)).heap.size:=by simp
 have hc0:(w.alloc (.cells (ah ⟨some ⟨b,o,none⟩,scap⟩ p) 40)).cell? ⟨w.heap.size,0,none⟩=some (.slice (some ⟨b,o,none⟩) p.parts.length scap):=by simp[go_sem]
 generalize w.alloc (.cells (ah ⟨some ⟨b,o,none⟩,scap⟩ p) 40)=W0 at *
 go_loopw [3,4] (fun bv iv wr=>∃(k:Nat) (so:Sl) (L:List (List UInt8)),k≤p.parts.length∧iv=.int .i64 k∧bv=.slice so.a L.length so.cap∧iC 61 W0 wr so L∧Hid (L=(p.parts.take k).map fC)) (fun _ i _=>p.parts.length-(intOf i).toNat)
 case atStart=>exact⟨0,⟨none,0⟩,[],Nat.zero_le _,rfl,rfl,iC.none _ (Below.refl _ _),rfl⟩
 case round=>
  obtain⟨k,so,L,hk,rfl,rfl,hH,HL⟩:=hrel
  obtain⟨hcc,aT,hrr⟩:=bg hH.b
  have BA:L.length=k:=by rw[HL.out];simp;omega
  have IV:=Lib.hid BA
  have hw0:wr.cell? ⟨w.heap.size,0,none⟩=some (.slice (some ⟨b,o,none⟩) p.parts.length scap):=(hcc _ _ hW).trans hc0
  have hw1:wr.cell? ⟨w.heap.size,1,none⟩=some (.string p.aG):=(hcc _ _ hW).trans hcR
  have hwl:w.heap.size<wr.heap.size:=World.block_lt_of_cell? wr _ hw1
  clear BA hcc aT hrr
  by_cases hlt:k<p.parts.length
  ·obtain⟨hck,hsk⟩:=(hpL.later hH.b).at k hlt
   have hbb:b<wr.heap.size:=World.block_lt_of_cell? wr _ hck
   have hsz:p.parts[k].size≤32:=HS.out _ (List.getElem_mem hlt)
   obtain⟨L',hL'⟩:∃L',L'=(p.parts.take (k+1)).map fC:=⟨_,rfl⟩
   obtain⟨x,hx⟩:∃x,x=fC p.parts[k]:=⟨_,rfl⟩
   have HA:=Lib.hid (show L'=L++[x] by rw[hL',HL.out,hx,List.take_succ_eq_append_getElem hlt,List.map_append];rfl)
   have hLn:L'.length≤1000000:=by rw[hL',List.length_map,List.length_take];omega
   have kE:=Lib.hid hL'
   have HX:=Lib.hid hx
   clear hL' hx
   go_wp2_with fail
   refine(IQ _ _ (Nat.le_trans hsz (by decide))).mono ?_
   rw[←HX.out]
   rintro e w2 ⟨s2,rfl,hb2,hd2⟩
   go_wp2_with (at_builtin;refine sF (L:=L') rfl _ _ _ rfl qh hH hb2 hd2 rfl rfl rfl rfl HA.out hLn ?_;intro s3 w3 hH3)
   go_roundw
   case rel=>exact⟨k+1,s3,L',by omega,by go_num,rfl,hH3,kE.out⟩
   case measure=>simp[intOf];omega
  ·have HE:=Lib.hid (show L=p.parts.map fC by rw[HL.out,List.take_of_length_le (by omega)])
   have hh:=hH.hist (by unfold lim;rw[IV.out];omega)
   have hfl:=Ot hok
   rw[←HE.out]at hfl
   have hT1:(dR L).length≤1000000:=by have:=uC L;omega
   have hT2:(fC p.aG).length≤1000000:=by have:=Ep p.aG;omega
   have zG:[bT 0 (dR L),bT 1 (fC p.aG)].flatten.length≤1000000:=by
    have h1:=Ou hok
    rw[←HE.out]at h1
    simp only[dX]at h1
    exact Nat.le_trans h1 (by decide)
   go_wp2_with fail
   refine pW (Below.refl _ wr) (by kernel_rfl) (by kernel_rfl) ?_
   intro w1 hb1
   repeat (first|(refine ax (by rfl) ?_)|(refine aI (by rfl) (by rfl) (fun K hK=>?_);go_big_quiet_op;refine hK _ ?_;clear hK K))
   refine aK (by rfl) (by rfl) (fun K hK=>?_)
   go_wp2_with fail
   refine(uF _ _ L _ (hh.out.later hb1) (by omega)).mono ?_
   rintro e w2 ⟨s2,rfl,hb2,hd2⟩
   have hb2':=ag hb1 hb2
   refine hK _ _ (aA hb2') ?_
   clear hK K
   repeat (first|(refine ax (by rfl) ?_)|(refine aI (by rfl) (by rfl) (fun K hK=>?_);go_big_quiet_op;refine hK _ ?_;clear hK K))
   refine aK (by rfl) (by rfl) (fun K hK=>?_)
   go_wp2_with fail
   refine(jk 0 0 _ _ (dR L) _ rfl (by decide) hd2.out hT1).mono ?_
   rintro e w3 ⟨s3,rfl,hb3,hd3⟩
   have tZ:=ag hb2' hb3
   refine hK _ _ (aA tZ) ?_
   clear hK K
   repeat (first|(refine ax (by rfl) ?_)|(refine aI (by rfl) (by rfl) (fun K hK=>?_);go_big_quiet_op;refine hK _ ?_;clear hK K))
   refine aK (by rfl) (by rfl) (fun K hK=>?_)
   go_wp2_with fail
   refine(IQ _ _ (Nat.le_trans hpr (by decide))).mono ?_
   rintro e w4 ⟨s4,rfl,hb4,hd4⟩
   have jZ:=ag tZ hb4
   refine hK _ _ (aA jZ) ?_
   clear hK K
   repeat (first|(refine ax (by rfl) ?_)|(refine aI (by rfl) (by rfl) (fun K hK=>?_);go_big_quiet_op;refine hK _ ?_;clear hK K))
   refine aK (by rfl) (by rfl) (fun K hK=>?_)
   go_wp2_with fail
   refine(jk 1 1 _ _ (fC p.aG) _ rfl (by decide) hd4.out hT2).mono ?_
   rintro e w5 ⟨s5,rfl,hb5,hd5⟩
   have jr:=ag jZ hb5
   refine hK _ _ (aA jr) ?_
   clear hK K
   repeat (first|(refine ax (by rfl) ?_)|(refine aI (by rfl) (by rfl) (fun K hK=>?_);go_big_quiet_op;refine hK _ ?_;clear hK K))
   refine aK (by rfl) (by rfl) (fun K hK=>?_)
   go_wp2_with fail
   refine hK _ _ (aA (aj jr _)) ?_
   clear hK K
   repeat (first|(refine ax (by rfl) ?_)|(refine aI (by rfl) (by rfl) (fun K hK=>?_);go_big_quiet_op;refine hK _ ?_;clear hK K))
   refine aK (by rfl) (by rfl) (fun K hK=>?_)
   go_wp2_with fail
   refine(uF _ _ [bT 0 (dR L),bT 1 (fC p.aG)] _ (fK.lit [(s3,bT 0 (dR L)),(s5,bT 1 (fC p.aG))] rfl rfl (fun x hx=>?_) (by simp[lim])) zG).mono ?_
   ·simp only[List.mem_cons,List.not_mem_nil,or_false]at hx
    rcases hx with rfl|rfl
    ·exact(hd3.out.later hb4).later hb5
    ·exact hd5.out
   rintro e w6 ⟨s6,rfl,hb6,hd6⟩
   have lJ:=ag (aj jr _) hb6
   have HB:=Lib.hid (bI.from (W:=w) ⟨s6,rfl,hb6,hd6⟩ (ag (ag hB0 hH.b) (aj jr _)))
   have HP:=Lib.hid (show fG p=dR [bT 0 (dR L),bT 1 (fC p.aG)] by rw[HE.out];rfl)
   clear hb2 hd2 hb3 hd3 hb4 hd4 hb5 hd5 hb6 hd6 hH hh
   refine hK _ _ (aA lJ) ?_
   clear hK K
   repeat (first|(refine ax (by rfl) ?_)|(refine aI (by rfl) (by rfl) (fun K hK=>?_);go_big_quiet_op;refine hK _ ?_;clear hK K))
   refine bV ?_
   go_wp2_with fail
   go_ret
   rw[HP.out]
   exact HB.out
end Go.Proofs.YtfieenjdcpjmgaaGreatDoor
namespace Go.WW
open Go.RowKit
end Go.WW
namespace Go.Proofs.YtfieenjdcpjmgaaGreatDoor
open Go.RowKit Go.WW
theorem Ey(v:Int)(w:World)(h0:0≤v)(hv:v<4611686018427387904):Calls Tryz.prog 148 #[.int .i64 v] w (bI w (fB v.toNat)):=by
 have:=amx v.toNat w (by omega)
 rwa[Int.toNat_of_nonneg h0]at this
theorem YO(v:Int)(w:World)(h0:0≤v):Calls Tryz.prog 149 #[.int .i64 v] w (bI w (lQ v.toNat)):=by
 have:=amz v.toNat w
 rwa[Int.toNat_of_nonneg h0]at this
theorem vS{S:Nat→Prop}(c:Bool)(s:Sl)(l l':List UInt8)(w:World)(h:bH w S fun x=>BytesAt x s.a l)(hl:l'=cond c [] l):Calls Tryz.prog 92 #[.bool c,.slice s.a l.length s.cap] w fun e w'=>∃s':Sl,e=.returned (.slice s'.a l'.length s'.cap)∧w=w'∧bH w S fun x=>BytesAt x s'.a l':=by
 refine(amA c _ w).mono ?_
 rintro e w' ⟨rfl,rfl⟩
 cases c
 ·subst hl;exact⟨s,rfl,rfl,h⟩
 ·subst hl;exact⟨⟨none,0⟩,rfl,rfl,fun _ _=>⟨by simp[lim],fun i hi=>by simp at hi⟩⟩
theorem amI(s:Sl)(k:Key)(w:World)(hk:kJ w s k)(hf:zy k):Calls Tryz.prog 147 #[.agg (bZ s k)] w (bI w (iG k)):=by
 have hfl:=Ov hf
 obtain⟨h1,h2,h3⟩:=hf
 have e1:=rZ (v:=k.profile.toNat) (k:=1) (by decide) (by simp;omega)
 have e2:=rZ (v:=k.version.toNat) (k:=3) (by decide) (by simp;omega)
 have e3:=Bq k.bytes
 have hB0:Below w.heap.size w (w.alloc (.cells (bZ s k) 69)):=aj (Below.refl _ _) _
 have ou:BytesAt (w.alloc (.cells (bZ s k) 69)) s.a k.bytes:=BytesAt.later hB0 hk
 have HK:=Lib.hid (show iG k=dR [bT 0 (fB k.profile.toNat),bT 1 (fB k.version.toNat),bT 2 (gy k.bytes)] from rfl)
 simp only[dX]at hfl
 rw[HK.out]
 go_enter Tryz.func147,Tryz.ntmps147
 go_wp2_with fail
 refine pW (Below.refl _ (w.alloc (.cells (bZ s k) 69))) (by kernel_rfl) (by kernel_rfl) ?_
 intro v0 hv0
 have hP0:Ps (w.alloc (.cells (bZ s k) 69)) v0 []:=⟨hv0,by simp⟩
 repeat (first|(refine ax (by rfl) ?_)|(refine aI (by rfl) (by rfl) (fun K hK=>?_);go_big_quiet_op;refine hK _ ?_;clear hK K))
 refine aK (by rfl) (by rfl) (fun K hK=>?_)
 go_wp2_with fail
 refine(Ey _ _ h1.1 (by omega)).mono ?_
 rintro e v1 ⟨s1,rfl,hb1,hd1⟩
 have hP1:=hP0.mid hb1
 refine hK _ _ (aA hP1.b) ?_
 clear hK K
 repeat (first|(refine ax (by rfl) ?_)|(refine aI (by rfl) (by rfl) (fun K hK=>?_);go_big_quiet_op;refine hK _ ?_;clear hK K))
 refine aK (by rfl) (by rfl) (fun K hK=>?_)
 go_wp2_with fail
 refine(jk 0 0 _ _ _ _ rfl (by decide) hd1.out (by omega)).mono ?_
 rintro e v2 ⟨s2,rfl,hb2,hd2⟩
 have hP2:=hP1.add hb2 hd2.out
 refine hK _ _ (aA hP2.b) ?_
 clear hK K
 repeat (first|(refine ax (by rfl) ?_)|(refine aI (by rfl) (by rfl) (fun K hK=>?_);go_big_quiet_op;refine hK _ ?_;clear hK K))
 refine aK (by rfl) (by rfl) (fun K hK=>?_)
 go_wp2_with fail
 refine(Ey _ _ h2.1 (by omega)).mono ?_
 rintro e v3 ⟨s3,rfl,hb3,hd3⟩
 have hP3:=hP2.mid hb3
 refine hK _ _ (aA hP3.b) ?_
 clear hK K
 repeat (first|(refine ax (by rfl) ?_)|(refine aI (by rfl) (by rfl) (fun K hK=>?_);go_big_quiet_op;refine hK _ ?_;clear hK K))
 refine aK (by rfl) (by rfl) (fun K hK=>?_)
 go_wp2_with fail
 refine(jk 1 1 _ _ _ _ rfl (by decide) hd3.out (by omega)).mono ?_
 rintro e v4 ⟨s4,rfl,hb4,hd4⟩
 have kF:=hP3.add hb4 hd4.out
 refine hK _ _ (aA kF.b) ?_
 clear hK K
 repeat (first|(refine ax (by rfl) ?_)|(refine aI (by rfl) (by rfl) (fun K hK=>?_);go_big_quiet_op;refine hK _ ?_;clear hK K))
 refine aK (by rfl) (by rfl) (fun K hK=>?_)
 go_wp2_with fail
 refine(YI _ _ k.bytes _ (ou.later kF.b) (by omega)).mono ?_
 rintro e v5 ⟨s5,rfl,hb5,hd5⟩
 have jS:=kF.mid hb5
 refine hK _ _ (aA jS.b) ?_
 clear hK K
 repeat (first|(refine ax (by rfl) ?_)|(refine aI (by rfl) (by rfl) (fun K hK=>?_);go_big_quiet_op;refine hK _ ?_;clear hK K))
 refine aK (by rfl) (by rfl) (fun K hK=>?_)
 go_wp2_with fail
 refine(jk 2 2 _ _ _ _ rfl (by decide) hd5.out (by omega)).mono ?_
 rintro e v6 ⟨s6,rfl,hb6,hd6⟩
 have oL:=jS.add hb6 hd6.out
 refine hK _ _ (aA oL.b) ?_
 clear hK K
 repeat (first|(refine ax (by rfl) ?_)|(refine aI (by rfl) (by rfl) (fun K hK=>?_);go_big_quiet_op;refine hK _ ?_;clear hK K))
 refine aK (by rfl) (by rfl) (fun K hK=>?_)
 go_wp2_with fail
 refine hK _ _ (aA (aj oL.b _)) ?_
 clear hK K
 repeat (first|(refine ax (by rfl) ?_)|(refine aI (by rfl) (by rfl) (fun K hK=>?_);go_big_quiet_op;refine hK _ ?_;clear hK K))
 refine aK (by rfl) (by rfl) (fun K hK=>?_)
 go_wp2_with fail
 refine(uF _ _ [bT 0 (fB k.profile.toNat),bT 1 (fB k.version.toNat),bT 2 (gy k.bytes)] _ (fK.lit _ rfl rfl oL.at_ (by simp[lim])) (Nat.le_trans hfl (by decide))).mono ?_
 rintro e v7 ⟨s7,rfl,hb7,hd7⟩
 have HB:=Lib.hid (bI.from (W:=w) ⟨s7,rfl,hb7,hd7⟩ (ag hB0 (aj oL.b _)))
 have ku:=ag (aj oL.b _) hb7
 clear hP0 hP1 hP2 hP3 kF jS oL hd1 hd2 hd3 hd4 hd5 hd6 hd7 hb1 hb2 hb3 hb4 hb5 hb6 hb7
 refine hK _ _ (aA ku) ?_
 clear hK K
 repeat (first|(refine ax (by rfl) ?_)|(refine aI (by rfl) (by rfl) (fun K hK=>?_);go_big_quiet_op;refine hK _ ?_;clear hK K))
 refine bV ?_
 go_wp2_with fail
 go_ret
 exact HB.out
theorem YP{v:Int}(h0:0≤v):fZ v.toNat=cond (v == 0) [] (fB v.toNat):=by
 unfold fZ
 by_cases h:v=0
 ·subst h;rfl
 ·rw[if_neg (by omega),show(v == 0)=false by simpa using h];rfl
theorem amJ{v:Int}(h0:0≤v):jh v.toNat=cond (v == 0) [] (lQ v.toNat):=by
 unfold jh
 by_cases h:v=0
 ·subst h;rfl
 ·rw[if_neg (by omega),show(v == 0)=false by simpa using h];rfl
theorem IW(v:Int)(w:World)(h0:0≤v)(hv:v<4611686018427387904):Calls Tryz.prog 91 #[.int .i64 v] w (bI w (fZ v.toNat)):=by
 have hc:=Lib.hid (YP h0)
 go_enter Tryz.func91,Tryz.ntmps91
 go_wp2_with fail
 refine(Ey _ _ h0 hv).mono ?_
 rintro e w1 ⟨s1,rfl,hb1,hd1⟩
 go_wp2_with fail
 refine(vS _ s1 _ (fZ v.toNat) _ hd1 hc.out).mono ?_
 rintro e w2 ⟨s2,rfl,rfl,hd2⟩
 go_wp2_with fail
 go_ret
 exact⟨s2,rfl,hb1,hd2⟩
theorem IX(v:Int)(w:World)(h0:0≤v):Calls Tryz.prog 94 #[.int .i64 v] w (bI w (jh v.toNat)):=by
 have hc:=Lib.hid (amJ h0)
 go_enter Tryz.func94,Tryz.ntmps94
 go_wp2_with fail
 refine(YO _ _ h0).mono ?_
 rintro e w1 ⟨s1,rfl,hb1,hd1⟩
 go_wp2_with fail
 refine(vS _ s1 _ (jh v.toNat) _ hd1 hc.out).mono ?_
 rintro e w2 ⟨s2,rfl,rfl,hd2⟩
 go_wp2_with fail
 go_ret
 exact⟨s2,rfl,hb1,hd2⟩
theorem OM(l:List (List UInt8)):dm l=cond ((l.length:Int) == 0) [] (dR l):=by
 unfold dm
 by_cases h:l.length=0
 ·rw[if_pos h,show((l.length:Int) == 0)=true from beq_iff_eq.2 (by omega)];rfl
 ·rw[if_neg h,show((l.length:Int) == 0)=false from beq_eq_false_iff_ne.2 (by omega)];rfl
theorem vT{α β:Type}(f:α→β){l:List α}{k:Nat}(h:k<l.length){L:List β}(hL:L=(l.take k).map f):(l.take (k+1)).map f=L++[f l[k]]:=by
 rw[List.take_succ_eq_append_getElem h,List.map_append,hL];rfl
theorem vU{α β:Type}(f:α→β){l:List α}{k:Nat}(h:¬k<l.length):(l.take k).map f=l.map f:=by rw[List.take_of_length_le (by omega)]
theorem OO(a:Option Addr)(cap:Nat)(l:List az)(w:World)(h:fJ w a l)(hok:(∀p∈l,bG p=true)∧l.length≤16):Calls Tryz.prog 89 #[.slice a l.length cap] w (bI w (dm (l.map fG))):=by
 rcases aX.addr h with h0|⟨b,o,rfl,hb⟩
 ·obtain rfl:l=[]:=List.eq_nil_of_length_eq_zero h0
  go_enter Tryz.func89,Tryz.ntmps89
  go_wp2_with fail
  refine wp_loop_rounds 1 ?_
  rw[rounds_succ]
  go_wp2_with fail
  refine(uF none 0 [] _ ⟨by simp[lim],fun i hi=>by simp at hi⟩ (by simp)).mono ?_
  rintro e w1 ⟨s1,rfl,hb1,hd1⟩
  go_wp2_with fail
  refine(vS _ s1 _ [] _ hd1 rfl).mono ?_
  rintro e w2 ⟨s2,rfl,rfl,hd2⟩
  go_wp2_with fail
  go_ret
  exact⟨s2,rfl,hb1,hd2⟩
 ·have HK:=Lib.hid hok
  have hfl:=map_le (f:=fG) (m:=205) (n:=16) (l:=l) (fun p hp=>IP (hok.1 p hp)) hok.2
  have hn:=hok.2
  clear hok
  go_enter Tryz.func89,Tryz.ntmps89
  go_wp2_with fail
  go_loopw [3,4] (fun bv iv wr=>∃(k:Nat) (so:Sl) (L:List (List UInt8)),k≤l.length∧iv=.int .i64 k∧bv=.slice so.a L.length so.cap∧iC 61 w wr so L∧Hid (L=(l.take k).map fG)) (fun _ i _=>l.length-(intOf i).toNat)
  case atStart=>exact⟨0,⟨none,0⟩,[],Nat.zero_le _,rfl,rfl,iC.none _ (Below.refl _ _),rfl⟩
  case round=>
   obtain⟨k,so,L,hk,rfl,rfl,hH,HL⟩:=hrel
   by_cases hlt:k<l.length
   ·obtain⟨t,hrow,hp⟩:=(h.later hH.b).at k hlt
    obtain⟨L',hL'⟩:∃L',L'=(l.take (k+1)).map fG:=⟨_,rfl⟩
    obtain⟨x,hx⟩:∃x,x=fG l[k]:=⟨_,rfl⟩
    have HA:=Lib.hid (show L'=L++[x] by rw[hL',hx,vT _ hlt HL.out])
    have hLn:L'.length≤1000000:=by rw[hL',List.length_map,List.length_take];omega
    have kE:=Lib.hid hL'
    have HX:=Lib.hid hx
    clear hL' hx
    go_wp2_with fail
    refine(YN t l[k] _ hp (HK.out.1 _ (List.getElem_mem hlt))).mono ?_
    rw[←HX.out]
    rintro e w2 ⟨s2,rfl,hb2,hd2⟩
    go_wp2_with (at_builtin;refine sF (L:=L') rfl _ _ _ rfl qh hH hb2 hd2 rfl rfl rfl rfl HA.out hLn ?_;intro s3 w3 hH3)
    go_roundw
    case rel=>exact⟨k+1,s3,L',by omega,by go_num,rfl,hH3,kE.out⟩
    case measure=>simp[intOf];omega
   ·have HE:=Lib.hid (show L=l.map fG by rw[HL.out,vU _ hlt])
    rw[←HE.out]at hfl ⊢
    have hll:L.length=l.length:=by rw[HE.out,List.length_map]
    have hh:=hH.hist (by unfold lim;omega)
    have HC:=Lib.hid (show dm L=cond ((l.length:Int) == 0) [] (dR L) by rw[←hll];exact OM L)
    clear hll
    go_wp2_with fail
    refine(uF _ _ L _ hh.out (by omega)).mono ?_
    rintro e w2 ⟨s2,rfl,hb2,hd2⟩
    go_wp2_with fail
    refine(vS _ s2 _ (dm L) _ hd2 HC.out).mono ?_
    rintro e w3 ⟨s3,rfl,rfl,hd3⟩
    have HB:=Lib.hid (bI.from (W:=w) ⟨s3,rfl,hb2,hd3⟩ hH.b)
    rw[HE.out]at HB
    clear hH hh hd2 hd3
    go_wp2_with fail
    go_ret
    rw[HE.out]
    exact HB.out
end Go.Proofs.YtfieenjdcpjmgaaGreatDoor
namespace Go.WW
open Go.RowKit
theorem OQ(s:ByteArray):jR s=cond s.toList.isEmpty [] (fC s):=by
 have hl:s.toList.length=s.size:=by rw[ByteArray.toList_eq];simp
 unfold jR
 by_cases h:s.size=0
 ·rw[if_pos h,show s.toList=[] from List.eq_nil_of_length_eq_zero (by omega)];rfl
 ·have hne:s.toList.isEmpty=false:=by
   cases hs:s.toList with
   |nil=>rw[hs]at hl;exact absurd hl.symm h
   |cons a l=>rfl
  rw[if_neg h,hne];rfl
end Go.WW
namespace Go.Proofs.YtfieenjdcpjmgaaGreatDoor
open Go.RowKit Go.WW
theorem amK(s:Sl)(k:bC)(w:World)(hk:jA w s k)(hf:zA k):Calls Tryz.prog 84 #[.agg (bz s k)] w (bI w (ji k)):=by
 have hfl:=Ox hf
 have e1:=rZ (v:=k.version.toNat) (k:=3) (by decide) (by have:=hf.version;simp;omega)
 have e2:=Bv (f:=iG) (m:=295) (n:=4) (l:=k.keys) (fun k hk=>Et (hf.keys k hk)) hf.few.2
 have e2':=map_le (f:=iG) (m:=295) (n:=4) (l:=k.keys) (fun k hk=>Et (hf.keys k hk)) hf.few.2
 have e3:=IM k.di
 have e4:=zx (v:=k.dK.toNat) (k:=3) (by decide) (by have:=hf.dK;simp;omega)
 have e4':=rZ (v:=k.dK.toNat) (k:=3) (by decide) (by have:=hf.dK;simp;omega)
 have e5:=IL k.created.toNat
 obtain⟨f1,f2,f3,f4,f5,f6⟩:=hf
 have c3:=Lib.hid (OQ k.di)
 have c4:=Lib.hid (YP f5.1)
 have HK:=Lib.hid f2
 have hB0:Below w.heap.size w (w.alloc (.cells (bz s k) 67)):=aj (Below.refl _ _) _
 have ou:=kV.later hB0 hk.1
 have hkn:0<k.keys.length:=by omega
 obtain⟨sa,scap⟩:=s
 obtain⟨b,o,t0,ha,-,-⟩:=ou.get 0 hkn
 dsimp only at ha
 subst ha
 have HT:=Lib.hid (show ji k=dR [bT 0 (fB k.version.toNat),bT 1 (dm (k.keys.map iG)),bT 2 (jR k.di),bT 3 (fZ k.dK.toNat),bT 4 (lQ k.created.toNat)] from rfl)
 simp only[dX]at hfl
 rw[HT.out]
 go_enter Tryz.func84,Tryz.ntmps84
 go_wp2_with fail
 go_loopw [3,4] (fun bv iv wr=>∃(n:Nat) (so:Sl) (L:List (List UInt8)),n≤k.keys.length∧iv=.int .i64 n∧bv=.slice so.a L.length so.cap∧iC 61 (w.alloc (.cells (bz ⟨some ⟨b,o,none⟩,scap⟩ k) 67)) wr so L∧Hid (L=(k.keys.take n).map iG)) (fun _ i _=>k.keys.length-(intOf i).toNat)
 case atStart=>exact⟨0,⟨none,0⟩,[],Nat.zero_le _,rfl,rfl,iC.none _ (Below.refl _ _),rfl⟩
 case round=>
  obtain⟨n,so,L,hn,rfl,rfl,hH,HL⟩:=hrel
  obtain⟨hcc,aT,hrr⟩:=bg hH.b
  have hwl:w.heap.size<wr.heap.size:=by have:=hH.b.size;simp at this;omega
  by_cases hlt:n<k.keys.length
  ·obtain⟨t,hrow,hp⟩:=(ou.later hH.b).at n hlt
   have hbb:b<wr.heap.size:=gm hrow
   obtain⟨L',hL'⟩:∃L',L'=(k.keys.take (n+1)).map iG:=⟨_,rfl⟩
   obtain⟨x,hx⟩:∃x,x=iG k.keys[n]:=⟨_,rfl⟩
   have HA:=Lib.hid (show L'=L++[x] by rw[hL',hx,vT _ hlt HL.out])
   have hLn:L'.length≤1000000:=by rw[hL',List.length_map,List.length_take];omega
   have kE:=Lib.hid hL'
   have HX:=Lib.hid hx
   clear hL' hx
   go_wp2_with fail
   refine(amI t k.keys[n] _ hp (HK.out _ (List.getElem_mem hlt))).mono ?_
   rw[←HX.out]
   rintro e w2 ⟨s2,rfl,hb2,hd2⟩
   clear hcc aT hrr
   go_wp2_with (at_builtin;refine sF (L:=L') rfl _ _ _ rfl qh hH hb2 hd2 rfl rfl rfl rfl HA.out hLn ?_;intro s3 w3 hH3)
   go_roundw
   case rel=>exact⟨n+1,s3,L',by omega,by go_num,rfl,hH3,kE.out⟩
   case measure=>simp[intOf];omega
  ·have HE:=Lib.hid (show L=k.keys.map iG by rw[HL.out,vU _ hlt])
   have hll:L.length=k.keys.length:=by rw[HE.out,List.length_map]
   have hh:=hH.hist (by unfold lim;omega)
   have HS:=Lib.hid (show dm L=dR L by unfold dm;rw[if_neg (by omega)])
   rw[←HE.out]at hfl e2 e2' HT ⊢
   have OT:=ag hB0 hH.b
   clear hll
   go_wp2_with fail
   refine pW (Below.refl _ wr) (by kernel_rfl) (by kernel_rfl) ?_
   intro v0 hv0
   have hP0:Ps wr v0 []:=⟨hv0,by simp⟩
   repeat (first|(refine ax (by rfl) ?_)|(refine aI (by rfl) (by rfl) (fun K hK=>?_);go_big_quiet_op;refine hK _ ?_;clear hK K))
   refine aK (by rfl) (by rfl) (fun K hK=>?_)
   go_wp2_with fail
   refine(Ey _ _ f1.1 (by omega)).mono ?_
   rintro e v1 ⟨s1,rfl,hb1,hd1⟩
   have hP1:=hP0.mid hb1
   clear hP0 hb1
   refine hK _ _ (aA hP1.b) ?_
   clear hK K
   repeat (first|(refine ax (by rfl) ?_)|(refine aI (by rfl) (by rfl) (fun K hK=>?_);go_big_quiet_op;refine hK _ ?_;clear hK K))
   refine aK (by rfl) (by rfl) (fun K hK=>?_)
   go_wp2_with fail
   refine(jk 0 0 _ _ _ _ rfl (by decide) hd1.out (Nat.le_trans e1 (by decide))).mono ?_
   rintro e v2 ⟨s2,rfl,hb2,hd2⟩
   have hP2:=hP1.add hb2 hd2.out
   clear hP1 hb2 hd1 hd2
   refine hK _ _ (aA hP2.b) ?_
   clear hK K
   repeat (first|(refine ax (by rfl) ?_)|(refine aI (by rfl) (by rfl) (fun K hK=>?_);go_big_quiet_op;refine hK _ ?_;clear hK K))
   refine aK (by rfl) (by rfl) (fun K hK=>?_)
   go_wp2_with fail
   refine(uF _ _ L _ (hh.out.later hP2.b) (Nat.le_trans e2' (by decide))).mono ?_
   rintro e v3 ⟨s3,rfl,hb3,hd3⟩
   have hP3:=hP2.mid hb3
   clear hP2 hb3
   refine hK _ _ (aA hP3.b) ?_
   clear hK K
   repeat (first|(refine ax (by rfl) ?_)|(refine aI (by rfl) (by rfl) (fun K hK=>?_);go_big_quiet_op;refine hK _ ?_;clear hK K))
   refine aK (by rfl) (by rfl) (fun K hK=>?_)
   go_wp2_with fail
   refine(jk 1 1 _ _ (dR L) _ rfl (by decide) hd3.out (by rw[←HS.out];exact Nat.le_trans e2 (by decide))).mono ?_
   rintro e v4 ⟨s4,rfl,hb4,hd4⟩
   have kF:=hP3.add hb4 hd4.out
   clear hP3 hb4 hd3 hd4
   refine hK _ _ (aA kF.b) ?_
   clear hK K
   repeat (first|(refine ax (by rfl) ?_)|(refine aI (by rfl) (by rfl) (fun K hK=>?_);go_big_quiet_op;refine hK _ ?_;clear hK K))
   refine aK (by rfl) (by rfl) (fun K hK=>?_)
   go_wp2_with fail
   refine(IQ _ _ (Nat.le_trans f4 (by decide))).mono ?_
   rintro e v5 ⟨s5,rfl,hb5,hd5⟩
   have jS:=kF.mid hb5
   clear kF hb5
   refine hK _ _ (aA jS.b) ?_
   clear hK K
   repeat (first|(refine ax (by rfl) ?_)|(refine aI (by rfl) (by rfl) (fun K hK=>?_);go_big_quiet_op;refine hK _ ?_;clear hK K))
   refine aK (by rfl) (by rfl) (fun K hK=>?_)
   go_wp2_with fail
   refine(vS _ s5 _ (jR k.di) _ hd5 c3.out).mono ?_
   rintro e _ ⟨s6,rfl,rfl,hd6⟩
   clear hd5
   refine hK _ _ (aA jS.b) ?_
   clear hK K
   repeat (first|(refine ax (by rfl) ?_)|(refine aI (by rfl) (by rfl) (fun K hK=>?_);go_big_quiet_op;refine hK _ ?_;clear hK K))
   refine aK (by rfl) (by rfl) (fun K hK=>?_)
   go_wp2_with fail
   refine(jk 2 2 _ _ _ _ rfl (by decide) hd6.out (by omega)).mono ?_
   rintro e v7 ⟨s7,rfl,hb7,hd7⟩
   have sG:=jS.add hb7 hd7.out
   clear jS hb7 hd6 hd7
   refine hK _ _ (aA sG.b) ?_
   clear hK K
   repeat (first|(refine ax (by rfl) ?_)|(refine aI (by rfl) (by rfl) (fun K hK=>?_);go_big_quiet_op;refine hK _ ?_;clear hK K))
   refine aK (by rfl) (by rfl) (fun K hK=>?_)
   go_wp2_with fail
   refine(Ey _ _ f5.1 (by omega)).mono ?_
   rintro e v8 ⟨s8,rfl,hb8,hd8⟩
   have pM:=sG.mid hb8
   clear sG hb8
   refine hK _ _ (aA pM.b) ?_
   clear hK K
   repeat (first|(refine ax (by rfl) ?_)|(refine aI (by rfl) (by rfl) (fun K hK=>?_);go_big_quiet_op;refine hK _ ?_;clear hK K))
   refine aK (by rfl) (by rfl) (fun K hK=>?_)
   go_wp2_with fail
   refine(vS _ s8 _ (fZ k.dK.toNat) _ hd8 c4.out).mono ?_
   rintro e _ ⟨s9,rfl,rfl,hd9⟩
   clear hd8
   refine hK _ _ (aA pM.b) ?_
   clear hK K
   repeat (first|(refine ax (by rfl) ?_)|(refine aI (by rfl) (by rfl) (fun K hK=>?_);go_big_quiet_op;refine hK _ ?_;clear hK K))
   refine aK (by rfl) (by rfl) (fun K hK=>?_)
   go_wp2_with fail
   refine(jk 3 3 _ _ _ _ rfl (by decide) hd9.out (Nat.le_trans e4 (by decide))).mono ?_
   rintro e v10 ⟨s10,rfl,Ez,hd10⟩
   have zH:=pM.add Ez hd10.out
   clear pM Ez hd9 hd10
   refine hK _ _ (aA zH.b) ?_
   clear hK K
   repeat (first|(refine ax (by rfl) ?_)|(refine aI (by rfl) (by rfl) (fun K hK=>?_);go_big_quiet_op;refine hK _ ?_;clear hK K))
   refine aK (by rfl) (by rfl) (fun K hK=>?_)
   go_wp2_with fail
   refine(YO _ _ f6.1).mono ?_
   rintro e v11 ⟨s11,rfl,xO,hd11⟩
   have sH:=zH.mid xO
   clear zH xO
   refine hK _ _ (aA sH.b) ?_
   clear hK K
   repeat (first|(refine ax (by rfl) ?_)|(refine aI (by rfl) (by rfl) (fun K hK=>?_);go_big_quiet_op;refine hK _ ?_;clear hK K))
   refine aK (by rfl) (by rfl) (fun K hK=>?_)
   go_wp2_with fail
   refine(jk 4 4 _ _ _ _ rfl (by decide) hd11.out (Nat.le_trans e5 (by decide))).mono ?_
   rintro e v12 ⟨s12,rfl,gu,xP⟩
   have nP:=sH.add gu xP.out
   clear sH gu hd11 xP
   refine hK _ _ (aA nP.b) ?_
   clear hK K
   repeat (first|(refine ax (by rfl) ?_)|(refine aI (by rfl) (by rfl) (fun K hK=>?_);go_big_quiet_op;refine hK _ ?_;clear hK K))
   refine aK (by rfl) (by rfl) (fun K hK=>?_)
   go_wp2_with fail
   refine hK _ _ (aA (aj nP.b _)) ?_
   clear hK K
   repeat (first|(refine ax (by rfl) ?_)|(refine aI (by rfl) (by rfl) (fun K hK=>?_);go_big_quiet_op;refine hK _ ?_;clear hK K))
   refine aK (by rfl) (by rfl) (fun K hK=>?_)
   go_wp2_with fail
   refine(uF _ _ [bT 0 (fB k.version.toNat),bT 1 (dR L),bT 2 (jR k.di),bT 3 (fZ k.dK.toNat),bT 4 (lQ k.created.toNat)] _ (fK.lit _ rfl rfl nP.at_ (by simp[lim])) (by rw[←HS.out];exact Nat.le_trans hfl (by decide))).mono ?_
   rintro e vz ⟨sz,rfl,hbz,hdz⟩
   have HB:=Lib.hid (bI.from (W:=w) ⟨sz,rfl,hbz,hdz⟩ (ag OT (aj nP.b _)))
   have sJ:=ag (aj nP.b _) hbz
   clear nP hdz hbz
   refine hK _ _ (aA sJ) ?_
   clear hK K
   repeat (first|(refine ax (by rfl) ?_)|(refine aI (by rfl) (by rfl) (fun K hK=>?_);go_big_quiet_op;refine hK _ ?_;clear hK K))
   refine bV ?_
   go_wp2_with fail
   go_ret
   rw[←HE.out,HS.out]
   exact HB.out
end Go.Proofs.YtfieenjdcpjmgaaGreatDoor
