/- A part of the proof. -/
import Derived.Test.YtibhckkjciflaaaGreatDoorA15
import Derived.Test.YtibhckkjciflaaaGreatDoorA17
import Derived.Laws.MakeOwn
import Derived.Laws.IdiomStrings
import Derived.OwnWalk
set_option maxRecDepth 100000
set_option maxHeartbeats 2000000
namespace Go.WW
open Go.RowKit
structure gz(T:TypeId)(W wr:World)(sb:Sl)(l:List UInt8):Prop where
 b:Below W.heap.size W wr
 own:Own wr W.heap.size T 1 sb (gV l)
theorem gz.none(T:TypeId){W wr:World}(h:Below W.heap.size W wr):gz T W wr ⟨Option.none,0⟩ []:=⟨h,Own.nil _ _ _ _⟩
theorem gz.later{T:TypeId}{W wr w':World}{sb:Sl}{l:List UInt8}(h:gz T W wr sb l)(hb:Below wr.heap.size wr w'):gz T W w' sb l:=
 ⟨af h.b hb,h.own.kept fun _ hg=>hb.block _ (h.own.base hg).2⟩
theorem gz.made{P:Program}{t T:TypeId}{n b:Nat}(he:ik P t T 1 b){W w:World}(hW:Below W.heap.size W w)(hn:n≤100000000)(hb:b≤8){ni:Int}(hni:ni=n) :
  ∃V,(Instr.makeSlice t (.int .i64 0) (.int .i64 ni)).run P w=.ok (.slice (some ⟨w.heap.size,0,Option.none⟩) 0 n) V∧gz T W V ⟨some ⟨w.heap.size,0,Option.none⟩,n⟩ []:=by
 subst hni
 obtain⟨i,z,hi,hz,h1,h2,-⟩:=he.info
 obtain⟨V,hr,ho,hg⟩:=run_make_own (P:=P) w W.heap.size t T i z 1 he.und hi hz h1 .i64 .i64 n (by rw[h2];have:=Nat.mul_le_mul hb hn;omega) (by unfold maxLen;omega) hW.size
 exact⟨V,hr,hW.grown hg hW.size (fun k e=>by cases e),⟨ho,by simp[gV]⟩⟩
theorem BytesAt.src{w:World}{A:Option Addr}{l:List UInt8}(h:BytesAt w A l):eF w 1 A (gV l):=by
 obtain⟨rows,h1,h2,h3⟩:=eu.src h Jl
 have:rows=gV l:=by
  refine List.ext_getElem (by rw[h1,iQ]) fun i hi hj=>?_
  obtain⟨v,hv,c,hc,rfl⟩:=h3 i hi
  have hi':i<l.length:=by rw[←h1];exact hi
  rw[List.getElem?_eq_getElem hi']at hc
  cases hc
  simp[hv,gV]
 exact this▸h2
theorem abC(a b:List UInt8):gV (a++b)=gV a++gV b:=by simp[gV]
theorem gz.app{T:TypeId}{W wr w':World}{sb s':Sl}{l news:List UInt8}(h:gz T W wr sb l)(ho:Own w' W.heap.size T 1 s' (gV l++gV news))(hg:wr.grownBy w' sb.blk):gz T W w' s' (l++news):=
 ⟨h.b.grown hg h.b.size (fun _ e=>(h.own.base e).1),by rw[abC];exact ho⟩
theorem ji{P:Program}{ops:Array Oper}{rest:List Oper}{o:Oper}{a:Act}{w:World}{Q:Exit→Act→World→Prop}(hgd:o.guard=Option.none)(x y:Operand)(t:TypeId)(ho:o.op=.call {callee:=.builtin .append,args:=#[x,y],argTypes:=#[t,t]})
  {T:TypeId} {b:Nat} (he:ik P t T 1 b) (hb:b≤8) {W:World} {s:Sl} {l L:List UInt8} (h:gz T W w s l) {n:Nat} (hx:a.eval x=.slice s.a n s.cap) (hn:n=l.length) {A:Option Addr} {news:List UInt8} {m c:Nat}
  (hy:a.eval y=.slice A m c) (hm:m=news.length) (hs:BytesAt w A news) (hL:L=l++news) (hlen:L.length≤100000000)
  (hK:∀(s':Sl) w',gz T W w' s' L→wpList P ops Q rest (a.put o.dst (.slice s'.a L.length s'.cap)) w'):wpList P ops Q (o::rest) a w:=by
 subst hn hm hL
 rw[List.length_append]at hlen hK
 have hl:((gV l).length+(gV news).length)*(b+1)≤140737488355328:=by
  rw[iQ,iQ]
  have:=Nat.mul_le_mul hlen (show b+1≤9 by omega)
  omega
 refine kZ hgd x y t ho he hx (iQ l).symm h.own hy (iQ news).symm hs.src hl h.b.size fun s' w' h1 h2 _=>hK s' w' (h.app h1 h2)
theorem BytesAt.lit(w:World){k:Nat}(l:List UInt8){cs:Array Value}{t:TypeId}(hk:k=w.heap.size)(h:cs=(l.map fun c=>Value.int .u8 c.toNat).toArray)(hl:l.length≤lim):BytesAt (w.alloc (.cells cs t)) (some ⟨k,0,Option.none⟩) l:=by
 subst h hk
 refine⟨hl,fun i hi=>⟨w.heap.size,0,_,rfl,?_,l[i],List.getElem?_eq_getElem hi,rfl⟩⟩
 rw[cell_of_row _ _ _ _ _ _ (World.alloc_heap_new _ _)]
 simp[hi]
theorem gz.done{T:TypeId}{w w':World}{s:Sl}{l:List UInt8}(h:gz T w w' s l)(hl:l.length≤lim):AP w l (.returned (.slice s.a l.length s.cap)) w':=
 PZ h.own (iQ l) hl h.b fun i hi=>by
  have hi':i<l.length:=by simpa[gV]using hi
  exact⟨.int .u8 l[i].toNat,by simp[gV],l[i],List.getElem?_eq_getElem hi',rfl⟩
theorem Et{l:List (List UInt8)}{k:Nat}(h:k<l.length):(l.take (k+1)).flatten=(l.take k).flatten++l[k]:=by
 rw[List.take_succ_eq_append_getElem h,List.flatten_append,List.flatten_cons,List.flatten_nil,List.append_nil]
theorem Jm(l:List (List UInt8))(k:Nat):(l.take k).flatten.length≤l.flatten.length:=by
 conv=>
  rhs
  rw[←List.take_append_drop k l]
 rw[List.flatten_append,List.length_append];omega
theorem dH.one{w:World}(s:Sl){l:List UInt8}{t:TypeId}(h:BytesAt w s.a l):dH (w.alloc (.cells #[.slice s.a l.length s.cap] t)) (some ⟨w.heap.size,0,Option.none⟩) [l]:=by
 refine⟨by simp[lim],fun i hi=>⟨w.heap.size,0,_,rfl,?_,l,s,?_,rfl,h.later (az (Below.refl _ _) _)⟩⟩
 ·obtain rfl:i=0:=by simp at hi;exact hi
  rw[cell_of_row _ _ _ _ _ _ (World.alloc_heap_new _ _)];rfl
 ·obtain rfl:i=0:=by simp at hi;exact hi
  rfl
end Go.WW
namespace Go.Proofs.YtibhckkjciflaaaGreatDoor
open Go.RowKit Go.WW
theorem b8:1≤8:=by decide
theorem wB(ti:Int)(t:Nat)(a:Option Addr)(cap:Nat)(parts:List (List UInt8))(w:World)(ht:ti=(UInt8.ofNat t).toNat)(h:dH w a parts)(h0:0<parts.length)(hn:parts.flatten.length≤1000000) :
  Calls Tryz.prog 149 #[.int .u8 ti,.slice a parts.length cap] w (AP w (tlv t parts.flatten)):=by
 obtain⟨tc,htc⟩:∃c,c=UInt8.ofNat t:=⟨_,rfl⟩
 rw[←htc]at ht
 have HT:=Lib.hid htc
 clear htc
 subst ht
 have hpl:parts.length≤4294967000:=h.1
 obtain⟨b,o,s0,rfl,-,-⟩:=h.get 0 h0
 have hT:∀k,(parts.take k).flatten.length≤1000000:=fun k=>Nat.le_trans (Jm _ _) hn
 go_enter Tryz.func149,Tryz.ntmps149
 go_wp2_with fail
 go_loopw [5,13] (fun nv i wr=>∃k:Nat,k≤parts.length∧i=.int .i64 k∧nv=.int .i64 ((parts.take k).flatten.length:Nat)∧wr=w) (fun _ i _=>parts.length-(intOf i).toNat)
 case atStart=>exact⟨0,Nat.zero_le _,rfl,rfl,rfl⟩
 case round=>
  obtain⟨k,hk,rfl,rfl,rfl⟩:=hrel
  by_cases hlt:k<parts.length
  ·obtain⟨s,hc,hb⟩:=h.at k hlt
   have hT1:=hT (k+1)
   have hT0:=hT k
   rw[Et hlt,List.length_append]at hT1
   generalize hL:(parts.take k).flatten.length=L at *
   go_wp2_with fail
   go_roundw
   case rel=>exact⟨k+1,by omega,by go_num,by rw[Et hlt,List.length_append,hL];go_num,trivial⟩
   case measure=>simp[intOf];omega
  ·obtain rfl:k=parts.length:=by omega
   rw[List.take_length]at *
   obtain⟨L,hL⟩:∃L,L=parts.flatten:=⟨_,rfl⟩
   rw[←hL]at hn ⊢
   have HL:=Lib.hid hL
   have hTL:∀k,(parts.take k).flatten.length≤L.length:=fun k=>by rw[hL];exact Jm _ _
   have HTL:=Lib.hid hTL
   clear hL hT hTL
   obtain⟨V0,hmk,hR0⟩:=gz.made (ni:=(L.length:Int)+5) (n:=L.length+5) gy (Below.refl _ wr) (by omega) b8 (by omega)
   have hlen:(L.length<128)∨(¬L.length<128∧L.length<256)∨(¬L.length<256∧L.length<65536)∨¬L.length<65536:=by omega
   obtain⟨N,hN⟩:∃N,N=tc::mG L.length:=⟨_,rfl⟩
   have hNl:N.length≤5:=by have:=Iq L.length;rw[hN];simp;omega
   have HN:=Lib.hid hN
   clear hN
   rcases hlen with hl|hl|hl|hl
   all_goals first
    |(have E:=Lib.hid (show N=[tc]++[UInt8.ofNat L.length] by(rw[HN.out];unfold mG;rw[if_pos hl];rfl));have g1:(L.length:Int)<128:=(by omega);clear hl;go_wp2_with (first|(at_builtin;refine ji (L:=N) rfl _ _ _ rfl gy b8 (hR1.later (az (Below.refl _ _) _)) (n:=1) rfl rfl rfl (m:=1) rfl (BytesAt.lit _ [UInt8.ofNat L.length] (by simp) (by simp;try omega) (by simp[lim])) E.out (by omega) ?_;intro s2 w2 hR2)|(at_builtin;refine ji rfl _ _ _ rfl gy b8 (hR0.later (az (Below.refl _ _) _)) (n:=0) rfl rfl rfl (m:=1) rfl (BytesAt.lit _ [tc] (by simp) rfl (by simp[lim])) rfl (by simp) ?_;intro s1 w1 hR1)))
    |(have E:=Lib.hid (show N=[tc]++[129,UInt8.ofNat L.length] by(rw[HN.out];unfold mG;rw[if_neg hl.1,if_pos hl.2];rfl));have g1:¬(L.length:Int)<128:=(by omega);have g2:(L.length:Int)<256:=(by omega);clear hl;go_wp2_with (first|(at_builtin;refine ji (L:=N) rfl _ _ _ rfl gy b8 (hR1.later (az (Below.refl _ _) _)) (n:=1) rfl rfl rfl (m:=2) rfl (BytesAt.lit _ [129,UInt8.ofNat L.length] (by simp) (by simp;try omega) (by simp[lim])) E.out (by omega) ?_;intro s2 w2 hR2)|(at_builtin;refine ji rfl _ _ _ rfl gy b8 (hR0.later (az (Below.refl _ _) _)) (n:=0) rfl rfl rfl (m:=1) rfl (BytesAt.lit _ [tc] (by simp) rfl (by simp[lim])) rfl (by simp) ?_;intro s1 w1 hR1)))
    |(have E:=Lib.hid (show N=[tc]++[130,UInt8.ofNat (L.length / 256),UInt8.ofNat L.length] by(rw[HN.out];unfold mG;rw[if_neg (by omega),if_neg hl.1,if_pos hl.2];rfl));have g1:¬(L.length:Int)<128:=(by omega);have g2:¬(L.length:Int)<256:=(by omega);have g3:(L.length:Int)<65536:=(by omega);clear hl;go_wp2_with (first|(at_builtin;refine ji (L:=N) rfl _ _ _ rfl gy b8 (hR1.later (az (Below.refl _ _) _)) (n:=1) rfl rfl rfl (m:=3) rfl (BytesAt.lit _ [130,UInt8.ofNat (L.length / 256),UInt8.ofNat L.length] (by simp) (by simp;try omega) (by simp[lim])) E.out (by omega) ?_;intro s2 w2 hR2)|(at_builtin;refine ji rfl _ _ _ rfl gy b8 (hR0.later (az (Below.refl _ _) _)) (n:=0) rfl rfl rfl (m:=1) rfl (BytesAt.lit _ [tc] (by simp) rfl (by simp[lim])) rfl (by simp) ?_;intro s1 w1 hR1)))
    |(have E:=Lib.hid (show N=[tc]++[131,UInt8.ofNat (L.length / 65536),UInt8.ofNat (L.length / 256),UInt8.ofNat L.length] by(rw[HN.out];unfold mG;rw[if_neg (by omega),if_neg (by omega),if_neg hl];rfl));have g1:¬(L.length:Int)<128:=(by omega);have g2:¬(L.length:Int)<256:=(by omega);have g3:¬(L.length:Int)<65536:=(by omega);clear hl;go_wp2_with (first|(at_builtin;refine ji (L:=N) rfl _ _ _ rfl gy b8 (hR1.later (az (Below.refl _ _) _)) (n:=1) rfl rfl rfl (m:=4) rfl (BytesAt.lit _ [131,UInt8.ofNat (L.length / 65536),UInt8.ofNat (L.length / 256),UInt8.ofNat L.length] (by simp) (by simp;try omega) (by simp[lim])) E.out (by omega) ?_;intro s2 w2 hR2)|(at_builtin;refine ji rfl _ _ _ rfl gy b8 (hR0.later (az (Below.refl _ _) _)) (n:=0) rfl rfl rfl (m:=1) rfl (BytesAt.lit _ [tc] (by simp) rfl (by simp[lim])) rfl (by simp) ?_;intro s1 w1 hR1)))
   all_goals
    clear E hR0 hR1 hmk
    go_loopw [8,74] (fun bv i wx=>∃(k:Nat) (sb:Sl),k≤parts.length∧i=.int .i64 k∧bv=.slice sb.a (N++(parts.take k).flatten).length sb.cap∧gz 5 wr wx sb (N++(parts.take k).flatten)) (fun _ i _=>parts.length-(intOf i).toNat)
    case atStart=>exact⟨0,s2,Nat.zero_le _,rfl,by simp,by simpa using hR2⟩
    case round=>
     clear hR2
     obtain⟨k,sb,hk,rfl,hbv,hR⟩:=hrel
     obtain⟨M,hM⟩:∃M,M=N++(parts.take k).flatten:=⟨_,rfl⟩
     rw[←hM]at hR hbv
     subst hbv
     by_cases hlt:k<parts.length
     ·obtain⟨s,hc,hb⟩:=(h.later hR.b).at k hlt
      obtain⟨M',hM'⟩:∃M',M'=N++(parts.take (k+1)).flatten:=⟨_,rfl⟩
      have hlk:=HTL.out (k+1)
      have yB:M'.length≤100000000:=by rw[hM',List.length_append];omega
      have yC:=Lib.hid hM'
      have HA:=Lib.hid (show M'=M++parts[k] by rw[hM',hM,Et hlt,List.append_assoc])
      clear hM hM' hlk
      go_wp2_with (at_builtin;refine ji (L:=M') rfl _ _ _ rfl gy b8 hR rfl rfl rfl rfl hb HA.out yB ?_;intro s3 w3 iD)
      go_roundw
      case rel=>exact⟨k+1,s3,by omega,by go_num,by rw[yC.out],by rw[←yC.out];exact iD⟩
      case measure=>simp[intOf];omega
     ·obtain rfl:k=parts.length:=by omega
      have HE:=Lib.hid (show M=tlv t parts.flatten by rw[hM,List.take_length,HN.out,HL.out,HT.out];rfl)
      have hle:=(mJ t parts.flatten).2
      have HLE:=Lib.hid (show M.length≤lim by rw[HE.out,←HL.out]at *;unfold lim;omega)
      clear hM hle
      go_wp2_with fail
      go_ret
      rw[←HE.out]
      exact hR.done HLE.out
end Go.Proofs.YtibhckkjciflaaaGreatDoor
namespace Go.WW
open Go.RowKit
theorem gz.lit{T:TypeId}{W w:World}(hW:Below W.heap.size W w)(l:List UInt8){cs:Array Value}(h:cs=(l.map fun c=>Value.int .u8 c.toNat).toArray)(hl:l.length≤100000000):gz T W (w.alloc (.cells cs T)) ⟨some ⟨w.heap.size,0,Option.none⟩,l.length⟩ l:=by
 have hf:flat (gV l)=l.map fun c=>Value.int .u8 c.toNat:=by
  clear h hl
  unfold flat gV
  induction l with
  |nil=>rfl
  |cons a l ih=>rw[List.map_cons,List.flatMap_cons,ih,List.map_cons];rfl
 refine⟨az hW _,⟨⟨by rw[flat_length (k:=1) (by simp[gV])],.inr ⟨w.heap.size,l.length,cs,by rw[iQ],hW.size,World.alloc_heap_new _ _,by rw[iQ];exact Nat.le_refl _,by unfold maxLen;omega,by rw[h];simp,?_⟩⟩,by simp[gV]⟩⟩
 rw[hf,h,iQ,Nat.mul_one]
 exact List.take_of_length_le (by simp)
abbrev aU:=AP
theorem gz.P5{T:TypeId}{w w':World}{s:Sl}{l:List UInt8}(h:gz T w w' s l)(hl:l.length≤lim):aU w l (.returned (.slice s.a l.length s.cap)) w':=h.done hl
theorem aU.from{W w w':World}{l:List UInt8}{e:Ending}(h:aU w l e w')(hW:Below W.heap.size W w):aU W l e w':=by
 obtain⟨s,h1,h2,h3⟩:=h
 exact⟨s,h1,af hW h2,h3.to (fun _ _=>rfl) (fun _ hk=>⟨Nat.le_trans hW.size hk.1,hk.2⟩)⟩
theorem nV{w w':World}(h:Below w.heap.size w w'):aU w [] (.returned (.slice Option.none 0 0)) w':=⟨⟨Option.none,0⟩,rfl,h,fun _ _=>⟨by simp[lim],fun i hi=>by simp at hi⟩⟩
theorem abG(t:Nat)(L:List UInt8):tlv t L=[UInt8.ofNat t]++mG L.length++L:=by simp[tlv]
theorem P6(j:Nat):(2:Int) ^ (8*j)=((256 ^ j:Nat):Int):=by
 rw[Int.pow_mul,Int.natCast_pow];rfl
theorem abH(v j:Nat):(v:Int) / 2 ^ (8*j) % 256=((UInt8.ofNat (v / 256 ^ j)).toNat:Int):=by
 rw[P6,←Int.natCast_ediv];simp
theorem abI(v j:Nat):((v:Int) / 2 ^ (8*j)).tmod 256 % 256=((UInt8.ofNat (v / 256 ^ j)).toNat:Int):=by
 rw[P6,Int.tmod_eq_emod_of_nonneg (Int.ediv_nonneg (Int.natCast_nonneg _) (Int.natCast_nonneg _)),←Int.natCast_ediv];simp
theorem gz.bytes{T:TypeId}{W w:World}{s:Sl}{l:List UInt8}(h:gz T W w s l)(hl:l.length≤lim):BytesAt w s.a l:=by
 obtain⟨rows,h1⟩:∃rows,rows=gV l:=⟨_,rfl⟩
 exact eu.lQ h.own (iQ l) hl fun i hi=>by
  have hi':i<l.length:=by simpa[gV]using hi
  exact⟨.int .u8 l[i].toNat,by simp[gV],l[i],List.getElem?_eq_getElem hi',rfl⟩
def wC(m:Nat):List UInt8:=if m=0 then []else nJ m
theorem P7{m:Nat}(h:0<m):wC m=wC (m / 256)++[UInt8.ofNat m]:=by
 unfold wC
 rw[if_neg (by omega)]
 by_cases h1:m<256
 ·rw[if_pos (by omega),tK h1];rfl
 ·rw[if_neg (by omega),DX h1]
theorem abJ(v:Nat):nJ v=wC (v / 256)++[UInt8.ofNat v]:=by
 by_cases h:v=0
 ·subst h;rw[tK (by decide)];rfl
 ·rw[←P7 (by omega),wC,if_neg h]
theorem P8:∀(k v:Nat),0<k→v<256 ^ k→(nJ v).length≤k
 |0,_,h,_=>absurd h (Nat.lt_irrefl 0)
 |1,v,_,h=>by rw[tK (by simpa using h)];simp
 |k+2,v,_,h=>by
  by_cases h1:v<256
  ·rw[tK h1];simp
  ·rw[DX h1,List.length_append]
   have:=P8 (k+1) (v / 256) (by omega) (by rw[Nat.div_lt_iff_lt_mul (by decide),←Nat.pow_succ];exact h)
   simp;omega
theorem P9(m:Nat):(m:Int).tdiv 256=((m / 256:Nat):Int):=by
 rw[Int.tdiv_eq_ediv_of_nonneg (Int.natCast_nonneg _)];rfl
theorem abK{l:List UInt8}(h:0<l.length)(h1:128≤l[0].toNat):lead l=[0]++l:=by
 cases l with
 |nil=>exact absurd h (Nat.lt_irrefl 0)
 |cons a l=>exact if_pos h1
theorem abL{l:List UInt8}(h:0<l.length)(h1:¬128≤l[0].toNat):lead l=l:=by
 cases l with
 |nil=>exact absurd h (Nat.lt_irrefl 0)
 |cons a l=>exact if_neg h1
end Go.WW
namespace Go.Proofs.YtibhckkjciflaaaGreatDoor
open Go.RowKit Go.WW
theorem qZ(ti:Int)(t:Nat)(a:Option Addr)(cap:Nat)(L:List UInt8)(w:World)(ht:ti=t)(h:BytesAt w a L)(hn:L.length≤1000000) :
  Calls Tryz.prog 108 #[.int .i64 ti,.slice a L.length cap] w (aU w (tlv t L)):=by
 subst ht
 obtain⟨tc,htc⟩:∃c,c=UInt8.ofNat t:=⟨_,rfl⟩
 have HT:=Lib.hid htc
 obtain⟨N,hN⟩:∃N,N=[tc]++mG L.length:=⟨_,rfl⟩
 have hNl:N.length≤5:=by have:=Iq L.length;rw[hN];simp;omega
 obtain⟨M,hM⟩:∃M,M=N++L:=⟨_,rfl⟩
 have yB:M.length≤1000005:=by rw[hM,List.length_append];omega
 have HE:=Lib.hid (show tlv t L=M by rw[hM,hN,htc,abG])
 have HM:=Lib.hid hM
 have HN:=Lib.hid hN
 have hc:(t:Int) % 256=tc.toNat:=by rw[htc];simp
 have hR0:=gz.lit (T:=5) (Below.refl _ w) [tc] (cs:=#[.int .u8 tc.toNat]) rfl (by simp)
 clear htc hN hM
 rw[HE.out]
 have hlen:(L.length<128)∨(¬L.length<128∧L.length<256)∨(¬L.length<256∧L.length<65536)∨¬L.length<65536:=by omega
 go_enter Tryz.func108,Tryz.ntmps108
 rcases hlen with hl|hl|hl|hl
 all_goals first
  |(have E:=Lib.hid (show N=[tc]++[UInt8.ofNat L.length] by(rw[HN.out];unfold mG;rw[if_pos hl]));have g1:(L.length:Int)<128:=(by omega);clear hl;go_wp2_with (first|(at_builtin;refine ji (L:=M) rfl _ _ _ rfl gy b8 hR2 rfl rfl rfl rfl (h.later hR2.b) HM.out (by omega) ?_;intro s3 w3 iD)|(at_builtin;refine ji (L:=N) rfl _ _ _ rfl gy b8 (hR0.later (az (Below.refl _ _) _)) (n:=1) rfl rfl rfl (m:=1) rfl (BytesAt.lit _ [UInt8.ofNat L.length] (by simp) (by simp;try omega) (by simp[lim])) E.out (by omega) ?_;intro s2 w2 hR2)))
  |(have E:=Lib.hid (show N=[tc]++[129,UInt8.ofNat L.length] by(rw[HN.out];unfold mG;rw[if_neg hl.1,if_pos hl.2]));have g1:¬(L.length:Int)<128:=(by omega);have g2:(L.length:Int)<256:=(by omega);clear hl;go_wp2_with (first|(at_builtin;refine ji (L:=M) rfl _ _ _ rfl gy b8 hR2 rfl rfl rfl rfl (h.later hR2.b) HM.out (by omega) ?_;intro s3 w3 iD)|(at_builtin;refine ji (L:=N) rfl _ _ _ rfl gy b8 (hR0.later (az (Below.refl _ _) _)) (n:=1) rfl rfl rfl (m:=2) rfl (BytesAt.lit _ [129,UInt8.ofNat L.length] (by simp) (by simp;try omega) (by simp[lim])) E.out (by omega) ?_;intro s2 w2 hR2)))
  |(have E:=Lib.hid (show N=[tc]++[130,UInt8.ofNat (L.length / 256),UInt8.ofNat L.length] by(rw[HN.out];unfold mG;rw[if_neg (by omega),if_neg hl.1,if_pos hl.2]));have g1:¬(L.length:Int)<128:=(by omega);have g2:¬(L.length:Int)<256:=(by omega);have g3:(L.length:Int)<65536:=(by omega);clear hl;go_wp2_with (first|(at_builtin;refine ji (L:=M) rfl _ _ _ rfl gy b8 hR2 rfl rfl rfl rfl (h.later hR2.b) HM.out (by omega) ?_;intro s3 w3 iD)|(at_builtin;refine ji (L:=N) rfl _ _ _ rfl gy b8 (hR0.later (az (Below.refl _ _) _)) (n:=1) rfl rfl rfl (m:=3) rfl (BytesAt.lit _ [130,UInt8.ofNat (L.length / 256),UInt8.ofNat L.length] (by simp) (by simp;try omega) (by simp[lim])) E.out (by omega) ?_;intro s2 w2 hR2)))
  |(have E:=Lib.hid (show N=[tc]++[131,UInt8.ofNat (L.length / 65536),UInt8.ofNat (L.length / 256),UInt8.ofNat L.length] by(rw[HN.out];unfold mG;rw[if_neg (by omega),if_neg (by omega),if_neg hl]));have g1:¬(L.length:Int)<128:=(by omega);have g2:¬(L.length:Int)<256:=(by omega);have g3:¬(L.length:Int)<65536:=(by omega);clear hl;go_wp2_with (first|(at_builtin;refine ji (L:=M) rfl _ _ _ rfl gy b8 hR2 rfl rfl rfl rfl (h.later hR2.b) HM.out (by omega) ?_;intro s3 w3 iD)|(at_builtin;refine ji (L:=N) rfl _ _ _ rfl gy b8 (hR0.later (az (Below.refl _ _) _)) (n:=1) rfl rfl rfl (m:=4) rfl (BytesAt.lit _ [131,UInt8.ofNat (L.length / 65536),UInt8.ofNat (L.length / 256),UInt8.ofNat L.length] (by simp) (by simp;try omega) (by simp[lim])) E.out (by omega) ?_;intro s2 w2 hR2)))
 all_goals
  go_ret
  exact iD.P5 (by unfold lim;omega)
theorem Qa(v n:Nat)(w:World)(hn:n≤8):Calls Tryz.prog 109 #[.int .i64 v,.int .i64 n] w (aU w (ed v n)):=by
 have hlen:=jS n v
 go_enter Tryz.func109,Tryz.ntmps109
 go_wp2_with fail
 go_loopw [5,6] (fun bv iv wr=>∃(k:Nat) (sb:Sl),k≤n∧iv=.int .i64 ((n:Int)-1-k)∧bv=.slice sb.a k sb.cap∧gz 5 w wr sb ((ed v n).take k)) (fun _ i _=>(intOf i+1).toNat)
 case atStart=>exact⟨0,⟨none,0⟩,Nat.zero_le _,by simp,rfl,gz.none _ (Below.refl _ _)⟩
 case round=>
  obtain⟨k,sb,hk,rfl,rfl,hR⟩:=hrel
  obtain⟨M,hM⟩:∃M,M=(ed v n).take k:=⟨_,rfl⟩
  have Jn:=Lib.hid (show k=M.length by rw[hM,List.length_take];omega)
  rw[←hM]at hR
  by_cases hlt:k<n
  ·obtain⟨M',hM'⟩:∃M',M'=(ed v n).take (k+1):=⟨_,rfl⟩
   obtain⟨c,hc⟩:∃c,c=UInt8.ofNat (v / 256 ^ (n-1-k)):=⟨_,rfl⟩
   obtain⟨j,hj⟩:∃j:Nat,j=n-1-k:=⟨_,rfl⟩
   have hij:(n:Int)-1-k=j:=by omega
   have HA:=Lib.hid (show M'=M++[c] by rw[hM',hM,hc,List.take_add_one,Io _ _ _ hlt];rfl)
   have Qb:=Lib.hid (show M'.length=k+1 by rw[hM',List.length_take];omega)
   have yC:=Lib.hid hM'
   rw[hij]
   rw[←hj]at hc
   have HJ:=Lib.hid hj
   have hj8:j<8:=by omega
   clear hM hM' hj hij
   go_wp2_with (at_builtin;refine ji (L:=M') rfl _ _ _ rfl gy b8 (hR.later (az (Below.refl _ _) _)) rfl Jn.out (m:=1) rfl rfl (BytesAt.lit _ [c] (by simp) (by rw[abI,hc];rfl) (by simp[lim])) HA.out (by rw[Qb.out];omega) ?_;intro s3 w3 iD)
   go_roundw
   case rel=>exact⟨k+1,s3,by omega,by have:=HJ.out;go_num,by rw[Qb.out],by rw[←yC.out];exact iD⟩
   case measure=>simp[intOf]
  ·obtain rfl:k=n:=by omega
   have HE:=Lib.hid (show M=ed v k by rw[hM,List.take_of_length_le (by omega)])
   have HL:=Lib.hid (show(ed v k).length=k from hlen)
   clear hM hlen
   go_wp2_with fail
   go_ret
   rw[←HE.out]
   have:=hR.P5 (by rw[←Jn.out];unfold lim;omega)
   rw[←Jn.out]at this
   exact this
theorem abM(v:Nat)(w:World)(hv:v<4611686018427387904):Calls Tryz.prog 45 #[.int .i64 v] w (aU w (aA v)):=by
 have hlen:=P8 8 v (by decide) (by omega)
 have hq:=P9 v
 have HI:=Lib.hid (show aA v=tlv 2 (lead (nJ v)) by rw[←XP];rfl)
 have HD:=Lib.hid (abJ v)
 have HN:=Lib.hid (OD v)
 obtain⟨D,hD⟩:∃D,D=nJ v:=⟨_,rfl⟩
 rw[←hD]at HI HD HN hlen
 clear hD
 rw[HI.out]
 go_enter Tryz.func45,Tryz.ntmps45
 go_wp2_with fail
 go_loopw [0,3] (fun vv bv wr=>∃(m:Nat) (sb:Sl) (M:List UInt8),m≤v∧vv=.int .i64 m∧bv=.slice sb.a M.length sb.cap∧gz 5 w wr sb M∧Hid (D=wC m++M)) (fun vv _ _=>(intOf vv).toNat)
 case atStart=>exact⟨v / 256,_,[UInt8.ofNat v],by omega,rfl,rfl,gz.lit (Below.refl _ _) [UInt8.ofNat v] (by simp) (by simp),HD.out⟩
 case round=>
  clear hq
  obtain⟨m,sb,M,hm,rfl,rfl,hR,hH⟩:=hrel
  have yB:M.length≤8:=by have:=congrArg List.length hH.out;rw[List.length_append]at this;omega
  have rf:=hR.bytes (by unfold lim;omega)
  by_cases h0:0<m
  ·have hq:=P9 m
   obtain⟨M',hM'⟩:∃M',M'=[UInt8.ofNat m]++M:=⟨_,rfl⟩
   have HA:=Lib.hid hM'
   have abN:M'.length≤9:=by rw[hM'];simp;omega
   have HH:=Lib.hid (show D=wC (m / 256)++M' by rw[hH.out,P7 h0,hM',List.append_assoc])
   clear hM' hH
   have hR0:=gz.lit (T:=5) hR.b [UInt8.ofNat m] (cs:=#[.int .u8 ((m:Int) % 256)]) (by simp) (by simp)
   go_wp2_with (at_builtin;refine ji (L:=M') rfl _ _ _ rfl gy b8 hR0 (n:=1) rfl rfl rfl rfl (rf.later (az (Below.refl _ _) _)) HA.out (by omega) ?_;intro s3 w3 iD)
   go_roundw
   case rel=>exact⟨m / 256,s3,M',by omega,by first|rfl|go_num,rfl,iD,HH.out⟩
   case measure=>simp[intOf];omega
  ·obtain rfl:m=0:=by omega
   have HE:=Lib.hid (show D=M by rw[hH.out];rfl)
   obtain rfl:=HE.out
   clear HE hH
   have hD0:0<D.length:=List.length_pos_iff.2 HN.out
   obtain⟨b,o,ha,hc⟩:=rf.get 0 hD0
   obtain⟨sa,sc⟩:=sb
   dsimp only at ha
   subst ha
   simp only[Nat.add_zero]at hc
   by_cases hbig:128≤D[0].toNat
   ·obtain⟨M',hM'⟩:∃M',M'=[0]++D:=⟨_,rfl⟩
    have HL:=Lib.hid (show lead D=M' by rw[abK hD0 hbig,hM'])
    have abN:M'.length≤9:=by rw[hM'];simp;omega
    have HA:=Lib.hid hM'
    clear hM'
    rw[HL.out]
    have hR0:=gz.lit (T:=5) hR.b [0] (cs:=#[.int .u8 0]) rfl (by simp)
    have hbi:(128:Int)≤(D[0].toNat:Int):=by omega
    go_wp2_with (at_builtin;refine ji (L:=M') rfl _ _ _ rfl gy b8 hR0 (n:=1) rfl rfl rfl rfl (rf.later (az (Below.refl _ _) _)) HA.out (by omega) ?_;intro s3 w3 iD)
    refine(qZ 2 2 _ _ M' _ rfl (iD.bytes (by unfold lim;omega)) (by omega)).mono ?_
    intro e w4 h4
    obtain⟨s4,rfl,hb4,hB4⟩:=aU.from h4 iD.b
    clear hR hR0 iD rf hc
    go_wp2_with fail
    go_ret
    rw[HL.out]
    exact⟨s4,rfl,hb4,hB4⟩
   ·have HL:=Lib.hid (show lead D=D from abL hD0 hbig)
    have hbi:¬(128:Int)≤(D[0].toNat:Int):=by omega
    go_wp2_with fail
    refine(qZ 2 2 _ _ D _ rfl rf (by omega)).mono ?_
    intro e w4 h4
    obtain⟨s4,rfl,hb4,hB4⟩:=aU.from h4 hR.b
    clear hR rf hc
    go_wp2_with fail
    go_ret
    rw[HL.out]
    exact⟨s4,rfl,hb4,hB4⟩
theorem abO(v:Nat)(w:World):Calls Tryz.prog 46 #[.int .i64 v] w (aU w (bf v)):=by
 have hl:=jS 6 v
 have HT:=Lib.hid (show bf v=tlv 24 (ed v 6) from rfl)
 rw[HT.out]
 go_enter Tryz.func46,Tryz.ntmps46
 go_wp2_with fail
 refine(Qa v 6 _ (by decide)).mono ?_
 rintro e w1 ⟨s1,rfl,hb1,hB1⟩
 go_wp2_with fail
 refine(qZ 24 24 _ _ (ed v 6) _ rfl hB1.out (by omega)).mono ?_
 intro e w4 h4
 obtain⟨s4,rfl,hb4,hB4⟩:=aU.from h4 hb1
 go_wp2_with fail
 go_ret
 exact⟨s4,rfl,hb4,hB4⟩
theorem Jo(a:Option Addr)(cap:Nat)(L:List UInt8)(w:World)(h:BytesAt w a L)(hn:L.length≤1000000):Calls Tryz.prog 47 #[.slice a L.length cap] w (aU w (dP L)):=by
 go_enter Tryz.func47,Tryz.ntmps47
 go_wp2_with fail
 refine(qZ 4 4 _ _ L _ rfl h hn).mono ?_
 rintro e w4 ⟨s4,rfl,hb4,hB4⟩
 go_wp2_with fail
 go_ret
 exact⟨s4,rfl,hb4,hB4⟩
theorem Qc(w:World)(s:ByteArray)(hs:s.size≤lim):∃cap w',(convert 9 41 (.string s)).run Tryz.prog w=.ok (.slice (some ⟨w.heap.size,0,none⟩) s.data.toList.length cap) w'∧Below w.heap.size w w'∧BytesAt w' (some ⟨w.heap.size,0,none⟩) s.data.toList:=by
 have hl:s.data.toList.length=s.size:=by simp
 refine⟨_,_,by rw[hl];exact run_bytes_of_string w 9 41 5 s Tryz.underlying9 Tryz.underlying41 Tryz.underlying5,az (Below.refl _ _).drew _,by rw[hl];exact hs,fun i hi=>?_⟩
 refine⟨_,_,_,rfl,?_,s.data.toList[i],List.getElem?_eq_getElem hi,rfl⟩
 rw[show(w.drew.alloc _).cell? ⟨w.heap.size,0+i,none⟩=_ from cell_of_row (w.drew.alloc _) w.drew.heap.size (0+i) _ _ _ (World.alloc_heap_new w.drew _),Nat.zero_add,bytesRow_at s _ i (by omega)]
 simp
theorem yD(s:ByteArray)(w:World)(hs:s.size≤1000000):Calls Tryz.prog 49 #[.string s] w (aU w (bM s)):=by
 have hl:s.data.toList.length=s.size:=by simp
 obtain⟨cap,w1,hcv,hb1,hB1⟩:=Qc w s (by unfold lim;omega)
 have HT:=Lib.hid (show bM s=tlv 27 s.data.toList from rfl)
 rw[HT.out]
 obtain⟨L,hL⟩:∃L,L=s.data.toList:=⟨_,rfl⟩
 rw[←hL]at hl hcv hB1 ⊢
 have hl':L.length≤1000000:=by omega
 clear hL hl
 go_enter Tryz.func49,Tryz.ntmps49
 go_wp2_with fail
 refine(qZ 27 27 _ _ L _ rfl hB1 hl').mono ?_
 intro e w4 h4
 obtain⟨s4,rfl,hb4,hB4⟩:=aU.from h4 hb1
 go_wp2_with fail
 go_ret
 exact⟨s4,rfl,hb4,hB4⟩
theorem eU(ni:Int)(n:Nat)(a:Option Addr)(cap:Nat)(L:List UInt8)(w:World)(hni:ni=n)(hn:n≤30)(h:BytesAt w a L)(hl:L.length≤1000000):Calls Tryz.prog 44 #[.int .i64 ni,.slice a L.length cap] w (aU w (aB n L)):=by
 subst hni
 by_cases h0:L.length=0
 ·have HT:=Lib.hid (show aB n L=[] by unfold aB;rw[if_pos h0])
  rw[HT.out]
  go_enter Tryz.func44,Tryz.ntmps44
  go_wp2_with fail
  go_ret
  exact nV (Below.refl _ _)
 ·have HT:=Lib.hid (show aB n L=tlv (160+n) L by unfold aB;rw[if_neg h0])
  rw[HT.out]
  go_enter Tryz.func44,Tryz.ntmps44
  go_wp2_with fail
  refine(qZ _ (160+n) _ _ L _ (by simp) h hl).mono ?_
  rintro e w4 ⟨s4,rfl,hb4,hB4⟩
  go_wp2_with fail
  go_ret
  exact⟨s4,rfl,hb4,hB4⟩
theorem abP(c:Bool)(v:Value)(w:World):Calls Tryz.prog 114 #[.bool c,v] w fun e w'=>e=.returned (match c with|true=>.slice none 0 0|false=>v)∧w=w':=by
 cases c<;>
 ·go_enter Tryz.func114,Tryz.ntmps114
  go_wp2_with fail
  go_ret
  exact⟨rfl,rfl⟩
end Go.Proofs.YtibhckkjciflaaaGreatDoor
namespace Go.WW
open Go.RowKit
def ami(w:World)(p:aG)(e:Ending)(w':World):Prop:=
 ∃s:Sl,e=.returned (.agg (aJ s p))∧Below w.heap.size w w'∧bg w' (fresh w.heap.size w') (fun x=>gu x s p)
theorem uo{w:World}{p:Addr}{v:Value}{k o n:Nat}(h:k≠p.block):aS (w.setCell p v) k o n=aS w k o n:=DV (Below.heap_setCell w p v k h) o n
theorem oK(w:World)(a b:Obj):((w.alloc a).alloc b).heap[w.heap.size]?=some a:=by
 rw[Below.heap_alloc _ _ _ (by simp)];exact World.alloc_heap_new w a
attribute [go_sem] uo
end Go.WW
namespace Go.Proofs.YtibhckkjciflaaaGreatDoor
open Go.RowKit Go.WW
end Go.Proofs.YtibhckkjciflaaaGreatDoor
namespace Go.WW
open Go.RowKit
structure jB(E:TypeId)(kk:Nat)(R:World→Nat→Array Value→Prop)(wr:World)(base:Nat)(so:Sl)(rows:List (Array Value)):Prop where
 own:Own wr base E kk so rows
 each:∀i (hi:i<rows.length),bg wr (I7 base wr so.blk) (fun x=>R x i rows[i])
theorem jB.nil(E:TypeId)(kk:Nat)(R:World→Nat→Array Value→Prop)(w:World)(base:Nat):jB E kk R w base ⟨none,0⟩ []:=⟨Own.nil w base E kk,fun i hi=>by simp at hi⟩
theorem jB.carry{E:TypeId}{kk:Nat}{R:World→Nat→Array Value→Prop}{wr w2:World}{base:Nat}{so:Sl}{rows:List (Array Value)}(h:jB E kk R wr base so rows)(hb:Below wr.heap.size wr w2)(o:Obj):Own (w2.alloc o) base E kk so rows:=
 h.own.kept fun g hg=>by rw[Below.heap_alloc _ _ _ (Nat.lt_of_lt_of_le (h.own.base hg).2 hb.size)];exact hb.block g (h.own.base hg).2
theorem jB.step{E:TypeId}{kk:Nat}{R:World→Nat→Array Value→Prop}{wr w1 w2 w3:World}{base:Nat}{so s3:Sl}{rows:List (Array Value)}{cs:Array Value}{o:Obj}(h:jB E kk R wr base so rows)(hb1:Below wr.heap.size wr w1)(hb:Below w1.heap.size w1 w2)
  (hnew:bg w2 (fresh w1.heap.size w2) (fun x=>R x rows.length cs)) (hown:Own w3 base E kk s3 (rows++[cs])) (hg:(w2.alloc o).grownBy w3 so.blk) (hat:s3.blk=so.blk∨s3.blk=some (w2.alloc o).heap.size) (hbase:base≤wr.heap.size):jB E kk R w3 base s3 (rows++[cs]):=by
 have hs1:=hb1.size
 have hs2:=hb.size
 have hs3:=hg.size
 have hsa:(w2.alloc o).heap.size=w2.heap.size+1:=by simp
 have hso:∀g,so.blk=some g→g<wr.heap.size:=fun g hg=>(h.own.base hg).2
 refine⟨hown,fun i hi=>?_⟩
 by_cases hlt:i<rows.length
 ·rw[List.getElem_append_left hlt]
  refine(h.each i hlt).to (fun k hk=>?_) (fun k hk=>⟨hk.1,by have:=hk.2.1;omega,?_⟩)
  ·have hk1:=hk.2.1
   rw[hg.block k (by omega) hk.2.2,Below.heap_alloc _ _ _ (by omega),hb.block k (by omega),hb1.block k hk1]
  ·have hk1:=hk.2.1
   rcases hat with e|e
   ·rw[e];exact hk.2.2
   ·rw[e];intro h';cases h';omega
 ·obtain rfl:i=rows.length:=by simp at hi;omega
  rw[List.getElem_append_right (by omega)]
  simp only[Nat.sub_self,List.getElem_cons_zero]
  refine hnew.to (fun k hk=>?_) (fun k hk=>⟨by have:=hk.1;omega,by have:=hk.2;omega,?_⟩)
  ·have hk1:=hk.1
   have hk2:=hk.2
   rw[hg.block k (by omega) (fun e=>by have:=hso k e.symm;omega),Below.heap_alloc _ _ _ hk2]
  ·have hk1:=hk.1
   have hk2:=hk.2
   rcases hat with e|e
   ·intro h';have:=hso k (e▸h'.symm);omega
   ·rw[e];intro h';cases h';omega
theorem jB.done{E:TypeId}{kk n:Nat}{R:World→Nat→Array Value→Prop}{w':World}{base:Nat}{so:Sl}{rows:List (Array Value)}(h:jB E kk R w' base so rows)(hn:rows.length=n)(hl:n≤lim):bg w' (fresh base w') (fun x=>cu x kk so.a n (R x)):=fun x hx=>
 cu.lQ (h.own.fresh hx) hn hl (fun i hi=>h.each i hi x (fun k hk=>hx k ⟨hk.1,hk.2.1⟩))
def AU(Φ:World→Sl→Prop)(n:Nat)(w:World)(e:Ending)(w':World):Prop:=∃s:Sl,e=.returned (.slice s.a n s.cap)∧Below w.heap.size w w'∧bg w' (fresh w.heap.size w') (fun x=>Φ x s)
theorem AV{W wr w1 w2 w3:World}{so:Sl}{o:Obj}{E:TypeId}{kk:Nat}{R:World→Nat→Array Value→Prop}{rows:List (Array Value)}(h:jB E kk R wr W.heap.size so rows)(hb:Below W.heap.size W wr)(hb1:Below wr.heap.size wr w1)(hb2:Below w1.heap.size w1 w2)(hg:(w2.alloc o).grownBy w3 so.blk):Below W.heap.size W w3:=
 have h2:=af (af hb hb1) hb2
 (h2.alloc h2.size o).grown hg (by have:=h2.size;simp;omega) (fun _ e=>(h.own.base e).1)
end Go.WW
namespace Go.Proofs.YtibhckkjciflaaaGreatDoor
open Go.RowKit Go.WW
theorem abQ:ik Tryz.prog 26 25 2 40:=ik.of Tryz.underlying26 (by kernel_rfl)
theorem abR:ik Tryz.prog 47 151 3 40:=ik.of Tryz.underlying47 (by kernel_rfl)
theorem abS:ik Tryz.prog 29 49 5 64:=ik.of Tryz.underlying29 (by kernel_rfl)
theorem jM:ik Tryz.prog 30 41 1 24:=ik.of Tryz.underlying30 (by kernel_rfl)
def Qd(l:List (List UInt8))(x:World)(i:Nat)(cs:Array Value):Prop:=∃v,cs=#[v]∧∃p,∃s:Sl,l[i]?=some p∧v=.slice s.a p.length s.cap∧BytesAt x s.a p
theorem abT(a:Option Addr)(cap:Nat)(l:List (List UInt8))(w:World)(hl:dH w a l) :
  Calls Tryz.prog 71 #[.slice a l.length cap,.func (.func 72) #[] #[]] w (AU (fun x s=>dH x s.a l) l.length w):=by
 have hn:l.length≤4294967000:=hl.1
 rcases eu.addr hl with h0|⟨b,o,rfl,hb⟩
 ·obtain rfl:l=[]:=List.eq_nil_of_length_eq_zero h0
  go_enter Tryz.func71,Tryz.ntmps71
  go_wp2_with fail
  refine wp_loop_rounds 1 ?_
  rw[rounds_succ]
  go_wp2_with fail
  go_ret
  exact⟨⟨none,0⟩,rfl,Below.refl _ _,fun x _=>⟨by simp[lim],fun i hi=>by simp at hi⟩⟩
 go_enter Tryz.func71,Tryz.ntmps71
 go_wp2_with fail
 go_loopw [5,10] (fun ov i wr=>∃(k:Nat) (so:Sl) (rows:List (Array Value)),k≤l.length∧i=.int .i64 k∧ov=.slice so.a k so.cap∧Hid (rows.length=k)∧Below w.heap.size w wr∧jB 41 1 (Qd l) wr w.heap.size so rows) (fun _ i _=>l.length-(intOf i).toNat)
 case atStart=>exact⟨0,⟨none,0⟩,[],Nat.zero_le _,rfl,rfl,rfl,Below.refl _ _,jB.nil _ _ _ _ _⟩
 case round=>
  obtain⟨k,so,rows,hk,rfl,rfl,hlr,hbr,hC⟩:=hrel
  by_cases hlt:k<l.length
  ·obtain⟨t,hc,hp⟩:=hl.at k hlt
   obtain⟨hcc,ax,hrr⟩:=aK hbr
   go_wp2_with fail
   have hb1:Below wr.heap.size wr wr:=Below.refl _ _
   refine(abB _ _ _ _ (hp.later (af hbr hb1))).mono ?_
   rintro e w2 ⟨s',rfl,hb2,hd2⟩
   have hr2:=af hb1 hb2
   have hown:=hC.carry hr2 (.cells #[Value.slice s'.a l[k].length s'.cap] 41)
   clear hcc ax hrr
   go_wp2_with (at_builtin;refine kZ rfl (.tmp 14) (.tmp 18) _ rfl jM (n:=k) rfl hlr.out.symm hown rfl rfl (eF.new _ #[Value.slice s'.a l[k].length s'.cap] _ _ (by simp[go_sem]) (by simp[go_sem,dG,Value.oneCell'])) (by have:=hlr.out;rw[this];simp;omega) (by have h9:=hbr.size;have h8:=hr2.size;simp;omega) ?_;intro s3 w3 hown3 hg3 jh)
   have wE:=hC.step hb1 hb2 (o:=.cells #[Value.slice s'.a l[k].length s'.cap] 41) (R:=Qd l) (fun x hx=>⟨_,rfl,l[k],s',by rw[hlr.out];exact List.getElem?_eq_getElem hlt,rfl,hd2 x hx⟩) hown3 hg3 jh hbr.size
   have hb3:=AV hC hbr hb1 hb2 hg3
   have HL:=Lib.hid (show(rows++[#[Value.slice s'.a l[k].length s'.cap]]).length=k+1 by have:=hlr.out;simp[this])
   clear hown hown3 hg3 jh hC hd2 hr2 hb1 hb2 hlr
   go_wp2_with fail
   go_roundw
   case rel=>exact⟨k+1,s3,_,by omega,by go_num,rfl,HL.out,hb3,wE⟩
   case measure=>simp[intOf];omega
  ·obtain rfl:k=l.length:=by omega
   go_wp2_with fail
   go_ret
   exact⟨so,rfl,hbr,fun x hx=>eu.lQ (hC.own.fresh hx) hlr.out hl.1 (fun i hi=>hC.each i hi x (fun j hj=>hx j ⟨hj.1,hj.2.1⟩))⟩
end Go.Proofs.YtibhckkjciflaaaGreatDoor
