/- A part of the proof. -/
import Derived.Test.YtfieenjdcpjmgaaGreatDoorA29
import Derived.Test.YtfieenjdcpjmgaaGreatDoorA19
import Derived.Test.YtfieenjdcpjmgaaGreatDoorA27
import Derived.Test.YtfieenjdcpjmgaaGreatDoorA28
import Derived.Test.YtfieenjdcpjmgaaGreatDoorA24
import Derived.Shelf.LaysM
import Derived.Shelf.Bytes.Small
import Derived.Test.YtfieenjdcpjmgaaGreatDoorProg
import Derived.Test.YtfieenjdcpjmgaaGreatDoorA03
import Derived.Test.YtfieenjdcpjmgaaGreatDoorA07
import Derived.Test.YtfieenjdcpjmgaaGreatDoorA17
import Derived.Test.YtfieenjdcpjmgaaGreatDoorA22
import Derived.Test.YtfieenjdcpjmgaaGreatDoorA20
import Derived.Test.YtfieenjdcpjmgaaGreatDoorA11
set_option maxRecDepth 100000
set_option maxHeartbeats 8000000
namespace Go.Proofs.YtfieenjdcpjmgaaGreatDoor
open Go.RowKit Go.WW
theorem am2(g cap:Nat)(X:List ah)(lm:Int)(w:World)(hn:X.length≤12)(hX:kW g X X w w)(hD:(X.map ng).Nodup) :
  Calls Tryz.prog 267 #[.slice (some ⟨g,0,none⟩) X.length cap,.int .i64 0,.int .i64 X.length,.int .i64 lm,.func (.func 108) #[] #[]] w fun e w'=>e=.returned (.tuple #[])∧∃Y,kW g X Y w w'∧Sorted dw ng Y:=by
 have HI:=Lib.hid (am1 g cap X w hn hX hD)
 clear hX hD
 have h12:(X.length:Int)≤12:=by omega
 go_enter Tryz.func267,Tryz.ntmps267
 go_wp2_with fail
 refine wp_loop_rounds 1 ?_
 rw[rounds_succ]
 go_wp2_with fail
 refine HI.out.mono ?_
 rintro e w' ⟨rfl,hY⟩
 dsimp only
 go_wp2_with fail
 refine bodyPost_ret (results_none rfl _ _ _) rfl ⟨rfl,hY⟩
theorem am3(g cap:Nat)(X:List ah)(w:World)(hn:X.length≤12)(hX:kW g X X w w)(hD:(X.map ng).Nodup) :
  Calls Tryz.prog 188 #[.slice (some ⟨g,0,none⟩) X.length cap,.func (.func 108) #[] #[]] w fun e w'=>e=.returned (.tuple #[])∧∃Y,kW g X Y w w'∧Sorted dw ng Y:=by
 have HI:=Lib.hid (fun lm=>am2 g cap X lm w hn hX hD)
 clear hX hD
 go_enter Tryz.func188,Tryz.ntmps188
 go_wp2_with fail
 refine(DC _ hn w).mono ?_
 rintro e w' ⟨⟨k,rfl⟩,rfl⟩
 dsimp only
 go_wp2_with fail
 refine(HI.out k).mono ?_
 rintro e w' ⟨rfl,hY⟩
 dsimp only
 go_wp2_with fail
 go_end0
 exact⟨rfl,hY⟩
theorem am4(w:World):Calls Tryz.prog 321 #[.slice none 0 0,.int .i64 0,.int .i64 0,.func (.func 108) #[] #[]] w fun e w'=>e=.returned (.tuple #[])∧w=w':=by
 go_enter Tryz.func321,Tryz.ntmps321
 go_wp2_with fail
 refine wp_loop_rounds 1 ?_
 rw[rounds_succ]
 go_wp2_with fail
 go_end0
 exact⟨rfl,rfl⟩
theorem am5(lm:Int)(w:World):Calls Tryz.prog 267 #[.slice none 0 0,.int .i64 0,.int .i64 0,.int .i64 lm,.func (.func 108) #[] #[]] w fun e w'=>e=.returned (.tuple #[])∧w=w':=by
 go_enter Tryz.func267,Tryz.ntmps267
 go_wp2_with fail
 refine wp_loop_rounds 1 ?_
 rw[rounds_succ]
 go_wp2_with fail
 refine(am4 w).mono ?_
 rintro e w' ⟨rfl,rfl⟩
 dsimp only
 go_wp2_with fail
 refine bodyPost_ret (results_none rfl _ _ _) rfl ⟨rfl,rfl⟩
theorem am6(w:World):Calls Tryz.prog 188 #[.slice none 0 0,.func (.func 108) #[] #[]] w fun e w'=>e=.returned (.tuple #[])∧w=w':=by
 go_enter Tryz.func188,Tryz.ntmps188
 go_wp2_with fail
 refine(DC 0 (by omega) w).mono ?_
 rintro e w' ⟨⟨k,rfl⟩,rfl⟩
 dsimp only
 go_wp2_with fail
 refine(am5 k w).mono ?_
 rintro e w' ⟨rfl,rfl⟩
 dsimp only
 go_wp2_with fail
 go_end0
 exact⟨rfl,rfl⟩
end Go.Proofs.YtfieenjdcpjmgaaGreatDoor
namespace Go.WW
open Go.RowKit
abbrev EH(E:List ah):List (ByteArray×Value):=E.map fun x=>(x.name,Value.agg (aG x))
end Go.WW
namespace Go.Proofs.YtfieenjdcpjmgaaGreatDoor
open Go.RowKit Go.WW
def Zf(E:List ah)(w:World)(z:Ending)(w':World):Prop:=∃(s:Sl) (Y:List ah),z=.returned (.slice s.a Y.length s.cap)∧Below w.heap.size w w'∧Y.Perm E∧Sorted dw ng Y∧bD w' (fresh w.heap.size w') (fun x=>mZ x s.a Y)∧(0<Y.length→Y.length≤s.cap∧∃g,s.a=some ⟨g,0,none⟩∧w.heap.size≤g∧EG w' g 50)
theorem am7(e:Nat)(E:List ah)(w:World)(hm:MapOf w e (EH E))(hn:E.length≤12)(hD:(E.map ng).Nodup) :
  Calls Tryz.prog 107 #[.map (some e),.func (.func 108) #[] #[]] w (Zf E w):=by
 obtain⟨w1,hrange,hit,hb1,hs1⟩:=Gh (P:=Tryz.prog) Tryz.underlying86 hm
 have HD:=Lib.hid hD
 have hel:=hm.lt
 have hd0:(EH E).length=E.length:=by simp
 clear hD
 go_enter Tryz.func107,Tryz.ntmps107
 go_wp2_with fail
 clear hrange
 go_loopw [5] (fun lv wr=>∃(so:Sl) (T left:List ah),lv=.slice so.a T.length so.cap∧Hid (lq wr w.heap.size e (EH E) (EH left))∧Hid ((T++left).Perm E)∧Go.WW.Own wr w1.heap.size 50 10 so (T.map aG)∧Below w.heap.size w wr∧w1.heap.size≤wr.heap.size∧(T=[]→so=⟨none,0⟩)) (fun lv _=>13-(match lv with | .slice _ k _=>k|_=>0))
 case atStart=>exact⟨⟨none,0⟩,[],E,rfl,hit,List.Perm.refl _,Go.WW.Own.nil _ _ _ _,hb1,Nat.le_refl _,fun _=>rfl⟩
 case round=>
  obtain⟨so,T,left,rfl,hI,hp,hO,hbr,oO,hnil⟩:=hrel
  have hlen:T.length+left.length=E.length:=by have:=hp.out.length_eq;simpa using this
  rcases Gi (P:=Tryz.prog) 0 hI.out with⟨hl0,hrun⟩|⟨l1,x,l2,w2,hl,hrun,hent,hI2,hb2,hs2⟩
  ·obtain rfl:left=[]:=by cases left<;>simp_all
   have xg:T.Perm E:=by simpa using hp.out
   rcases Nat.eq_zero_or_pos T.length with hT0|hT0
   ·obtain rfl:T=[]:=List.eq_nil_of_length_eq_zero hT0
    obtain rfl:=hnil rfl
    go_wp2_with fail
    refine(am6 wr).mono ?_
    rintro z w' ⟨rfl,rfl⟩
    dsimp only
    go_wp2_with fail
    go_ret
    exact⟨⟨none,0⟩,[],rfl,hbr,xg,List.Pairwise.nil,fun x _=>⟨by simp[lim],fun i hi=>by simp at hi⟩,fun h=>absurd h (Nat.lt_irrefl _)⟩
   ·obtain⟨g,hga,hgb,hg0⟩:=hO.row 0 (by simpa using hT0)
    have hge:=hO.base hgb
    obtain⟨sa,sc⟩:=so
    obtain rfl:sa=some ⟨g,0,none⟩:=hga
    have DD:kW g T T wr wr:=⟨List.Perm.refl _,But.refl _ _,mZ.ed hO (by have:=VU;omega),by simpa using hO.amZ rfl,by
     rcases hO.own.2 with⟨hv,_⟩|⟨g',cap,cur,hv,_,hh,_⟩
     ·cases hv
     ·cases hv;exact⟨cur,hh⟩⟩
    have hcap:T.length≤sc:=by
     rcases hO.own.2 with⟨hv,_⟩|⟨g',cap,cur,hv,_,hh,hle,_⟩
     ·cases hv
     ·cases hv;simpa using hle
    have HS:=Lib.hid (am3 g sc T wr (by omega) DD ((xg.map ng).nodup_iff.2 HD.out) )
    clear DD
    go_wp2_with fail
    refine HS.out.mono ?_
    rintro z w' ⟨rfl,Y,hY,hso⟩
    dsimp only
    go_wp2_with fail
    have hbw:=yS hbr hY.but (fun j (hj:j=g)=>by omega)
    have Hr:=hY.perm.length_eq
    have hg':g<w'.heap.size:=by have:=hY.but.size;omega
    go_ret
    exact⟨⟨some ⟨g,0,none⟩,sc⟩,Y,by rw[Hr];rfl,hbw,hY.perm.trans xg,hso,fun x hx=>hY.rows.block (hx g ⟨by omega,hg'⟩),fun _=>⟨by rw[Hr];exact hcap,g,rfl,by omega,hY.typ⟩⟩
  ·obtain⟨L1,L',hL,e1,e2⟩:=List.map_eq_append_iff.1 hl
   obtain⟨y,L2,rfl,e3,e4⟩:=List.map_eq_cons_iff.1 e2
   subst e3 e1 e4 hL
   have hbw2:Below w.heap.size w w2:=yS hbr hb2 (fun j (hj:j=w.heap.size)=>by omega)
   have hown:Go.WW.Own ((w2.alloc (.cells (aG y) 50)).alloc (.cells (aG y) 50)) w1.heap.size 50 10 so (T.map aG):=hO.kept fun g hg=>by
    have hgb:=hO.base hg
    rw[Below.heap_alloc _ _ _ (by simp;omega),Below.heap_alloc _ _ _ (by omega)]
    exact hb2.block g hgb.2 (show ¬g=w.heap.size by omega)
   have hrun':(Instr.next (.pointer (some ⟨w.heap.size,0,none⟩)) false 0).run Tryz.prog wr=.ok (.tuple #[.bool true,.string (y.name),.agg (aG y)]) w2:=hrun
   have DF:(Instr.entry (.pointer (some ⟨w.heap.size,0,none⟩))).run Tryz.prog w2=.ok (.tuple #[.string (y.name),.agg (aG y)]) w2:=hent
   have hsrc:cO ((w2.alloc (.cells (aG y) 50)).alloc (.cells (aG y) 50)) 10 (some ⟨w2.heap.size+1,0,none⟩) [aG y]:=by
    have:=cO.new (w2.alloc (.cells (aG y) 50)) (aG y) 50 10 (by simp[go_sem]) (by simp[go_sem])
    rwa[World.size_alloc]at this
   have HS2:=Lib.hid hs2
   clear hrun hent hs2
   go_wp2_with (at_builtin;refine gp rfl (.tmp 14) (.tmp 16) _ rfl am0 (n:=T.length) (rows:=T.map aG) (news:=[aG y]) rfl (by simp) hown rfl rfl hsrc (by rw[List.length_map];simp;omega) (by have:=HS2.out;simp;omega) ?_;intro s3 w3 hown3 hg3 gq)
   have hs2:=HS2.out
   have jE:Below w.heap.size w ((w2.alloc (.cells (aG y) 50)).alloc (.cells (aG y) 50)):=aj (aj hbw2 _) _
   have hb3:Below w.heap.size w w3:=jE.grown hg3 jE.size (fun g hg=>by have:=(hown.base hg).1;omega)
   have hs3:=hg3.size
   have hkp:∀k,k<w1.heap.size→w3.heap[k]?=w2.heap[k]?:=fun k hk=>by
    rw[hg3.block k (by simp;omega) (fun e=>by have:=(hown.base e.symm).1;omega),Below.heap_alloc _ _ _ (by simp;omega),Below.heap_alloc _ _ _ (by omega)]
   have HI3:=Lib.hid (hI2.at (hkp w.heap.size (by omega)) (hkp e (by omega)))
   have DI:=Lib.hid (show((T++[y])++(L1++L2)).Perm E from List.Perm.trans (by simpa using List.perm_middle.symm.append_left T) hp.out)
   have L8:Go.WW.Own w3 w1.heap.size 50 10 s3 ((T++[y]).map aG):=by rw[List.map_append];exact hown3
   have hsz3:w1.heap.size≤w3.heap.size:=by simp at hs3;omega
   have hTl:T.length+1≤12:=by simp at hlen;omega
   clear hown hown3 hg3 gq hI2 hb2 hbw2 hkp jE hs3 HS2 hs2
   go_wp2_with fail
   go_roundw
   case rel=>exact⟨s3,T++[y],L1++L2,by simp,by simpa[Hid]using HI3.out,DI.out,L8,hb3,hsz3,by simp⟩
   case measure=>simp;omega
theorem am8(b o p:Nat)(E:List ah)(w:World)(hc:w.cell? ⟨b,o+4,none⟩=some (.map (some p)))(hm:MapOf w p (EH E))(hn:E.length≤12)(hD:(E.map ng).Nodup) :
  Calls Tryz.prog 59 #[.pointer (some ⟨b,o,none⟩)] w (Zf E w):=by
 have HI:=Lib.hid (am7 p E w hm hn hD)
 have hlt:=World.block_lt_of_cell? w _ hc
 clear hD hm
 go_enter Tryz.func59,Tryz.ntmps59
 go_wp2_with fail
 refine HI.out.mono ?_
 rintro z w' ⟨sl,Y,rfl,hY⟩
 dsimp only
 go_wp2_with fail
 go_ret
 exact⟨sl,Y,rfl,hY⟩
end Go.Proofs.YtfieenjdcpjmgaaGreatDoor
namespace Go.WW
open Go.RowKit
theorem am9(v:Nat):bK v 1=[UInt8.ofNat v]:=rfl
structure Clear(A B w:World)(s:Sl):Prop where
 keep:∀j,A.heap.size≤j→j<B.heap.size→w.heap[j]?=B.heap[j]?
 at_:∀g,s.blk=some g→g<A.heap.size∨B.heap.size≤g
 size:B.heap.size≤w.heap.size
theorem Clear.start{T:TypeId}{W A B:World}{s:Sl}{l:List UInt8}(h:dE T W A s l):Clear A B B s:=
 ⟨fun _ _ _=>rfl,fun g hg=>.inl (h.own.base (by first|exact hg|exact hg.symm)).2,Nat.le_refl _⟩
theorem Clear.later{A B w v:World}{s:Sl}(h:Clear A B w s)(hb:Below w.heap.size w v):Clear A B v s:=
 ⟨fun j h1 h2=>(hb.block j (by have:=h.size;omega)).trans (h.keep j h1 h2),h.at_,Nat.le_trans h.size hb.size⟩
theorem Clear.app{A B w v:World}{s s1:Sl}(h:Clear A B w s)(hb:kV w s v)(n:mf w s s1):Clear A B v s1:=
 ⟨fun j h1 h2=>(But.block hb j (by have:=h.size;omega) (fun e=>by rcases h.at_ j e with g|g<;>omega)).trans (h.keep j h1 h2),
  fun g hg=>by
   rcases n g hg with h1|h1
   ·exact h.at_ g (h1.symm.trans hg)
   ·exact .inr (Nat.le_trans h.size h1),
  Nat.le_trans h.size (But.size hb)⟩
theorem Clear.dep{A B w:World}{s:Sl}{Φ:World→Prop}(h:Clear A B w s)(hd:bD B (fresh A.heap.size B) Φ):Φ w:=hd w fun k hk=>h.keep k hk.1 hk.2
theorem ana{α β:Type}{f:α→β}{l:List α}(h:(l.map f).Nodup):l.Nodup:=by
 refine(List.pairwise_map.1 h).imp ?_
 rintro a c hne rfl
 exact hne rfl
theorem fJ.anb{D:Db}{X:List EE}{NL:List (ByteArray×ByteArray)}{E:List EE}{P Y:List ah}(h:fJ D X NL E P)(hs:Sorted dw (fun q:ah=>q.name) D.ax)(hp:Y.Perm P)(hY:Sorted dw ng Y):Y=D.ax:=
 J5 (k:=fun q:ah=>q.name) oP _ _ hY hs (hp.trans h.dQ.perm)
theorem fJ.anc{D:Db}{X:List EE}{NL:List (ByteArray×ByteArray)}{E Y:List EE}{P:List ah}(h:fJ D X NL E P)(hp:Y.Perm E)(hY:Sorted fA eH Y):Y.map (·.2)=D.entries:=by
 rw[h.eq]
 exact J5 (k:=fun d:Entry=>d.name) J4 _ _ (List.pairwise_map.2 hY) (List.pairwise_map.2 h.sorted) ((hp.map _).trans h.perm)
theorem fJ.ane{D:Db}{X:List EE}{NL:List (ByteArray×ByteArray)}{E:List EE}{P:List ah}(h:fJ D X NL E P):(E.map eH).Nodup:=by
 have h1:=h.good.nodup
 rw[List.map_map]at h1
 have h2:(E.map eH).map textOf=E.map ((fun x:Entry=>textOf x.name)∘fun x=>x.2):=by rw[List.map_map];rfl
 rw[←h2]at h1
 exact ana h1
end Go.WW
namespace Go.Proofs.YtfieenjdcpjmgaaGreatDoor
open Go.RowKit Go.WW
theorem Zg(b n e p:Nat)(re:ByteArray)(NL:List (ByteArray×ByteArray))(E:List EE)(P:List ah)(D:Db)(X:List EE)(w:World)(h:bU w b n e p re D.ay (fB NL) E P)(hre:¬re=⟨#[]⟩)(hDr:D.aF=re)(hr:fJ D X NL E P)
  (hso:Sorted dw (fun q:ah=>q.name) D.ax) (hE:∀x∈E,bJ w x.1 x.2) (hok:BC D) (hn:E.length≤12) (hp:P.length≤12) (hs1:D.ay<1000000) (ht:uI Tryz.prog w) :
  Calls Tryz.prog 21 #[.pointer (some ⟨b,0,none⟩)] w (bG w (jd D)):=by
 have Hq:(P.map ng).Nodup:=(hr.dQ.perm.map ng).nodup_iff.2 hr.dQ.nodup
 have EI:D.entries.length=E.length:=by rw[hr.eq];have:=hr.perm.length_eq;simpa using this.symm
 have OY:D.ax.length=P.length:=hr.dQ.perm.length_eq.symm
 obtain⟨S,hS⟩:∃S:Nat,S=D.ay.toNat:=⟨_,rfl⟩
 have YQ:D.ay=(S:Int):=by have:=hok.ay;omega
 have aqP:re.size≤1000:=by have:=hok.re;rw[hDr]at this;exact this
 have aqQ:S<18446744073709551616:=by have:=hok.ay;omega
 have aqR:P.length<18446744073709551616:=by omega
 have aqS:E.length<18446744073709551616:=by omega
 have HMP:=Lib.hid h.pm
 have HNP:=Lib.hid hp
 have HNE:=Lib.hid hn
 obtain⟨L1,hL1⟩:∃L,L=bK re.size 1++re.data.toList:=⟨_,rfl⟩
 obtain⟨L2,hL2⟩:∃L,L=L1++bK S 8:=⟨_,rfl⟩
 obtain⟨L3,hL3⟩:∃L,L=L2++bK P.length 4:=⟨_,rfl⟩
 have HH:=Lib.hid (show OE D=L3 by rw[hL3,hL2,hL1,hS,am9,←hDr,←OY];rfl)
 have hl1:L1.length=1+re.size:=by rw[hL1,List.length_append,gX];simp
 have hl2:L2.length=9+re.size:=by rw[hL2,List.length_append,gX,hl1];omega
 have hl3:L3.length=13+re.size:=by rw[hL3,List.length_append,gX,hl2];omega
 have hln:=yx (P:=Tryz.prog) (ty:=3) (nG:=#[86]) rfl Tryz.underlying86 h.pm
 have anh:=yx (P:=Tryz.prog) (ty:=3) (nG:=#[85]) rfl Tryz.underlying85 h.em
 rw[List.length_map]at hln anh
 have OH:=Lib.hid hL1
 have HL2:=Lib.hid hL2
 have OI:=Lib.hid hL3
 have OJ:=Lib.hid hl1
 have Hl2:=Lib.hid hl2
 have IM:=Lib.hid hl3
 have lW:=Lib.hid hok
 have HR:=Lib.hid hr
 have HSO:=Lib.hid hso
 have HE:=Lib.hid hE
 have HD:=Lib.hid h
 have HT:=Lib.hid ht
 have HPN:=Lib.hid Hq
 have HDE:=Lib.hid EI
 have HDP:=Lib.hid OY
 have HDR:=Lib.hid hDr
 clear hL1 hL2 hL3 hl1 hl2 hl3 hS hok hr hso hE ht Hq EI OY hp hn hs1
 obtain⟨c0,c1,c2,c3,c4,f1,hl⟩:=dM h.box
 rw[YQ]at c1
 clear h hDr
 go_enter Tryz.func21,Tryz.ntmps21
 have A1:=Ob w w ⟨none,0⟩ [] re 1 (dE.none _ (Below.refl _ _)) (by decide) (by simp) (by omega)
 rw[List.nil_append,←OH.out]at A1
 have A1':=Lib.hid A1
 clear A1
 go_wp2_with fail
 refine(jA _ _ _ c0 hre).mono ?_
 rintro x w' ⟨rfl,rfl⟩
 dsimp only
 go_wp2_with fail
 refine A1'.out.mono ?_
 rintro x w1 ⟨s1,rfl,hR1,-,-⟩
 have A2:=IA w w1 s1 L1 S 8 hR1 (by decide) (by have:=OJ.out;omega)
 rw[←HL2.out]at A2
 have A2':=Lib.hid A2
 clear A2
 obtain⟨hcc,aS,hrr⟩:=aY hR1.b
 go_wp2_with fail
 refine A2'.out.mono ?_
 rintro x w2 ⟨s2,rfl,hR2,-,-⟩
 have A3:=IA w w2 s2 L2 P.length 4 hR2 (by decide) (by have:=Hl2.out;omega)
 rw[←OI.out]at A3
 have A3':=Lib.hid A3
 clear A3 hcc aS hrr hR1
 obtain⟨hcc,aS,hrr⟩:=aY hR2.b
 have EJ:=yx (P:=Tryz.prog) (ty:=3) (nG:=#[86]) rfl Tryz.underlying86 (HD.out.later hR2.b).pm
 rw[List.length_map]at EJ
 go_wp2_with fail
 refine A3'.out.mono ?_
 rintro x w3 ⟨s3,rfl,cZ,-,-⟩
 clear hcc aS hrr hR2 EJ
 obtain⟨d0,d1,d2,d3,d4,g1,gl⟩:=dM (HD.out.later cZ.b).box
 go_wp2_with fail
 refine(am8 b 0 p P w3 (by simpa using d4) (HD.out.later cZ.b).pm HNP.out HPN.out).mono ?_
 rintro x w4 ⟨sl,Y,rfl,hb4,zF,hYs,hYd,-⟩
 obtain rfl:Y=D.ax:=HR.out.anb HSO.out zF hYs
 have Zh:Clear w3 w4 w4 s3:=Clear.start cZ
 have zy:=cZ.later hb4
 have HYD:=Lib.hid hYd
 obtain⟨PL,vU⟩:∃PL,PL=qm D.ax:=⟨_,rfl⟩
 have Ew:=Lib.hid vU
 have zA:=Lib.hid (show PL.length=D.ax.length by rw[vU];simp[qm])
 have OM:=Lib.hid (show PL.flatten.length≤20000 by rw[vU];exact YO D lW.out)
 have hDl:D.ax.length≤64:=lW.out.np
 clear vU hYd zF hYs hb4 cZ d0 d1 d2 d3 d4 g1 gl
 go_wp2_with fail
 go_loopw [3,5,6,7,42] (fun bv _ _ _ iv wr=>∃(k:Nat) (sc:Sl),k≤D.ax.length∧iv=.int .i64 k∧∃M:List UInt8,Hid (M=L3++(PL.take k).flatten)∧bv=.slice sc.a M.length sc.cap∧dE 5 w wr sc M∧Hid (Clear w3 w4 wr sc)) (fun _ _ _ _ iv _=>D.ax.length-(intOf iv).toNat)
 case atStart=>exact⟨0,s3,Nat.zero_le _,rfl,L3,by simp[Hid],rfl,zy,Zh⟩
 case round=>
  clear zy Zh
  obtain⟨k,sc,hk,rfl,M,HM,rfl,hR,hC⟩:=hrel
  have lI:=Lib.hid (show M.length≤22000 by have h1:=IM.out;have h2:=OM.out;have h3:=zn PL k;rw[HM.out,List.length_append];omega)
  by_cases hlt:k<D.ax.length
  ·obtain⟨pb,po,cs,ha,hrow,x,hx,rfl⟩:=(hC.out.dep HYD.out).2 k hlt
   obtain rfl:D.ax[k]=x:=by rw[List.getElem?_eq_getElem hlt]at hx;exact Option.some.inj hx
   have hb:pb<wr.heap.size:=gG hrow
   have hki:(k:Int)<(D.ax.length:Int):=by omega
   have hq:=lW.out.dQ _ (List.getElem_mem hlt)
   obtain⟨str,hstr⟩:∃t,t=pJ D.ax[k]:=⟨_,rfl⟩
   have hsl:str.size≤300:=by rw[hstr];exact OG (BB hq)
   have HK:=Lib.hid (show(PL.take (k+1)).flatten=(PL.take k).flatten++(bK str.size 4++str.data.toList) by
    rw[xC (by rw[zA.out];exact hlt)]
    congr 1
    have:PL[k]'(by rw[zA.out];exact hlt)=uF (pJ D.ax[k]).data.toList:=by simp[Ew.out,qm]
    rw[this,←hstr]
    unfold uF
    rw[show str.data.toList.length=str.size by simp])
   have hpt:=fun v (hv:Below wr.heap.size wr v)=>amx D.ax[k] v hq (by have:=(BB hq).1;unfold lim;omega) (jo HT.out (ag hR.b hv))
   rw[←hstr]at hpt
   have OZ:=Lib.hid hpt
   generalize D.ax[k]=q at *
   clear hstr hx hq hpt
   have jE:Below wr.heap.size wr (wr.alloc (.cells (aG q) 50)):=aj (Below.refl _ _) _
   have hA0:=World.alloc_heap_new wr (.cells (aG q) 50)
   obtain⟨ac,af,ar,al⟩:=aC hA0
   go_wp2_with fail
   refine(OZ.out _ jE).mono ?_
   rintro x V1 ⟨rfl,hb1⟩
   have hB1:=ag jE hb1
   have A5:=Lib.hid (Ob w V1 sc M str 4 (hR.later hB1) (by decide) (by have:=lI.out;omega) (by omega))
   have xP:=Lib.hid (hC.out.later hB1)
   clear ac af ar al hA0 jE hb1 hrow hR hC
   dsimp only
   go_wp2_with fail
   refine A5.out.mono ?_
   rintro x V2 ⟨s5,rfl,vV,hS5,EK⟩
   have O0:=Lib.hid (xP.out.app hS5 EK)
   obtain⟨M2,hM2⟩:∃N,N=M++(bK str.size 4++str.data.toList):=⟨_,rfl⟩
   rw[←hM2]at vV
   rw[←hM2]
   have oV:=Lib.hid (show M2=L3++(PL.take (k+1)).flatten by rw[hM2,HM.out,HK.out,List.append_assoc])
   clear hM2 hS5 EK A5 xP
   dsimp only
   go_wp2_with fail
   go_roundw
   case rel=>
    exact⟨k+1,s5,by omega,by go_num,M2,oV.out,rfl,vV,O0.out⟩
   case measure=>simp[intOf];omega
  have OQ:=Lib.hid (show M=L3++PL.flatten by rw[HM.out,List.take_of_length_le (by rw[zA.out];omega)])
  obtain⟨N4,xN⟩:∃N,N=M++bK E.length 4:=⟨_,rfl⟩
  have IP:=Lib.hid xN
  have IQ:=Lib.hid (show N4.length≤22004 by have:=lI.out;rw[xN,List.length_append,gX];omega)
  obtain⟨EL,vW⟩:∃EL,EL=qo D.entries:=⟨_,rfl⟩
  have EC:=Lib.hid vW
  have zB:=Lib.hid (show EL.length=D.entries.length by rw[vW];simp[qo])
  have OT:=Lib.hid (show EL.flatten.length≤30000000 by rw[vW];exact YP D lW.out)
  have EJ:=yx (P:=Tryz.prog) (ty:=3) (nG:=#[85]) rfl Tryz.underlying85 (HD.out.later hR.b).em
  rw[List.length_map]at EJ
  have A6:=IA w wr sc M E.length 4 hR (by decide) (by have:=lI.out;omega)
  rw[←xN]at A6
  have Zi:=Lib.hid A6
  obtain⟨d0,d1,d2,d3,d4,g1,gl⟩:=dM (HD.out.later hR.b).box
  clear xN vW A6
  go_wp2_with fail
  refine Zi.out.mono ?_
  rintro x w6 ⟨s6,rfl,uG,-,-⟩
  clear d0 d1 d2 d3 d4 g1 gl EJ Zi hR hC
  obtain⟨d0,d1,d2,d3,d4,g1,gl⟩:=dM (HD.out.later uG.b).box
  dsimp only
  go_wp2_with fail
  refine(aiI b n e p re D.ay (fB NL) E P w6 (HD.out.later uG.b) HNE.out HR.out.ane (fun x hx=>(HE.out x hx).later uG.b)).mono ?_
  rintro x w7 ⟨sl2,Y,rfl,hb7,zF,hYs,hYd⟩
  have Zj:=Lib.hid (HR.out.anc zF hYs)
  have hYl:Y.length=D.entries.length:=by rw[←Zj.out,List.length_map]
  have Zk:Clear w6 w7 w7 s6:=Clear.start uG
  have uH:=uG.later hb7
  have anp:=Lib.hid hYd
  have HYP:=Lib.hid (show ∀x∈Y,bT x.2=true∧bJ w x.1 x.2 from fun x hx=>⟨HR.out.good.ok x.2 (List.mem_map.2 ⟨x,zF.mem_iff.1 hx,rfl⟩),HE.out x (zF.mem_iff.1 hx)⟩)
  have hEl:Y.length≤64:=by rw[hYl];exact lW.out.ne
  have Zl:=Lib.hid hYl
  clear hYd zF hYs hYl hb7 uG d0 d1 d2 d3 d4 g1 gl
  dsimp only
  go_wp2_with fail
  go_loopw [3,9,10,11,69] (fun bv _ _ _ iv wr=>∃(k:Nat) (sc:Sl),k≤Y.length∧iv=.int .i64 k∧∃M:List UInt8,Hid (M=N4++(EL.take k).flatten)∧bv=.slice sc.a M.length sc.cap∧dE 5 w wr sc M∧Hid (Clear w6 w7 wr sc)) (fun _ _ _ _ iv _=>Y.length-(intOf iv).toNat)
  case atStart=>exact⟨0,s6,Nat.zero_le _,rfl,N4,by simp[Hid],rfl,uH,Zk⟩
  case round=>
   clear uH Zk
   obtain⟨k2,sd,hk2,rfl,M4,zC,rfl,hR,hC⟩:=hrel
   have BD:=Lib.hid (show M4.length≤30100000 by have h1:=IQ.out;have h2:=OT.out;have h3:=zn EL k2;rw[zC.out,List.length_append];omega)
   by_cases hlt:k2<Y.length
   ·obtain⟨pb,po,cs,ha,hrow,x,hx,rfl⟩:=(hC.out.dep anp.out).2 k2 hlt
    obtain rfl:Y[k2]=x:=by rw[List.getElem?_eq_getElem hlt]at hx;exact Option.some.inj hx
    have hb:pb<wr.heap.size:=gG hrow
    have hki:(k2:Int)<(Y.length:Int):=by omega
    obtain⟨hq,hq2⟩:=HYP.out _ (List.getElem_mem hlt)
    have Zm:k2<D.entries.length:=by rw[←Zl.out];exact hlt
    have EI:D.entries[k2]=Y[k2].2:=by
     have h1:(Y.map (·.2))[k2]'(by simpa using hlt)=D.entries[k2]:=by congr 1;all_goals first|exact Zj.out|skip
     rw[←h1,List.getElem_map]
    obtain⟨en,hen⟩:∃l,l=pF Y[k2].2:=⟨_,rfl⟩
    have hel:en.length≤416085:=by rw[hen];exact NY (N7 hq hq2.attrs.1)
    obtain⟨S1,hS1⟩:∃S1,S1=ByteArray.mk en.toArray:=⟨_,rfl⟩
    have O1:S1.size=en.length:=by rw[hS1];simp[ByteArray.size]
    have Zn:S1.data.toList=en:=by rw[hS1]
    have HK:=Lib.hid (show(EL.take (k2+1)).flatten=(EL.take k2).flatten++(bK S1.size 4++S1.data.toList) by
     rw[xC (by rw[zB.out];exact Zm)]
     congr 1
     have:EL[k2]'(by rw[zB.out];exact Zm)=uF (pF D.entries[k2]):=by simp[EC.out,qo]
     rw[this,EI,←hen,Zn,O1]
     rfl)
    have hpt:=fun v (hv:Below wr.heap.size wr v)=>amX Y[k2].1 Y[k2].2 v (hq2.later (ag hR.b hv)) hq
    rw[←hen]at hpt
    have OZ:=Lib.hid hpt
    have iP:=Lib.hid hS1
    have hsz:S1.size≤416085:=by rw[O1];exact hel
    have hrow2:row? wr pb (po+k2*17) 17=some (ae Y[k2].1 Y[k2].2):=hrow
    generalize Y[k2].1=r at *
    generalize Y[k2].2=d at *
    clear hen hx hq hq2 hpt hel hS1 O1 Zn EI hrow
    have jE:Below wr.heap.size wr (wr.alloc (.cells (ae r d) 47)):=aj (Below.refl _ _) _
    have hA0:=World.alloc_heap_new wr (.cells (ae r d) 47)
    obtain⟨ac,af,ar,al⟩:=aC hA0
    go_wp2_with fail
    refine(OZ.out _ jE).mono ?_
    rintro x V1 ⟨s8,rfl,hb1,EM⟩
    have hB1:=ag jE hb1
    have k1:=pK s8.a s8.cap en V1 EM
    rw[←iP.out]at k1
    have A5:=Lib.hid (Ob w V1 sd M4 S1 4 (hR.later hB1) (by decide) (by have:=BD.out;omega) (by omega))
    have xP:=Lib.hid (hC.out.later hB1)
    clear ac af ar al hA0 jE hb1 hrow2 hR hC EM
    dsimp only
    go_wp2_with fail
    refine A5.out.mono ?_
    rintro x V2 ⟨s5,rfl,vV,hS5,EK⟩
    have O0:=Lib.hid (xP.out.app hS5 EK)
    obtain⟨M2,hM2⟩:∃N,N=M4++(bK S1.size 4++S1.data.toList):=⟨_,rfl⟩
    rw[←hM2]at vV
    rw[←hM2]
    have oV:=Lib.hid (show M2=N4++(EL.take (k2+1)).flatten by rw[hM2,zC.out,HK.out,List.append_assoc])
    clear hM2 hS5 EK A5 xP k1
    dsimp only
    go_wp2_with fail
    go_roundw
    case rel=>
     exact⟨k2+1,s5,by omega,by go_num,M2,oV.out,rfl,vV,O0.out⟩
    case measure=>simp[intOf];omega
   have HFin:=Lib.hid (show M4=jd D by rw[zC.out,List.take_of_length_le (by rw[zB.out,←Zl.out];omega),IP.out,OQ.out,Ew.out,EC.out,←HH.out,←HDE.out];rfl)
   go_wp2_with fail
   go_ret
   rw[←HFin.out]
   exact hR.Eh (by have:=BD.out;unfold lim;omega)
theorem Zo{S:Nat→Prop}{b n e p N:Nat}{re:ByteArray}{es ps:Sl}{D:Db}{X:List EE}{w:World}(h:iJ S b n e p re es ps D X N w)(hN:N≤60)(hsz:re.size≤1000):BC D:=by
 obtain⟨NL,E,P,-,hR⟩:=h.ex
 refine⟨by rw[h.aF];exact hsz,h.d0,hR.dQ.ok,fun d hd=>?_,by have:=h.n2;omega,by rw[hR.eq,List.length_map];have:=h.n1;omega⟩
 rw[hR.eq]at hd
 obtain⟨x,hx,rfl⟩:=List.mem_map.1 hd
 exact N7 (hR.xh.ok _ (List.mem_map.2 ⟨x,hx,rfl⟩)) ((h.ref.dK.out.each x hx).attrs.1)
theorem IZ{S:Nat→Prop}{b n e p N:Nat}{re:ByteArray}{es ps:Sl}{D:Db}{X:List EE}{w:World}(h:iJ S b n e p re es ps D X N w)(hN:N≤60)(hx:X.length≤12)(hp:D.ax.length≤12)(ht:uI Tryz.prog w)(hre:¬re=⟨#[]⟩:=by exact lG)(hsz:re.size≤1000:=by decide) :
  Calls Tryz.prog 21 #[.pointer (some ⟨b,0,none⟩)] w (bG w (jd D)):=by
 obtain⟨NL,E,P,hP,hR⟩:=h.ex
 have hE:E.length=X.length:=by have:=hR.perm.length_eq;simpa using this
 exact Zg b n e p re NL E P D X w hP.db hre h.aF hR h.sort (fun x hx=>(hP.keep x hx).out) (Zo h hN hsz) (by omega) (by have:=hR.dQ.perm.length_eq;omega) (by have:=h.d1;omega) ht
theorem O3{S:Nat→Prop}{b n e p N:Nat}{re:ByteArray}{es ps:Sl}{D:Db}{X:List EE}{w:World}(h:iJ S b n e p re es ps D X N w)(hN:N≤60)(hsz:re.size≤1000:=by decide):Calls Tryz.prog 18 #[.agg (au es ps D)] w (bG w (jd D)):=by
 have hok:=Zo h hN hsz
 obtain⟨NL,E,P,hP,hR⟩:=h.ex
 refine ami es ps D w ?_ h.ref.dQ.out hok
 rw[hR.eq]
 exact h.ref.dK.out.dK
end Go.Proofs.YtfieenjdcpjmgaaGreatDoor
namespace Go.Proofs
open Go.Shelf
def Tryz.lays115_ren:Go.Shelf.Ren:=⟨fun|115=>49|n=>n,fun|37=>61|4=>4|9=>9|5=>5|n=>n,fun|n=>n⟩
end Go.Proofs
namespace Go.Proofs.YtfieenjdcpjmgaaGreatDoor
open Go.RowKit Go.WW
theorem Zp(a1 a2:Option Addr)(c d:Nat)(xs ys:List UInt8)(w:World)(h1:BytesAt w a1 xs)(h2:BytesAt w a2 ys):Calls Tryz.prog 49 #[.slice a1 xs.length c,.slice a2 ys.length d] w fun e w'=>e=.returned (.bool (decide (xs=ys)))∧Below w.heap.size w w':=by
 have k1:=pK a1 c xs w h1
 have k2:=pK a2 d ys w h2
 obtain⟨S1,hS1⟩:∃S,S=(ByteArray.mk xs.toArray):=⟨_,rfl⟩
 obtain⟨S2,hS2⟩:∃S,S=(ByteArray.mk ys.toArray):=⟨_,rfl⟩
 rw[←hS1]at k1
 rw[←hS2]at k2
 have HD:=Lib.hid (show(S1.toList == S2.toList)=decide (xs=ys) by
  rw[hS1,hS2,ByteArray.toList_eq,ByteArray.toList_eq]
  by_cases h:xs=ys
  ·subst h;simp
  ·simp[h])
 clear hS1 hS2
 rw[←HD.out]
 go_enter Tryz.func49,Tryz.ntmps49
 go_wp2_with fail
 go_ret
 exact⟨rfl,Below.refl _ _⟩
def sameKey(a b:Key):Bool:=(a.profile == b.profile)&&((a.version == b.version)&&decide (a.bytes=b.bytes))
end Go.Proofs.YtfieenjdcpjmgaaGreatDoor
namespace Go.WW
open Go.RowKit
theorem MapOf.O4{w:World}{n:Nat}{N:List (ByteArray×Value)}(h:MapOf w n N):∃es k,w.heap[n]?=some (.map es k)∧∀{w':World} {m:Nat},w'.heap[m]?=some (.map es k)→MapOf w' m N:=by
 obtain⟨es,k,h1,h2⟩:=h
 exact⟨es,k,h1,fun h=>⟨es,k,h,h2⟩⟩
end Go.WW
namespace Go.Proofs.YtfieenjdcpjmgaaGreatDoor
open Go.RowKit Go.WW
theorem anr(b n e p:Nat)(re:ByteArray)(s:Int)(N:List (ByteArray×Value))(E:List EE)(P:List ah)(w:World)(h:bU w b n e p re s N E P)(hre:¬re=⟨#[]⟩) :
  Calls Tryz.prog 16 #[.pointer (some ⟨b,0,none⟩)] w fun x w'=>∃b' n' e' p',x=.returned (.pointer (some ⟨b',0,none⟩))∧Below w.heap.size w w'∧bU w' b' n' e' p' re s N E P∧∀k,aU b' n' e' p' k→w.heap.size≤k:=by
 obtain⟨c0,c1,c2,c3,c4,f1,hl⟩:=dM h.box
 obtain⟨es1,k1,hm1,hc1⟩:=MapOf.O4 h.nm
 obtain⟨es2,k2,hm2,hc2⟩:=MapOf.O4 h.em
 obtain⟨es3,k3,yg,hc3⟩:=MapOf.O4 h.pm
 have HC:=Lib.hid (And.intro @hc1 (And.intro @hc2 @hc3))
 clear hc1 hc2 hc3 h
 go_enter Tryz.func16,Tryz.ntmps16
 go_wp2_with fail
 refine(jA b re w c0 hre).mono ?_
 rintro x w' ⟨rfl,rfl⟩
 dsimp only
 go_wp2_with fail
 refine mG (fun _=>False) (But.refl _ w) (by kernel_rfl) (by kernel_rfl) ?_
 repeat (first|(refine ak (by rfl) ?_)|(refine aP (by rfl) (by rfl) (fun K hK=>?_);go_big_quiet_op;refine hK _ ?_;clear hK K))
 refine aT (by rfl) (by rfl) (fun K hK=>?_)
 go_wp2_with fail
 refine(Tryz.cloneS n es1 k1 w.drew hm1).mono ?_
 rintro z w1 ⟨rfl,hw1⟩
 have g1:w1.heap[w.heap.size]?=some (.map es1 k1):=by rw[hw1];exact World.alloc_heap_new _ _
 have s1:w1.heap.size=w.heap.size+1:=by rw[hw1];simp
 have hb1:Below w.heap.size w w1:=by rw[hw1];exact aj (Below.refl _ w).drew _
 clear hw1
 dsimp only
 refine hK _ _ (cu (But.of_below hb1)) ?_
 clear hK K
 repeat (first|(refine ak (by rfl) ?_)|(refine aP (by rfl) (by rfl) (fun K hK=>?_);go_big_quiet_op;refine hK _ ?_;clear hK K))
 refine aT (by rfl) (by rfl) (fun K hK=>?_)
 go_wp2_with fail
 refine(Tryz.ak3 e es2 k2 w1 ((hb1.block _ (Array.getElem?_eq_some_iff.1 hm2).1).trans hm2)).mono ?_
 rintro z w2 ⟨rfl,hw2⟩
 have g2:w2.heap[w1.heap.size]?=some (.map es2 k2):=by rw[hw2];exact World.alloc_heap_new _ _
 have s2:w2.heap.size=w.heap.size+2:=by rw[hw2];simp[s1]
 have dW:Below w1.heap.size w1 w2:=by rw[hw2];exact aj (Below.refl _ w1) _
 have hb2:=ag hb1 dW
 have g12:=(dW.block _ (Array.getElem?_eq_some_iff.1 g1).1).trans g1
 clear hw2 g1
 dsimp only
 refine hK _ _ (cu (But.of_below hb2)) ?_
 clear hK K
 repeat (first|(refine ak (by rfl) ?_)|(refine aP (by rfl) (by rfl) (fun K hK=>?_);go_big_quiet_op;refine hK _ ?_;clear hK K))
 refine aT (by rfl) (by rfl) (fun K hK=>?_)
 go_wp2_with fail
 refine(Tryz.ak4 p es3 k3 w2 ((hb2.block _ (Array.getElem?_eq_some_iff.1 yg).1).trans yg)).mono ?_
 rintro z w3 ⟨rfl,hw3⟩
 have g3:w3.heap[w2.heap.size]?=some (.map es3 k3):=by rw[hw3];exact World.alloc_heap_new _ _
 have s3:w3.heap.size=w.heap.size+3:=by rw[hw3];simp[s2]
 have rU:Below w2.heap.size w2 w3:=by rw[hw3];exact aj (Below.refl _ w2) _
 have hb3:=ag hb2 rU
 have g13:=(rU.block _ (Array.getElem?_eq_some_iff.1 g12).1).trans g12
 have g23:=(rU.block _ (Array.getElem?_eq_some_iff.1 g2).1).trans g2
 clear hw3 g12 g2
 dsimp only
 refine hK _ _ (cu (But.of_below hb3)) ?_
 clear hK K
 repeat (first|(refine ak (by rfl) ?_)|(refine aP (by rfl) (by rfl) (fun K hK=>?_);go_big_quiet_op;refine hK _ ?_;clear hK K))
 refine aT (by rfl) (by rfl) (fun K hK=>?_)
 go_wp2_with fail
 refine hK _ _ (cu (But.of_below (aj hb3 _))) ?_
 clear hK K
 repeat (first|(refine ak (by rfl) ?_)|(refine aP (by rfl) (by rfl) (fun K hK=>?_);go_big_quiet_op;refine hK _ ?_;clear hK K))
 refine bQ ?_
 go_wp2_with fail
 have O5:Below w3.heap.size w3 (w3.alloc (.cells (kJ re s w.heap.size (w.heap.size+1) (w.heap.size+2)) 90)):=aj (Below.refl _ w3) _
 have hbx:=World.alloc_heap_new w3 (.cells (kJ re s w.heap.size (w.heap.size+1) (w.heap.size+2)) 90)
 rw[s1]at g23
 rw[s2]at g3
 rw[s3]at hbx
 go_ret
 refine⟨w.heap.size+3,w.heap.size,w.heap.size+1,w.heap.size+2,rfl,aj hb3 _,⟨hbx,HC.out.1 ((O5.block _ (Array.getElem?_eq_some_iff.1 g13).1).trans g13),HC.out.2.1 ((O5.block _ (Array.getElem?_eq_some_iff.1 g23).1).trans g23),HC.out.2.2 ((O5.block _ (Array.getElem?_eq_some_iff.1 g3).1).trans g3),by omega⟩,fun k hk=>?_⟩
 rcases hk with rfl|rfl|rfl|rfl<;>omega
theorem O6{S S':Nat→Prop}{b n e p b' n' e' p' N N':Nat}{es ps es' ps':Sl}{D D':Db}{X X':List EE}{w:World}(h:iJ S b n e p bg es ps D X N w)(h':iJ S' b' n' e' p' bg es' ps' D' X' N' w)(hN:N≤12)(hN':N'≤12)(ht:uI Tryz.prog w) :
  Calls Tryz.prog 17 #[.pointer (some ⟨b,0,none⟩),.pointer (some ⟨b',0,none⟩)] w fun x w'=>x=.returned (.bool (decide (jd D=jd D')))∧Below w.heap.size w w':=by
 have c0:w.cell? ⟨b,0,none⟩=some (.string bg):=by
  obtain⟨_,_,_,hP,-⟩:=h.ex
  exact(dM hP.db.box).1
 have c0':w.cell? ⟨b',0,none⟩=some (.string bg):=by
  obtain⟨_,_,_,hP,-⟩:=h'.ex
  exact(dM hP.db.box).1
 have n1:=h.n1
 have n2:=h.n2
 have n1':=h'.n1
 have n2':=h'.n2
 have H:=Lib.hid h
 have H':=Lib.hid h'
 have HT:=Lib.hid ht
 clear h h' ht
 go_enter Tryz.func17,Tryz.ntmps17
 go_wp2_with fail
 refine(jA b bg w c0 lG).mono ?_
 rintro x w' ⟨rfl,rfl⟩
 dsimp only
 go_wp2_with fail
 refine(jA b' bg w c0' lG).mono ?_
 rintro x w' ⟨rfl,rfl⟩
 dsimp only
 go_wp2_with fail
 refine(IZ H.out (by omega) (by omega) (by omega) HT.out).mono ?_
 rintro x w1 ⟨za,rfl,hb1,hd1⟩
 dsimp only
 go_wp2_with fail
 refine(IZ (H'.out.later hb1) (by omega) (by omega) (by omega) (jo HT.out hb1)).mono ?_
 rintro x w2 ⟨zb,rfl,hb2,hd2⟩
 dsimp only
 go_wp2_with fail
 refine(Zp za.a zb.a za.cap zb.cap _ _ w2 (hd1.out.later hb2) hd2.out).mono ?_
 rintro x w3 ⟨rfl,hb3⟩
 dsimp only
 go_wp2_with fail
 go_ret
 exact⟨rfl,ag (ag hb1 hb2) hb3⟩
end Go.Proofs.YtfieenjdcpjmgaaGreatDoor
namespace Go.Proofs.YtfieenjdcpjmgaaGreatDoor
open Go.RowKit Go.WW
theorem ant(b:Nat)(re:ByteArray)(w:World)(hc:w.cell? ⟨b,0,none⟩=some (.string re))(hre:¬re=⟨#[]⟩):Calls Tryz.prog 45 #[.pointer (some ⟨b,0,none⟩)] w fun e w'=>e=.returned (.string re)∧w=w':=by
 have hl:=World.block_lt_of_cell? w _ hc
 go_enter Tryz.func45,Tryz.ntmps45
 go_wp2_with fail
 refine(jA _ _ _ hc hre).mono ?_
 rintro x w' ⟨rfl,rfl⟩
 dsimp only
 go_wp2_with fail
 go_ret
 exact⟨rfl,rfl⟩
attribute [local irreducible] aH
theorem Zq{w:World}{n:Nat}{L:List (ByteArray×ByteArray)}(h:MapOf w n (fB L)){k o:ByteArray}(hx:(k,o)∈L):(Instr.lookup 84 (.map (some n)) (.string k) false).run Tryz.prog w=.ok (.string o) w:=by
 have hm:(k,Value.string o)∈fB L:=List.mem_map.2 ⟨(k,o),hx,rfl⟩
 exact Gg (P:=Tryz.prog) false Tryz.underlying84 Tryz.underlying9 h hm
end Go.Proofs.YtfieenjdcpjmgaaGreatDoor
namespace Go.WW
open Go.RowKit
def BH:az:=⟨[],⟨#[]⟩⟩
theorem Zr:ai pX BH=#[.slice none 0 0,.string ⟨#[]⟩]:=rfl
end Go.WW
namespace Go.Proofs.YtfieenjdcpjmgaaGreatDoor
open Go.RowKit Go.WW
theorem Zt(b n e p:Nat)(re:ByteArray)(s:Int)(N:List (ByteArray×Value))(E:List EE)(P:List ah)(w:World)(h:bU w b n e p re s N E P)(hre:¬re=⟨#[]⟩):Calls Tryz.prog 12 #[.pointer (some ⟨b,0,none⟩)] w fun z w'=>z=.returned (.int .i64 s)∧w=w':=by
 obtain⟨c0,c1,c2,c3,c4,f1,hl⟩:=dM h.box
 go_enter Tryz.func12,Tryz.ntmps12
 go_wp2_with fail
 refine(jA _ _ _ c0 hre).mono ?_
 rintro x w' ⟨rfl,rfl⟩
 dsimp only
 go_wp2_with fail
 go_ret
 exact⟨rfl,rfl⟩
theorem anu(b n e p:Nat)(re:ByteArray)(s:Int)(N:List (ByteArray×Value))(E:List EE)(P:List ah)(w:World)(h:bU w b n e p re s N E P)(hre:¬re=⟨#[]⟩):Calls Tryz.prog 13 #[.pointer (some ⟨b,0,none⟩)] w fun z w'=>z=.returned (.int .i64 E.length)∧w=w':=by
 obtain⟨c0,c1,c2,c3,c4,f1,hl⟩:=dM h.box
 have hln:=yx (P:=Tryz.prog) (ty:=3) (nG:=#[85]) rfl Tryz.underlying85 h.em
 rw[List.length_map]at hln
 go_enter Tryz.func13,Tryz.ntmps13
 go_wp2_with fail
 refine(jA _ _ _ c0 hre).mono ?_
 rintro x w' ⟨rfl,rfl⟩
 dsimp only
 go_wp2_with fail
 go_ret
 exact⟨rfl,rfl⟩
attribute [local irreducible] aH
theorem anv(b n e p:Nat)(re:ByteArray)(s:Int)(NL:List (ByteArray×ByteArray))(E:List EE)(P:List ah)(t:Sl)(q:az)(w:World)(h:bU w b n e p re s (fB NL) E P)(hre:¬re=⟨#[]⟩)(hq:bz w t q)(x0:EE)(hx0:x0∈E)(hk:(eP q,textOf x0.2.name)∈NL)(he:bJ w x0.1 x0.2) :
  Calls Tryz.prog 24 #[.pointer (some ⟨b,0,none⟩),.agg (ai t q)] w fun z w'=>∃r',z=.returned (.tuple #[.agg (ae r' x0.2),.int .i64 0])∧Below w.heap.size w w'∧bD w' (fresh w.heap.size w') (fun y=>qZ w.heap.size y r' x0.2):=by
 have hB:Below w.heap.size w ((w.alloc (.cells (ai t q) 40)).alloc (.cells (ae dh bI) 47)):=aj (aj (Below.refl _ _) _) _
 have hx3:((w.alloc (.cells (ai t q) 40)).alloc (.cells (ae dh bI) 47)).heap[w.heap.size]?=some (.cells (ai t q) 40):=jQ _ _ _
 have hz:aQ ((w.alloc (.cells (ai t q) 40)).alloc (.cells (ae dh bI) 47)) (w.heap.size+1) 0 17=true:=by simp[go_sem]
 have O7:w.heap.size+1<((w.alloc (.cells (ai t q) 40)).alloc (.cells (ae dh bI) 47)).heap.size:=by simp
 have h':=h.later hB
 have hq':=hq.later hB
 have HE:=Lib.hid (he.later hB)
 clear h hq he
 rw[rq]at *
 go_enter Tryz.func24,Tryz.ntmps24
 go_wp2_with fail
 rw[←rq]at *
 generalize ((w.alloc (.cells (ai t q) 40)).alloc (.cells (ae dh bI) 47))=W at *
 obtain⟨c0,c1,c2,c3,c4,f1,hl⟩:=dM h'.box
 have l0:w.heap.size<W.heap.size:=(Array.getElem?_eq_some_iff.1 hx3).1
 have ji:row? W w.heap.size 0 2=some (ai t q):=by rw[bP hx3];exact dm (by simp[go_sem])
 refine(jA _ _ _ c0 hre).mono ?_
 rintro x w' ⟨rfl,rfl⟩
 dsimp only
 have hlk:∀x:Later W,(Instr.lookup 84 (.map (some n)) (.string (eP q)) false).run Tryz.prog x.w=.ok (.string (textOf x0.2.name)) x.w:=fun x=>Zq (h'.nm.at (x.b.block n h'.nm.lt)) hk
 have hlk2:∀x:Later W,(Instr.lookup 85 (.map (some e)) (.string (textOf x0.2.name)) true).run Tryz.prog x.w=.ok (.tuple #[.agg (ae x0.1 x0.2),.bool true]) x.w:=fun x=>Au (h'.em.at (x.b.block e h'.em.lt)) x0 hx0
 go_wp2_with fail
 apply uu (M:=fun(bx:Nat) V=>Below W.heap.size W V∧V.heap[bx]?=some (.cells (ae x0.1 x0.2) 47)∧W.heap.size≤bx)
 case h1=>
  refine yI 17 11 [0,1,2,3,4,5,6,7,8,9,10,17,11,12,13,14,15,16,18,19] (Below.refl _ W) (by kernel_rfl) (by kernel_rfl) (by rfl) ?_ ?_
  ·intro v1 hv1
   iterate 11 (refine aP (by kernel_rfl) (by kernel_rfl) (fun K hK=>?_);go_big_quiet_op;refine hK _ ?_;clear hK K)
   refine aT (by rfl) (by rfl) (fun K hK=>?_)
   go_wp2_with fail
   refine(mW _ _ v1 (hq'.later hv1)).mono ?_
   rintro z v2 ⟨rfl,hv2⟩
   dsimp only
   have bF:=ag hv1 hv2
   refine hK _ _ (aA bF) ?_
   clear hK K
   iterate 5 (refine aP (by kernel_rfl) (by kernel_rfl) (fun K hK=>?_);go_big_quiet_op;refine hK _ ?_;clear hK K)
   refine aT (by rfl) (by rfl) (fun K hK=>?_)
   go_wp2_with fail
   refine hK _ _ (aA (aj bF _)) ?_
   clear hK K
   refine aT (by rfl) (by rfl) (fun K hK=>?_)
   go_wp2_with fail
   refine hK _ _ (aA (aj bF (.cells (ae x0.1 x0.2) 47))) ?_
   clear hK K
   iterate 1 (refine aP (by kernel_rfl) (by kernel_rfl) (fun K hK=>?_);go_big_quiet_op;refine hK _ ?_;clear hK K)
   refine bQ ?_
   have dI:=aj bF (.cells (ae x0.1 x0.2) 47)
   have hbx:=World.alloc_heap_new v2 (.cells (ae x0.1 x0.2) 47)
   have kT:W.heap.size≤v2.heap.size:=bF.size
   clear hv1 hv2 bF
   generalize (v2.alloc (.cells (ae x0.1 x0.2) 47))=V5 at *
   generalize v2.heap.size=bx at *
   exact⟨by first|rfl|trivial,bx,rfl,⟨dI,hbx,kT⟩⟩
  ·intro v1 hv1
   simp only[pick,List.getElem?_cons_zero,List.getElem?_cons_succ]
   iterate 11 (refine aP (by kernel_rfl) (by kernel_rfl) (fun K hK=>?_);go_big_quiet_op;refine hK _ ?_;clear hK K)
   refine aT (by rfl) (by rfl) (fun K hK=>?_)
   go_wp2_with fail
   refine hK _ _ (aA (aj hv1 _)) ?_
   clear hK K
   rw[←rq]
   have hz1:=World.alloc_heap_new v1 (.cells (ae dh bI) 47)
   have gB:=aj hv1 (.cells (ae dh bI) 47)
   generalize v1.alloc (.cells (ae dh bI) 47)=Z at *
   refine aT (by rfl) (by rfl) (fun K hK=>?_)
   go_wp2_with fail
   refine(mW _ _ _ (hq'.later gB)).mono ?_
   rintro z v2 ⟨rfl,hv2⟩
   dsimp only
   have bF:=ag gB hv2
   refine hK _ _ (aA bF) ?_
   clear hK K
   have hz2:=aJ hv2 hz1
   have hcp:aQ v2 v1.heap.size 0 17=true:=mF hz2 (by simp[go_sem])
   have dI:=Go.WW.Below.putRow (o:=0) (cs:=ae x0.1 x0.2) bF hv1.size
   iterate 5 (refine aP (by kernel_rfl) (by kernel_rfl) (fun K hK=>?_);go_big_quiet_op;refine hK _ ?_;clear hK K)
   refine aT (by rfl) (by rfl) (fun K hK=>?_)
   go_wp2_with fail
   refine hK _ _ (aA dI) ?_
   clear hK K
   iterate 1 (refine aP (by kernel_rfl) (by kernel_rfl) (fun K hK=>?_);go_big_quiet_op;refine hK _ ?_;clear hK K)
   refine bQ ?_
   have hbx:=mD (o:=0) (cs:=ae x0.1 x0.2) hz2 (by simp[go_sem])
   rw[tq (by simp[go_sem])]at hbx
   have kT:W.heap.size≤v1.heap.size:=hv1.size
   clear hv2 bF hz1 hz2 hcp gB
   generalize (putRow v2 v1.heap.size 0 (ae x0.1 x0.2))=V5 at *
   generalize v1.heap.size=bx at *
   exact⟨by first|rfl|trivial,bx,rfl,⟨dI,hbx,kT⟩⟩
 rintro bx V ⟨fV,hbx,hge⟩
 clear hlk hlk2 c0 c1 c2 c3 c4 f1 ji
 have O8:=(gI fV (w.heap.size+1) 0 17 O7).trans hz
 obtain⟨xc,xf,xr,xl⟩:=aC hbx
 have DY:w.heap.size+1<V.heap.size:=by have:=fV.size;omega
 have hne:bx≠w.heap.size+1:=by omega
 go_wp2_with fail
 refine(TZ _ _ _ (HE.out.later fV)).mono ?_
 rintro z V2 ⟨r',rfl,hb2,hd2⟩
 have hz2:=(gI hb2 (w.heap.size+1) 0 17 DY).trans O8
 have hl2:w.heap.size+1<V2.heap.size:=by have:=hb2.size;omega
 clear xc xf xr
 dsimp only
 go_wp2_with fail
 have hrow:=iT (w:=V2) (Cb r' x0.2) hz2
 refine bodyPost_ret (kQ (by rfl) Tryz.underlying47 rfl (by kernel_rfl) rfl hrow) rfl ⟨r',rfl,Go.WW.Below.putRow (ag (ag hB fV) hb2) (by omega),fun x hx=>?_⟩
 have hw:=hd2 x (fun k hk=>by
  have h9:=hk.1
  have h8:=hk.2
  have h7:=fV.size
  rw[hx k ⟨by omega,by rw[kG];omega⟩,iD (by omega)])
 have hle:w.heap.size≤V.heap.size:=by have:=fV.size;omega
 exact⟨hw.at_,hw.name.le hle,hw.aliases.le hle,hw.keys.le hle⟩
theorem anw(b n e p:Nat)(re:ByteArray)(s:Int)(NL:List (ByteArray×ByteArray))(E:List EE)(P:List ah)(t:Sl)(q:az)(w:World)(h:bU w b n e p re s (fB NL) E P)(hre:¬re=⟨#[]⟩)(hq:bz w t q)(x0:EE)(hx0:x0∈E)(hk:(eP q,textOf x0.2.name)∈NL)(he:bJ w x0.1 x0.2) :
  Calls Tryz.prog 25 #[.pointer (some ⟨b,0,none⟩),.agg (ai t q)] w fun z w'=>∃s':Sl,z=.returned (.tuple #[.agg (ai s' x0.2.name),.int .i64 0])∧Below w.heap.size w w'∧bz w' s' x0.2.name:=by
 have hB:Below w.heap.size w ((w.alloc (.cells (ai t q) 40)).alloc (.cells (ai pX BH) 40)):=aj (aj (Below.refl _ _) _) _
 have hx3:((w.alloc (.cells (ai t q) 40)).alloc (.cells (ai pX BH) 40)).heap[w.heap.size]?=some (.cells (ai t q) 40):=jQ _ _ _
 have hz:aQ ((w.alloc (.cells (ai t q) 40)).alloc (.cells (ai pX BH) 40)) (w.heap.size+1) 0 2=true:=by simp[go_sem]
 have O7:w.heap.size+1<((w.alloc (.cells (ai t q) 40)).alloc (.cells (ai pX BH) 40)).heap.size:=by simp
 have h':=h.later hB
 have hq':=hq.later hB
 have HE:=Lib.hid (he.later hB)
 clear h hq he
 rw[Zr]at *
 go_enter Tryz.func25,Tryz.ntmps25
 go_wp2_with fail
 rw[←Zr]at *
 generalize ((w.alloc (.cells (ai t q) 40)).alloc (.cells (ai pX BH) 40))=W at *
 obtain⟨c0,c1,c2,c3,c4,f1,hl⟩:=dM h'.box
 have l0:w.heap.size<W.heap.size:=(Array.getElem?_eq_some_iff.1 hx3).1
 have ji:row? W w.heap.size 0 2=some (ai t q):=by rw[bP hx3];exact dm (by simp[go_sem])
 refine(jA _ _ _ c0 hre).mono ?_
 rintro x w' ⟨rfl,rfl⟩
 dsimp only
 have hlk:∀x:Later W,(Instr.lookup 84 (.map (some n)) (.string (eP q)) false).run Tryz.prog x.w=.ok (.string (textOf x0.2.name)) x.w:=fun x=>Zq (h'.nm.at (x.b.block n h'.nm.lt)) hk
 have hlk2:∀x:Later W,(Instr.lookup 85 (.map (some e)) (.string (textOf x0.2.name)) true).run Tryz.prog x.w=.ok (.tuple #[.agg (ae x0.1 x0.2),.bool true]) x.w:=fun x=>Au (h'.em.at (x.b.block e h'.em.lt)) x0 hx0
 go_wp2_with fail
 apply uu (M:=fun(bx:Nat) V=>Below W.heap.size W V∧V.heap[bx]?=some (.cells (ae x0.1 x0.2) 47)∧W.heap.size≤bx)
 case h1=>
  refine yI 17 11 [0,1,2,3,4,5,6,7,8,9,10,17,11,12,13,14,15,16,18,19] (Below.refl _ W) (by kernel_rfl) (by kernel_rfl) (by rfl) ?_ ?_
  ·intro v1 hv1
   iterate 11 (refine aP (by kernel_rfl) (by kernel_rfl) (fun K hK=>?_);go_big_quiet_op;refine hK _ ?_;clear hK K)
   refine aT (by rfl) (by rfl) (fun K hK=>?_)
   go_wp2_with fail
   refine(mW _ _ v1 (hq'.later hv1)).mono ?_
   rintro z v2 ⟨rfl,hv2⟩
   dsimp only
   have bF:=ag hv1 hv2
   refine hK _ _ (aA bF) ?_
   clear hK K
   iterate 5 (refine aP (by kernel_rfl) (by kernel_rfl) (fun K hK=>?_);go_big_quiet_op;refine hK _ ?_;clear hK K)
   refine aT (by rfl) (by rfl) (fun K hK=>?_)
   go_wp2_with fail
   refine hK _ _ (aA (aj bF _)) ?_
   clear hK K
   refine aT (by rfl) (by rfl) (fun K hK=>?_)
   go_wp2_with fail
   refine hK _ _ (aA (aj bF (.cells (ae x0.1 x0.2) 47))) ?_
   clear hK K
   iterate 1 (refine aP (by kernel_rfl) (by kernel_rfl) (fun K hK=>?_);go_big_quiet_op;refine hK _ ?_;clear hK K)
   refine bQ ?_
   have dI:=aj bF (.cells (ae x0.1 x0.2) 47)
   have hbx:=World.alloc_heap_new v2 (.cells (ae x0.1 x0.2) 47)
   have kT:W.heap.size≤v2.heap.size:=bF.size
   clear hv1 hv2 bF
   generalize (v2.alloc (.cells (ae x0.1 x0.2) 47))=V5 at *
   generalize v2.heap.size=bx at *
   exact⟨by first|rfl|trivial,bx,rfl,⟨dI,hbx,kT⟩⟩
  ·intro v1 hv1
   simp only[pick,List.getElem?_cons_zero,List.getElem?_cons_succ]
   iterate 11 (refine aP (by kernel_rfl) (by kernel_rfl) (fun K hK=>?_);go_big_quiet_op;refine hK _ ?_;clear hK K)
   refine aT (by rfl) (by rfl) (fun K hK=>?_)
   go_wp2_with fail
   refine hK _ _ (aA (aj hv1 _)) ?_
   clear hK K
   rw[←rq]
   have hz1:=World.alloc_heap_new v1 (.cells (ae dh bI) 47)
   have gB:=aj hv1 (.cells (ae dh bI) 47)
   generalize v1.alloc (.cells (ae dh bI) 47)=Z at *
   refine aT (by rfl) (by rfl) (fun K hK=>?_)
   go_wp2_with fail
   refine(mW _ _ _ (hq'.later gB)).mono ?_
   rintro z v2 ⟨rfl,hv2⟩
   dsimp only
   have bF:=ag gB hv2
   refine hK _ _ (aA bF) ?_
   clear hK K
   have hz2:=aJ hv2 hz1
   have hcp:aQ v2 v1.heap.size 0 17=true:=mF hz2 (by simp[go_sem])
   have dI:=Go.WW.Below.putRow (o:=0) (cs:=ae x0.1 x0.2) bF hv1.size
   iterate 5 (refine aP (by kernel_rfl) (by kernel_rfl) (fun K hK=>?_);go_big_quiet_op;refine hK _ ?_;clear hK K)
   refine aT (by rfl) (by rfl) (fun K hK=>?_)
   go_wp2_with fail
   refine hK _ _ (aA dI) ?_
   clear hK K
   iterate 1 (refine aP (by kernel_rfl) (by kernel_rfl) (fun K hK=>?_);go_big_quiet_op;refine hK _ ?_;clear hK K)
   refine bQ ?_
   have hbx:=mD (o:=0) (cs:=ae x0.1 x0.2) hz2 (by simp[go_sem])
   rw[tq (by simp[go_sem])]at hbx
   have kT:W.heap.size≤v1.heap.size:=hv1.size
   clear hv2 bF hz1 hz2 hcp gB
   generalize (putRow v2 v1.heap.size 0 (ae x0.1 x0.2))=V5 at *
   generalize v1.heap.size=bx at *
   exact⟨by first|rfl|trivial,bx,rfl,⟨dI,hbx,kT⟩⟩
 rintro bx V ⟨fV,hbx,hge⟩
 clear hlk hlk2 c0 c1 c2 c3 c4 f1 ji
 have O8:=(gI fV (w.heap.size+1) 0 2 O7).trans hz
 obtain⟨xc,xf,xr,xl⟩:=aC hbx
 have DY:w.heap.size+1<V.heap.size:=by have:=fV.size;omega
 have hne:bx≠w.heap.size+1:=by omega
 go_wp2_with fail
 refine(Ky _ _ _ (HE.out.later fV).name).mono ?_
 rintro z V2 ⟨r',rfl,hb2,hd2⟩
 have hz2:=(gI hb2 (w.heap.size+1) 0 2 DY).trans O8
 have hl2:w.heap.size+1<V2.heap.size:=by have:=hb2.size;omega
 clear xc xf xr
 dsimp only
 go_wp2_with fail
 have hrow:=iT (w:=V2) (xX r' x0.2.name) hz2
 refine bodyPost_ret (kQ (by rfl) Tryz.underlying40 rfl (by kernel_rfl) rfl hrow) rfl ⟨r',rfl,Go.WW.Below.putRow (ag (ag hB fV) hb2) (by omega),?_⟩
 exact hd2 _ (fun k hk=>by
  have h9:=hk.1
  have h7:=fV.size
  rw[iD (by omega)])
end Go.Proofs.YtfieenjdcpjmgaaGreatDoor
