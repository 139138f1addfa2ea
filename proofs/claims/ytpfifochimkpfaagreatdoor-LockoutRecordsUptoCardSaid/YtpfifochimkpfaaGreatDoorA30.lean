/- A part of the proof. -/
import Derived.Test.YtpfifochimkpfaaGreatDoorA29
import Derived.Test.YtpfifochimkpfaaGreatDoorA19
import Derived.Test.YtpfifochimkpfaaGreatDoorA27
import Derived.Test.YtpfifochimkpfaaGreatDoorA28
import Derived.Test.YtpfifochimkpfaaGreatDoorA20
import Derived.Test.YtpfifochimkpfaaGreatDoorA12
set_option maxRecDepth 100000
set_option maxHeartbeats 8000000
namespace Go.Proofs.YtpfifochimkpfaaGreatDoor
open Go.RowKit Go.WW
theorem akW(g cap:Nat)(X:List ah)(lm:Int)(w:World)(hn:X.length≤12)(hX:lq g X X w w)(hD:(X.map ng).Nodup) :
  Calls Tryz.prog 180 #[.slice (some ⟨g,0,none⟩) X.length cap,.int .i64 0,.int .i64 X.length,.int .i64 lm,.func (.func 83) #[] #[]] w fun e w'=>e=.returned (.tuple #[])∧∃Y,lq g X Y w w'∧Sorted dB ng Y:=by
 have HI:=Lib.hid (akV g cap X w hn hX hD)
 clear hX hD
 have h12:(X.length:Int)≤12:=by omega
 go_enter Tryz.func180,Tryz.ntmps180
 go_wp2_with fail
 refine wp_loop_rounds 1 ?_
 rw[rounds_succ]
 go_wp2_with fail
 refine HI.out.mono ?_
 rintro e w' ⟨rfl,hY⟩
 dsimp only
 go_wp2_with fail
 refine bodyPost_ret (results_none rfl _ _ _) rfl ⟨rfl,hY⟩
theorem akX(g cap:Nat)(X:List ah)(w:World)(hn:X.length≤12)(hX:lq g X X w w)(hD:(X.map ng).Nodup) :
  Calls Tryz.prog 138 #[.slice (some ⟨g,0,none⟩) X.length cap,.func (.func 83) #[] #[]] w fun e w'=>e=.returned (.tuple #[])∧∃Y,lq g X Y w w'∧Sorted dB ng Y:=by
 have HI:=Lib.hid (fun lm=>akW g cap X lm w hn hX hD)
 clear hX hD
 go_enter Tryz.func138,Tryz.ntmps138
 go_wp2_with fail
 refine(DJ _ hn w).mono ?_
 rintro e w' ⟨⟨k,rfl⟩,rfl⟩
 dsimp only
 go_wp2_with fail
 refine(HI.out k).mono ?_
 rintro e w' ⟨rfl,hY⟩
 dsimp only
 go_wp2_with fail
 go_end0
 exact⟨rfl,hY⟩
theorem akY(w:World):Calls Tryz.prog 209 #[.slice none 0 0,.int .i64 0,.int .i64 0,.func (.func 83) #[] #[]] w fun e w'=>e=.returned (.tuple #[])∧w=w':=by
 go_enter Tryz.func209,Tryz.ntmps209
 go_wp2_with fail
 refine wp_loop_rounds 1 ?_
 rw[rounds_succ]
 go_wp2_with fail
 go_end0
 exact⟨rfl,rfl⟩
theorem akZ(lm:Int)(w:World):Calls Tryz.prog 180 #[.slice none 0 0,.int .i64 0,.int .i64 0,.int .i64 lm,.func (.func 83) #[] #[]] w fun e w'=>e=.returned (.tuple #[])∧w=w':=by
 go_enter Tryz.func180,Tryz.ntmps180
 go_wp2_with fail
 refine wp_loop_rounds 1 ?_
 rw[rounds_succ]
 go_wp2_with fail
 refine(akY w).mono ?_
 rintro e w' ⟨rfl,rfl⟩
 dsimp only
 go_wp2_with fail
 refine bodyPost_ret (results_none rfl _ _ _) rfl ⟨rfl,rfl⟩
theorem ak0(w:World):Calls Tryz.prog 138 #[.slice none 0 0,.func (.func 83) #[] #[]] w fun e w'=>e=.returned (.tuple #[])∧w=w':=by
 go_enter Tryz.func138,Tryz.ntmps138
 go_wp2_with fail
 refine(DJ 0 (by omega) w).mono ?_
 rintro e w' ⟨⟨k,rfl⟩,rfl⟩
 dsimp only
 go_wp2_with fail
 refine(akZ k w).mono ?_
 rintro e w' ⟨rfl,rfl⟩
 dsimp only
 go_wp2_with fail
 go_end0
 exact⟨rfl,rfl⟩
end Go.Proofs.YtpfifochimkpfaaGreatDoor
namespace Go.WW
open Go.RowKit
abbrev Et(E:List ah):List (ByteArray×Value):=E.map fun x=>(x.name,Value.agg (ak x))
end Go.WW
namespace Go.Proofs.YtpfifochimkpfaaGreatDoor
open Go.RowKit Go.WW
def XY(E:List ah)(w:World)(z:Ending)(w':World):Prop:=∃(s:Sl) (Y:List ah),z=.returned (.slice s.a Y.length s.cap)∧Below w.heap.size w w'∧Y.Perm E∧Sorted dB ng Y∧bu w' (fresh w.heap.size w') (fun x=>mZ x s.a Y)∧(0<Y.length→Y.length≤s.cap∧∃g,s.a=some ⟨g,0,none⟩∧w.heap.size≤g∧Es w' g 52)
theorem ak1(e:Nat)(E:List ah)(w:World)(hm:MapOf w e (Et E))(hn:E.length≤12)(hD:(E.map ng).Nodup) :
  Calls Tryz.prog 82 #[.map (some e),.func (.func 83) #[] #[]] w (XY E w):=by
 obtain⟨w1,hrange,hit,hb1,hs1⟩:=P6 (P:=Tryz.prog) Tryz.underlying96 hm
 have HD:=Lib.hid hD
 have hel:=hm.lt
 have hd0:(Et E).length=E.length:=by simp
 clear hD
 go_enter Tryz.func82,Tryz.ntmps82
 go_wp2_with fail
 clear hrange
 go_loopw [5] (fun lv wr=>∃(so:Sl) (T left:List ah),lv=.slice so.a T.length so.cap∧Hid (oz wr w.heap.size e (Et E) (Et left))∧Hid ((T++left).Perm E)∧Go.WW.Own wr w1.heap.size 52 10 so (T.map ak)∧Below w.heap.size w wr∧w1.heap.size≤wr.heap.size∧(T=[]→so=⟨none,0⟩)) (fun lv _=>13-(match lv with | .slice _ k _=>k|_=>0))
 case atStart=>exact⟨⟨none,0⟩,[],E,rfl,hit,List.Perm.refl _,Go.WW.Own.nil _ _ _ _,hb1,Nat.le_refl _,fun _=>rfl⟩
 case round=>
  obtain⟨so,T,left,rfl,hI,hp,hO,hbr,o8,hnil⟩:=hrel
  have hlen:T.length+left.length=E.length:=by have:=hp.out.length_eq;simpa using this
  rcases P7 (P:=Tryz.prog) 0 hI.out with⟨hl0,hrun⟩|⟨l1,x,l2,w2,hl,hrun,hent,hI2,hb2,hs2⟩
  ·obtain rfl:left=[]:=by cases left<;>simp_all
   have xF:T.Perm E:=by simpa using hp.out
   rcases Nat.eq_zero_or_pos T.length with hT0|hT0
   ·obtain rfl:T=[]:=List.eq_nil_of_length_eq_zero hT0
    obtain rfl:=hnil rfl
    go_wp2_with fail
    refine(ak0 wr).mono ?_
    rintro z w' ⟨rfl,rfl⟩
    dsimp only
    go_wp2_with fail
    go_ret
    exact⟨⟨none,0⟩,[],rfl,hbr,xF,List.Pairwise.nil,fun x _=>⟨by simp[lim],fun i hi=>by simp at hi⟩,fun h=>absurd h (Nat.lt_irrefl _)⟩
   ·obtain⟨g,hga,hgb,hg0⟩:=hO.row 0 (by simpa using hT0)
    have hge:=hO.base hgb
    obtain⟨sa,sc⟩:=so
    obtain rfl:sa=some ⟨g,0,none⟩:=hga
    have DL:lq g T T wr wr:=⟨List.Perm.refl _,But.refl _ _,mZ.iM hO (by have:=Vb;omega),by simpa using hO.akT rfl,by
     rcases hO.own.2 with⟨hv,_⟩|⟨g',cap,cur,hv,_,hh,_⟩
     ·cases hv
     ·cases hv;exact⟨cur,hh⟩⟩
    have hcap:T.length≤sc:=by
     rcases hO.own.2 with⟨hv,_⟩|⟨g',cap,cur,hv,_,hh,hle,_⟩
     ·cases hv
     ·cases hv;simpa using hle
    have HS:=Lib.hid (akX g sc T wr (by omega) DL ((xF.map ng).nodup_iff.2 HD.out) )
    clear DL
    go_wp2_with fail
    refine HS.out.mono ?_
    rintro z w' ⟨rfl,Y,hY,hso⟩
    dsimp only
    go_wp2_with fail
    have hbw:=DK hbr hY.but (fun j (hj:j=g)=>by omega)
    have GY:=hY.perm.length_eq
    have hg':g<w'.heap.size:=by have:=hY.but.size;omega
    go_ret
    exact⟨⟨some ⟨g,0,none⟩,sc⟩,Y,by rw[GY];rfl,hbw,hY.perm.trans xF,hso,fun x hx=>hY.rows.block (hx g ⟨by omega,hg'⟩),fun _=>⟨by rw[GY];exact hcap,g,rfl,by omega,hY.typ⟩⟩
  ·obtain⟨L1,L',hL,e1,e2⟩:=List.map_eq_append_iff.1 hl
   obtain⟨y,L2,rfl,e3,e4⟩:=List.map_eq_cons_iff.1 e2
   subst e3 e1 e4 hL
   have hbw2:Below w.heap.size w w2:=DK hbr hb2 (fun j (hj:j=w.heap.size)=>by omega)
   have hown:Go.WW.Own ((w2.alloc (.cells (ak y) 52)).alloc (.cells (ak y) 52)) w1.heap.size 52 10 so (T.map ak):=hO.kept fun g hg=>by
    have hgb:=hO.base hg
    rw[Below.heap_alloc _ _ _ (by simp;omega),Below.heap_alloc _ _ _ (by omega)]
    exact hb2.block g hgb.2 (show ¬g=w.heap.size by omega)
   have hrun':(Instr.next (.pointer (some ⟨w.heap.size,0,none⟩)) false 0).run Tryz.prog wr=.ok (.tuple #[.bool true,.string (y.name),.agg (ak y)]) w2:=hrun
   have ag9:(Instr.entry (.pointer (some ⟨w.heap.size,0,none⟩))).run Tryz.prog w2=.ok (.tuple #[.string (y.name),.agg (ak y)]) w2:=hent
   have hsrc:cO ((w2.alloc (.cells (ak y) 52)).alloc (.cells (ak y) 52)) 10 (some ⟨w2.heap.size+1,0,none⟩) [ak y]:=by
    have:=cO.new (w2.alloc (.cells (ak y) 52)) (ak y) 52 10 (by simp[go_sem]) (by simp[go_sem])
    rwa[World.size_alloc]at this
   have HS2:=Lib.hid hs2
   clear hrun hent hs2
   go_wp2_with (at_builtin;refine gW rfl (.tmp 14) (.tmp 16) _ rfl akU (n:=T.length) (rows:=T.map ak) (news:=[ak y]) rfl (by simp) hown rfl rfl hsrc (by rw[List.length_map];simp;omega) (by have:=HS2.out;simp;omega) ?_;intro s3 w3 hown3 hg3 iD)
   have hs2:=HS2.out
   have jY:Below w.heap.size w ((w2.alloc (.cells (ak y) 52)).alloc (.cells (ak y) 52)):=ay (ay hbw2 _) _
   have hb3:Below w.heap.size w w3:=jY.grown hg3 jY.size (fun g hg=>by have:=(hown.base hg).1;omega)
   have hs3:=hg3.size
   have hkp:∀k,k<w1.heap.size→w3.heap[k]?=w2.heap[k]?:=fun k hk=>by
    rw[hg3.block k (by simp;omega) (fun e=>by have:=(hown.base e.symm).1;omega),Below.heap_alloc _ _ _ (by simp;omega),Below.heap_alloc _ _ _ (by omega)]
   have HI3:=Lib.hid (hI2.at (hkp w.heap.size (by omega)) (hkp e (by omega)))
   have LZ:=Lib.hid (show((T++[y])++(L1++L2)).Perm E from List.Perm.trans (by simpa using List.perm_middle.symm.append_left T) hp.out)
   have L6:Go.WW.Own w3 w1.heap.size 52 10 s3 ((T++[y]).map ak):=by rw[List.map_append];exact hown3
   have hsz3:w1.heap.size≤w3.heap.size:=by simp at hs3;omega
   have hTl:T.length+1≤12:=by simp at hlen;omega
   clear hown hown3 hg3 iD hI2 hb2 hbw2 hkp jY hs3 HS2 hs2
   go_wp2_with fail
   go_roundw
   case rel=>exact⟨s3,T++[y],L1++L2,by simp,by simpa[Hid]using HI3.out,LZ.out,L6,hb3,hsz3,by simp⟩
   case measure=>simp;omega
theorem ak2(b o p:Nat)(E:List ah)(w:World)(hc:w.cell? ⟨b,o+4,none⟩=some (.map (some p)))(hm:MapOf w p (Et E))(hn:E.length≤12)(hD:(E.map ng).Nodup) :
  Calls Tryz.prog 50 #[.pointer (some ⟨b,o,none⟩)] w (XY E w):=by
 have HI:=Lib.hid (ak1 p E w hm hn hD)
 have hlt:=World.block_lt_of_cell? w _ hc
 clear hD hm
 go_enter Tryz.func50,Tryz.ntmps50
 go_wp2_with fail
 refine HI.out.mono ?_
 rintro z w' ⟨sl,Y,rfl,hY⟩
 dsimp only
 go_wp2_with fail
 go_ret
 exact⟨sl,Y,rfl,hY⟩
end Go.Proofs.YtpfifochimkpfaaGreatDoor
namespace Go.WW
open Go.RowKit
theorem ak3(v:Nat):bM v 1=[UInt8.ofNat v]:=rfl
structure Clear(A B w:World)(s:Sl):Prop where
 keep:∀j,A.heap.size≤j→j<B.heap.size→w.heap[j]?=B.heap[j]?
 at_:∀g,s.blk=some g→g<A.heap.size∨B.heap.size≤g
 size:B.heap.size≤w.heap.size
theorem Clear.start{T:TypeId}{W A B:World}{s:Sl}{l:List UInt8}(h:dC T W A s l):Clear A B B s:=
 ⟨fun _ _ _=>rfl,fun g hg=>.inl (h.own.base (by first|exact hg|exact hg.symm)).2,Nat.le_refl _⟩
theorem Clear.later{A B w v:World}{s:Sl}(h:Clear A B w s)(hb:Below w.heap.size w v):Clear A B v s:=
 ⟨fun j h1 h2=>(hb.block j (by have:=h.size;omega)).trans (h.keep j h1 h2),h.at_,Nat.le_trans h.size hb.size⟩
theorem Clear.app{A B w v:World}{s s1:Sl}(h:Clear A B w s)(hb:lh w s v)(n:l7 w s s1):Clear A B v s1:=
 ⟨fun j h1 h2=>(But.block hb j (by have:=h.size;omega) (fun e=>by rcases h.at_ j e with g|g<;>omega)).trans (h.keep j h1 h2),
  fun g hg=>by
   rcases n g hg with h1|h1
   ·exact h.at_ g (h1.symm.trans hg)
   ·exact .inr (Nat.le_trans h.size h1),
  Nat.le_trans h.size (But.size hb)⟩
theorem Clear.dep{A B w:World}{s:Sl}{Φ:World→Prop}(h:Clear A B w s)(hd:bu B (fresh A.heap.size B) Φ):Φ w:=hd w fun k hk=>h.keep k hk.1 hk.2
theorem ak4{α β:Type}{f:α→β}{l:List α}(h:(l.map f).Nodup):l.Nodup:=by
 refine(List.pairwise_map.1 h).imp ?_
 rintro a c hne rfl
 exact hne rfl
theorem fO.ak5{D:Db}{X:List EE}{NL:List (ByteArray×ByteArray)}{E:List EE}{P Y:List ah}(h:fO D X NL E P)(hs:Sorted dB (fun q:ah=>q.name) D.aF)(hp:Y.Perm P)(hY:Sorted dB ng Y):Y=D.aF:=
 Jv (k:=fun q:ah=>q.name) oQ _ _ hY hs (hp.trans h.dJ.perm)
theorem fO.ak6{D:Db}{X:List EE}{NL:List (ByteArray×ByteArray)}{E Y:List EE}{P:List ah}(h:fO D X NL E P)(hp:Y.Perm E)(hY:Sorted fB eH Y):Y.map (·.2)=D.entries:=by
 rw[h.eq]
 exact Jv (k:=fun d:Entry=>d.name) Ju _ _ (List.pairwise_map.2 hY) (List.pairwise_map.2 h.sorted) ((hp.map _).trans h.perm)
theorem fO.ak7{D:Db}{X:List EE}{NL:List (ByteArray×ByteArray)}{E:List EE}{P:List ah}(h:fO D X NL E P):(E.map eH).Nodup:=by
 have h1:=h.good.nodup
 rw[List.map_map]at h1
 have h2:(E.map eH).map textOf=E.map ((fun x:Entry=>textOf x.name)∘fun x=>x.2):=by rw[List.map_map];rfl
 rw[←h2]at h1
 exact ak4 h1
end Go.WW
namespace Go.Proofs.YtpfifochimkpfaaGreatDoor
open Go.RowKit Go.WW
theorem ak8(b n e p:Nat)(re:ByteArray)(NL:List (ByteArray×ByteArray))(E:List EE)(P:List ah)(D:Db)(X:List EE)(w:World)(h:dG w b n e p re D.aN (ed NL) E P)(hre:¬re=⟨#[]⟩)(hDr:D.aJ=re)(hr:fO D X NL E P)
  (hso:Sorted dB (fun q:ah=>q.name) D.aF) (hE:∀x∈E,aS w x.1 x.2) (hok:Eh D) (hn:E.length≤12) (hp:P.length≤12) (hs1:D.aN<1000000) (ht:BJ Tryz.prog w) :
  Calls Tryz.prog 17 #[.pointer (some ⟨b,0,none⟩)] w (bG w (jX D)):=by
 have GV:(P.map ng).Nodup:=(hr.dJ.perm.map ng).nodup_iff.2 hr.dJ.nodup
 have Eu:D.entries.length=E.length:=by rw[hr.eq];have:=hr.perm.length_eq;simpa using this.symm
 have OM:D.aF.length=P.length:=hr.dJ.perm.length_eq.symm
 obtain⟨S,hS⟩:∃S:Nat,S=D.aN.toNat:=⟨_,rfl⟩
 have Xx:D.aN=(S:Int):=by have:=hok.aN;omega
 have aou:re.size≤1000:=by have:=hok.re;rw[hDr]at this;exact this
 have aov:S<18446744073709551616:=by have:=hok.aN;omega
 have aow:P.length<18446744073709551616:=by omega
 have aox:E.length<18446744073709551616:=by omega
 have HMP:=Lib.hid h.pm
 have HNP:=Lib.hid hp
 have HNE:=Lib.hid hn
 obtain⟨L1,hL1⟩:∃L,L=bM re.size 1++re.data.toList:=⟨_,rfl⟩
 obtain⟨L2,hL2⟩:∃L,L=L1++bM S 8:=⟨_,rfl⟩
 obtain⟨L3,hL3⟩:∃L,L=L2++bM P.length 4:=⟨_,rfl⟩
 have HH:=Lib.hid (show Ov D=L3 by rw[hL3,hL2,hL1,hS,ak3,←hDr,←OM];rfl)
 have hl1:L1.length=1+re.size:=by rw[hL1,List.length_append,gZ];simp
 have hl2:L2.length=9+re.size:=by rw[hL2,List.length_append,gZ,hl1];omega
 have hl3:L3.length=13+re.size:=by rw[hL3,List.length_append,gZ,hl2];omega
 have hln:=AV (P:=Tryz.prog) (ty:=3) (oU:=#[96]) rfl Tryz.underlying96 h.pm
 have alb:=AV (P:=Tryz.prog) (ty:=3) (oU:=#[95]) rfl Tryz.underlying95 h.em
 rw[List.length_map]at hln alb
 have Oy:=Lib.hid hL1
 have HL2:=Lib.hid hL2
 have Oz:=Lib.hid hL3
 have OA:=Lib.hid hl1
 have Hl2:=Lib.hid hl2
 have IW:=Lib.hid hl3
 have oH:=Lib.hid hok
 have HR:=Lib.hid hr
 have HSO:=Lib.hid hso
 have HE:=Lib.hid hE
 have HD:=Lib.hid h
 have HT:=Lib.hid ht
 have HPN:=Lib.hid GV
 have HDE:=Lib.hid Eu
 have HDP:=Lib.hid OM
 have HDR:=Lib.hid hDr
 clear hL1 hL2 hL3 hl1 hl2 hl3 hS hok hr hso hE ht GV Eu OM hp hn hs1
 obtain⟨c0,c1,c2,c3,c4,f1,hl⟩:=gm h.box
 rw[Xx]at c1
 clear h hDr
 go_enter Tryz.func17,Tryz.ntmps17
 have A1:=NT w w ⟨none,0⟩ [] re 1 (dC.none _ (Below.refl _ _)) (by decide) (by simp) (by omega)
 rw[List.nil_append,←Oy.out]at A1
 have A1':=Lib.hid A1
 clear A1
 go_wp2_with fail
 refine(nI _ _ _ c0 hre).mono ?_
 rintro x w' ⟨rfl,rfl⟩
 dsimp only
 go_wp2_with fail
 refine A1'.out.mono ?_
 rintro x w1 ⟨s1,rfl,hR1,-,-⟩
 have A2:=IG w w1 s1 L1 S 8 hR1 (by decide) (by have:=OA.out;omega)
 rw[←HL2.out]at A2
 have A2':=Lib.hid A2
 clear A2
 obtain⟨hcc,bf,hrr⟩:=aQ hR1.b
 go_wp2_with fail
 refine A2'.out.mono ?_
 rintro x w2 ⟨s2,rfl,hR2,-,-⟩
 have A3:=IG w w2 s2 L2 P.length 4 hR2 (by decide) (by have:=Hl2.out;omega)
 rw[←Oz.out]at A3
 have A3':=Lib.hid A3
 clear A3 hcc bf hrr hR1
 obtain⟨hcc,bf,hrr⟩:=aQ hR2.b
 have Ew:=AV (P:=Tryz.prog) (ty:=3) (oU:=#[96]) rfl Tryz.underlying96 (HD.out.later hR2.b).pm
 rw[List.length_map]at Ew
 go_wp2_with fail
 refine A3'.out.mono ?_
 rintro x w3 ⟨s3,rfl,dV,-,-⟩
 clear hcc bf hrr hR2 Ew
 obtain⟨d0,d1,d2,d3,d4,g1,gl⟩:=gm (HD.out.later dV.b).box
 go_wp2_with fail
 refine(ak2 b 0 p P w3 (by simpa using d4) (HD.out.later dV.b).pm HNP.out HPN.out).mono ?_
 rintro x w4 ⟨sl,Y,rfl,hb4,zZ,hYs,hYd,-⟩
 obtain rfl:Y=D.aF:=HR.out.ak5 HSO.out zZ hYs
 have XZ:Clear w3 w4 w4 s3:=Clear.start dV
 have zU:=dV.later hb4
 have HYD:=Lib.hid hYd
 obtain⟨PL,wE⟩:∃PL,PL=qB D.aF:=⟨_,rfl⟩
 have Ei:=Lib.hid wE
 have zV:=Lib.hid (show PL.length=D.aF.length by rw[wE];simp[qB])
 have OC:=Lib.hid (show PL.flatten.length≤20000 by rw[wE];exact Xv D oH.out)
 have hDl:D.aF.length≤64:=oH.out.np
 clear wE hYd zZ hYs hb4 dV d0 d1 d2 d3 d4 g1 gl
 go_wp2_with fail
 go_loopw [3,5,6,7,42] (fun bv _ _ _ iv wr=>∃(k:Nat) (sc:Sl),k≤D.aF.length∧iv=.int .i64 k∧∃M:List UInt8,Hid (M=L3++(PL.take k).flatten)∧bv=.slice sc.a M.length sc.cap∧dC 5 w wr sc M∧Hid (Clear w3 w4 wr sc)) (fun _ _ _ _ iv _=>D.aF.length-(intOf iv).toNat)
 case atStart=>exact⟨0,s3,Nat.zero_le _,rfl,L3,by simp[Hid],rfl,zU,XZ⟩
 case round=>
  clear zU XZ
  obtain⟨k,sc,hk,rfl,M,HM,rfl,hR,hC⟩:=hrel
  have lJ:=Lib.hid (show M.length≤22000 by have h1:=IW.out;have h2:=OC.out;have h3:=zN PL k;rw[HM.out,List.length_append];omega)
  by_cases hlt:k<D.aF.length
  ·obtain⟨pb,po,cs,ha,hrow,x,hx,rfl⟩:=(hC.out.dep HYD.out).2 k hlt
   obtain rfl:D.aF[k]=x:=by rw[List.getElem?_eq_getElem hlt]at hx;exact Option.some.inj hx
   have hb:pb<wr.heap.size:=fA hrow
   have hki:(k:Int)<(D.aF.length:Int):=by omega
   have hq:=oH.out.dJ _ (List.getElem_mem hlt)
   obtain⟨str,hstr⟩:∃t,t=pM D.aF[k]:=⟨_,rfl⟩
   have hsl:str.size≤300:=by rw[hstr];exact Ox (BH hq)
   have HK:=Lib.hid (show(PL.take (k+1)).flatten=(PL.take k).flatten++(bM str.size 4++str.data.toList) by
    rw[xN (by rw[zV.out];exact hlt)]
    congr 1
    have:PL[k]'(by rw[zV.out];exact hlt)=uI (pM D.aF[k]).data.toList:=by simp[Ei.out,qB]
    rw[this,←hstr]
    unfold uI
    rw[show str.data.toList.length=str.size by simp])
   have hpt:=fun v (hv:Below wr.heap.size wr v)=>akr D.aF[k] v hq (by have:=(BH hq).1;unfold lim;omega) (nX HT.out (ag hR.b hv))
   rw[←hstr]at hpt
   have OO:=Lib.hid hpt
   generalize D.aF[k]=q at *
   clear hstr hx hq hpt
   have jY:Below wr.heap.size wr (wr.alloc (.cells (ak q) 52)):=ay (Below.refl _ _) _
   have hA0:=World.alloc_heap_new wr (.cells (ak q) 52)
   obtain⟨ac,af,ar,al⟩:=ax hA0
   go_wp2_with fail
   refine(OO.out _ jY).mono ?_
   rintro x V1 ⟨rfl,hb1⟩
   have hB1:=ag jY hb1
   have A5:=Lib.hid (NT w V1 sc M str 4 (hR.later hB1) (by decide) (by have:=lJ.out;omega) (by omega))
   have Ey:=Lib.hid (hC.out.later hB1)
   clear ac af ar al hA0 jY hb1 hrow hR hC
   dsimp only
   go_wp2_with fail
   refine A5.out.mono ?_
   rintro x V2 ⟨s5,rfl,wF,hS5,Ez⟩
   have OQ:=Lib.hid (Ey.out.app hS5 Ez)
   obtain⟨M2,hM2⟩:∃N,N=M++(bM str.size 4++str.data.toList):=⟨_,rfl⟩
   rw[←hM2]at wF
   rw[←hM2]
   have pg:=Lib.hid (show M2=L3++(PL.take (k+1)).flatten by rw[hM2,HM.out,HK.out,List.append_assoc])
   clear hM2 hS5 Ez A5 Ey
   dsimp only
   go_wp2_with fail
   go_roundw
   case rel=>
    exact⟨k+1,s5,by omega,by go_num,M2,pg.out,rfl,wF,OQ.out⟩
   case measure=>simp[intOf];omega
  have OE:=Lib.hid (show M=L3++PL.flatten by rw[HM.out,List.take_of_length_le (by rw[zV.out];omega)])
  obtain⟨N4,xW⟩:∃N,N=M++bM E.length 4:=⟨_,rfl⟩
  have IX:=Lib.hid xW
  have IY:=Lib.hid (show N4.length≤22004 by have:=lJ.out;rw[xW,List.length_append,gZ];omega)
  obtain⟨EL,wG⟩:∃EL,EL=qC D.entries:=⟨_,rfl⟩
  have En:=Lib.hid wG
  have zW:=Lib.hid (show EL.length=D.entries.length by rw[wG];simp[qC])
  have OG:=Lib.hid (show EL.flatten.length≤30000000 by rw[wG];exact Xw D oH.out)
  have Ew:=AV (P:=Tryz.prog) (ty:=3) (oU:=#[95]) rfl Tryz.underlying95 (HD.out.later hR.b).em
  rw[List.length_map]at Ew
  have A6:=IG w wr sc M E.length 4 hR (by decide) (by have:=lJ.out;omega)
  rw[←xW]at A6
  have X3:=Lib.hid A6
  obtain⟨d0,d1,d2,d3,d4,g1,gl⟩:=gm (HD.out.later hR.b).box
  clear xW wG A6
  go_wp2_with fail
  refine X3.out.mono ?_
  rintro x w6 ⟨s6,rfl,uJ,-,-⟩
  clear d0 d1 d2 d3 d4 g1 gl Ew X3 hR hC
  obtain⟨d0,d1,d2,d3,d4,g1,gl⟩:=gm (HD.out.later uJ.b).box
  dsimp only
  go_wp2_with fail
  refine(aha b n e p re D.aN (ed NL) E P w6 (HD.out.later uJ.b) HNE.out HR.out.ak7 (fun x hx=>(HE.out x hx).later uJ.b)).mono ?_
  rintro x w7 ⟨sl2,Y,rfl,hb7,zZ,hYs,hYd⟩
  have X4:=Lib.hid (HR.out.ak6 zZ hYs)
  have hYl:Y.length=D.entries.length:=by rw[←X4.out,List.length_map]
  have X8:Clear w6 w7 w7 s6:=Clear.start uJ
  have uK:=uJ.later hb7
  have alj:=Lib.hid hYd
  have HYP:=Lib.hid (show ∀x∈Y,bI x.2=true∧aS w x.1 x.2 from fun x hx=>⟨HR.out.good.ok x.2 (List.mem_map.2 ⟨x,zZ.mem_iff.1 hx,rfl⟩),HE.out x (zZ.mem_iff.1 hx)⟩)
  have hEl:Y.length≤64:=by rw[hYl];exact oH.out.ne
  have X9:=Lib.hid hYl
  clear hYd zZ hYs hYl hb7 uJ d0 d1 d2 d3 d4 g1 gl
  dsimp only
  go_wp2_with fail
  go_loopw [3,9,10,11,69] (fun bv _ _ _ iv wr=>∃(k:Nat) (sc:Sl),k≤Y.length∧iv=.int .i64 k∧∃M:List UInt8,Hid (M=N4++(EL.take k).flatten)∧bv=.slice sc.a M.length sc.cap∧dC 5 w wr sc M∧Hid (Clear w6 w7 wr sc)) (fun _ _ _ _ iv _=>Y.length-(intOf iv).toNat)
  case atStart=>exact⟨0,s6,Nat.zero_le _,rfl,N4,by simp[Hid],rfl,uK,X8⟩
  case round=>
   clear uK X8
   obtain⟨k2,sd,hk2,rfl,M4,zX,rfl,hR,hC⟩:=hrel
   have BI:=Lib.hid (show M4.length≤30100000 by have h1:=IY.out;have h2:=OG.out;have h3:=zN EL k2;rw[zX.out,List.length_append];omega)
   by_cases hlt:k2<Y.length
   ·obtain⟨pb,po,cs,ha,hrow,x,hx,rfl⟩:=(hC.out.dep alj.out).2 k2 hlt
    obtain rfl:Y[k2]=x:=by rw[List.getElem?_eq_getElem hlt]at hx;exact Option.some.inj hx
    have hb:pb<wr.heap.size:=fA hrow
    have hki:(k2:Int)<(Y.length:Int):=by omega
    obtain⟨hq,hq2⟩:=HYP.out _ (List.getElem_mem hlt)
    have Ya:k2<D.entries.length:=by rw[←X9.out];exact hlt
    have Eu:D.entries[k2]=Y[k2].2:=by
     have h1:(Y.map (·.2))[k2]'(by simpa using hlt)=D.entries[k2]:=by congr 1;all_goals first|exact X4.out|skip
     rw[←h1,List.getElem_map]
    obtain⟨en,hen⟩:∃l,l=pI Y[k2].2:=⟨_,rfl⟩
    have hel:en.length≤416085:=by rw[hen];exact NJ (NM hq hq2.attrs.1)
    obtain⟨S1,hS1⟩:∃S1,S1=ByteArray.mk en.toArray:=⟨_,rfl⟩
    have OT:S1.size=en.length:=by rw[hS1];simp[ByteArray.size]
    have Yb:S1.data.toList=en:=by rw[hS1]
    have HK:=Lib.hid (show(EL.take (k2+1)).flatten=(EL.take k2).flatten++(bM S1.size 4++S1.data.toList) by
     rw[xN (by rw[zW.out];exact Ya)]
     congr 1
     have:EL[k2]'(by rw[zW.out];exact Ya)=uI (pI D.entries[k2]):=by simp[En.out,qC]
     rw[this,Eu,←hen,Yb,OT]
     rfl)
    have hpt:=fun v (hv:Below wr.heap.size wr v)=>akR Y[k2].1 Y[k2].2 v (hq2.later (ag hR.b hv)) hq
    rw[←hen]at hpt
    have OO:=Lib.hid hpt
    have pO:=Lib.hid hS1
    have hsz:S1.size≤416085:=by rw[OT];exact hel
    have hrow2:row? wr pb (po+k2*17) 17=some (ae Y[k2].1 Y[k2].2):=hrow
    generalize Y[k2].1=r at *
    generalize Y[k2].2=d at *
    clear hen hx hq hq2 hpt hel hS1 OT Yb Eu hrow
    have jY:Below wr.heap.size wr (wr.alloc (.cells (ae r d) 44)):=ay (Below.refl _ _) _
    have hA0:=World.alloc_heap_new wr (.cells (ae r d) 44)
    obtain⟨ac,af,ar,al⟩:=ax hA0
    go_wp2_with fail
    refine(OO.out _ jY).mono ?_
    rintro x V1 ⟨s8,rfl,hb1,Hu⟩
    have hB1:=ag jY hb1
    have k1:=wJ s8.a s8.cap en V1 Hu
    rw[←pO.out]at k1
    have A5:=Lib.hid (NT w V1 sd M4 S1 4 (hR.later hB1) (by decide) (by have:=BI.out;omega) (by omega))
    have Ey:=Lib.hid (hC.out.later hB1)
    clear ac af ar al hA0 jY hb1 hrow2 hR hC Hu
    dsimp only
    go_wp2_with fail
    refine A5.out.mono ?_
    rintro x V2 ⟨s5,rfl,wF,hS5,Ez⟩
    have OQ:=Lib.hid (Ey.out.app hS5 Ez)
    obtain⟨M2,hM2⟩:∃N,N=M4++(bM S1.size 4++S1.data.toList):=⟨_,rfl⟩
    rw[←hM2]at wF
    rw[←hM2]
    have pg:=Lib.hid (show M2=N4++(EL.take (k2+1)).flatten by rw[hM2,zX.out,HK.out,List.append_assoc])
    clear hM2 hS5 Ez A5 Ey k1
    dsimp only
    go_wp2_with fail
    go_roundw
    case rel=>
     exact⟨k2+1,s5,by omega,by go_num,M2,pg.out,rfl,wF,OQ.out⟩
    case measure=>simp[intOf];omega
   have HFin:=Lib.hid (show M4=jX D by rw[zX.out,List.take_of_length_le (by rw[zW.out,←X9.out];omega),IX.out,OE.out,Ei.out,En.out,←HH.out,←HDE.out];rfl)
   go_wp2_with fail
   go_ret
   rw[←HFin.out]
   exact hR.D6 (by have:=BI.out;unfold lim;omega)
end Go.Proofs.YtpfifochimkpfaaGreatDoor
namespace Go.WW
open Go.RowKit
section
variable {P:Program} {ops:Array Oper} {S:World→Prop} {st:Oper→Bool} {Q:Act→World→Prop}
theorem uM{Q':Act→World→Prop}(hQ:∀a w,S w→Q a w→Q' a w):∀(M:List Oper) (a:Act) (w:World),S w→aG P ops st S Q M a w→aG P ops st S Q' M a w
 | [],a,w,hS,h=>hQ a w hS h
 |o::M,a,w,hS,h=>by
  rw[bF]at *
  split
  ·rename_i hw
   rw[if_pos hw]at h
   by_cases hs:st o=true
   ·rw[if_pos hs]at h ⊢
    obtain⟨v,hv,hh⟩:=h
    exact⟨v,hv,uM hQ M _ _ hS hh⟩
   ·rw[if_neg hs]at h ⊢
    exact Oper.wp_mono (fun a' w' hh=>⟨hh.1,uM hQ M _ _ hh.1 hh.2⟩) h
  ·rename_i hw
   rw[if_neg hw]at h
   exact uM hQ M _ _ hS h
theorem Aa:∀(M N:List Oper) (a:Act) (w:World),aG P ops st S Q (M++N) a w=aG P ops st S (fun a' w'=>aG P ops st S Q N a' w') M a w
 | [],_,_,_=>rfl
 |o::M,N,a,w=>by
  rw[List.cons_append,bF,bF]
  simp only[Aa M N]
theorem Yc{Q1 Q2:Act→World→Prop}{o:Oper}{M1 M2:List Oper}{a:Act}{w:World}(hst:st o=true)(hS:S w)(h1:aG P ops st S Q1 (o::M1) a w)(h2:aG P ops st S Q2 (o::M2) a w) :
  aG P ops st S (fun a' w'=>aG P ops st S Q1 M1 a' w'∧aG P ops st S Q2 M2 a' w') [o] a w:=by
 rw[bF]at *
 split
 ·rename_i hw
  rw[if_pos hw,if_pos hst]at h1 h2
  first
   |rw[if_pos hst]
   |skip
  obtain⟨v,hv,hh⟩:=h1
  obtain⟨v',hv',hh'⟩:=h2
  have e:v'=v:=by
   have:=(hv' w hS).symm.trans (hv w hS)
   simpa using this
  subst e
  exact⟨v',hv,hh,hh'⟩
 ·rename_i hw
  rw[if_neg hw]at h1 h2
  exact⟨h1,h2⟩
structure aoA(st:Oper→Bool)(ops:Array Oper)(m:Array (List Nat))(x c:Nat):Prop where
 jy:Region.noSelect ops=true
 back:∀j oj,ops[j]?=some oj→∀e∈oj.after,Region.binds .any e=true→e.on<j
 pred:∀j oj,ops[j]?=some oj→∀i∈m.getD j [],∃e∈oj.after,Region.binds .any e=true∧(e.on=i∨i∈m.getD e.on [])
 pair:∀j oj,ops[j]?=some oj→∀i,i<j→∀oi,ops[i]?=some oi→(∃e∈oj.after,Region.binds .any e=true∧e.on=i)∨(oi.apart ops oj=true∧(st oi=true∨st oj=true∨i∈m.getD j []∨(i=c∧j=x)))
 past:∀i oi oc,ops[i]?=some oi→ops[c]?=some oc→c<i→i<x→oi.apart ops oc=true∧st oi=true
 look:∀i oi,ops[i]?=some oi→c<i→i≠x→st oi=true∨c∈m.getD i []
 lt:c<x
def ahd(c:Nat)(L:List Nat):List Nat:=L.filter fun k=>decide (k<c)
def bhd(c:Nat)(L:List Nat):List Nat:=L.filter fun k=>decide (c≤k)
def aln(x c:Nat)(L:List Nat):List Nat:=L.filter fun k=>decide (c<k)&&decide (k≤x)
def alo(x:Nat)(L:List Nat):List Nat:=L.filter fun k=>decide (x<k)
def aoC(P:Program)(ops:Array Oper)(st:Oper→Bool)(S:World→Prop)(Q:Act→World→Prop)(x c:Nat)(L:List Nat):Act→World→Prop:=fun a w=>
 aG P ops st S Q ((bhd c L).filterMap (ops[·]?)) a w∧(x∈L→c∈L→aG P ops st S Q ((aln x c L++c::alo x L).filterMap (ops[·]?)) a w)
def aoD(st:Oper→Bool)(ops:Array Oper)(x c:Nat):Bool:=
 let m:=lK st ops
 Region.noSelect ops&&decide (c<x)&&(List.range ops.size).all fun j=>match ops[j]? with
  |none=>true
  |some oj=>
   oj.after.toList.all (fun e=>!Region.binds .any e || decide (e.on<j))&&
   (m.getD j []).all (fun i=>oj.after.toList.any fun e=>Region.binds .any e&&(e.on == i || (m.getD e.on []).contains i))&&
   ((List.range j).all fun i=>match ops[i]? with
    |none=>true
    |some oi=>oj.after.toList.any (fun e=>Region.binds .any e&&e.on == i) || (oi.apart ops oj&&(st oi || st oj || (m.getD j []).contains i || (i == c&&j == x))))&&
   (!(decide (c<j)) || j == x || st oj || (m.getD j []).contains c)&&
   (match ops[c]? with
    |none=>true
    |some oc=>!(decide (c<j)&&decide (j<x)) || (oj.apart ops oc&&st oj))
end
end Go.WW
