/- A part of the proof. -/
import Derived.Test.YtfieenjdcpjmgaaGreatDoorB31
import Derived.Test.YtfieenjdcpjmgaaGreatDoorB19
import Derived.Test.YtfieenjdcpjmgaaGreatDoorB29
import Derived.Test.YtfieenjdcpjmgaaGreatDoorB30
import Derived.Test.YtfieenjdcpjmgaaGreatDoorB24
import Derived.Test.YtfieenjdcpjmgaaGreatDoorB25
import Derived.Test.YtfieenjdcpjmgaaGreatDoorB12
set_option maxRecDepth 100000
set_option maxHeartbeats 8000000
namespace Go.Proofs.YtfieenjdcpjmgaaGreatDoor
open Go.RowKit Go.WW
theorem anT(g cap:Nat)(X:List ai)(lm:Int)(w:World)(hn:X.length≤12)(hX:lq g X X w w)(hD:(X.map nC).Nodup) :
  Calls Tryz.prog 267 #[.slice (some ⟨g,0,none⟩) X.length cap,.int .i64 0,.int .i64 X.length,.int .i64 lm,.func (.func 108) #[] #[]] w fun e w'=>e=.returned (.tuple #[])∧∃Y,lq g X Y w w'∧Sorted dD nC Y:=by
 have HI:=Lib.hid (anS g cap X w hn hX hD)
 clear hX hD
 have h12:(X.length:Int)≤12:=by omega
 go_enter Tryz.func267,Tryz.ntmps267
 go_wp2_with fail
 refine wp_loop_rounds 1 ?_
 rw[rounds_succ]
 go_wp2_with fail
 refine HI.out.mono ?_
 rintro e w' ⟨rfl,hY⟩
 dsimp only
 go_wp2_with fail
 refine bodyPost_ret (results_none rfl _ _ _) rfl ⟨rfl,hY⟩
theorem anU(g cap:Nat)(X:List ai)(w:World)(hn:X.length≤12)(hX:lq g X X w w)(hD:(X.map nC).Nodup) :
  Calls Tryz.prog 188 #[.slice (some ⟨g,0,none⟩) X.length cap,.func (.func 108) #[] #[]] w fun e w'=>e=.returned (.tuple #[])∧∃Y,lq g X Y w w'∧Sorted dD nC Y:=by
 have HI:=Lib.hid (fun lm=>anT g cap X lm w hn hX hD)
 clear hX hD
 go_enter Tryz.func188,Tryz.ntmps188
 go_wp2_with fail
 refine(DL _ hn w).mono ?_
 rintro e w' ⟨⟨k,rfl⟩,rfl⟩
 dsimp only
 go_wp2_with fail
 refine(HI.out k).mono ?_
 rintro e w' ⟨rfl,hY⟩
 dsimp only
 go_wp2_with fail
 go_end0
 exact⟨rfl,hY⟩
theorem anV(w:World):Calls Tryz.prog 321 #[.slice none 0 0,.int .i64 0,.int .i64 0,.func (.func 108) #[] #[]] w fun e w'=>e=.returned (.tuple #[])∧w=w':=by
 go_enter Tryz.func321,Tryz.ntmps321
 go_wp2_with fail
 refine wp_loop_rounds 1 ?_
 rw[rounds_succ]
 go_wp2_with fail
 go_end0
 exact⟨rfl,rfl⟩
theorem anW(lm:Int)(w:World):Calls Tryz.prog 267 #[.slice none 0 0,.int .i64 0,.int .i64 0,.int .i64 lm,.func (.func 108) #[] #[]] w fun e w'=>e=.returned (.tuple #[])∧w=w':=by
 go_enter Tryz.func267,Tryz.ntmps267
 go_wp2_with fail
 refine wp_loop_rounds 1 ?_
 rw[rounds_succ]
 go_wp2_with fail
 refine(anV w).mono ?_
 rintro e w' ⟨rfl,rfl⟩
 dsimp only
 go_wp2_with fail
 refine bodyPost_ret (results_none rfl _ _ _) rfl ⟨rfl,rfl⟩
theorem anX(w:World):Calls Tryz.prog 188 #[.slice none 0 0,.func (.func 108) #[] #[]] w fun e w'=>e=.returned (.tuple #[])∧w=w':=by
 go_enter Tryz.func188,Tryz.ntmps188
 go_wp2_with fail
 refine(DL 0 (by omega) w).mono ?_
 rintro e w' ⟨⟨k,rfl⟩,rfl⟩
 dsimp only
 go_wp2_with fail
 refine(anW k w).mono ?_
 rintro e w' ⟨rfl,rfl⟩
 dsimp only
 go_wp2_with fail
 go_end0
 exact⟨rfl,rfl⟩
end Go.Proofs.YtfieenjdcpjmgaaGreatDoor
namespace Go.WW
open Go.RowKit
abbrev ET(E:List ai):List (ByteArray×Value):=E.map fun x=>(x.name,Value.agg (aC x))
end Go.WW
namespace Go.Proofs.YtfieenjdcpjmgaaGreatDoor
open Go.RowKit Go.WW
def ZW(E:List ai)(w:World)(z:Ending)(w':World):Prop:=∃(s:Sl) (Y:List ai),z=.returned (.slice s.a Y.length s.cap)∧Below w.heap.size w w'∧Y.Perm E∧Sorted dD nC Y∧bH w' (fresh w.heap.size w') (fun x=>nz x s.a Y)∧(0<Y.length→Y.length≤s.cap∧∃g,s.a=some ⟨g,0,none⟩∧w.heap.size≤g∧ES w' g 50)
theorem anY(e:Nat)(E:List ai)(w:World)(hm:MapOf w e (ET E))(hn:E.length≤12)(hD:(E.map nC).Nodup) :
  Calls Tryz.prog 107 #[.map (some e),.func (.func 108) #[] #[]] w (ZW E w):=by
 obtain⟨w1,hrange,hit,hb1,hs1⟩:=Gt (P:=Tryz.prog) Tryz.underlying86 hm
 have HD:=Lib.hid hD
 have hel:=hm.lt
 have hd0:(ET E).length=E.length:=by simp
 clear hD
 go_enter Tryz.func107,Tryz.ntmps107
 go_wp2_with fail
 clear hrange
 go_loopw [5] (fun lv wr=>∃(so:Sl) (T left:List ai),lv=.slice so.a T.length so.cap∧Hid (lH wr w.heap.size e (ET E) (ET left))∧Hid ((T++left).Perm E)∧Go.WW.Own wr w1.heap.size 50 10 so (T.map aC)∧Below w.heap.size w wr∧w1.heap.size≤wr.heap.size∧(T=[]→so=⟨none,0⟩)) (fun lv _=>13-(match lv with | .slice _ k _=>k|_=>0))
 case atStart=>exact⟨⟨none,0⟩,[],E,rfl,hit,List.Perm.refl _,Go.WW.Own.nil _ _ _ _,hb1,Nat.le_refl _,fun _=>rfl⟩
 case round=>
  obtain⟨so,T,left,rfl,hI,hp,hO,hbr,oV,hnil⟩:=hrel
  have hlen:T.length+left.length=E.length:=by have:=hp.out.length_eq;simpa using this
  rcases Gu (P:=Tryz.prog) 0 hI.out with⟨hl0,hrun⟩|⟨l1,x,l2,w2,hl,hrun,hent,hI2,hb2,hs2⟩
  ·obtain rfl:left=[]:=by cases left<;>simp_all
   have xA:T.Perm E:=by simpa using hp.out
   rcases Nat.eq_zero_or_pos T.length with hT0|hT0
   ·obtain rfl:T=[]:=List.eq_nil_of_length_eq_zero hT0
    obtain rfl:=hnil rfl
    go_wp2_with fail
    refine(anX wr).mono ?_
    rintro z w' ⟨rfl,rfl⟩
    dsimp only
    go_wp2_with fail
    go_ret
    exact⟨⟨none,0⟩,[],rfl,hbr,xA,List.Pairwise.nil,fun x _=>⟨by simp[lim],fun i hi=>by simp at hi⟩,fun h=>absurd h (Nat.lt_irrefl _)⟩
   ·obtain⟨g,hga,hgb,hg0⟩:=hO.row 0 (by simpa using hT0)
    have hge:=hO.base hgb
    obtain⟨sa,sc⟩:=so
    obtain rfl:sa=some ⟨g,0,none⟩:=hga
    have DN:lq g T T wr wr:=⟨List.Perm.refl _,But.refl _ _,nz.eG hO (by have:=Wp;omega),by simpa using hO.anQ rfl,by
     rcases hO.own.2 with⟨hv,_⟩|⟨g',cap,cur,hv,_,hh,_⟩
     ·cases hv
     ·cases hv;exact⟨cur,hh⟩⟩
    have hcap:T.length≤sc:=by
     rcases hO.own.2 with⟨hv,_⟩|⟨g',cap,cur,hv,_,hh,hle,_⟩
     ·cases hv
     ·cases hv;simpa using hle
    have HS:=Lib.hid (anU g sc T wr (by omega) DN ((xA.map nC).nodup_iff.2 HD.out) )
    clear DN
    go_wp2_with fail
    refine HS.out.mono ?_
    rintro z w' ⟨rfl,Y,hY,hso⟩
    dsimp only
    go_wp2_with fail
    have hbw:=yX hbr hY.but (fun j (hj:j=g)=>by omega)
    have H9:=hY.perm.length_eq
    have hg':g<w'.heap.size:=by have:=hY.but.size;omega
    go_ret
    exact⟨⟨some ⟨g,0,none⟩,sc⟩,Y,by rw[H9];rfl,hbw,hY.perm.trans xA,hso,fun x hx=>hY.rows.block (hx g ⟨by omega,hg'⟩),fun _=>⟨by rw[H9];exact hcap,g,rfl,by omega,hY.typ⟩⟩
  ·obtain⟨L1,L',hL,e1,e2⟩:=List.map_eq_append_iff.1 hl
   obtain⟨y,L2,rfl,e3,e4⟩:=List.map_eq_cons_iff.1 e2
   subst e3 e1 e4 hL
   have hbw2:Below w.heap.size w w2:=yX hbr hb2 (fun j (hj:j=w.heap.size)=>by omega)
   have hown:Go.WW.Own ((w2.alloc (.cells (aC y) 50)).alloc (.cells (aC y) 50)) w1.heap.size 50 10 so (T.map aC):=hO.kept fun g hg=>by
    have hgb:=hO.base hg
    rw[Below.heap_alloc _ _ _ (by simp;omega),Below.heap_alloc _ _ _ (by omega)]
    exact hb2.block g hgb.2 (show ¬g=w.heap.size by omega)
   have hrun':(Instr.next (.pointer (some ⟨w.heap.size,0,none⟩)) false 0).run Tryz.prog wr=.ok (.tuple #[.bool true,.string (y.name),.agg (aC y)]) w2:=hrun
   have DR:(Instr.entry (.pointer (some ⟨w.heap.size,0,none⟩))).run Tryz.prog w2=.ok (.tuple #[.string (y.name),.agg (aC y)]) w2:=hent
   have hsrc:cZ ((w2.alloc (.cells (aC y) 50)).alloc (.cells (aC y) 50)) 10 (some ⟨w2.heap.size+1,0,none⟩) [aC y]:=by
    have:=cZ.new (w2.alloc (.cells (aC y) 50)) (aC y) 50 10 (by simp[go_sem]) (by simp[go_sem])
    rwa[World.size_alloc]at this
   have HS2:=Lib.hid hs2
   clear hrun hent hs2
   go_wp2_with (at_builtin;refine gI rfl (.tmp 14) (.tmp 16) _ rfl anR (n:=T.length) (rows:=T.map aC) (news:=[aC y]) rfl (by simp) hown rfl rfl hsrc (by rw[List.length_map];simp;omega) (by have:=HS2.out;simp;omega) ?_;intro s3 w3 hown3 hg3 gJ)
   have hs2:=HS2.out
   have jH:Below w.heap.size w ((w2.alloc (.cells (aC y) 50)).alloc (.cells (aC y) 50)):=aj (aj hbw2 _) _
   have hb3:Below w.heap.size w w3:=jH.grown hg3 jH.size (fun g hg=>by have:=(hown.base hg).1;omega)
   have hs3:=hg3.size
   have hkp:∀k,k<w1.heap.size→w3.heap[k]?=w2.heap[k]?:=fun k hk=>by
    rw[hg3.block k (by simp;omega) (fun e=>by have:=(hown.base e.symm).1;omega),Below.heap_alloc _ _ _ (by simp;omega),Below.heap_alloc _ _ _ (by omega)]
   have HI3:=Lib.hid (hI2.at (hkp w.heap.size (by omega)) (hkp e (by omega)))
   have DT:=Lib.hid (show((T++[y])++(L1++L2)).Perm E from List.Perm.trans (by simpa using List.perm_middle.symm.append_left T) hp.out)
   have MQ:Go.WW.Own w3 w1.heap.size 50 10 s3 ((T++[y]).map aC):=by rw[List.map_append];exact hown3
   have hsz3:w1.heap.size≤w3.heap.size:=by simp at hs3;omega
   have hTl:T.length+1≤12:=by simp at hlen;omega
   clear hown hown3 hg3 gJ hI2 hb2 hbw2 hkp jH hs3 HS2 hs2
   go_wp2_with fail
   go_roundw
   case rel=>exact⟨s3,T++[y],L1++L2,by simp,by simpa[Hid]using HI3.out,DT.out,MQ,hb3,hsz3,by simp⟩
   case measure=>simp;omega
theorem anZ(b o p:Nat)(E:List ai)(w:World)(hc:w.cell? ⟨b,o+4,none⟩=some (.map (some p)))(hm:MapOf w p (ET E))(hn:E.length≤12)(hD:(E.map nC).Nodup) :
  Calls Tryz.prog 59 #[.pointer (some ⟨b,o,none⟩)] w (ZW E w):=by
 have HI:=Lib.hid (anY p E w hm hn hD)
 have hlt:=World.block_lt_of_cell? w _ hc
 clear hD hm
 go_enter Tryz.func59,Tryz.ntmps59
 go_wp2_with fail
 refine HI.out.mono ?_
 rintro z w' ⟨sl,Y,rfl,hY⟩
 dsimp only
 go_wp2_with fail
 go_ret
 exact⟨sl,Y,rfl,hY⟩
end Go.Proofs.YtfieenjdcpjmgaaGreatDoor
namespace Go.WW
open Go.RowKit
theorem an0(v:Nat):bM v 1=[UInt8.ofNat v]:=rfl
structure Clear(A B w:World)(s:Sl):Prop where
 keep:∀j,A.heap.size≤j→j<B.heap.size→w.heap[j]?=B.heap[j]?
 at_:∀g,s.blk=some g→g<A.heap.size∨B.heap.size≤g
 size:B.heap.size≤w.heap.size
theorem Clear.start{T:TypeId}{W A B:World}{s:Sl}{l:List UInt8}(h:dF T W A s l):Clear A B B s:=
 ⟨fun _ _ _=>rfl,fun g hg=>.inl (h.own.base (by first|exact hg|exact hg.symm)).2,Nat.le_refl _⟩
theorem Clear.later{A B w v:World}{s:Sl}(h:Clear A B w s)(hb:Below w.heap.size w v):Clear A B v s:=
 ⟨fun j h1 h2=>(hb.block j (by have:=h.size;omega)).trans (h.keep j h1 h2),h.at_,Nat.le_trans h.size hb.size⟩
theorem Clear.app{A B w v:World}{s s1:Sl}(h:Clear A B w s)(hb:lh w s v)(n:mM w s s1):Clear A B v s1:=
 ⟨fun j h1 h2=>(But.block hb j (by have:=h.size;omega) (fun e=>by rcases h.at_ j e with g|g<;>omega)).trans (h.keep j h1 h2),
  fun g hg=>by
   rcases n g hg with h1|h1
   ·exact h.at_ g (h1.symm.trans hg)
   ·exact .inr (Nat.le_trans h.size h1),
  Nat.le_trans h.size (But.size hb)⟩
theorem Clear.dep{A B w:World}{s:Sl}{Φ:World→Prop}(h:Clear A B w s)(hd:bH B (fresh A.heap.size B) Φ):Φ w:=hd w fun k hk=>h.keep k hk.1 hk.2
theorem an1{α β:Type}{f:α→β}{l:List α}(h:(l.map f).Nodup):l.Nodup:=by
 refine(List.pairwise_map.1 h).imp ?_
 rintro a c hne rfl
 exact hne rfl
theorem fA.an2{D:Db}{X:List EE}{NL:List (ByteArray×ByteArray)}{E:List EE}{P Y:List ai}(h:fA D X NL E P)(hs:Sorted dD (fun q:ai=>q.name) D.au)(hp:Y.Perm P)(hY:Sorted dD nC Y):Y=D.au:=
 KC (k:=fun q:ai=>q.name) oW _ _ hY hs (hp.trans h.dL.perm)
theorem fA.an3{D:Db}{X:List EE}{NL:List (ByteArray×ByteArray)}{E Y:List EE}{P:List ai}(h:fA D X NL E P)(hp:Y.Perm E)(hY:Sorted fE eY Y):Y.map (·.2)=D.entries:=by
 rw[h.eq]
 exact KC (k:=fun d:Entry=>d.name) KA _ _ (List.pairwise_map.2 hY) (List.pairwise_map.2 h.sorted) ((hp.map _).trans h.perm)
theorem fA.an4{D:Db}{X:List EE}{NL:List (ByteArray×ByteArray)}{E:List EE}{P:List ai}(h:fA D X NL E P):(E.map eY).Nodup:=by
 have h1:=h.good.nodup
 rw[List.map_map]at h1
 have h2:(E.map eY).map textOf=E.map ((fun x:Entry=>textOf x.name)∘fun x=>x.2):=by rw[List.map_map];rfl
 rw[←h2]at h1
 exact an1 h1
end Go.WW
namespace Go.Proofs.YtfieenjdcpjmgaaGreatDoor
open Go.RowKit Go.WW
theorem ZX(b n e p:Nat)(re:ByteArray)(NL:List (ByteArray×ByteArray))(E:List EE)(P:List ai)(D:Db)(X:List EE)(w:World)(h:bU w b n e p re D.ay (dU NL) E P)(hre:¬re=⟨#[]⟩)(hDr:D.aG=re)(hr:fA D X NL E P)
  (hso:Sorted dD (fun q:ai=>q.name) D.au) (hE:∀x∈E,bK w x.1 x.2) (hok:BJ D) (hn:E.length≤12) (hp:P.length≤12) (hs1:D.ay<1000000) (ht:wz Tryz.prog w) :
  Calls Tryz.prog 21 #[.pointer (some ⟨b,0,none⟩)] w (bI w (pR D)):=by
 have Hz:(P.map nC).Nodup:=(hr.dL.perm.map nC).nodup_iff.2 hr.dL.nodup
 have EU:D.entries.length=E.length:=by rw[hr.eq];have:=hr.perm.length_eq;simpa using this.symm
 have PI:D.au.length=P.length:=hr.dL.perm.length_eq.symm
 obtain⟨S,hS⟩:∃S:Nat,S=D.ay.toNat:=⟨_,rfl⟩
 have Zu:D.ay=(S:Int):=by have:=hok.ay;omega
 have ark:re.size≤1000:=by have:=hok.re;rw[hDr]at this;exact this
 have arl:S<18446744073709551616:=by have:=hok.ay;omega
 have arn:P.length<18446744073709551616:=by omega
 have aro:E.length<18446744073709551616:=by omega
 have HMP:=Lib.hid h.pm
 have HNP:=Lib.hid hp
 have PK:=Lib.hid hn
 obtain⟨L1,hL1⟩:∃L,L=bM re.size 1++re.data.toList:=⟨_,rfl⟩
 obtain⟨L2,hL2⟩:∃L,L=L1++bM S 8:=⟨_,rfl⟩
 obtain⟨L3,hL3⟩:∃L,L=L2++bM P.length 4:=⟨_,rfl⟩
 have HH:=Lib.hid (show Ph D=L3 by rw[hL3,hL2,hL1,hS,an0,←hDr,←PI];rfl)
 have hl1:L1.length=1+re.size:=by rw[hL1,List.length_append,iy];simp
 have hl2:L2.length=9+re.size:=by rw[hL2,List.length_append,iy,hl1];omega
 have hl3:L3.length=13+re.size:=by rw[hL3,List.length_append,iy,hl2];omega
 have hln:=yE (P:=Tryz.prog) (ty:=3) (nJ:=#[86]) rfl Tryz.underlying86 h.pm
 have an6:=yE (P:=Tryz.prog) (ty:=3) (nJ:=#[85]) rfl Tryz.underlying85 h.em
 rw[List.length_map]at hln an6
 have Pm:=Lib.hid hL1
 have HL2:=Lib.hid hL2
 have Pn:=Lib.hid hL3
 have Po:=Lib.hid hl1
 have Hl2:=Lib.hid hl2
 have I8:=Lib.hid hl3
 have mi:=Lib.hid hok
 have HR:=Lib.hid hr
 have HSO:=Lib.hid hso
 have HE:=Lib.hid hE
 have HD:=Lib.hid h
 have HT:=Lib.hid ht
 have HPN:=Lib.hid Hz
 have HDE:=Lib.hid EU
 have HDP:=Lib.hid PI
 have HDR:=Lib.hid hDr
 clear hL1 hL2 hL3 hl1 hl2 hl3 hS hok hr hso hE ht Hz EU PI hp hn hs1
 obtain⟨c0,c1,c2,c3,c4,f1,hl⟩:=dO h.box
 rw[Zu]at c1
 clear h hDr
 go_enter Tryz.func21,Tryz.ntmps21
 have A1:=OJ w w ⟨none,0⟩ [] re 1 (dF.none _ (Below.refl _ _)) (by decide) (by simp) (by omega)
 rw[List.nil_append,←Pm.out]at A1
 have A1':=Lib.hid A1
 clear A1
 go_wp2_with fail
 refine(jo _ _ _ c0 hre).mono ?_
 rintro x w' ⟨rfl,rfl⟩
 dsimp only
 go_wp2_with fail
 refine A1'.out.mono ?_
 rintro x w1 ⟨s1,rfl,hR1,-,-⟩
 have A2:=IU w w1 s1 L1 S 8 hR1 (by decide) (by have:=Po.out;omega)
 rw[←HL2.out]at A2
 have A2':=Lib.hid A2
 clear A2
 obtain⟨hcc,aT,hrr⟩:=bg hR1.b
 go_wp2_with fail
 refine A2'.out.mono ?_
 rintro x w2 ⟨s2,rfl,hR2,-,-⟩
 have A3:=IU w w2 s2 L2 P.length 4 hR2 (by decide) (by have:=Hl2.out;omega)
 rw[←Pn.out]at A3
 have A3':=Lib.hid A3
 clear A3 hcc aT hrr hR1
 obtain⟨hcc,aT,hrr⟩:=bg hR2.b
 have EW:=yE (P:=Tryz.prog) (ty:=3) (nJ:=#[86]) rfl Tryz.underlying86 (HD.out.later hR2.b).pm
 rw[List.length_map]at EW
 go_wp2_with fail
 refine A3'.out.mono ?_
 rintro x w3 ⟨s3,rfl,dh,-,-⟩
 clear hcc aT hrr hR2 EW
 obtain⟨d0,d1,d2,d3,d4,g1,gl⟩:=dO (HD.out.later dh.b).box
 go_wp2_with fail
 refine(anZ b 0 p P w3 (by simpa using d4) (HD.out.later dh.b).pm HNP.out HPN.out).mono ?_
 rintro x w4 ⟨sl,Y,rfl,hb4,zN,hYs,hYd,-⟩
 obtain rfl:Y=D.au:=HR.out.an2 HSO.out zN hYs
 have ZY:Clear w3 w4 w4 s3:=Clear.start dh
 have zI:=dh.later hb4
 have HYD:=Lib.hid hYd
 obtain⟨PL,vY⟩:∃PL,PL=qB D.au:=⟨_,rfl⟩
 have EK:=Lib.hid vY
 have zJ:=Lib.hid (show PL.length=D.au.length by rw[vY];simp[qB])
 have Pv:=Lib.hid (show PL.flatten.length≤20000 by rw[vY];exact Zr D mi.out)
 have hDl:D.au.length≤64:=mi.out.np
 clear vY hYd zN hYs hb4 dh d0 d1 d2 d3 d4 g1 gl
 go_wp2_with fail
 go_loopw [3,5,6,7,42] (fun bv _ _ _ iv wr=>∃(k:Nat) (sc:Sl),k≤D.au.length∧iv=.int .i64 k∧∃M:List UInt8,Hid (M=L3++(PL.take k).flatten)∧bv=.slice sc.a M.length sc.cap∧dF 5 w wr sc M∧Hid (Clear w3 w4 wr sc)) (fun _ _ _ _ iv _=>D.au.length-(intOf iv).toNat)
 case atStart=>exact⟨0,s3,Nat.zero_le _,rfl,L3,by simp[Hid],rfl,zI,ZY⟩
 case round=>
  clear zI ZY
  obtain⟨k,sc,hk,rfl,M,HM,rfl,hR,hC⟩:=hrel
  have lS:=Lib.hid (show M.length≤22000 by have h1:=I8.out;have h2:=Pv.out;have h3:=zC PL k;rw[HM.out,List.length_append];omega)
  by_cases hlt:k<D.au.length
  ·obtain⟨pb,po,cs,ha,hrow,x,hx,rfl⟩:=(hC.out.dep HYD.out).2 k hlt
   obtain rfl:D.au[k]=x:=by rw[List.getElem?_eq_getElem hlt]at hx;exact Option.some.inj hx
   have hb:pb<wr.heap.size:=gm hrow
   have hki:(k:Int)<(D.au.length:Int):=by omega
   have hq:=mi.out.dL _ (List.getElem_mem hlt)
   obtain⟨str,hstr⟩:∃t,t=pO D.au[k]:=⟨_,rfl⟩
   have hsl:str.size≤300:=by rw[hstr];exact Pj (BI hq)
   have HK:=Lib.hid (show(PL.take (k+1)).flatten=(PL.take k).flatten++(bM str.size 4++str.data.toList) by
    rw[xM (by rw[zJ.out];exact hlt)]
    congr 1
    have:PL[k]'(by rw[zJ.out];exact hlt)=uH (pO D.au[k]).data.toList:=by simp[EK.out,qB]
    rw[this,←hstr]
    unfold uH
    rw[show str.data.toList.length=str.size by simp])
   have hpt:=fun v (hv:Below wr.heap.size wr v)=>ano D.au[k] v hq (by have:=(BI hq).1;unfold lim;omega) (kG HT.out (ag hR.b hv))
   rw[←hstr]at hpt
   have PM:=Lib.hid hpt
   generalize D.au[k]=q at *
   clear hstr hx hq hpt
   have jH:Below wr.heap.size wr (wr.alloc (.cells (aC q) 50)):=aj (Below.refl _ _) _
   have hA0:=World.alloc_heap_new wr (.cells (aC q) 50)
   obtain⟨ac,af,ar,al⟩:=aB hA0
   go_wp2_with fail
   refine(PM.out _ jH).mono ?_
   rintro x V1 ⟨rfl,hb1⟩
   have hB1:=ag jH hb1
   have A5:=Lib.hid (OJ w V1 sc M str 4 (hR.later hB1) (by decide) (by have:=lS.out;omega) (by omega))
   have EX:=Lib.hid (hC.out.later hB1)
   clear ac af ar al hA0 jH hb1 hrow hR hC
   dsimp only
   go_wp2_with fail
   refine A5.out.mono ?_
   rintro x V2 ⟨s5,rfl,vZ,hS5,EY⟩
   have PN:=Lib.hid (EX.out.app hS5 EY)
   obtain⟨M2,hM2⟩:∃N,N=M++(bM str.size 4++str.data.toList):=⟨_,rfl⟩
   rw[←hM2]at vZ
   rw[←hM2]
   have pg:=Lib.hid (show M2=L3++(PL.take (k+1)).flatten by rw[hM2,HM.out,HK.out,List.append_assoc])
   clear hM2 hS5 EY A5 EX
   dsimp only
   go_wp2_with fail
   go_roundw
   case rel=>
    exact⟨k+1,s5,by omega,by go_num,M2,pg.out,rfl,vZ,PN.out⟩
   case measure=>simp[intOf];omega
  have Py:=Lib.hid (show M=L3++PL.flatten by rw[HM.out,List.take_of_length_le (by rw[zJ.out];omega)])
  obtain⟨N4,xX⟩:∃N,N=M++bM E.length 4:=⟨_,rfl⟩
  have I9:=Lib.hid xX
  have Ja:=Lib.hid (show N4.length≤22004 by have:=lS.out;rw[xX,List.length_append,iy];omega)
  obtain⟨EL,wu⟩:∃EL,EL=qC D.entries:=⟨_,rfl⟩
  have EO:=Lib.hid wu
  have zK:=Lib.hid (show EL.length=D.entries.length by rw[wu];simp[qC])
  have Pz:=Lib.hid (show EL.flatten.length≤30000000 by rw[wu];exact Zt D mi.out)
  have EW:=yE (P:=Tryz.prog) (ty:=3) (nJ:=#[85]) rfl Tryz.underlying85 (HD.out.later hR.b).em
  rw[List.length_map]at EW
  have A6:=IU w wr sc M E.length 4 hR (by decide) (by have:=lS.out;omega)
  rw[←xX]at A6
  have ZZ:=Lib.hid A6
  obtain⟨d0,d1,d2,d3,d4,g1,gl⟩:=dO (HD.out.later hR.b).box
  clear xX wu A6
  go_wp2_with fail
  refine ZZ.out.mono ?_
  rintro x w6 ⟨s6,rfl,uI,-,-⟩
  clear d0 d1 d2 d3 d4 g1 gl EW ZZ hR hC
  obtain⟨d0,d1,d2,d3,d4,g1,gl⟩:=dO (HD.out.later uI.b).box
  dsimp only
  go_wp2_with fail
  refine(aje b n e p re D.ay (dU NL) E P w6 (HD.out.later uI.b) PK.out HR.out.an4 (fun x hx=>(HE.out x hx).later uI.b)).mono ?_
  rintro x w7 ⟨sl2,Y,rfl,hb7,zN,hYs,hYd⟩
  have Z4:=Lib.hid (HR.out.an3 zN hYs)
  have hYl:Y.length=D.entries.length:=by rw[←Z4.out,List.length_map]
  have Z5:Clear w6 w7 w7 s6:=Clear.start uI
  have uJ:=uI.later hb7
  have aoe:=Lib.hid hYd
  have HYP:=Lib.hid (show ∀x∈Y,bW x.2=true∧bK w x.1 x.2 from fun x hx=>⟨HR.out.good.ok x.2 (List.mem_map.2 ⟨x,zN.mem_iff.1 hx,rfl⟩),HE.out x (zN.mem_iff.1 hx)⟩)
  have hEl:Y.length≤64:=by rw[hYl];exact mi.out.ne
  have Z7:=Lib.hid hYl
  clear hYd zN hYs hYl hb7 uI d0 d1 d2 d3 d4 g1 gl
  dsimp only
  go_wp2_with fail
  go_loopw [3,9,10,11,69] (fun bv _ _ _ iv wr=>∃(k:Nat) (sc:Sl),k≤Y.length∧iv=.int .i64 k∧∃M:List UInt8,Hid (M=N4++(EL.take k).flatten)∧bv=.slice sc.a M.length sc.cap∧dF 5 w wr sc M∧Hid (Clear w6 w7 wr sc)) (fun _ _ _ _ iv _=>Y.length-(intOf iv).toNat)
  case atStart=>exact⟨0,s6,Nat.zero_le _,rfl,N4,by simp[Hid],rfl,uJ,Z5⟩
  case round=>
   clear uJ Z5
   obtain⟨k2,sd,hk2,rfl,M4,zL,rfl,hR,hC⟩:=hrel
   have BK:=Lib.hid (show M4.length≤30100000 by have h1:=Ja.out;have h2:=Pz.out;have h3:=zC EL k2;rw[zL.out,List.length_append];omega)
   by_cases hlt:k2<Y.length
   ·obtain⟨pb,po,cs,ha,hrow,x,hx,rfl⟩:=(hC.out.dep aoe.out).2 k2 hlt
    obtain rfl:Y[k2]=x:=by rw[List.getElem?_eq_getElem hlt]at hx;exact Option.some.inj hx
    have hb:pb<wr.heap.size:=gm hrow
    have hki:(k2:Int)<(Y.length:Int):=by omega
    obtain⟨hq,hq2⟩:=HYP.out _ (List.getElem_mem hlt)
    have Z8:k2<D.entries.length:=by rw[←Z7.out];exact hlt
    have EU:D.entries[k2]=Y[k2].2:=by
     have h1:(Y.map (·.2))[k2]'(by simpa using hlt)=D.entries[k2]:=by congr 1;all_goals first|exact Z4.out|skip
     rw[←h1,List.getElem_map]
    obtain⟨en,hen⟩:∃l,l=pJ Y[k2].2:=⟨_,rfl⟩
    have hel:en.length≤416085:=by rw[hen];exact OC (OE hq hq2.attrs.1)
    obtain⟨S1,hS1⟩:∃S1,S1=ByteArray.mk en.toArray:=⟨_,rfl⟩
    have PO:S1.size=en.length:=by rw[hS1];simp[ByteArray.size]
    have Z9:S1.data.toList=en:=by rw[hS1]
    have HK:=Lib.hid (show(EL.take (k2+1)).flatten=(EL.take k2).flatten++(bM S1.size 4++S1.data.toList) by
     rw[xM (by rw[zK.out];exact Z8)]
     congr 1
     have:EL[k2]'(by rw[zK.out];exact Z8)=uH (pJ D.entries[k2]):=by simp[EO.out,qC]
     rw[this,EU,←hen,Z9,PO]
     rfl)
    have hpt:=fun v (hv:Below wr.heap.size wr v)=>anO Y[k2].1 Y[k2].2 v (hq2.later (ag hR.b hv)) hq
    rw[←hen]at hpt
    have PM:=Lib.hid hpt
    have jy:=Lib.hid hS1
    have hsz:S1.size≤416085:=by rw[PO];exact hel
    have hrow2:row? wr pb (po+k2*17) 17=some (ae Y[k2].1 Y[k2].2):=hrow
    generalize Y[k2].1=r at *
    generalize Y[k2].2=d at *
    clear hen hx hq hq2 hpt hel hS1 PO Z9 EU hrow
    have jH:Below wr.heap.size wr (wr.alloc (.cells (ae r d) 47)):=aj (Below.refl _ _) _
    have hA0:=World.alloc_heap_new wr (.cells (ae r d) 47)
    obtain⟨ac,af,ar,al⟩:=aB hA0
    go_wp2_with fail
    refine(PM.out _ jH).mono ?_
    rintro x V1 ⟨s8,rfl,hb1,hB8⟩
    have hB1:=ag jH hb1
    have k1:=rW s8.a s8.cap en V1 hB8
    rw[←jy.out]at k1
    have A5:=Lib.hid (OJ w V1 sd M4 S1 4 (hR.later hB1) (by decide) (by have:=BK.out;omega) (by omega))
    have EX:=Lib.hid (hC.out.later hB1)
    clear ac af ar al hA0 jH hb1 hrow2 hR hC hB8
    dsimp only
    go_wp2_with fail
    refine A5.out.mono ?_
    rintro x V2 ⟨s5,rfl,vZ,hS5,EY⟩
    have PN:=Lib.hid (EX.out.app hS5 EY)
    obtain⟨M2,hM2⟩:∃N,N=M4++(bM S1.size 4++S1.data.toList):=⟨_,rfl⟩
    rw[←hM2]at vZ
    rw[←hM2]
    have pg:=Lib.hid (show M2=N4++(EL.take (k2+1)).flatten by rw[hM2,zL.out,HK.out,List.append_assoc])
    clear hM2 hS5 EY A5 EX k1
    dsimp only
    go_wp2_with fail
    go_roundw
    case rel=>
     exact⟨k2+1,s5,by omega,by go_num,M2,pg.out,rfl,vZ,PN.out⟩
    case measure=>simp[intOf];omega
   have HFin:=Lib.hid (show M4=pR D by rw[zL.out,List.take_of_length_le (by rw[zK.out,←Z7.out];omega),I9.out,Py.out,EK.out,EO.out,←HH.out,←HDE.out];rfl)
   go_wp2_with fail
   go_ret
   rw[←HFin.out]
   exact hR.Eu (by have:=BK.out;unfold lim;omega)
theorem aac{S:Nat→Prop}{b n e p N:Nat}{re:ByteArray}{es ps:Sl}{D:Db}{X:List EE}{w:World}(h:iR S b n e p re es ps D X N w)(hN:N≤60)(hsz:re.size≤1000):BJ D:=by
 obtain⟨NL,E,P,-,hR⟩:=h.ex
 refine⟨by rw[h.aG];exact hsz,h.d0,hR.dL.ok,fun d hd=>?_,by have:=h.n2;omega,by rw[hR.eq,List.length_map];have:=h.n1;omega⟩
 rw[hR.eq]at hd
 obtain⟨x,hx,rfl⟩:=List.mem_map.1 hd
 exact OE (hR.xB.ok _ (List.mem_map.2 ⟨x,hx,rfl⟩)) ((h.ref.dG.out.each x hx).attrs.1)
theorem aad{S:Nat→Prop}{b n e p N:Nat}{re:ByteArray}{es ps:Sl}{D:Db}{X:List EE}{w:World}(h:iR S b n e p re es ps D X N w)(hN:N≤60)(hx:X.length≤12)(hp:D.au.length≤12)(ht:wz Tryz.prog w)(hre:¬re=⟨#[]⟩:=by exact vI)(hsz:re.size≤1000:=by decide) :
  Calls Tryz.prog 21 #[.pointer (some ⟨b,0,none⟩)] w (bI w (pR D)):=by
 obtain⟨NL,E,P,hP,hR⟩:=h.ex
 have hE:E.length=X.length:=by have:=hR.perm.length_eq;simpa using this
 exact ZX b n e p re NL E P D X w hP.db hre h.aG hR h.sort (fun x hx=>(hP.keep x hx).out) (aac h hN hsz) (by omega) (by have:=hR.dL.perm.length_eq;omega) (by have:=h.d1;omega) ht
theorem aog{S:Nat→Prop}{b n e p N:Nat}{re:ByteArray}{es ps:Sl}{D:Db}{X:List EE}{w:World}(h:iR S b n e p re es ps D X N w)(hN:N≤60)(hsz:re.size≤1000:=by decide):Calls Tryz.prog 18 #[.agg (ak es ps D)] w (bI w (pR D)):=by
 have hok:=aac h hN hsz
 obtain⟨NL,E,P,hP,hR⟩:=h.ex
 refine ana es ps D w ?_ h.ref.dL.out hok
 rw[hR.eq]
 exact h.ref.dG.out.dG
end Go.Proofs.YtfieenjdcpjmgaaGreatDoor
namespace Go.WW
open Go.RowKit
section
variable {P:Program} {ops:Array Oper} {S:World→Prop} {st:Oper→Bool} {Q:Act→World→Prop}
theorem Jg{Q':Act→World→Prop}(hQ:∀a w,S w→Q a w→Q' a w):∀(M:List Oper) (a:Act) (w:World),S w→aH P ops st S Q M a w→aH P ops st S Q' M a w
 | [],a,w,hS,h=>hQ a w hS h
 |o::M,a,w,hS,h=>by
  rw[bJ]at *
  split
  ·rename_i hw
   rw[if_pos hw]at h
   by_cases hs:st o=true
   ·rw[if_pos hs]at h ⊢
    obtain⟨v,hv,hh⟩:=h
    exact⟨v,hv,Jg hQ M _ _ hS hh⟩
   ·rw[if_neg hs]at h ⊢
    exact Oper.wp_mono (fun a' w' hh=>⟨hh.1,Jg hQ M _ _ hh.1 hh.2⟩) h
  ·rename_i hw
   rw[if_neg hw]at h
   exact Jg hQ M _ _ hS h
structure ars(st:Oper→Bool)(ops:Array Oper)(m:Array (List Nat))(x c:Nat):Prop where
 jl:Region.noSelect ops=true
 back:∀j oj,ops[j]?=some oj→∀e∈oj.after,Region.binds .any e=true→e.on<j
 pred:∀j oj,ops[j]?=some oj→∀i∈m.getD j [],∃e∈oj.after,Region.binds .any e=true∧(e.on=i∨i∈m.getD e.on [])
 pair:∀j oj,ops[j]?=some oj→∀i,i<j→∀oi,ops[i]?=some oi→(∃e∈oj.after,Region.binds .any e=true∧e.on=i)∨(oi.apart ops oj=true∧(st oi=true∨st oj=true∨i∈m.getD j []∨(i=c∧j=x)))
 past:∀i oi oc,ops[i]?=some oi→ops[c]?=some oc→c<i→i<x→oi.apart ops oc=true∧st oi=true
 look:∀i oi,ops[i]?=some oi→c<i→i≠x→st oi=true∨c∈m.getD i []
 lt:c<x
def ahd(c:Nat)(L:List Nat):List Nat:=L.filter fun k=>decide (k<c)
def bhd(c:Nat)(L:List Nat):List Nat:=L.filter fun k=>decide (c≤k)
def aoi(x c:Nat)(L:List Nat):List Nat:=L.filter fun k=>decide (c<k)&&decide (k≤x)
def aoj(x:Nat)(L:List Nat):List Nat:=L.filter fun k=>decide (x<k)
def aru(P:Program)(ops:Array Oper)(st:Oper→Bool)(S:World→Prop)(Q:Act→World→Prop)(x c:Nat)(L:List Nat):Act→World→Prop:=fun a w=>
 aH P ops st S Q ((bhd c L).filterMap (ops[·]?)) a w∧(x∈L→c∈L→aH P ops st S Q ((aoi x c L++c::aoj x L).filterMap (ops[·]?)) a w)
def arv(st:Oper→Bool)(ops:Array Oper)(x c:Nat):Bool:=
 let m:=nG st ops
 Region.noSelect ops&&decide (c<x)&&(List.range ops.size).all fun j=>match ops[j]? with
  |none=>true
  |some oj=>
   oj.after.toList.all (fun e=>!Region.binds .any e || decide (e.on<j))&&
   (m.getD j []).all (fun i=>oj.after.toList.any fun e=>Region.binds .any e&&(e.on == i || (m.getD e.on []).contains i))&&
   ((List.range j).all fun i=>match ops[i]? with
    |none=>true
    |some oi=>oj.after.toList.any (fun e=>Region.binds .any e&&e.on == i) || (oi.apart ops oj&&(st oi || st oj || (m.getD j []).contains i || (i == c&&j == x))))&&
   (!(decide (c<j)) || j == x || st oj || (m.getD j []).contains c)&&
   (match ops[c]? with
    |none=>true
    |some oc=>!(decide (c<j)&&decide (j<x)) || (oj.apart ops oc&&st oj))
end
end Go.WW
namespace Go.WW
open Go.RowKit
section
variable {P:Program} {ops:Array Oper} {S:World→Prop} {st:Oper→Bool} {Q:Act→World→Prop}
structure arw(st:Oper→Bool)(ops:Array Oper)(m:Array (List Nat))(x:Nat)(cs:List Nat):Prop where
 jl:Region.noSelect ops=true
 back:∀j oj,ops[j]?=some oj→∀e∈oj.after,Region.binds .any e=true→e.on<j
 pred:∀j oj,ops[j]?=some oj→∀i∈m.getD j [],∃e∈oj.after,Region.binds .any e=true∧(e.on=i∨i∈m.getD e.on [])
 pair:∀j oj,ops[j]?=some oj→∀i,i<j→∀oi,ops[i]?=some oi→(∃e∈oj.after,Region.binds .any e=true∧e.on=i)∨(oi.apart ops oj=true∧(st oi=true∨st oj=true∨i∈m.getD j []∨(i∈cs∧j=x)))
 past:∀i oi ox,ops[i]?=some oi→ops[x]?=some ox→i<x→(∃c∈cs,c≤i)→i∉cs→ox.apart ops oi=true∧st oi=true
 look:∀i oi,ops[i]?=some oi→i≠x→i∉cs→st oi=true∨x∈m.getD i []
 chain:∀c∈cs,∀c'∈cs,c<c'→c∈m.getD c' []
 lt:∀c∈cs,c<x
 sorted:cs.Pairwise (· < ·)
def upto(c:Nat)(L:List Nat):List Nat:=L.filter fun k=>decide (k≤c)
def past(c:Nat)(L:List Nat):List Nat:=L.filter fun k=>decide (c<k)
def rm(i:Nat)(L:List Nat):List Nat:=L.filter fun k=>decide (k≠i)
def Fl(P:Program)(ops:Array Oper)(st:Oper→Bool)(S:World→Prop)(Q:Act→World→Prop)(x:Nat):List Nat→List Nat→Act→World→Prop
 | [],L,a,w=>aH P ops st S Q (L.filterMap (ops[·]?)) a w
 |c::cs,L,a,w=>aH P ops st S Q ((mv x c L).filterMap (ops[·]?)) a w∧aH P ops st S (fun a' w'=>Fl P ops st S Q x cs (past c L) a' w') ((upto c L).filterMap (ops[·]?)) a w
def arx(P:Program)(ops:Array Oper)(st:Oper→Bool)(S:World→Prop)(Q:Act→World→Prop)(x:Nat)(cs L:List Nat)(a:Act)(w:World):Prop:=
 (x∈L→Fl P ops st S Q x (cs.filter fun c=>decide (c∈L)) L a w)∧(x∉L→aH P ops st S Q (L.filterMap (ops[·]?)) a w)
def ary(st:Oper→Bool)(ops:Array Oper)(x:Nat)(cs:List Nat):Bool:=
 let m:=nG st ops
 Region.noSelect ops&&cs.all (fun c=>decide (c<x)&&cs.all fun c'=>!decide (c<c') || (m.getD c' []).contains c)&&(List.range ops.size).all fun j=>match ops[j]? with
  |none=>true
  |some oj=>
   oj.after.toList.all (fun e=>!Region.binds .any e || decide (e.on<j))&&
   (m.getD j []).all (fun i=>oj.after.toList.any fun e=>Region.binds .any e&&(e.on == i || (m.getD e.on []).contains i))&&
   ((List.range j).all fun i=>match ops[i]? with
    |none=>true
    |some oi=>oj.after.toList.any (fun e=>Region.binds .any e&&e.on == i) || (oi.apart ops oj&&(st oi || st oj || (m.getD j []).contains i || (cs.contains i&&j == x))))&&
   (j == x || cs.contains j || st oj || (m.getD j []).contains x)&&
   (match ops[x]? with
    |none=>true
    |some ox=>!(decide (j<x)&&cs.any (fun c=>decide (c≤j))&&!cs.contains j) || (ox.apart ops oj&&st oj))
end
end Go.WW
