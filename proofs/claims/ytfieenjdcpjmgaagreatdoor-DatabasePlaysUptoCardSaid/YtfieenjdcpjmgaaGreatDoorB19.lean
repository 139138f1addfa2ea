/- A part of the proof. -/
import Derived.Test.YtfieenjdcpjmgaaGreatDoorB18
import Derived.Test.YtfieenjdcpjmgaaGreatDoorB15
import Derived.Test.YtfieenjdcpjmgaaGreatDoorB11
import Derived.Test.YtfieenjdcpjmgaaGreatDoorB05
import Derived.Test.YtfieenjdcpjmgaaGreatDoorB12
import Derived.Test.YtfieenjdcpjmgaaGreatDoorB10
set_option maxRecDepth 100000
set_option maxHeartbeats 2000000
namespace Go.WW
open Go.RowKit
theorem Wp:12≤lim:=by simp[lim]
theorem yX{S:Nat→Prop}{w a b:World}(h:Below w.heap.size w a)(k:But S a b)(hS:∀j,S j→w.heap.size≤j):Below w.heap.size w b:=
 (((But.of_below (S:=fun _=>False) h)).past k hS).below (Nat.le_refl _) (fun _ hf=>hf.elim)
theorem gK.block{w x:World}{g:Nat}{Y:List EE}(h:gK w (some ⟨g,0,none⟩) Y)(e:x.heap[g]?=w.heap[g]?):gK x (some ⟨g,0,none⟩) Y:=by
 refine⟨h.1,fun i hi=>?_⟩
 obtain⟨b,o,cs,ha,hr,hy⟩:=h.2 i hi
 cases ha
 exact⟨g,0,cs,rfl,(gZ e _ _).trans hr,hy⟩
theorem Own.open{w:World}{base:Nat}{e:TypeId}{s:Sl}{rows:List (Array Value)}{g:Nat}(h:Own w base e 17 s rows)(hg:s.a=some ⟨g,0,none⟩):Open w g (rows.length*17):=by
 rcases h.own.2 with⟨hv,_⟩|⟨g',cap,cur,hv,_,hh,hle,_,hsz,_⟩
 ·rw[hg]at hv;cases hv
 ·have ha:s.a=some ⟨g',0,none⟩:=by injection hv
  rw[hg]at ha;cases ha
  exact⟨cur,e,hh,by rw[hsz];exact Nat.mul_le_mul_right _ hle⟩
abbrev lM(E:List EE):List (ByteArray×Value):=E.map fun x=>(textOf x.2.name,Value.agg (cu x))
end Go.WW
namespace Go.Proofs.YtfieenjdcpjmgaaGreatDoor
open Go.RowKit Go.WW
def Wq(E:List EE)(w:World)(z:Ending)(w':World):Prop:=∃(s:Sl) (Y:List EE),z=.returned (.slice s.a Y.length s.cap)∧Below w.heap.size w w'∧Y.Perm E∧Sorted fE eY Y∧bH w' (fresh w.heap.size w') (fun x=>gK x s.a Y)
theorem ajd(e:Nat)(E:List EE)(w:World)(hm:MapOf w e (lM E))(hn:E.length≤12)(hD:(E.map eY).Nodup)(hN:∀x∈E,bK w x.1 x.2) :
  Calls Tryz.prog 112 #[.map (some e),.func (.func 113) #[] #[]] w (Wq E w):=by
 obtain⟨w1,hrange,hit,hb1,hs1⟩:=Gt (P:=Tryz.prog) Tryz.underlying85 hm
 have HD:=Lib.hid hD
 have HN:=Lib.hid hN
 have hel:=hm.lt
 have hd0:(lM E).length=E.length:=by simp
 clear hD hN
 go_enter Tryz.func112,Tryz.ntmps112
 go_wp2_with fail
 clear hrange
 go_loopw [5] (fun lv wr=>∃(so:Sl) (T left:List EE),lv=.slice so.a T.length so.cap∧Hid (lH wr w.heap.size e (lM E) (lM left))∧Hid ((T++left).Perm E)∧Go.WW.Own wr w1.heap.size 47 17 so (T.map cu)∧Below w.heap.size w wr∧w1.heap.size≤wr.heap.size∧(T=[]→so=⟨none,0⟩)) (fun lv _=>13-(match lv with | .slice _ k _=>k|_=>0))
 case atStart=>exact⟨⟨none,0⟩,[],E,rfl,hit,List.Perm.refl _,Go.WW.Own.nil _ _ _ _,hb1,Nat.le_refl _,fun _=>rfl⟩
 case round=>
  obtain⟨so,T,left,rfl,hI,hp,hO,hbr,oV,hnil⟩:=hrel
  have hlen:T.length+left.length=E.length:=by have:=hp.out.length_eq;simpa using this
  rcases Gu (P:=Tryz.prog) 0 hI.out with⟨hl0,hrun⟩|⟨l1,x,l2,w2,hl,hrun,hent,hI2,hb2,hs2⟩
  ·obtain rfl:left=[]:=by cases left<;>simp_all
   have xA:T.Perm E:=by simpa using hp.out
   rcases Nat.eq_zero_or_pos T.length with hT0|hT0
   ·obtain rfl:T=[]:=List.eq_nil_of_length_eq_zero hT0
    obtain rfl:=hnil rfl
    go_wp2_with fail
    refine(ajc wr).mono ?_
    rintro z w' ⟨rfl,rfl⟩
    dsimp only
    go_wp2_with fail
    go_ret
    exact⟨⟨none,0⟩,[],rfl,hbr,xA,List.Pairwise.nil,fun x _=>⟨by simp[lim],fun i hi=>by simp at hi⟩⟩
   ·obtain⟨g,hga,hgb,hg0⟩:=hO.row 0 (by simpa using hT0)
    have hge:=hO.base hgb
    obtain⟨sa,sc⟩:=so
    obtain rfl:sa=some ⟨g,0,none⟩:=hga
    have DN:kX g T T wr wr:=⟨List.Perm.refl _,But.refl _ _,gK.eG hO (by have:=Wp;omega),by simpa using hO.open rfl⟩
    have HS:=Lib.hid (ai9 g sc T wr (by omega) DN ((xA.map eY).nodup_iff.2 HD.out) (fun y hy x hx=>(HN.out x (xA.mem_iff.1 hx)).name.later (yX hbr hy (fun j (hj:j=g)=>by omega))))
    clear DN
    go_wp2_with fail
    refine HS.out.mono ?_
    rintro z w' ⟨rfl,Y,hY,hso⟩
    dsimp only
    go_wp2_with fail
    have hbw:=yX hbr hY.but (fun j (hj:j=g)=>by omega)
    have H9:=hY.perm.length_eq
    have hg':g<w'.heap.size:=by have:=hY.but.size;omega
    go_ret
    exact⟨⟨some ⟨g,0,none⟩,sc⟩,Y,by rw[H9];rfl,hbw,hY.perm.trans xA,hso,fun x hx=>hY.rows.block (hx g ⟨by omega,hg'⟩)⟩
  ·obtain⟨L1,L',hL,e1,e2⟩:=List.map_eq_append_iff.1 hl
   obtain⟨y,L2,rfl,e3,e4⟩:=List.map_eq_cons_iff.1 e2
   subst e3 e1 e4 hL
   have hbw2:Below w.heap.size w w2:=yX hbr hb2 (fun j (hj:j=w.heap.size)=>by omega)
   have hown:Go.WW.Own ((w2.alloc (.cells (ae y.1 y.2) 47)).alloc (.cells (ae y.1 y.2) 47)) w1.heap.size 47 17 so (T.map cu):=hO.kept fun g hg=>by
    have hgb:=hO.base hg
    rw[Below.heap_alloc _ _ _ (by simp;omega),Below.heap_alloc _ _ _ (by omega)]
    exact hb2.block g hgb.2 (show ¬g=w.heap.size by omega)
   have hrun':(Instr.next (.pointer (some ⟨w.heap.size,0,none⟩)) false 0).run Tryz.prog wr=.ok (.tuple #[.bool true,.string (textOf y.2.name),.agg (ae y.1 y.2)]) w2:=hrun
   have DR:(Instr.entry (.pointer (some ⟨w.heap.size,0,none⟩))).run Tryz.prog w2=.ok (.tuple #[.string (textOf y.2.name),.agg (ae y.1 y.2)]) w2:=hent
   have hsrc:cZ ((w2.alloc (.cells (ae y.1 y.2) 47)).alloc (.cells (ae y.1 y.2) 47)) 17 (some ⟨w2.heap.size+1,0,none⟩) [ae y.1 y.2]:=by
    have:=cZ.new (w2.alloc (.cells (ae y.1 y.2) 47)) (ae y.1 y.2) 47 17 (by simp[go_sem]) (by simp[go_sem])
    rwa[World.size_alloc]at this
   have HS2:=Lib.hid hs2
   clear hrun hent hs2
   go_wp2_with (at_builtin;refine gI rfl (.tmp 14) (.tmp 16) _ rfl uX (n:=T.length) (rows:=T.map cu) (news:=[ae y.1 y.2]) rfl (by simp) hown rfl rfl hsrc (by rw[List.length_map];simp;omega) (by have:=HS2.out;simp;omega) ?_;intro s3 w3 hown3 hg3 gJ)
   have hs2:=HS2.out
   have jH:Below w.heap.size w ((w2.alloc (.cells (ae y.1 y.2) 47)).alloc (.cells (ae y.1 y.2) 47)):=aj (aj hbw2 _) _
   have hb3:Below w.heap.size w w3:=jH.grown hg3 jH.size (fun g hg=>by have:=(hown.base hg).1;omega)
   have hs3:=hg3.size
   have hkp:∀k,k<w1.heap.size→w3.heap[k]?=w2.heap[k]?:=fun k hk=>by
    rw[hg3.block k (by simp;omega) (fun e=>by have:=(hown.base e.symm).1;omega),Below.heap_alloc _ _ _ (by simp;omega),Below.heap_alloc _ _ _ (by omega)]
   have HI3:=Lib.hid (hI2.at (hkp w.heap.size (by omega)) (hkp e (by omega)))
   have DT:=Lib.hid (show((T++[y])++(L1++L2)).Perm E from List.Perm.trans (by simpa using List.perm_middle.symm.append_left T) hp.out)
   have MQ:Go.WW.Own w3 w1.heap.size 47 17 s3 ((T++[y]).map cu):=by rw[List.map_append];exact hown3
   have hsz3:w1.heap.size≤w3.heap.size:=by simp at hs3;omega
   have hTl:T.length+1≤12:=by simp at hlen;omega
   clear hown hown3 hg3 gJ hI2 hb2 hbw2 hkp jH hs3 HS2 hs2
   go_wp2_with fail
   go_roundw
   case rel=>exact⟨s3,T++[y],L1++L2,by simp,by simpa[Hid]using HI3.out,DT.out,MQ,hb3,hsz3,by simp⟩
   case measure=>simp;omega
end Go.Proofs.YtfieenjdcpjmgaaGreatDoor
namespace Go.WW
open Go.RowKit
def aqu(S:Nat→Prop)(w:World)(_:Nat)(x:EE×Nat)(v:Array Value)(_ _:World):Prop:=v=#[.int .i64 x.2,.agg (cu x.1)]∧∀y,But (Off S w) w y→bK y x.1.1 x.1.2
structure MR(y:World)(a:Option Addr)(Y:List EE):Prop where
 rows:gK y a Y
 each:∀x∈Y,bK y x.1 x.2
end Go.WW
namespace Go.Proofs.YtfieenjdcpjmgaaGreatDoor
open Go.RowKit Go.WW
theorem aje(b n e p:Nat)(re:ByteArray)(s:Int)(N:List (ByteArray×Value))(E:List EE)(P:List ai)(w:World)(h:bU w b n e p re s N E P)(hn:E.length≤12)(hD:(E.map eY).Nodup)(hN:∀x∈E,bK w x.1 x.2) :
  Calls Tryz.prog 61 #[.pointer (some ⟨b,0,none⟩)] w (Wq E w):=by
 obtain⟨c0,c1,c2,c3,c4,f1,hl⟩:=dO h.box
 have HI:=Lib.hid (ajd e E w h.em hn hD hN)
 clear hD hN
 go_enter Tryz.func61,Tryz.ntmps61
 go_wp2_with fail
 refine HI.out.mono ?_
 rintro z w' ⟨sl,Y,rfl,hY⟩
 dsimp only
 go_wp2_with fail
 go_ret
 exact⟨sl,Y,rfl,hY⟩
attribute [local go_sem] Oper.semAt_some
end Go.Proofs.YtfieenjdcpjmgaaGreatDoor
namespace Go.WW
open Go.RowKit
def VE(_:Nat)(x:EE×Nat)(v:Array Value)(W0 W1:World):Prop:=∃r,v=#[.int .i64 x.2,.agg (ae r x.1.2)]∧bH W1 (fresh W0.heap.size W1) (fun y=>bK y r x.1.2)
end Go.WW
namespace Go.Proofs.YtfieenjdcpjmgaaGreatDoor
open Go.RowKit Go.WW
attribute [local go_sem] Oper.semAt_some
end Go.Proofs.YtfieenjdcpjmgaaGreatDoor
namespace Go.WW
open Go.RowKit
def Ws:ai:=⟨⟨#[110,111,110,101]⟩,1,1,0,0,0,0,0,0,0⟩
def aqv(P:List ai)(d:Entry):ai:=if d.aO=⟨#[]⟩then Ws else(P.find? (fun x=>decide (x.name=d.aO))).getD jX
end Go.WW
namespace Go.Proofs.YtfieenjdcpjmgaaGreatDoor
open Go.RowKit Go.WW
theorem ajf(w:World):(iq 50 #[(0,.string ⟨#[110,111,110,101]⟩),(1,.int .i64 1),(2,.int .i64 1)]).run Tryz.prog w=.ok (.value (.agg (aC Ws))) w:=by kernel_rfl
attribute [go_sem] ajf
end Go.Proofs.YtfieenjdcpjmgaaGreatDoor
namespace Go.WW
def mY(P:List ai)(d:Entry):Prop:=d.aO=⟨#[]⟩∨P.any (fun x=>decide (x.name=d.aO))=true
end Go.WW
namespace Go.Proofs.YtfieenjdcpjmgaaGreatDoor
open Go.RowKit Go.WW
end Go.Proofs.YtfieenjdcpjmgaaGreatDoor
namespace Go.WW
open Go.RowKit
theorem Wu{α β:Type}(f:α→β)(l:List α)(i:Nat):(l.eraseIdx i).map f=(l.map f).eraseIdx i:=by
 simp only[List.eraseIdx_eq_take_drop_succ,List.map_append,List.map_take,List.map_drop]
def jL(S:Nat→Prop)(w:World)(Φ:World→Prop):Prop:=∀y,But S w y→Φ y
theorem jL.on{S:Nat→Prop}{w w':World}{Φ:World→Prop}(h:jL S w Φ)(hb:But S w w'):jL S w' Φ:=fun y hy=>h y (hb.trans hy)
theorem jL.later{S:Nat→Prop}{w w':World}{Φ:World→Prop}(h:jL S w Φ)(hb:Below w.heap.size w w'):jL S w' Φ:=h.on (But.of_below hb)
theorem jL.out{S:Nat→Prop}{w:World}{Φ:World→Prop}(h:jL S w Φ):Φ w:=h w (But.refl _ _)
theorem jL.DU{S:Nat→Prop}{w:World}{base:Nat}{Φ:World→Prop}(h:bH w (fresh base w) Φ)(hS:∀k,S k→k<base):jL S w Φ:=
 fun y hy=>h y fun k hk=>hy.block k hk.2 fun hs=>by have:=hS k hs;have:=hk.1;omega
structure iK(S:Nat→Prop)(es ps:Sl)(D:Db)(X:List EE)(w:World):Prop where
 dG:jL S w (fun y=>MR y es.a X)
 dL:jL S w (fun y=>je y ps.a D.au)
 cap:D.au.length≤ps.cap
theorem iK.on{S:Nat→Prop}{es ps:Sl}{D:Db}{X:List EE}{w w':World}(h:iK S es ps D X w)(hb:But S w w'):iK S es ps D X w':=⟨h.dG.on hb,h.dL.on hb,h.cap⟩
theorem iK.later{S:Nat→Prop}{es ps:Sl}{D:Db}{X:List EE}{w w':World}(h:iK S es ps D X w)(hb:Below w.heap.size w w'):iK S es ps D X w':=h.on (But.of_below hb)
inductive mZ(D:Db)(q:ai):Int→Db→Prop where
 |bad (hv:dP q=false):mZ D q 2 D
 |new (hv:dP q=true) (hn:D.au.any (fun x=>decide (x.name=q.name))=false):mZ D q 0 {D with au:=fF q (-1) 0 false D.au,ay:=D.ay+1}
 |old (hv:dP q=true) (i:Nat) (hi:i<D.au.length) (hn:D.au[i].name=q.name):mZ D q 0 {D with au:=fF q (i:Int) 0 false D.au,ay:=D.ay+1}
inductive kS(D:Db)(X:List EE)(r:aN)(d:Entry):Int→Db→List EE→Prop where
 |bad (hv:bW d=false∨¬d.name.aG=D.aG):kS D X r d 2 D X
 |uk (hv:bW d=true) (hre:d.name.aG=D.aG) (hpe:¬d.aO=⟨#[]⟩) (hn:D.au.any (fun x=>decide (x.name=d.aO))=false):kS D X r d 9 D X
 |busy (hv:bW d=true) (hre:d.name.aG=D.aG) (hp:mY D.au d) (hx:∃x∈X.map (·.2),jg x d=true∧textOf x.name≠textOf d.name):kS D X r d 11 D X
 |put (hv:bW d=true) (hre:d.name.aG=D.aG) (hp:mY D.au d) (hx:∀x∈X.map (·.2),jg x d=true→textOf x.name=textOf d.name) (X1:List EE) (hs:X1.Sublist X) (h1:X1.map (·.2)=kz (X.map (·.2)) (textOf d.name)) :
   kS D X r d 0 {D with entries:=(kP fE eY (r,d) X1).map (·.2),ay:=D.ay+1} (kP fE eY (r,d) X1)
structure fA(D:Db)(X:List EE)(NL:List (ByteArray×ByteArray))(E:List EE)(P:List ai):Prop where
 eq:D.entries=X.map (·.2)
 names:vG NL (E.map (·.2))
 good:gY (E.map (·.2))
 perm:(E.map (·.2)).Perm (X.map (·.2))
 sorted:Sorted fE eY X
 dL:mD P D.au
 has:∀x∈X,mY D.au x.2
theorem fA.xB{D:Db}{X:List EE}{NL:List (ByteArray×ByteArray)}{E:List EE}{P:List ai}(h:fA D X NL E P):gY (X.map (·.2)):=h.good.perm h.perm.symm
theorem mY.mono{L L':List ai}{d:Entry}(h:mY L d)(hL:∀x∈L,∃y∈L',y.name=x.name):mY L' d:=by
 rcases h with h|h
 ·exact .inl h
 ·obtain⟨x,hx,e⟩:=List.any_eq_true.1 h
  obtain⟨y,hy,e'⟩:=hL x hx
  exact .inr (List.any_eq_true.2 ⟨y,hy,by simpa[e']using e⟩)
theorem ajg{D D':Db}{q:ai}{no:Int}(h:mZ D q no D')(hn:(D.au.map (·.name)).Nodup):∀x∈D.au,∃y∈D'.au,y.name=x.name:=by
 intro x hx
 cases h with
 |bad hv=>exact⟨x,hx,rfl⟩
 |new hv hn=>
  have hp:=yV q (-1) D.au 0 false
  rw[MN]at hp
  exact⟨x,hp.mem_iff.2 (by simp[hx]),rfl⟩
 |old hv i hi hnm=>
  have hp:=yV q (i:Int) D.au 0 false
  have hr:=MO D.au 0 i
  rw[Nat.zero_add]at hr
  rw[hr,Hy (·.name) hn hi,hnm]at hp
  by_cases e:x.name=q.name
  ·exact⟨q,hp.mem_iff.2 (by simp),e.symm⟩
  ·exact⟨x,hp.mem_iff.2 (by simp[hx,e]),rfl⟩
theorem Wv{D D':Db}{q:ai}{no:Int}(h:mZ D q no D'):D'.entries=D.entries∧D'.aG=D.aG∧D.ay≤D'.ay∧D'.ay≤D.ay+1∧D'.au.length≤D.au.length+1:=by
 cases h with
 |bad hv=>exact⟨rfl,rfl,by omega,by omega,by omega⟩
 |new hv hn=>exact⟨rfl,rfl,by simp;omega,by simp,Hl _ _ _ _ _⟩
 |old hv i hi hnm=>exact⟨rfl,rfl,by simp;omega,by simp,Hl _ _ _ _ _⟩
theorem ajh{D D':Db}{X X':List EE}{r:aN}{d:Entry}{no:Int}(h:kS D X r d no D' X'):D'.au=D.au∧D'.aG=D.aG∧D.ay≤D'.ay∧D'.ay≤D.ay+1∧X'.length≤X.length+1∧(D.entries=X.map (·.2)→D'.entries=X'.map (·.2))∧(∀x∈X',x=(r,d)∨x∈X):=by
 cases h with
 |bad hv=>exact⟨rfl,rfl,by omega,by omega,by omega,id,fun x hx=>.inr hx⟩
 |uk hv hre hpe hn=>exact⟨rfl,rfl,by omega,by omega,by omega,id,fun x hx=>.inr hx⟩
 |busy hv hre hp hx=>exact⟨rfl,rfl,by omega,by omega,by omega,id,fun x hx=>.inr hx⟩
 |put hv hre hp hx X1 hs h1=>
  refine⟨rfl,rfl,by simp;omega,by simp,?_,fun _=>rfl,fun x hx=>?_⟩
  ·rw[agJ];have:=hs.length_le;omega
  ·rcases List.mem_cons.1 ((wV eY (r,d) X1).mem_iff.1 hx)with e|hx
   ·exact .inl e
   ·exact .inr (hs.mem hx)
theorem fA.put{D:Db}{X:List EE}{NL:List (ByteArray×ByteArray)}{E:List EE}{P:List ai}{r r':aN}{d:Entry}(h:fA D X NL E P)(hv:bW d=true)(hp:mY D.au d)(hx:∀x∈X.map (·.2),jg x d=true→textOf x.name=textOf d.name)(X1:List EE)(hs:X1.Sublist X)(h1:X1.map (·.2)=kz (X.map (·.2)) (textOf d.name))
  {N1:List (ByteArray×Value)} {E1:List EE} (hR:tY (dU NL) E (textOf d.name) N1 E1) :
  ug NL (textOf d.name) (iQ d)∧∃kZ,rH N1 (textOf d.name) (iQ d)=dU kZ∧fA {D with entries:=(kP fE eY (r,d) X1).map (·.2),ay:=D.ay+1} (kP fE eY (r,d) X1) kZ (E1++[(r',d)]) P:=by
 have hf:ug NL (textOf d.name) (iQ d):=MM.2 fun hb=>by
  obtain⟨x,kY,hxb,qo⟩:=(We h.names h.good hv).1 hb
  exact qo (hx x (h.perm.mem_iff.1 kY) hxb)
 have hE1:∃yU,N1=dU yU∧E1.map (·.2)=kz (E.map (·.2)) (textOf d.name)∧vG yU (E1.map (·.2)):=by
  rcases hR with⟨x,kY,qo,rfl,rfl⟩|⟨hno,rfl,rfl⟩
  ·have e1:(ql E (textOf d.name)).map (·.2)=kz (E.map (·.2)) (textOf d.name):=by
    unfold ql kz
    rw[List.filter_map];rfl
   refine⟨xy NL (iQ x.2),ML _ _,e1,?_⟩
   rw[e1,←qo]
   exact VY h.names h.good (List.mem_map.2 ⟨x,kY,rfl⟩)
  ·refine⟨NL,rfl,(VX fun x hx'=>?_).symm,h.names⟩
   obtain⟨y,hy,rfl⟩:=List.mem_map.1 hx'
   exact hno y hy
 obtain⟨yU,rfl,e1,hn1⟩:=hE1
 have hm:∀x∈E1.map (·.2),x∈E.map (·.2)∧textOf x.name≠textOf d.name:=fun x hx'=>by rw[e1]at hx';exact Hu.1 hx'
 refine⟨hf,yT yU (textOf d.name) (iQ d),VT _ _ _,rfl,?_,?_,?_,?_,h.dL,fun x hx'=>?_⟩
 ·rw[List.map_append]
  exact ai4 h.names hn1 hm hf
 ·rw[List.map_append]
  refine ai5 h.names h.good hv hm ?_ hf
  rw[e1]
  exact(List.filter_sublist.map _).nodup h.good.nodup
 ·rw[List.map_append,e1]
  refine((h.perm.filter _).append_right [d]).trans ?_
  show(kz (X.map (·.2)) (textOf d.name)++[d]).Perm _
  rw[←h1]
  have hi:=(wV (c:=fE) eY (r,d) X1).map (fun x:EE=>x.2)
  rw[List.map_cons]at hi
  exact(List.perm_append_singleton _ _).trans hi.symm
 ·refine TM eY KA (r,d) X1 (h.sorted.sublist hs) fun x hx' e=>?_
  have:x.2∈kz (X.map (·.2)) (textOf d.name):=by rw[←h1];exact List.mem_map.2 ⟨x,hx',rfl⟩
  exact(Hu.1 this).2 (congrArg textOf e)
 ·rcases List.mem_cons.1 ((wV eY (r,d) X1).mem_iff.1 hx')with rfl|hx'
  ·exact hp
  ·exact h.has x (hs.mem hx')
end Go.WW
namespace Go.Proofs.YtfieenjdcpjmgaaGreatDoor
open Go.RowKit Go.WW
structure jM(S:Nat→Prop)(b n e p:Nat)(re:ByteArray)(s:Int)(NL:List (ByteArray×ByteArray))(E:List EE)(P:List ai)(w:World):Prop where
 db:bU w b n e p re s (dU NL) E P
 keep:∀x∈E,mg S w x
 sub:∀k,aZ b n e p k→S k
theorem jM.later{S:Nat→Prop}{b n e p:Nat}{re:ByteArray}{s:Int}{NL:List (ByteArray×ByteArray)}{E:List EE}{P:List ai}{w w':World}(h:jM S b n e p re s NL E P w)(hb:Below w.heap.size w w'):jM S b n e p re s NL E P w':=⟨h.db.later hb,fun x hx=>(h.keep x hx).on (But.of_below hb),h.sub⟩
theorem jM.lt{S:Nat→Prop}{b n e p:Nat}{re:ByteArray}{s:Int}{NL:List (ByteArray×ByteArray)}{E:List EE}{P:List ai}{w:World}(h:jM S b n e p re s NL E P w):∀k,aZ b n e p k→k<w.heap.size:=fun k hk=>Classical.byContradiction fun hn=>pq h.db k (by omega) hk
theorem aji(S:Nat→Prop)(es ps:Sl)(D:Db)(X:List EE)(q:ai)(w:World)(h:iK S es ps D X w)(hS:∀k,S k→k<w.heap.size)(hs:q.name.size≤lim)(hn:D.au.length<64)(hs0:0≤D.ay)(hs1:D.ay<1000000) :
  Calls Tryz.prog 39 #[.agg (ak es ps D),.agg (aC q)] w fun z w'=>∃(no:Int) (ps':Sl) (D':Db),z=.returned (.tuple #[.agg (ak es ps' D'),.int .i64 no])∧Below w.heap.size w w'∧iK S es ps' D' X w'∧mZ D q no D':=by
 have out:∀(k:Int),mZ D q 0 {D with au:=fF q k 0 false D.au,ay:=D.ay+1}→∀(z:Ending) (w':World),MG es {D with au:=fF q k 0 false D.au,ay:=D.ay+1} 0 w z w'→
   ∃(no:Int) (ps':Sl) (D':Db),z=.returned (.tuple #[.agg (ak es ps' D'),.int .i64 no])∧Below w.heap.size w w'∧iK S es ps' D' X w'∧mZ D q no D':=by
  rintro k hk z w' ⟨s,rfl,hb,hd⟩
  exact⟨0,s,_,rfl,hb,⟨h.dG.later hb,fun y hy=>(jL.DU hd hS y hy).1,hd.out.2⟩,hk⟩
 cases hv:dP q with
 |false=>
  refine(aiN es ps D q w hs hv).mono ?_
  rintro z w' ⟨rfl,hb⟩
  exact⟨2,ps,D,rfl,hb,h.later hb,.bad hv⟩
 |true=>
  have hp:=h.dL.out
  rcases A8 D.au q.name with⟨hi,ha⟩|⟨i,hil,hi,hnm,-⟩
  ·exact(VJ es ps D q w hs hv hp hn hs0 hs1 _ hi).mono (out (-1) (.new hv ha))
  ·exact(VJ es ps D q w hs hv hp hn hs0 hs1 _ hi).mono (out i (.old hv i hil hnm))
theorem ajj(S:Nat→Prop)(es ps:Sl)(D:Db)(X:List EE)(r:aN)(d:Entry)(w:World)(h:iK S es ps D X w)(hS:∀k,S k→k<w.heap.size)(hk:mg S w (r,d))(hD:D.entries=X.map (·.2))(hg:gY (X.map (·.2)))(hn:X.length≤1000)(hs0:0≤D.ay)(hs1:D.ay<1000000) :
  Calls Tryz.prog 34 #[.agg (ak es ps D),.agg (ae r d)] w fun z w'=>∃(no:Int) (es':Sl) (D':Db) (X':List EE),z=.returned (.tuple #[.agg (ak es' ps D'),.int .i64 no])∧Below w.heap.size w w'∧iK S es' ps D' X' w'∧kS D X r d no D' X':=by
 have he:=hk.out
 have hX:=h.dG.out.rows
 have hm:=h.dG.out.each
 have hp:=h.dL.out
 have same:∀(no:Int),kS D X r d no D X→∀(z:Ending) (w':World),(z=.returned (.tuple #[.agg (ak es ps D),.int .i64 no])∧Below w.heap.size w w')→
   ∃(no:Int) (es':Sl) (D':Db) (X':List EE),z=.returned (.tuple #[.agg (ak es' ps D'),.int .i64 no])∧Below w.heap.size w w'∧iK S es' ps D' X' w'∧kS D X r d no D' X':=by
  rintro no hst z w' ⟨rfl,hb⟩
  exact⟨no,es,D,X,rfl,hb,h.later hb,hst⟩
 have out:∀(X':List EE),(∀x∈X',x=(r,d)∨x∈X)→kS D X r d 0 {D with entries:=X'.map (·.2),ay:=D.ay+1} X'→∀(z:Ending) (w':World),Ho ps D X' w z w'→
   ∃(no:Int) (es':Sl) (D':Db) (X':List EE),z=.returned (.tuple #[.agg (ak es' ps D'),.int .i64 no])∧Below w.heap.size w w'∧iK S es' ps D' X' w'∧kS D X r d no D' X':=by
  rintro X' hX' hst z w' ⟨s,rfl,hb,hd⟩
  refine⟨0,s,_,X',rfl,hb,⟨fun y hy=>⟨jL.DU hd hS y hy,fun x hx=>?_⟩,h.dL.later hb,h.cap⟩,hst⟩
  rcases hX' x hx with rfl|hx
  ·exact hk y ((But.of_below hb).trans hy)
  ·exact(h.dG y ((But.of_below hb).trans hy)).each x hx
 cases hv:bW d with
 |false=>exact(aiR es ps D r d w he hv).mono (same 2 (.bad (.inl hv)))
 |true=>
  by_cases hre:d.name.aG=D.aG
  ·by_cases hp0:mY D.au d
   ·have yN:d.aO=⟨#[]⟩∨(je w ps.a D.au∧¬d.aO=⟨#[]⟩∧∃jp:Nat,idxOf (fun z=>decide (z.name=d.aO)) D.au=(jp:Int)):=by
     by_cases hpe:d.aO=⟨#[]⟩
     ·exact .inl hpe
     ·rcases A8 D.au d.aO with⟨-,ha'⟩|⟨jp,hjp,hi,hnm,-⟩
      ·rcases hp0 with h|h
       ·exact .inl h
       ·rw[h]at ha';cases ha'
      ·exact .inr ⟨hp,hpe,jp,hi⟩
    rcases ai7 hg hv with⟨at0,jb,hj,hat,hb,hpre,hna,hx⟩|⟨hat,hnb,hno,hx⟩|⟨i0,hi0,hat,hnb,hen,hx⟩
    ·exact MI es ps D r d w he X hX hm hD hn hv hre yN at0 (by rw[hD];exact hat) hs0 hs1 _ (fun _ _ _ _=>same 11 (.busy hv hre hp0 hx)) (fun h=>absurd (h jb (by simpa using hj) (by simpa using hb)) hna)
    ·refine MI es ps D r d w he X hX hm hD hn hv hre yN (-1) (by rw[hD];exact hat) hs0 hs1 _ (fun j h hb hne=>absurd (hnb j (by simpa using h) (by simpa using hb)) hne) (fun _ X5 h5=>?_)
     obtain rfl:X=X5:=by
      rcases h5 with h|⟨i,-,h,-⟩
      ·exact h.2.symm
      ·omega
     refine out _ (fun x hx'=>?_) (.put hv hre hp0 hx X (List.Sublist.refl _) (VX hno).symm)
     rcases List.mem_cons.1 ((wV eY (r,d) X).mem_iff.1 hx')with e|hx'
     all_goals first|exact .inl e|exact .inr hx'
    ·have hsub:=List.eraseIdx_sublist X i0
     refine MI es ps D r d w he X hX hm hD hn hv hre yN i0 (by rw[hD];exact hat) hs0 hs1 _ (fun j h hb hne=>absurd (hnb j (by simpa using h) (by simpa using hb)) hne) (fun _ X5 h5=>?_)
     obtain rfl:X5=X.eraseIdx i0:=by
      rcases h5 with h|⟨i,-,h1,h2⟩
      ·omega
      ·rw[h2,show i=i0 by omega]
     refine out _ (fun x hx'=>?_) (.put hv hre hp0 hx (X.eraseIdx i0) hsub ?_)
     ·rcases List.mem_cons.1 ((wV eY (r,d) _).mem_iff.1 hx')with e|hx'
      all_goals first|exact .inl e|exact .inr (hsub.mem hx')
     ·have:=Wi hg.nodup hi0
      rw[hen]at this
      rw[←this,Wu]
   ·rcases A8 D.au d.aO with⟨hi,ha⟩|⟨i,hil,hi,hnm,ha'⟩
    ·exact(aiT es ps D r d w he hv hre hp (fun h=>hp0 (.inl h)) hi).mono (same 9 (.uk hv hre (fun h=>hp0 (.inl h)) ha))
    ·exact absurd (.inr ha') hp0
  ·exact(aiS es ps D r d w he hv hre).mono (same 2 (.bad (.inr hre)))
end Go.Proofs.YtfieenjdcpjmgaaGreatDoor
namespace Go.WW
open Go.RowKit
def dQ(p:az):ByteArray:=if bG p=true then textOf p else⟨#[]⟩
theorem MS{p:az}(h:bG p=true):dQ p=textOf p:=if_pos h
theorem Wx{p:az}(h:bG p=false):dQ p=⟨#[]⟩:=if_neg (by rw[h];exact Bool.false_ne_true)
theorem MV(p:az):textOf p≠⟨#[]⟩:=by
 intro h
 have h1:(qZ p).toArray=#[]:=congrArg ByteArray.data h
 have h2:qZ p=[]:=by simpa using h1
 unfold qZ at h2
 simp at h2
theorem DV{x q:az}(hx:bG x=true):textOf x=dQ q↔aY x q=true:=by
 constructor
 ·intro h
  cases hq:bG q with
  |true=>rw[MS hq]at h;exact(JY (tu hx) (tu hq)).1 h
  |false=>rw[Wx hq]at h;exact absurd h (MV x)
 ·intro h
  obtain rfl:=Aq.1 h
  exact(MS hx).symm
end Go.WW
namespace Go.Proofs.YtfieenjdcpjmgaaGreatDoor
open Go.RowKit Go.WW
theorem ajk(s:Sl)(p:az)(w:World)(hp:bn w s p)(hok:bG p=false):Calls Tryz.prog 128 #[.agg (ah s p)] w fun e w'=>e=.returned (.tuple #[.string ⟨#[]⟩,.int .i64 2])∧Below w.heap.size w w':=by
 have hB0:Below w.heap.size w (w.alloc (.cells (ah s p) 40)):=(Below.refl _ w).alloc (Nat.le_refl _) _
 have hpL:=hp.later hB0
 go_enter Tryz.func128,Tryz.ntmps128
 go_wp2_with fail
 refine(Ai _ _ _ hpL).mono ?_
 rintro e w1 ⟨rfl,hb1⟩
 rw[hok]
 obtain⟨hcc,aT,hrr⟩:=bg hb1
 have hsz:w.heap.size<w1.heap.size:=by have:=hb1.size;simp at this;omega
 go_wp2_with fail
 go_ret2
 exact⟨rfl,ag hB0 hb1⟩
theorem kT(s:Sl)(p:az)(w:World)(hp:bn w s p):Calls Tryz.prog 65 #[.agg (ah s p)] w fun e w'=>e=.returned (.string (dQ p))∧Below w.heap.size w w':=by
 cases hok:bG p with
 |true=>rw[MS hok];exact ru s p w hp hok
 |false=>
  rw[Wx hok]
  have hB:Below w.heap.size w (w.alloc (.cells (ah s p) 40)):=(Below.refl _ _).alloc (Nat.le_refl _) _
  go_enter Tryz.func65,Tryz.ntmps65
  go_wp2_with fail
  refine(ajk _ _ _ (hp.later hB) hok).mono ?_
  rintro e w2 ⟨rfl,hb2⟩
  dsimp only
  go_wp2_with fail
  go_ret
  exact⟨rfl,ag hB hb2⟩
end Go.Proofs.YtfieenjdcpjmgaaGreatDoor
namespace Go.WW
open Go.RowKit
theorem Ia(at_:Int):∀(l:List ai) (k:Nat),(mr at_ k l).Sublist l
 | [],_=>List.Sublist.refl _
 |q::l,k=>by
  unfold mr
  split
  ·exact(Ia at_ l (k+1)).cons_cons q
  ·exact(Ia at_ l (k+1)).cons q
theorem Wy(p:ai)(at_:Int):∀(l:List ai) (k:Nat),fF p at_ k true l=mr at_ k l
 | [],_=>rfl
 |q::l,k=>by
  unfold fF mr
  simp only[Bool.not_true,Bool.false_and,Bool.true_or,Bool.false_eq_true,if_false,List.nil_append]
  rw[Wy p at_ l (k+1)]
theorem WA{a b:ByteArray}(h:qm a b=true):a=b∨dD a b<0:=by
 unfold qm at h
 rcases Bool.or_eq_true_iff.1 h with h|h
 ·right;rw[KG h];omega
 ·left;exact toList_inj (by simpa using h)
theorem ajl{a b:ByteArray}(h:qm a b=false):dD b a<0:=by
 unfold qm at h
 obtain⟨h1,h2⟩:=Bool.or_eq_false_iff.1 h
 have hne:¬a=b:=by rintro rfl;simp at h2
 have h3:=KH h1 hne
 have:=oW.tJ a b
 omega
theorem ajm{p:ai}{at_:Int}{l:List ai}{k:Nat}{dn:Bool}{x:ai}(h:x∈fF p at_ k dn l):x=p∨x∈l:=MF p at_ l k dn x h
theorem MW(p:ai)(at_:Int):∀(l:List ai) (k:Nat),Sorted dD (fun q:ai=>q.name) l→(∀i (h:i<l.length),l[i].name=p.name↔at_=((k+i:Nat):Int))→Sorted dD (fun q:ai=>q.name) (fF p at_ k false l)
 | [],k,_,_=>by simp[fF,Sorted]
 |q::l,k,hs,hat=>by
  have hs':=List.pairwise_cons.1 hs
  have h0:=hat 0 (by simp)
  simp only[List.getElem_cons_zero,Nat.add_zero]at h0
  have hrest:∀i (h:i<l.length),l[i].name=p.name↔at_=((k+1+i:Nat):Int):=fun i h=>by
   have:=hat (i+1) (by simp;omega)
   simp only[List.getElem_cons_succ]at this
   rw[show k+1+i=k+(i+1) by omega];exact this
  unfold fF
  cases hle:qm p.name q.name with
  |true=>
   simp only[Bool.not_false,Bool.true_and,if_true,Bool.or_true]
   rw[Wy,List.singleton_append]
   have hsub:((if(k:Int) != at_ then [q]else [])++mr at_ (k+1) l).Sublist (q::l):=by
    have:=Ia at_ (q::l) k
    unfold mr at this
    exact this
   refine List.pairwise_cons.2 ⟨fun x hx=>?_,hs.sublist hsub⟩
   rcases List.mem_append.1 hx with hx|hx
   ·by_cases hk:(k:Int)=at_
    ·simp[hk]at hx
    ·have hx':x=q:=by simpa[hk]using hx
     subst hx'
     rcases WA hle with e|e
     ·exact absurd (h0.1 e.symm).symm hk
     ·exact e
   ·have h1:=hs'.1 x ((Ia at_ l (k+1)).mem hx)
    rcases WA hle with e|e
    ·show dD p.name x.name<0
     rw[e];exact h1
    ·exact oW.trans _ _ _ e h1
  |false=>
   have hlt:=ajl hle
   have hk:¬(k:Int)=at_:=fun e=>by
    have e1:=h0.2 e.symm
    rw[e1,KI]at hlt;omega
   simp only[Bool.not_false,Bool.and_false,Bool.false_eq_true,if_false,List.nil_append,Bool.or_false]
   rw[if_pos (by simpa using hk)]
   refine List.pairwise_cons.2 ⟨fun x hx=>?_,MW p at_ l (k+1) hs'.2 hrest⟩
   rcases ajm hx with rfl|hx
   ·exact hlt
   ·exact hs'.1 x hx
theorem ajn{D D':Db}{q:ai}{no:Int}(h:mZ D q no D')(hn:(D.au.map (·.name)).Nodup)(hs:Sorted dD (fun q:ai=>q.name) D.au):Sorted dD (fun q:ai=>q.name) D'.au:=by
 cases h with
 |bad hv=>exact hs
 |new hv ha=>
  refine MW q (-1) D.au 0 hs fun i hi=>⟨fun e=>?_,fun e=>by omega⟩
  have:=List.any_eq_false.1 ha _ (List.getElem_mem hi)
  simp[e]at this
 |old hv i hi hnm=>
  refine MW q (i:Int) D.au 0 hs fun j hj=>⟨fun e=>?_,fun e=>?_⟩
  ·have:i=j:=Ht hn (i:=i) (j:=j) (by simpa using hi) (by simpa using hj) (by simpa using hnm.trans e.symm)
   omega
  ·obtain rfl:i=j:=by omega
   exact hnm
def DW(P:List ai)(k:ByteArray):List ai:=P.filter fun x=>decide (x.name≠k)
theorem ajo(P:List ai)(k:ByteArray):lG (P.map fun x=>(x.name,Value.agg (aC x))) k=(DW P k).map fun x=>(x.name,Value.agg (aC x)):=by
 unfold lG DW
 rw[List.filter_map]
 rfl
theorem mD.del{P L:List ai}(h:mD P L){i:Nat}(hi:i<L.length):mD (DW P L[i].name) (L.eraseIdx i):=by
 have e:=Hy (fun q:ai=>q.name) h.nodup hi
 refine⟨?_,((List.eraseIdx_sublist L i).map _).nodup h.nodup,fun q hq=>h.ok q ((List.eraseIdx_sublist L i).mem hq)⟩
 rw[e]
 exact h.perm.filter _
inductive rU(D:Db)(X:List EE)(q:az):Int→Db→List EE→Prop where
 |none (hn:∀x∈X,aY x.2.name q=false):rU D X q 9 D X
 |yes (i:Nat) (hi:i<X.length) (hn:aY X[i].2.name q=true):rU D X q 0 {D with entries:=(X.eraseIdx i).map (·.2),ay:=D.ay+1} (X.eraseIdx i)
theorem WB{E:List Entry}(h:gY E){x:Entry}(hx:x∈E):bG x.name=true:=rQ (h.ok x hx) _ (List.mem_cons_self ..)
theorem fA.WC{D:Db}{X:List EE}{NL:List (ByteArray×ByteArray)}{E:List EE}{P:List ai}(h:fA D X NL E P){q:az}(hn:∀x∈X,aY x.2.name q=false):∀x∈E,textOf x.2.name≠dQ q:=by
 intro x hx e
 have hm:x.2∈E.map (·.2):=List.mem_map.2 ⟨x,hx,rfl⟩
 obtain⟨y,hy,ey⟩:=List.mem_map.1 (h.perm.mem_iff.1 hm)
 have h1:=(DV (WB h.good hm)).1 e
 have h2:=hn y hy
 rw[ey,h1]at h2;cases h2
theorem fA.WE{D:Db}{X:List EE}{NL:List (ByteArray×ByteArray)}{E:List EE}{P:List ai}(h:fA D X NL E P){q:az}{i:Nat}(hi:i<X.length)(hn:aY X[i].2.name q=true) :
  ∃x0∈E,textOf x0.2.name=dQ q∧fA {D with entries:=(X.eraseIdx i).map (·.2),ay:=D.ay+1} (X.eraseIdx i) (xy NL (iQ x0.2)) (ql E (dQ q)) P:=by
 have hXi:X[i].2∈X.map (·.2):=List.mem_map.2 ⟨X[i],List.getElem_mem hi,rfl⟩
 have hm:=h.perm.mem_iff.2 hXi
 obtain⟨x0,hx0,e0⟩:=List.mem_map.1 hm
 have hk:textOf x0.2.name=dQ q:=(DV (WB h.good (List.mem_map.2 ⟨x0,hx0,rfl⟩))).2 (by rw[e0];exact hn)
 have e1:(ql E (dQ q)).map (·.2)=kz (E.map (·.2)) (dQ q):=by
  unfold ql kz
  rw[List.filter_map];rfl
 have e2:(X.eraseIdx i).map (·.2)=kz (X.map (·.2)) (dQ q):=by
  rw[Wu,Wi h.xB.nodup (i:=i) (by simpa using hi)]
  congr 1
  rw[←hk,e0];simp
 have hsub:(kz (E.map (·.2)) (dQ q)).Sublist (E.map (·.2)):=List.filter_sublist
 refine⟨x0,hx0,hk,rfl,?_,?_,?_,h.sorted.sublist (List.eraseIdx_sublist X i),h.dL,fun x hx=>h.has x ((List.eraseIdx_sublist X i).mem hx)⟩
 ·rw[e1,←hk]
  exact VY h.names h.good (List.mem_map.2 ⟨x0,hx0,rfl⟩)
 ·rw[e1]
  exact⟨fun x hx=>h.good.ok x (hsub.mem hx),(hsub.map _).nodup h.good.nodup,fun x hx y hy=>h.good.apart x (hsub.mem hx) y (hsub.mem hy)⟩
 ·rw[e1,e2]
  exact h.perm.filter _
inductive qw(D:Db)(k:ByteArray):Int→Db→Prop where
 |none (hn:D.au.any (fun x=>decide (x.name=k))=false):qw D k 9 D
 |busy (i:Nat) (hi:i<D.au.length) (hn:D.au[i].name=k) (hb:∃x∈D.entries,x.aO=k):qw D k 11 D
 |yes (i:Nat) (hi:i<D.au.length) (hn:D.au[i].name=k) (hb:∀x∈D.entries,¬x.aO=k):qw D k 0 {D with au:=D.au.eraseIdx i,ay:=D.ay+1}
theorem fA.ajq{D:Db}{X:List EE}{NL:List (ByteArray×ByteArray)}{E:List EE}{P:List ai}(h:fA D X NL E P){i:Nat}(hi:i<D.au.length)(hb:∀x∈D.entries,¬x.aO=D.au[i].name) :
  fA {D with au:=D.au.eraseIdx i,ay:=D.ay+1} X NL E (DW P D.au[i].name):=by
 refine⟨h.eq,h.names,h.good,h.perm,h.sorted,h.dL.del hi,fun x hx=>?_⟩
 rcases h.has x hx with h1|h1
 ·exact .inl h1
 ·obtain⟨y,hy,e⟩:=List.any_eq_true.1 h1
  have e':y.name=x.2.aO:=by simpa using e
  refine .inr (List.any_eq_true.2 ⟨y,?_,e⟩)
  show y∈D.au.eraseIdx i
  rw[Hy (fun q:ai=>q.name) h.dL.nodup hi]
  refine List.mem_filter.2 ⟨hy,?_⟩
  have hn:¬y.name=D.au[i].name:=fun e2=>hb x.2 (by rw[h.eq];exact List.mem_map.2 ⟨x,hx,rfl⟩) (e'.symm.trans e2)
  simpa using hn
theorem mY.congr{L:List ai}{d d':Entry}(e:d'.aO=d.aO)(h:mY L d):mY L d':=by
 unfold mY at h ⊢
 rw[e];exact h
def kC(f a b:Int):Bool:=aF f 0 65535&&aF a 0 1099511627776&&aF b 0 1099511627776
def touched(d:Entry)(f a b:Int):Entry:={d with fails:=f,fD:=a,gQ:=b}
theorem ajr{d:Entry}{f a b:Int}(h:bW d=true)(ht:kC f a b=true):bW (touched d f a b)=true:=by
 simp only[kC,Bool.and_eq_true]at ht
 simp only[bW,jG,kL,touched,Bool.and_eq_true,decide_eq_true_eq]at h ⊢
 simp only[h,ht,and_self,decide_true]
def jw(k:ByteArray)(f a b:Int)(d:Entry):Entry:=if textOf d.name=k then touched d f a b else d
theorem vH(k:ByteArray)(f a b:Int)(d:Entry):(jw k f a b d).name=d.name:=by unfold jw;split<;>rfl
theorem ajs(k:ByteArray)(f a b:Int)(d:Entry):(jw k f a b d).aliases=d.aliases:=by unfold jw;split<;>rfl
theorem ajt(k:ByteArray)(f a b:Int)(d:Entry):(jw k f a b d).aO=d.aO:=by unfold jw;split<;>rfl
theorem Ib(k:ByteArray)(f a b:Int)(d:Entry):iQ (jw k f a b d)=iQ d:=by unfold iQ;rw[vH,ajs]
theorem aju{k:ByteArray}{f a b:Int}{d:Entry}(h:bW d=true)(ht:kC f a b=true):bW (jw k f a b d)=true:=by
 unfold jw;split
 ·exact ajr h ht
 ·exact h
def um(k:ByteArray)(f a b:Int)(x:EE):EE:=(x.1,jw k f a b x.2)
theorem Ic(k:ByteArray)(f a b:Int)(X:List EE):(X.map (um k f a b)).map (·.2)=(X.map (·.2)).map (jw k f a b):=by rw[List.map_map,List.map_map];rfl
theorem gY.touch{E:List Entry}(h:gY E)(k:ByteArray){f a b:Int}(ht:kC f a b=true):gY (E.map (jw k f a b)):=by
 refine⟨fun x hx=>?_,?_,fun x hx y hy=>?_⟩
 ·obtain⟨z,hz,rfl⟩:=List.mem_map.1 hx
  exact aju (h.ok z hz) ht
 ·rw[List.map_map]
  have:(fun x:Entry=>textOf x.name)∘jw k f a b=fun x=>textOf x.name:=funext fun x=>by simp[vH]
  rw[this];exact h.nodup
 ·obtain⟨z,hz,rfl⟩:=List.mem_map.1 hx
  obtain⟨z',hz',rfl⟩:=List.mem_map.1 hy
  rw[Ib,Ib,vH,vH]
  exact h.apart z hz z' hz'
inductive uo(D:Db)(X:List EE)(q:az)(f a b:Int):Int→Db→List EE→Prop where
 |bad (hv:kC f a b=false):uo D X q f a b 2 D X
 |none (hv:kC f a b=true) (hn:∀x∈X,aY x.2.name q=false):uo D X q f a b 9 D X
 |yes (hv:kC f a b=true) (i:Nat) (hi:i<X.length) (hn:aY X[i].2.name q=true):uo D X q f a b 0 {D with entries:=(X.map (um (dQ q) f a b)).map (·.2),ay:=D.ay+1} (X.map (um (dQ q) f a b))
theorem fA.touch{D:Db}{X:List EE}{NL:List (ByteArray×ByteArray)}{E:List EE}{P:List ai}(h:fA D X NL E P)(k:ByteArray){f a b:Int}(ht:kC f a b=true) :
  fA {D with entries:=(X.map (um k f a b)).map (·.2),ay:=D.ay+1} (X.map (um k f a b)) NL (E.map (um k f a b)) P:=by
 refine⟨rfl,?_,?_,?_,?_,h.dL,fun x hx=>?_⟩
 ·intro j o
  rw[h.names j o,Ic]
  constructor
  ·rintro⟨x,hx,rfl,q,hq,e⟩
   exact⟨jw k f a b x,List.mem_map.2 ⟨x,hx,rfl⟩,by rw[vH],q,by rw[Ib];exact hq,e⟩
  ·rintro⟨x,hx,rfl,q,hq,e⟩
   obtain⟨z,hz,rfl⟩:=List.mem_map.1 hx
   rw[Ib]at hq
   exact⟨z,hz,by rw[vH],q,hq,e⟩
 ·rw[Ic];exact h.good.touch k ht
 ·rw[Ic,Ic];exact h.perm.map _
 ·refine List.pairwise_map.2 (h.sorted.imp fun{x y} hxy=>?_)
  show fE (jw k f a b x.2).name (jw k f a b y.2).name<0
  rw[vH,vH];exact hxy
 ·obtain⟨z,hz,rfl⟩:=List.mem_map.1 hx
  have:=h.has z hz
  exact mY.congr (ajt k f a b z.2) this
theorem ajv{X:List EE}(hg:gY (X.map (·.2))){i:Nat}(hi:i<X.length){k:ByteArray}(hk:textOf X[i].2.name=k)(f a b:Int):X.map (um k f a b)=X.set i (X[i].1,touched X[i].2 f a b):=by
 refine List.ext_getElem (by simp) fun j h1 h2=>?_
 have hj:j<X.length:=by simpa using h1
 rw[List.getElem_map,List.getElem_set]
 by_cases e:i=j
 ·subst e
  rw[if_pos rfl]
  show(X[i].1,jw k f a b X[i].2)=_
  unfold jw;rw[if_pos hk]
 ·rw[if_neg e]
  show(X[j].1,jw k f a b X[j].2)=_
  unfold jw
  rw[if_neg fun e2=>e (A7 hg (i:=i) (j:=j) (by simpa using hi) (by simpa using hj) (by simpa using hk.trans e2.symm))]
theorem WG{E:List EE}(hg:gY (E.map (·.2))){x0:EE}(hx0:x0∈E){k:ByteArray}(hk:textOf x0.2.name=k)(f a b:Int) :
  oh (E.map fun x=>(textOf x.2.name,Value.agg (cu x))) k (.agg (cu (x0.1,touched x0.2 f a b)))=(E.map (um k f a b)).map fun x=>(textOf x.2.name,Value.agg (cu x)):=by
 unfold oh
 rw[if_pos (by
  unfold hasK
  exact List.any_eq_true.2 ⟨_,List.mem_map.2 ⟨x0,hx0,rfl⟩,by simpa using hk⟩),List.map_map,List.map_map]
 refine List.map_congr_left fun x hx=>?_
 simp only[Function.comp]
 show(if textOf x.2.name=k then _ else _)=(textOf (jw k f a b x.2).name,Value.agg (cu (x.1,jw k f a b x.2)))
 rw[vH]
 unfold jw
 by_cases e:textOf x.2.name=k
 ·rw[if_pos e,if_pos e,e]
  have:x=x0:=by
   obtain⟨i,hi,rfl⟩:=List.mem_iff_getElem.1 hx
   obtain⟨j,hj,rfl⟩:=List.mem_iff_getElem.1 hx0
   obtain rfl:=A7 hg (i:=i) (j:=j) (by simpa using hi) (by simpa using hj) (by simpa using e.trans hk.symm)
   rfl
  rw[this]
 ·rw[if_neg e,if_neg e]
theorem ajw{X:List EE}(hg:gY (X.map (·.2))){A B:List EE}(hA:∀x∈A,x∈X)(hB:∀x∈B,x∈X)(h:A.map (·.2)=B.map (·.2)):A=B:=by
 have hl:A.length=B.length:=by have:=congrArg List.length h;simpa using this
 refine List.ext_getElem hl fun i h1 h2=>?_
 obtain⟨a,ha,ea⟩:=List.mem_iff_getElem.1 (hA _ (List.getElem_mem h1))
 obtain⟨b,hb,eb⟩:=List.mem_iff_getElem.1 (hB _ (List.getElem_mem h2))
 have e:A[i].2=B[i].2:=by
  have:=List.getElem_of_eq h (i:=i) (by simpa using h1)
  simpa using this
 have:a=b:=A7 hg (i:=a) (j:=b) (by simpa using ha) (by simpa using hb) (by simp only[List.getElem_map,ea,eb,e])
 subst this
 exact ea.symm.trans eb
theorem ajx(D:Db)(q:ai):∃no D',mZ D q no D':=by
 cases hv:dP q with
 |false=>exact⟨2,D,.bad hv⟩
 |true=>
  rcases A8 D.au q.name with⟨hi,ha⟩|⟨i,hil,hi,hnm,-⟩
  ·exact⟨_,_,.new hv ha⟩
  ·exact⟨_,_,.old hv i hil hnm⟩
theorem ajy(D:Db){X:List EE}(_hg:gY (X.map (·.2)))(r:aN)(d:Entry):∃no D' X',kS D X r d no D' X':=by
 cases hv:bW d with
 |false=>exact⟨2,D,X,.bad (.inl hv)⟩
 |true=>
  by_cases hre:d.name.aG=D.aG
  ·by_cases hp:mY D.au d
   ·by_cases hx:∃x∈X.map (·.2),jg x d=true∧textOf x.name≠textOf d.name
    ·exact⟨_,_,_,.busy hv hre hp hx⟩
    ·have hx':∀x∈X.map (·.2),jg x d=true→textOf x.name=textOf d.name:=fun x kY hb=>Classical.byContradiction fun hn=>hx ⟨x,kY,hb,hn⟩
     refine⟨_,_,_,.put hv hre hp hx' (X.filter fun x=>decide (textOf x.2.name≠textOf d.name)) List.filter_sublist ?_⟩
     unfold kz
     rw[List.filter_map];rfl
   ·refine⟨9,D,X,.uk hv hre (fun e=>hp (.inl e)) ?_⟩
    cases ha:D.au.any (fun x=>decide (x.name=d.aO))with
    |false=>rfl
    |true=>exact absurd (.inr ha) hp
  ·exact⟨2,D,X,.bad (.inr hre)⟩
theorem ajz(D:Db)(X:List EE)(q:az):∃no D' X',rU D X q no D' X':=by
 by_cases h:∃i,∃hi:i<X.length,aY X[i].2.name q=true
 ·obtain⟨i,hi,hn⟩:=h
  exact⟨_,_,_,.yes i hi hn⟩
 ·refine⟨_,_,_,.none fun x hx=>?_⟩
  obtain⟨i,hi,rfl⟩:=List.mem_iff_getElem.1 hx
  cases hs:aY X[i].2.name q with
  |false=>rfl
  |true=>exact absurd ⟨i,hi,hs⟩ h
theorem ajA(D:Db)(X:List EE)(q:az)(f a b:Int):∃no D' X',uo D X q f a b no D' X':=by
 cases hv:kC f a b with
 |false=>exact⟨_,_,_,.bad hv⟩
 |true=>
  by_cases h:∃i,∃hi:i<X.length,aY X[i].2.name q=true
  ·obtain⟨i,hi,hn⟩:=h
   exact⟨_,_,_,.yes hv i hi hn⟩
  ·refine⟨_,_,_,.none hv fun x hx=>?_⟩
   obtain⟨i,hi,rfl⟩:=List.mem_iff_getElem.1 hx
   cases hs:aY X[i].2.name q with
   |false=>rfl
   |true=>exact absurd ⟨i,hi,hs⟩ h
theorem ajB(D:Db)(k:ByteArray):∃no D',qw D k no D':=by
 rcases A8 D.au k with⟨hi,ha⟩|⟨i,hil,hi,hnm,-⟩
 ·exact⟨_,_,.none ha⟩
 ·by_cases hb:∃x∈D.entries,x.aO=k
  ·exact⟨_,_,.busy i hil hnm hb⟩
  ·exact⟨_,_,.yes i hil hnm fun x hx e=>hb ⟨x,hx,e⟩⟩
end Go.WW
