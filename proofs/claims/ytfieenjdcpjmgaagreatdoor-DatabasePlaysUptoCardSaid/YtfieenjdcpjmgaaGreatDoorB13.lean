/- A part of the proof. -/
import Derived.Test.YtfieenjdcpjmgaaGreatDoorB12
import Derived.Test.YtfieenjdcpjmgaaGreatDoorB09
set_option maxRecDepth 100000
set_option maxHeartbeats 2000000
namespace Go.WW
open Go.RowKit
section
variable {α β:Type} {c:β→β→Int} {k:α→β}
def Mid(c:β→β→Int)(k:α→β)(Y:List α)(i j:Nat):Prop:=∃A x B C,Y=A++x::(B++C)∧A.length=j∧A.length+B.length=i∧Sorted c k (A++B)∧∀b∈B,c (k x) (k b)<0
theorem UM{Y:List α}{i:Nat}(h:Sorted c k (Y.take i))(hi:i<Y.length):Mid c k Y i i:=
 ⟨Y.take i,Y[i],[],Y.drop (i+1),by rw[List.nil_append,←List.drop_eq_getElem_cons hi,List.take_append_drop],by simp;omega,by simp;omega,by simpa using h,by simp⟩
theorem mid_zero{Y:List α}{i:Nat}(h:Mid c k Y i 0):Sorted c k (Y.take (i+1)):=by
 obtain⟨A,x,B,C,rfl,hA,hi,hs,hb⟩:=h
 have:A=[]:=List.eq_nil_of_length_eq_zero hA
 subst this
 simp only[List.length_nil,Nat.zero_add,List.nil_append]at *
 subst hi
 rw[List.take_succ_cons,List.take_left']
 ·exact List.pairwise_cons.2 ⟨hb,hs⟩
 ·rfl
theorem mid_step{Y:List α}{i j:Nat}(h:Mid c k Y i (j+1))(h1:j+1<Y.length)(hc:c (k Y[j+1]) (k Y[j])<0):Mid c k ((Y.set (j+1) Y[j]).set j Y[j+1]) i j:=by
 obtain⟨A,x,B,C,rfl,hA,hi,hs,hb⟩:=h
 obtain⟨A',y,rfl⟩:∃A' y,A=A'++[y]:=⟨A.dropLast,A.getLast (by intro e;subst e;simp at hA),(List.dropLast_concat_getLast _).symm⟩
 have hA':A'.length=j:=by simpa using hA
 subst hA'
 have e1:(A'++[y]++x::(B++C))[A'.length+1]=x:=by simp
 have e0:(A'++[y]++x::(B++C))[A'.length]=y:=by simp
 rw[e1,e0]at hc
 refine⟨A',x,y::B,C,?_,rfl,by simp at hi ⊢;omega,by simpa using hs,fun b hbm=>?_⟩
 ·rw[e1,e0]
  simp
 ·rcases List.mem_cons.1 hbm with rfl|hbm
  ·exact hc
  ·exact hb b hbm
theorem UN(ht:yA c){Y:List α}{i j:Nat}(h:Mid c k Y i (j+1))(h1:j+1<Y.length)(hd:(Y.map k).Nodup)(hc:¬c (k Y[j+1]) (k Y[j])<0):Sorted c k (Y.take (i+1)):=by
 obtain⟨A,x,B,C,rfl,hA,hi,hs,hb⟩:=h
 obtain⟨A',y,rfl⟩:∃A' y,A=A'++[y]:=⟨A.dropLast,A.getLast (by intro e;subst e;simp at hA),(List.dropLast_concat_getLast _).symm⟩
 have hA':A'.length=j:=by simpa using hA
 subst hA'
 have e1:(A'++[y]++x::(B++C))[A'.length+1]=x:=by simp
 have e0:(A'++[y]++x::(B++C))[A'.length]=y:=by simp
 rw[e1,e0]at hc
 have hne:k x≠k y:=by
  intro e
  rw[List.map_append,List.map_append,List.map_cons,List.nodup_append]at hd
  exact hd.2.2 (k y) (by simp) (k x) (by simp) e.symm
 have hyx:c (k y) (k x)<0:=by
  have h0:c (k y) (k x)≠0:=fun e0=>hne ((ht.zero _ _).1 e0).symm
  have:=ht.tJ (k y) (k x)
  omega
 have et:(A'++[y]++x::(B++C)).take (i+1)=(A'++[y])++x::B:=by
  have e:A'++[y]++x::(B++C)=((A'++[y])++x::B)++C:=by simp
  rw[e,List.take_left']
  simp at hi ⊢;omega
 rw[et]
 have hs':=List.pairwise_append.1 hs
 have hs1:=List.pairwise_append.1 hs'.1
 refine List.pairwise_append.2 ⟨hs'.1,List.pairwise_cons.2 ⟨hb,hs'.2.1⟩,fun a ha z hz=>?_⟩
 rcases List.mem_cons.1 hz with rfl|hz
 ·rcases List.mem_append.1 ha with ha|ha
  ·exact ht.trans _ _ _ (hs1.2.2 a ha y (by simp)) hyx
  ·simp at ha;subst ha;exact hyx
 ·exact hs'.2.2 a ha z hz
theorem swap_perm{Y:List α}{j:Nat}(h1:j+1<Y.length):((Y.set (j+1) Y[j]).set j Y[j+1]).Perm Y:=by
 have e:Y=Y.take j++Y[j]::Y[j+1]::Y.drop (j+2):=by
  conv=>lhs;rw[←List.take_append_drop j Y,List.drop_eq_getElem_cons (by omega),List.drop_eq_getElem_cons h1]
 have hl:(Y.take j).length=j:=by simp;omega
 generalize Y[j]=y at *
 generalize Y[j+1]=x at *
 generalize Y.take j=A at *
 generalize Y.drop (j+2)=C at *
 subst e
 subst hl
 simp
 exact(List.Perm.refl A).append (List.Perm.swap _ _ _)
end
theorem ahD{c cs:Array Value}{o n:Nat}(hn:cs.size=n)(h:o+n≤c.size):fO (splice c o cs) o n=some cs:=by
 subst hn
 unfold fO
 rw[if_pos (by rw[Gi h];exact h)]
 congr 1
 apply Array.ext_getElem?
 intro i
 simp only[splice,Array.getElem?_extract,List.getElem?_toArray,List.getElem?_append,List.length_append,List.length_take,Array.length_toList,List.getElem?_take,List.getElem?_drop]
 have:min o c.size=o:=by omega
 by_cases hi:i<cs.size
 ·simp[this,hi,show ¬o+i<o by omega,show o+i<o+cs.size by omega]
 ·rw[if_neg (by omega),Array.getElem?_eq_none (by omega)]
theorem ahE{c cs:Array Value}{o o' n:Nat}(h:o+cs.size≤c.size)(ha:o'+n≤o∨o+cs.size≤o'):fO (splice c o cs) o' n=fO c o' n:=by
 unfold fO
 rw[Gi h]
 split
 ·congr 1
  apply Array.ext_getElem?
  intro i
  simp only[splice,Array.getElem?_extract,List.getElem?_toArray,List.getElem?_append,List.length_append,List.length_take,Array.length_toList,List.getElem?_take,List.getElem?_drop,Array.getElem?_toList]
  have hm:min o c.size=o:=by omega
  have hsz:(List.take o c.toList++cs.toList++List.drop (o+cs.size) c.toList).length=c.size:=by simp;omega
  by_cases hi:i<n
  ·have h1:i<min (o'+n) c.size-o':=by omega
   rcases ha with ha|ha
   ·simp[hm,show o'+i<o by omega,show o'+i<o+cs.size by omega,show o+(cs.size+(c.size-(o+cs.size)))=c.size by omega]
   ·simp[hm,show ¬o'+i<o+cs.size by omega,show o+cs.size+(o'+i-(o+cs.size))=o'+i by omega,show o+(cs.size+(c.size-(o+cs.size)))=c.size by omega]
  ·rw[if_neg (by omega),if_neg (by omega)]
 ·rfl
def Open(w:World)(g n:Nat):Prop:=∃c t,w.heap[g]?=some (.cells c t)∧n≤c.size
theorem Open.put{w:World}{g n o:Nat}{cs:Array Value}(h:Open w g n)(ho:o+cs.size≤n):Open (putRow w g o cs) g n:=by
 obtain⟨c,t,hc,hn⟩:=h
 exact⟨_,t,kM hc (by omega),by rw[Gi (by omega)];exact hn⟩
theorem Open.can{w:World}{g n o m:Nat}(h:Open w g n)(ho:o+m≤n):aS w g o m=true:=by
 obtain⟨c,t,hc,hn⟩:=h
 exact lY hc (by omega)
theorem Open.at{w w':World}{g n:Nat}(h:Open w g n)(e:w'.heap[g]?=w.heap[g]?):Open w' g n:=by
 obtain⟨c,t,hc,hn⟩:=h
 exact⟨c,t,e.trans hc,hn⟩
theorem UO{w:World}{g n o o' m:Nat}{cs:Array Value}(h:Open w g n)(ho:o+cs.size≤n)(ha:o'+m≤o∨o+cs.size≤o'):row? (putRow w g o cs) g o' m=row? w g o' m:=by
 obtain⟨c,t,hc,hn⟩:=h
 rw[bQ (kM hc (by omega)),bQ hc,ahE (by omega) ha]
theorem UQ{w:World}{g n o m:Nat}{cs:Array Value}(h:Open w g n)(hm:cs.size=m)(ho:o+m≤n):row? (putRow w g o cs) g o m=some cs:=by
 obtain⟨c,t,hc,hn⟩:=h
 rw[bQ (kM hc (by omega)),ahD hm (by omega)]
theorem GH(x:EE):(cu x).size=17:=rfl
theorem gK.put{w:World}{g:Nat}{Y:List EE}(h:gK w (some ⟨g,0,none⟩) Y)(ho:Open w g (Y.length*17)){i:Nat}(hi:i<Y.length)(x:EE):gK (putRow w g (0+i*17) (cu x)) (some ⟨g,0,none⟩) (Y.set i x):=by
 refine⟨by simpa using h.1,fun j hj=>?_⟩
 have hj':j<Y.length:=by simpa using hj
 have hs:=GH x
 by_cases e:j=i
 ·subst e
  exact⟨g,0,_,rfl,UQ ho (GH x) (by omega),x,by simp[hj'],rfl⟩
 ·obtain⟨b,o,cs,ha,hr,y,hy,rfl⟩:=h.2 j hj'
  cases ha
  refine⟨g,0,_,rfl,(UO ho (by omega) (by omega)).trans hr,y,by rw[List.getElem?_set_ne (by omega)];exact hy,rfl⟩
theorem But.put{S:Nat→Prop}{W w:World}{g o:Nat}{cs:Array Value}(h:But S W w)(hg:S g):But S W (putRow w g o cs):=
 h.trans ⟨by have:=(CQ (Nat.le_refl g) cs.toList o w).os;exact this,(CQ (Nat.le_refl g) cs.toList o w).tape,(CQ (Nat.le_refl g) cs.toList o w).output,by rw[kN];exact Nat.le_refl _,fun k _ hn=>iI (fun e=>hn (e▸hg))⟩
end Go.WW
namespace Go.WW.T3
open Go.RowKit Go.WW
section
variable {P:Program} {ops:Array Oper} {S:World→Prop} {kd:Oper→Nat} {Q:Act→World→Prop}
def LV(P:Program)(S:World→Prop)(kd:Oper→Nat)(w:World)(o:Oper)(ρ:Operand→Value)(v:Value):Prop:=
 if kd o=0 then ∀w',S w'→(execOp ρ o).run P w'=.ok (.value v) w' else(execOp ρ o).run P w=.ok (.value v) w
theorem LV.here{P:Program}{S:World→Prop}{kd:Oper→Nat}{w:World}{o:Oper}{ρ:Operand→Value}{v:Value}(h:LV P S kd w o ρ v)(hS:S w):(execOp ρ o).run P w=.ok (.value v) w:=by
 unfold LV at h
 split at h
 ·exact h w hS
 ·exact h
theorem LV.any{P:Program}{S:World→Prop}{kd:Oper→Nat}{w w1:World}{o:Oper}{ρ:Operand→Value}{v:Value}(h:LV P S kd w o ρ v)(h0:kd o=0):LV P S kd w1 o ρ v:=by
 unfold LV at *
 rw[if_pos h0]at *
 exact h
def aH(P:Program)(ops:Array Oper)(kd:Oper→Nat)(S:World→Prop)(Q:Act→World→Prop):List Oper→Act→World→Prop
 | [],a,w=>Q a w
 |o::rest,a,w=>
  if Region.wanted o (yielded ops a.tmps)then
   if kd o<2 then ∃v,LV P S kd w o a.eval v∧aH P ops kd S Q rest (a.put o.dst v) w
   else o.wp P a w (fun a' w'=>S w'∧aH P ops kd S Q rest a' w') never
  else aH P ops kd S Q rest (a.put o.dst undef) w
theorem bJ(o:Oper)(rest:List Oper)(a:Act)(w:World):aH P ops kd S Q (o::rest) a w =
  (if Region.wanted o (yielded ops a.tmps)then
   if kd o<2 then ∃v,LV P S kd w o a.eval v∧aH P ops kd S Q rest (a.put o.dst v) w
   else o.wp P a w (fun a' w'=>S w'∧aH P ops kd S Q rest a' w') never
  else aH P ops kd S Q rest (a.put o.dst undef) w):=rfl
theorem QF{l:List Oper}{Q':Act→World→Prop}(h:∀a w,Q a w→Q' a w):∀{a w},aH P ops kd S Q l a w→aH P ops kd S Q' l a w:=by
 induction l with
 |nil=>exact fun hh=>h _ _ hh
 |cons o l ih=>
  intro a w hh
  rw[bJ]at *
  split
  ·rename_i hw
   simp only[hw,if_true]at hh
   split
   ·rename_i hs
    simp only[hs,if_true]at hh
    obtain⟨v,h1,h2⟩:=hh
    exact⟨v,h1,ih h2⟩
   ·rename_i hs
    simp only[hs]at hh
    exact Oper.wp_mono (fun a' w' ⟨x,y⟩=>⟨x,ih y⟩) hh
  ·rename_i hw
   simp only[hw]at hh
   exact ih hh
theorem Aa{o:Oper}{M M':List Oper}{a:Act}{w:World}(hS:S w)(h:∀a' w',S w'→aH P ops kd S Q M a' w'→aH P ops kd S Q M' a' w')
  (hh:aH P ops kd S Q (o::M) a w):aH P ops kd S Q (o::M') a w:=by
 rw[bJ]at *
 split
 ·rename_i hw
  simp only[hw,if_true]at hh
  split
  ·rename_i hs
   simp only[hs,if_true]at hh
   obtain⟨v,h1,h2⟩:=hh
   exact⟨v,h1,h _ _ hS h2⟩
  ·rename_i hs
   simp only[hs]at hh
   exact Oper.wp_mono (fun a' w' ⟨x,y⟩=>⟨x,h _ _ x y⟩) hh
 ·rename_i hw
  simp only[hw]at hh
  exact h _ _ hS hh
def Dt(kd:Oper→Nat)(x o:Oper):Bool:=decide (kd x=0) || decide (kd o=0) || (decide (kd x<2)&&decide (kd o<2))
theorem Ac{x o:Oper}{L:List Oper}{a:Act}{w:World}(hS:S w)(hx:∀cs b,x.op≠.select cs b)(ho:∀cs b,o.op≠.select cs b)
  (hap:x.apart ops o=true) (hst:Dt kd x o=true) (h:aH P ops kd S Q (x::o::L) a w):aH P ops kd S Q (o::x::L) a w:=by
 obtain⟨h1,h2,h3⟩:=Oper.apart_spec hap
 have h2':∀d,o.dst=some d→x.dst≠some d:=fun d hd hxd=>h2 d hxd hd
 have wo:∀(b:Act) v,Region.wanted o (yielded ops (b.put x.dst v).tmps)=Region.wanted o (yielded ops b.tmps):=fun b v=>wanted_put o b x.dst v h1
 have wx:∀(b:Act) v,Region.wanted x (yielded ops (b.put o.dst v).tmps)=Region.wanted x (yielded ops b.tmps):=fun b v=>wanted_put x b o.dst v h3
 have eo:∀(w:World) (b:Act) v u,LV P S kd w o (b.put x.dst v).eval u=LV P S kd w o b.eval u:=fun w b v u=>by unfold LV;rw[execOp_put o ho b x.dst v h1]
 have ex:∀(w:World) (b:Act) v u,LV P S kd w x (b.put o.dst v).eval u=LV P S kd w x b.eval u:=fun w b v u=>by unfold LV;rw[execOp_put x hx b o.dst v h3]
 have hc:∀(b:Act) v u,(b.put x.dst v).put o.dst u=(b.put o.dst u).put x.dst v:=fun b v u=>Act.put_comm b v u h2
 have hk:(kd x=0∨kd o=0)∨kd x<2∧kd o<2:=by simpa[Dt]using hst
 rw[bJ]at h ⊢
 by_cases hwx:Region.wanted x (yielded ops a.tmps)=true
 ·rw[if_pos hwx]at h
  by_cases hsx:kd x<2
  ·rw[if_pos hsx]at h
   obtain⟨v,hv,h⟩:=h
   rw[bJ,wo]at h
   by_cases hwo:Region.wanted o (yielded ops a.tmps)=true
   ·rw[if_pos hwo]at h ⊢
    by_cases hso:kd o<2
    ·rw[if_pos hso]at h ⊢
     obtain⟨u,hu,h⟩:=h
     rw[eo]at hu
     refine⟨u,hu,?_⟩
     rw[bJ,wx,if_pos hwx,if_pos hsx]
     exact⟨v,by rw[ex];exact hv,by rw[←hc];exact h⟩
    ·rw[if_neg hso]at h ⊢
     have h0:kd x=0:=by omega
     have h':=sU ((nU ho h1 h2).1 h)
     refine Oper.wp_mono ?_ h'
     rintro a' w' ⟨⟨u,ds,rfl⟩,hS',h⟩
     refine⟨hS',?_⟩
     rw[bJ,wx,show Region.wanted x (yielded ops ({a with defers:=ds}:Act).tmps)=true from hwx,if_pos rfl,if_pos hsx]
     exact⟨v,by rw[ex];exact hv.any h0,h⟩
   ·rw[if_neg hwo]at h ⊢
    rw[bJ,wx,if_pos hwx,if_pos hsx]
    exact⟨v,by rw[ex];exact hv,by rw[←hc];exact h⟩
  ·have h0:kd o=0:=by omega
   have hso:kd o<2:=by omega
   rw[if_neg hsx]at h
   have h':=sU h
   by_cases hwo:Region.wanted o (yielded ops a.tmps)=true
   ·rw[if_pos hwo,if_pos hso]
    have key:∀a' w',((∃u ds,a'=({a with defers:=ds}:Act).put x.dst u)∧S w'∧aH P ops kd S Q (o::L) a' w')→
      ∃v,LV P S kd w o a.eval v∧S w'∧aH P ops kd S Q L (a'.put o.dst v) w':=by
     rintro a' w' ⟨⟨u,ds,rfl⟩,hS',hh⟩
     rw[bJ,wo,show Region.wanted o (yielded ops ({a with defers:=ds}:Act).tmps)=true from hwo,if_pos rfl,if_pos hso]at hh
     obtain⟨v,hv,hh⟩:=hh
     rw[eo]at hv
     exact⟨v,hv.any h0,hS',hh⟩
    obtain⟨a1,w1,h1'⟩:=Fq h'
    obtain⟨v,hv,_⟩:=key _ _ h1'
    refine⟨v,hv,?_⟩
    rw[bJ,wx,if_pos hwx,if_neg hsx,nU hx h3 h2']
    refine Oper.wp_mono ?_ h'
    intro a' w' hh
    obtain⟨v',hv',hS',hh⟩:=key _ _ hh
    have e:v'=v:=by
     have:=(hv'.here hS).symm.trans (hv.here hS)
     simpa using this
    subst e
    exact⟨hS',hh⟩
   ·rw[if_neg hwo,bJ,wx,if_pos hwx,if_neg hsx,nU hx h3 h2']
    refine Oper.wp_mono ?_ h'
    rintro a' w' ⟨⟨u,ds,rfl⟩,hS',hh⟩
    rw[bJ,wo,show Region.wanted o (yielded ops ({a with defers:=ds}:Act).tmps)=false from by simpa using hwo,if_neg (by simp)]at hh
    exact⟨hS',hh⟩
 ·rw[if_neg hwx]at h
  rw[bJ,wo]at h
  by_cases hwo:Region.wanted o (yielded ops a.tmps)=true
  ·rw[if_pos hwo]at h ⊢
   by_cases hso:kd o<2
   ·rw[if_pos hso]at h ⊢
    obtain⟨u,hu,h⟩:=h
    rw[eo]at hu
    refine⟨u,hu,?_⟩
    rw[bJ,wx,if_neg hwx,←hc]
    exact h
   ·rw[if_neg hso]at h ⊢
    have h':=sU ((nU ho h1 h2).1 h)
    refine Oper.wp_mono ?_ h'
    rintro a' w' ⟨⟨u,ds,rfl⟩,hS',h⟩
    refine⟨hS',?_⟩
    rw[bJ,wx,show Region.wanted x (yielded ops ({a with defers:=ds}:Act).tmps)=false from by simpa using hwx,if_neg (by simp)]
    exact h
  ·rw[if_neg hwo]at h ⊢
   rw[bJ,wx,if_neg hwx,←hc]
   exact h
theorem lV{o:Oper}{L2:List Oper}(ho:∀cs b,o.op≠.select cs b):∀(L1:List Oper),(∀x∈L1,(∀cs b,x.op≠.select cs b)∧x.apart ops o=true∧Dt kd x o=true)→
  ∀(a:Act) (w:World),S w→aH P ops kd S Q (L1++o::L2) a w→aH P ops kd S Q (o::(L1++L2)) a w
 | [],_,_,_,_,h=>h
 |x::L1,hall,a,w,hS,h=>by
  have hx:=hall x (by simp)
  refine Ac hS hx.1 ho hx.2.1 hx.2.2 ?_
  exact Aa hS (fun a' w' hS' hh=>lV ho L1 (fun y hy=>hall y (by simp[hy])) a' w' hS' hh) h
abbrev lk(kd:Oper→Nat):Oper→Bool:=fun o=>decide (kd o<2)
def lW(kd:Oper→Nat)(ops:Array Oper):Bool:=
 let m:=nG (lk kd) ops
 Region.noSelect ops&&(List.range ops.size).all fun j=>match ops[j]? with
  |none=>true
  |some oj=>
   oj.after.toList.all (fun e=>!Region.binds .any e || decide (e.on<j))&&
   (m.getD j []).all (fun i=>oj.after.toList.any fun e=>Region.binds .any e&&(e.on == i || (m.getD e.on []).contains i))&&
   (List.range j).all fun i=>match ops[i]? with
    |none=>true
    |some oi=>oj.after.toList.any (fun e=>Region.binds .any e&&e.on == i) || (oi.apart ops oj&&(Dt kd oi oj || (m.getD j []).contains i))
structure qM(kd:Oper→Nat)(ops:Array Oper)(m:Array (List Nat)):Prop where
 jl:Region.noSelect ops=true
 back:∀j oj,ops[j]?=some oj→∀e∈oj.after,Region.binds .any e=true→e.on<j
 pred:∀j oj,ops[j]?=some oj→∀i∈m.getD j [],∃e∈oj.after,Region.binds .any e=true∧(e.on=i∨i∈m.getD e.on [])
 pair:∀j oj,ops[j]?=some oj→∀i,i<j→∀oi,ops[i]?=some oi→(∃e∈oj.after,Region.binds .any e=true∧e.on=i)∨(oi.apart ops oj=true∧(Dt kd oi oj=true∨i∈m.getD j []))
theorem yc(h:lW kd ops=true):qM kd ops (nG (lk kd) ops):=by
 unfold lW at h
 simp only[Bool.and_eq_true,List.all_eq_true,List.mem_range]at h
 obtain⟨hs,h⟩:=h
 have lt:∀{j:Nat} {oj:Oper},ops[j]?=some oj→j<ops.size:=fun hj=>(Array.getElem?_eq_some_iff.1 hj).1
 refine⟨hs,fun j oj hj=>?_,fun j oj hj=>?_,fun j oj hj=>?_⟩
 all_goals
  have hh:=h j (lt hj)
  simp only[hj,Bool.and_eq_true,List.all_eq_true,List.mem_range]at hh
  obtain⟨⟨h1,h2⟩,h3⟩:=hh
 ·intro e he hb
  have:=h1 e (by simpa using he)
  simpa[hb]using this
 ·intro i hi
  have:=h2 i hi
  simp only[List.any_eq_true,Bool.and_eq_true,Bool.or_eq_true,beq_iff_eq,List.contains_iff_mem]at this
  obtain⟨e,he,hb,hor⟩:=this
  exact⟨e,by simpa using he,hb,hor⟩
 ·intro i hi oi ho
  have:=h3 i hi
  simp only[ho,Bool.or_eq_true,List.any_eq_true,Bool.and_eq_true,beq_iff_eq,List.contains_iff_mem]at this
  rcases this with⟨e,he,hb,hor⟩|⟨ha,hor⟩
  ·exact .inl ⟨e,by simpa using he,hb,hor⟩
  ·exact .inr ⟨ha,hor⟩
theorem Ad{m:Array (List Nat)}(hok:qM kd ops m){listed:Array Bool}
  (hdown:∀k o,ops[k]?=some o→listed.getD k false=true→∀e∈o.after,Region.binds .any e=true→listed.getD e.on false=true) :
  ∀(j:Nat) (oj:Oper),ops[j]?=some oj→(∀e∈oj.after,Region.binds .any e=true→listed.getD e.on false=true)→∀i∈m.getD j [],listed.getD i false=true:=by
 intro j
 induction j using Nat.strongRecOn with
 |_ j ih=>
  intro oj hj hall i hi
  obtain⟨e,he,hb,hor⟩:=hok.pred j oj hj i hi
  rcases hor with rfl|hor
  ·exact hall e he hb
  ·have hlt:=hok.back j oj hj e he hb
   have hjs:j<ops.size:=(Array.getElem?_eq_some_iff.1 hj).1
   have hoe:ops[e.on]?=some (ops[e.on]'(by omega)):=by simp
   exact ih e.on hlt _ hoe (hdown _ _ hoe (hall e he hb)) i hor
theorem yf{m:Array (List Nat)}(hok:qM kd ops m){Q':Exit→Act→World→Prop}(hQ:∀a w,Q a w→Q' .normal a w) :
  ∀(n:Nat) (L:List Nat) (listed:Array Bool) (a:Act) (w:World),L.length=n→L.Pairwise (· < ·)→listed.size=ops.size→(∀j,j∈L↔j<ops.size∧listed.getD j true=false)→
   (∀k o,ops[k]?=some o→listed.getD k false=true→∀e∈o.after,Region.binds .any e=true→listed.getD e.on false=true)→
   S w→aH P ops kd S Q (L.filterMap (ops[·]?)) a w→wpAny P .any ops Q' n listed a w:=by
 intro n
 induction n with
 |zero=>
  intro L listed a w hn _ hsz hL _ _ h
  have:L=[]:=List.eq_nil_of_length_eq_zero hn
  subst this
  refine⟨?_,hQ _ _ h⟩
  cases hr:Region.ready .any ops listed with
  |nil=>rfl
  |cons i r=>
   have hi:i∈Region.ready .any ops listed:=by rw[hr];simp
   obtain⟨h0,o,ho,_⟩:=mem_ready.1 hi
   have:=(hL i).2 ⟨(Array.getElem?_eq_some_iff.1 ho).1,h0⟩
   cases this
 |succ n ih=>
  intro L listed a w hn hsort hsz hL hdown hS h
  refine⟨fun hr=>?_,fun i hi=>?_⟩
  ·exfalso
   cases L with
   |nil=>simp at hn
   |cons j L=>
    obtain⟨hj,hjl⟩:=(hL j).1 (by simp)
    have hoj:ops[j]?=some ops[j]:=by simp[hj]
    have:j∈Region.ready .any ops listed:=by
     refine mem_ready.2 ⟨hjl,_,hoj,fun e he hb=>?_⟩
     have hlt:=hok.back j _ hoj e he hb
     have hnot:e.on∉j::L:=by
      intro hmem
      rcases List.mem_cons.1 hmem with h1|h1
      ·omega
      ·have:=(List.pairwise_cons.1 hsort).1 _ h1;omega
     have h2:listed.getD e.on true≠false:=fun hf=>hnot ((hL e.on).2 ⟨by omega,hf⟩)
     have hes:e.on<listed.size:=by omega
     simp[hes]at h2 ⊢;exact h2
    rw[hr]at this;cases this
  ·obtain⟨h0,o,ho,hall⟩:=mem_ready.1 hi
   have his:i<ops.size:=(Array.getElem?_eq_some_iff.1 ho).1
   have hiL:i∈L:=(hL i).2 ⟨his,h0⟩
   obtain⟨L1,L2,rfl⟩:=List.append_of_mem hiL
   have dN:=List.pairwise_append.1 hsort
   have hlt1:∀x∈L1,x<i:=fun x hx=>dN.2.2 x hx i (by simp)
   have hgt2:∀x∈L2,i<x:=fun x hx=>(List.pairwise_cons.1 dN.2.1).1 x hx
   rw[List.filterMap_append,List.filterMap_cons_some ho]at h
   have bY:=lV (P:=P) (ops:=ops) (S:=S) (kd:=kd) (Q:=Q) (Region.noSelect_spec hok.jl i o · · ho) (L1.filterMap (ops[·]?)) (fun x hx=>by
    obtain⟨k,hk,hox⟩:=List.mem_filterMap.1 hx
    have hkl:=((hL k).1 (by simp[hk])).2
    have hnl:¬listed.getD k false=true:=fun hf=>by rw[sV hf]at hkl;cases hkl
    refine⟨(Region.noSelect_spec hok.jl k x · · hox),?_⟩
    rcases hok.pair i o ho k (hlt1 k hk) x hox with⟨e,he,hb,rfl⟩|⟨hap,hor⟩
    ·exact absurd (hall e he hb) hnl
    ·refine⟨hap,?_⟩
     rcases hor with h1|h1
     ·exact h1
     ·exact absurd (Ad hok hdown i o ho hall k h1) hnl) a w hS h
   have hrest:∀a' w',S w'→aH P ops kd S Q (L1.filterMap (ops[·]?)++L2.filterMap (ops[·]?)) a' w'→wpAny P .any ops Q' n (listed.setIfInBounds i true) a' w':=by
    intro a' w' hS' hh
    rw[←List.filterMap_append]at hh
    refine ih (L1++L2) (listed.setIfInBounds i true) a' w' ?_ ?_ (by simpa using hsz) ?_ ?_ hS' hh
    ·simp at hn ⊢;omega
    ·exact List.pairwise_append.2 ⟨dN.1,(List.pairwise_cons.1 dN.2.1).2,fun x hx y hy=>dN.2.2 x hx y (by simp[hy])⟩
    ·intro j
     by_cases hji:j=i
     ·subst hji
      constructor
      ·intro hm
       exfalso
       rcases List.mem_append.1 hm with h1|h1
       ·have:=hlt1 _ h1;omega
       ·have:=hgt2 _ h1;omega
      ·rintro⟨_,hf⟩
       have:j<listed.size:=by omega
       simp[this]at hf
     ·rw[getD_set_ne true (Ne.symm hji),←hL j]
      simp[hji]
    ·intro k ok hk hkl e he hb
     by_cases hki:k=i
     ·subst hki
      rw[ho]at hk;cases hk
      exact getD_set_true (hall e he hb)
     ·rw[getD_set_ne false (Ne.symm hki)]at hkl
      exact getD_set_true (hdown k ok hk hkl e he hb)
   unfold wpOp
   simp only[ho]
   rw[bJ]at bY
   split
   ·rename_i hw
    rw[if_pos hw]at bY
    refine .inl ?_
    by_cases hs:kd o<2
    ·rw[if_pos hs]at bY
     obtain⟨v,hv,hh⟩:=bY
     unfold Oper.wp
     rw[hv.here hS]
     exact hrest _ _ hS hh
    ·rw[if_neg hs]at bY
     exact qL (Oper.wp_mono (fun a' w' hh=>hrest a' w' hh.1 hh.2) bY)
   ·rename_i hw
    rw[if_neg hw]at bY
    exact hrest _ _ hS bY
theorem BX{id:Nat}{Q':Exit→Act→World→Prop}{a:Act}{w:World}{l:List Oper}(S:World→Prop)(kd:Oper→Nat)(hm:P.follows .mixedOrders=true)(hB:lW kd l.toArray=true)
  (hS:S w.drew) (h:aH P l.toArray kd S (fun a' w'=>Q' .normal a' w') l a w.drew):(Code.region id l.toArray true).wp P Q' a w:=by
 refine wp_region_any hm ?_
 have hfm:(List.range l.toArray.size).filterMap (l.toArray[·]?)=l:=by
  apply List.ext_getElem?
  intro i
  have:∀n,(List.range n).filterMap (fun i=>l.toArray[i]?)=l.take n:=by
   intro n
   induction n with
   |zero=>simp
   |succ n ih=>
    rw[List.range_succ,List.filterMap_append,ih]
    by_cases hn:n<l.length
    ·rw[List.take_succ_eq_append_getElem hn];simp[hn]
    ·simp[hn,List.take_of_length_le (show l.length≤n by omega),List.take_of_length_le (show l.length≤n+1 by omega)]
  rw[this];simp
 have:=yf (P:=P) (S:=S) (Q:=fun a' w'=>Q' .normal a' w') (yc hB) (Q':=Q') (fun _ _ h=>h) l.toArray.size (List.range l.toArray.size) (Array.replicate l.toArray.size false) a w.drew
  (by simp) List.pairwise_lt_range (by simp) (by intro j;simp;intro h;simp[h]) (by intro k o hk hkl;exfalso;rw[Array.getD_eq_getD_getElem?,Array.getElem?_replicate]at hkl;split at hkl<;>simp at hkl) hS (by rw[hfm];exact h)
 exact this
theorem bV{a:Act}{w:World}(h:Q a w):aH P ops kd S Q [] a w:=h
theorem ax{o:Oper}{rest:List Oper}{a:Act}{w:World}(hw:Region.wanted o (yielded ops a.tmps)=false)(h:aH P ops kd S Q rest (a.put o.dst undef) w):aH P ops kd S Q (o::rest) a w:=by
 rw[bJ,if_neg (by simp[hw])];exact h
def kinds(o:Oper):Nat:=
 match o.op with
 | .load ..=>1
 |_=>if looks o then 0 else 2
theorem UR{o:Oper}(h:kinds o<2):looks o=true:=by
 unfold kinds at h
 split at h
 ·rename_i h';unfold looks;rw[h']
 ·split at h
  ·assumption
  ·omega
theorem aI{o:Oper}{rest:List Oper}{a:Act}{w:World}(hw:Region.wanted o (yielded ops a.tmps)=true)(hs:kinds o=0)
  (h:∀K:Act→Prop,(∀a',aH P ops kinds S Q rest a' w→K a')→o.quiet P a S K):aH P ops kinds S Q (o::rest) a w:=by
 rw[bJ,if_pos hw,if_pos (by omega)]
 obtain⟨v,hv,hh⟩:=h _ (fun _ x=>x)
 refine⟨v,?_,hh⟩
 unfold LV
 rw[if_pos hs]
 intro w' hw'
 have:=hv w' hw'
 unfold Oper.quietAt at this
 rcases BZ (P:=P) (UR (o:=o) (by omega)) a.eval w' with⟨u,w'',e⟩|⟨x,w'',e⟩
 ·rw[e]at this ⊢
  obtain⟨rfl,rfl⟩:=this
  rfl
 ·rw[e]at this
  exact this.elim
theorem AL{o:Oper}{rest:List Oper}{a:Act}{w:World}(hw:Region.wanted o (yielded ops a.tmps)=true)(hs:kinds o=1)
  (h:∀K:Act→World→Prop,(∀a',aH P ops kinds S Q rest a' w→K a' w)→o.wp P a w K never):aH P ops kinds S Q (o::rest) a w:=by
 rw[bJ,if_pos hw,if_pos (by omega)]
 have h':=h (fun a' w'=>w'=w∧aH P ops kinds S Q rest a' w) (fun _ x=>⟨rfl,x⟩)
 unfold Oper.wp at h'
 rcases BZ (P:=P) (UR (o:=o) (by omega)) a.eval w with⟨u,w'',e⟩|⟨x,w'',e⟩
 ·rw[e]at h'
  obtain⟨rfl,hh⟩:=h'
  refine⟨u,?_,hh⟩
  unfold LV
  rw[if_neg (by omega)]
  exact e
 ·rw[e]at h'
  cases x<;>simp only[Oper.upon,never]at h'
theorem aK{o:Oper}{rest:List Oper}{a:Act}{w:World}(hw:Region.wanted o (yielded ops a.tmps)=true)(hs:kinds o=2)
  (h:∀K:Act→World→Prop,(∀a' w',S w'→aH P ops kinds S Q rest a' w'→K a' w')→o.wp P a w K never):aH P ops kinds S Q (o::rest) a w:=by
 rw[bJ,if_pos hw,if_neg (by omega)]
 exact h _ (fun _ _ x y=>⟨x,y⟩)
end
theorem UT{P:Program}{id:Nat}{Q':Exit→Act→World→Prop}{a:Act}{W w:World}{l:List Oper}(S:Nat→Prop)(hW:But S W w)(hm:P.follows .mixedOrders=true)(hB:lW kinds l.toArray=true)
  (h:aH P l.toArray kinds (nK S W) (fun a' w'=>Q' .normal a' w') l a w.drew):(Code.region id l.toArray true).wp P Q' a w:=
 BX (nK S W) kinds hm hB ⟨⟨w.drew,hW.drew⟩,rfl⟩ h
end Go.WW.T3
namespace Go.WW
open Go.RowKit
structure kX(g:Nat)(X Y:List EE)(w0 w:World):Prop where
 perm:Y.Perm X
 but:But (·=g) w0 w
 rows:gK w (some ⟨g,0,none⟩) Y
 opn:Open w g (Y.length*17)
theorem kX.step{g:Nat}{X Y:List EE}{w0 w w':World}(h:kX g X Y w0 w)(hb:Below w.heap.size w w'):kX g X Y w0 w':=by
 refine⟨h.perm,h.but.trans (But.of_below hb),h.rows.later hb,h.opn.at ?_⟩
 obtain⟨c,t,hc,_⟩:=h.opn
 exact hb.block g (Array.getElem?_eq_some_iff.1 hc).1
theorem kX.drew{g:Nat}{X Y:List EE}{w0 w:World}(h:kX g X Y w0 w):kX g X Y w0 w.drew:=h.step (Below.refl _ _).drew
theorem kX.swap{g:Nat}{X Y:List EE}{w0 w:World}(h:kX g X Y w0 w){j:Nat}(h1:j+1<Y.length):kX g X ((Y.set (j+1) Y[j]).set j Y[j+1]) w0 (putRow (putRow w g ((j+1)*17) (cu Y[j])) g (j*17) (cu Y[j+1])):=by
 have r1:=h.rows.put h.opn h1 Y[j]
 have s1:=GH Y[j]
 have s2:=GH Y[j+1]
 have o1:Open (putRow w g (0+(j+1)*17) (cu Y[j])) g (Y.length*17):=h.opn.put (by omega)
 have r2:=r1.put (by simpa using o1) (i:=j) (by simp;omega) Y[j+1]
 rw[Nat.zero_add]at r2 o1
 rw[Nat.zero_add]at r2
 exact⟨(swap_perm h1).trans h.perm,(h.but.put rfl).put rfl,r2,by simpa using o1.put (by omega)⟩
end Go.WW
namespace Go.Proofs.YtfieenjdcpjmgaaGreatDoor
open Go.RowKit Go.WW
theorem ahF(g cap:Nat)(X:List EE)(w:World)(hn:X.length≤12)(hX:kX g X X w w)(hD:(X.map eY).Nodup)(hN:∀y,But (·=g) w y→∀x∈X,bn y x.1.parts x.2.name) :
  Calls Tryz.prog 337 #[.slice (some ⟨g,0,none⟩) X.length cap,.int .i64 0,.int .i64 X.length,.func (.func 113) #[] #[]] w fun e w'=>e=.returned (.tuple #[])∧∃Y,kX g X Y w w'∧Sorted fE eY Y:=by
 have HF:=Lib.hid hN
 have HD:=Lib.hid hD
 clear hN hD
 go_enter Tryz.func337,Tryz.ntmps337
 go_wp2_with fail
 go_loopw [8] (fun iv wr=>∃(i:Nat) (Y:List EE),1≤i∧i≤13∧iv=.int .i64 i∧Hid (kX g X Y w wr)∧Hid (Sorted fE eY (Y.take i))) (fun iv _=>13-(intOf iv).toNat)
 case atStart=>exact⟨1,X,Nat.le_refl _,by omega,rfl,hX,by cases X<;>simp[Hid,Sorted]⟩
 case round=>
  obtain⟨i,Y,h1,h13,rfl,hS,hso⟩:=hrel
  have HL:=Lib.hid (hS.out.perm.length_eq)
  by_cases hlt:i<X.length
  ·have hki:(i:Int)<(X.length:Int):=by omega
   have HM:=Lib.hid (UM hso.out (by rw[HL.out];exact hlt))
   go_wp2_with fail
   clear hso HL
   go_loopw [9] (fun jv wr=>∃(j:Nat) (Y:List EE),j≤i∧jv=.int .i64 j∧Hid (kX g X Y w wr)∧Hid (Mid fE eY Y i j)) (fun jv _=>(intOf jv).toNat)
   case atStart=>exact⟨i,Y,Nat.le_refl _,rfl,hS,HM⟩
   case round=>
    clear hS HM
    obtain⟨j,Y,hj,rfl,hS,hM⟩:=hrel
    have HL:=Lib.hid (hS.out.perm.length_eq)
    cases j with
    |zero=>
     have HZ:=Lib.hid (mid_zero hM.out)
     go_wp2_with fail
     refine dM (Below.refl _ wr) (by kernel_rfl) (by kernel_rfl) ?_
     repeat (go_big_quiet_step (fail))
     refine wpQuiet_nil ?_
     intro w2 hb2
     have HS2:=Lib.hid (hS.out.step hb2)
     go_wp2_with fail
     go_roundw
     case rel=>exact⟨i+1,Y,by omega,by omega,by go_num,HS2.out,HZ.out⟩
     case measure=>simp[intOf];omega
    |succ j=>
     have hjl:j+1<Y.length:=by rw[HL.out];omega
     have hji:(0:Int)<((j+1:Nat):Int):=by omega
     have KZ:((j+1:Nat):Int)<(X.length:Int):=by omega
     have hr1:=hS.out.rows.at (j+1) hjl
     have hr0:=hS.out.rows.at j (by omega)
     have hN1:=Lib.hid (fun y hy=>HF.out y (hS.out.but.trans (But.of_below hy)) Y[j+1] (hS.out.perm.mem_iff.1 (List.getElem_mem hjl)))
     have hN0:=Lib.hid (fun y hy=>HF.out y (hS.out.but.trans (But.of_below hy)) Y[j] (hS.out.perm.mem_iff.1 (List.getElem_mem (by omega))))
     rw[Nat.zero_add]at hr1 hr0
     have hgw:g<wr.heap.size:=gm hr1
     by_cases hc:fE Y[j+1].2.name Y[j].2.name<0
     ·have pg:=Lib.hid (mid_step hM.out hjl hc)
      have HS2:=Lib.hid (fun w2 hb2=>((hS.out.step (w':=w2) hb2)).drew.swap hjl)
      generalize Y[j+1]=x at *
      generalize Y[j]=z at *
      go_wp2_with fail
      refine dM (Below.refl _ wr) (by kernel_rfl) (by kernel_rfl) ?_
      repeat (go_big_quiet_step ((go_at_call 113;rename_i xw;exact Calls.gz (UL _ _ _ _ _ (hN1.out _ xw.b) (hN0.out _ xw.b)))))
      refine wpQuiet_nil ?_
      intro w2 hb2
      go_wp2_with fail
      have hr1':row? w2 g ((j+1)*17) 17=some (ae x.1 x.2):=(gZ (hb2.block g hgw) _ _).trans hr1
      have ahG:row? w2 g (j*17) 17=some (ae z.1 z.2):=(gZ (hb2.block g hgw) _ _).trans hr0
      have HO:=Lib.hid (hS.out.step hb2).opn
      have hp1:aS w2 g ((j+1)*17) 17=true:=HO.out.can (by omega)
      have hp0:aS (putRow w2.drew g ((j+1)*17) (ae z.1 z.2)) g (j*17) 17=true:=Open.can (n:=Y.length*17) (Open.put (HO.out.at rfl) (by show(j+1)*17+17≤_;omega)) (by omega)
      have Du:Hid (kX g X ((Y.set (j+1) z).set j x) w (putRow (putRow w2.drew g ((j+1)*17) (ae z.1 z.2)) g (j*17) (ae x.1 x.2))):=HS2.out w2 hb2
      clear hr1 hr0 HS2 hN1 hN0 HO
      refine T3.UT (·=g) (But.refl _ w2) (by kernel_rfl) (by kernel_rfl) ?_
      repeat (first|(refine T3.ax (by rfl) ?_)|(refine T3.aI (by rfl) (by rfl) (fun K hK=>?_);go_big_quiet_op;refine hK _ ?_;clear hK K)|(refine T3.AL (by rfl) (by rfl) (fun K hK=>?_);go_wp2_with fail))
      refine T3.aK (by rfl) (by rfl) (fun K hK=>?_)
      go_wp2_with fail
      have HB1:=Lib.hid (But.put (g:=g) (o:=(j+1)*17) (cs:=ae z.1 z.2) (S:=(·=g)) (But.refl _ w2).drew rfl)
      generalize putRow w2.drew g ((j+1)*17) (ae z.1 z.2)=V at *
      refine hK _ _ (dw HB1.out) ?_
      clear hK K
      repeat (first|(refine T3.ax (by rfl) ?_)|(refine T3.aI (by rfl) (by rfl) (fun K hK=>?_);go_big_quiet_op;refine hK _ ?_;clear hK K)|(refine T3.AL (by rfl) (by rfl) (fun K hK=>?_);go_wp2_with fail))
      refine T3.aK (by rfl) (by rfl) (fun K hK=>?_)
      go_wp2_with fail
      have HB2:=Lib.hid (But.put (g:=g) (o:=j*17) (cs:=ae x.1 x.2) HB1.out rfl)
      generalize putRow V g (j*17) (ae x.1 x.2)=U at *
      refine hK _ _ (dw HB2.out) ?_
      clear hK K
      repeat (first|(refine T3.ax (by rfl) ?_)|(refine T3.aI (by rfl) (by rfl) (fun K hK=>?_);go_big_quiet_op;refine hK _ ?_;clear hK K)|(refine T3.AL (by rfl) (by rfl) (fun K hK=>?_);go_wp2_with fail))
      refine T3.bV ?_
      go_wp2_with fail
      go_roundw
      case rel=>exact⟨j,(Y.set (j+1) z).set j x,by omega,rfl,Du,pg⟩
      case measure=>simp[intOf]
     ·have HZ:=Lib.hid (UN KA hM.out hjl ((hS.out.perm.map eY).nodup_iff.2 HD.out) hc)
      generalize Y[j+1]=x at *
      generalize Y[j]=z at *
      go_wp2_with fail
      refine dM (Below.refl _ wr) (by kernel_rfl) (by kernel_rfl) ?_
      repeat (go_big_quiet_step ((go_at_call 113;rename_i xw;exact Calls.gz (UL _ _ _ _ _ (hN1.out _ xw.b) (hN0.out _ xw.b)))))
      refine wpQuiet_nil ?_
      intro w2 hb2
      have HS2:=Lib.hid (hS.out.step hb2)
      go_wp2_with fail
      go_roundw
      case rel=>exact⟨i+1,Y,by omega,by omega,by go_num,HS2.out,HZ.out⟩
      case measure=>simp[intOf];omega
  ·have hki:¬(i:Int)<(X.length:Int):=by omega
   go_wp2_with fail
   go_end0
   exact⟨rfl,Y,hS.out,by have:=hso.out;rwa[List.take_of_length_le (by rw[HL.out];omega)]at this⟩
end Go.Proofs.YtfieenjdcpjmgaaGreatDoor
