/- A part of the proof. -/
import Derived.Test.YtpfifochimkpfaaGreatDoorA17
import Derived.Test.YtpfifochimkpfaaGreatDoorA18
import Derived.Test.YtpfifochimkpfaaGreatDoorA14
import Derived.Test.YtpfifochimkpfaaGreatDoorA16
import Derived.Test.YtpfifochimkpfaaGreatDoorA11
import Derived.Test.YtpfifochimkpfaaGreatDoorA08
import Derived.Test.YtpfifochimkpfaaGreatDoorA13
set_option maxRecDepth 100000
set_option maxHeartbeats 4000000
namespace Go.WW
def zg(L:List (ByteArray×ByteArray))(k o:ByteArray):List (ByteArray×ByteArray):=if L.any (fun x=>decide (x.1=k))=true then L.map (fun x=>if x.1=k then(k,o)else x)else L++[(k,o)]
def delS(L:List (ByteArray×ByteArray))(k:ByteArray):List (ByteArray×ByteArray):=L.filter fun x=>decide (x.1≠k)
theorem agT(L:List (ByteArray×ByteArray))(k o:ByteArray):ou (ed L) k (.string o)=ed (zg L k o):=by
 have h:hasK (ed L) k=L.any (fun x=>decide (x.1=k)):=by
  unfold hasK ed;rw[List.any_map];rfl
 unfold ou zg
 rw[h]
 unfold ed
 split
 ·rw[List.map_map,List.map_map]
  refine List.map_congr_left fun x _=>?_
  simp only[Function.comp]
  split<;>rfl
 ·simp
theorem agU(L:List (ByteArray×ByteArray))(k:ByteArray):mi (ed L) k=ed (delS L k):=by
 unfold mi delS ed
 rw[List.filter_map]
 rfl
def zh(L:List (ByteArray×ByteArray))(k:ByteArray)(ps:List aH):List (ByteArray×ByteArray):=ps.foldl (fun m p=>zg m (textOf p) k) L
def xC(L:List (ByteArray×ByteArray))(ps:List aH):List (ByteArray×ByteArray):=ps.foldl (fun m p=>delS m (textOf p)) L
theorem UU(k:ByteArray):∀(ps:List aH) (L:List (ByteArray×ByteArray)),rC (ed L) k ps=ed (zh L k ps)
 | [],_=>rfl
 |p::ps,L=>by
  show rC (ou (ed L) (textOf p) (.string k)) k ps=ed (zh (zg L (textOf p) k) k ps)
  rw[agT];exact UU k ps _
theorem UW:∀(ps:List aH) (L:List (ByteArray×ByteArray)),vM (ed L) ps=ed (xC L ps)
 | [],_=>rfl
 |p::ps,L=>by
  show vM (mi (ed L) (textOf p)) ps=ed (xC (delS L (textOf p)) ps)
  rw[agU];exact UW ps _
theorem agV{L:List (ByteArray×ByteArray)}{j k o:ByteArray}:(k,o)∈delS L j↔k≠j∧(k,o)∈L:=by
 unfold delS
 rw[List.mem_filter]
 simp only[ne_eq,decide_not,Bool.not_eq_eq_eq_not,Bool.not_true,decide_eq_false_iff_not]
 exact And.comm
theorem agW{L:List (ByteArray×ByteArray)}{j v k o:ByteArray}:(k,o)∈zg L j v↔(k=j∧o=v)∨(k≠j∧(k,o)∈L):=by
 unfold zg
 by_cases h:L.any (fun x=>decide (x.1=j))=true
 ·rw[if_pos h]
  obtain⟨x0,hx0,e0⟩:=List.any_eq_true.1 h
  have e0:x0.1=j:=by simpa using e0
  constructor
  ·intro hm
   obtain⟨x,hx,e⟩:=List.mem_map.1 hm
   by_cases hj:x.1=j
   ·rw[if_pos hj]at e;cases e;exact .inl ⟨rfl,rfl⟩
   ·rw[if_neg hj]at e;subst e;exact .inr ⟨hj,hx⟩
  ·rintro(⟨rfl,rfl⟩|⟨h1,h2⟩)
   ·exact List.mem_map.2 ⟨x0,hx0,by rw[if_pos e0]⟩
   ·exact List.mem_map.2 ⟨(k,o),h2,by rw[if_neg h1]⟩
 ·rw[if_neg h]
  have hn:∀x∈L,¬x.1=j:=fun x hx e=>h (List.any_eq_true.2 ⟨x,hx,by simpa using e⟩)
  constructor
  ·intro hm
   rcases List.mem_append.1 hm with h1|h1
   ·exact .inr ⟨hn _ h1,h1⟩
   ·simp only[List.mem_singleton,Prod.mk.injEq]at h1;exact .inl h1
  ·rintro(⟨rfl,rfl⟩|⟨h1,h2⟩)
   ·simp
   ·exact List.mem_append_left _ h2
theorem UX{k o:ByteArray}:∀(ps:List aH) (L:List (ByteArray×ByteArray)),(k,o)∈xC L ps↔(∀q∈ps,k≠textOf q)∧(k,o)∈L
 | [],L=>by simp[xC]
 |p::ps,L=>by
  show(k,o)∈xC (delS L (textOf p)) ps↔_
  rw[UX ps,agV]
  constructor
  ·rintro⟨h1,h2,h3⟩
   exact⟨fun q hq=>by rcases List.mem_cons.1 hq with rfl|hq<;>first|exact h2|exact h1 q hq,h3⟩
  ·rintro⟨h1,h2⟩
   exact⟨fun q hq=>h1 q (List.mem_cons_of_mem _ hq),h1 p (List.mem_cons_self ..),h2⟩
theorem UY{v k o:ByteArray}:∀(ps:List aH) (L:List (ByteArray×ByteArray)),(k,o)∈zh L v ps↔(o=v∧∃q∈ps,k=textOf q)∨((∀q∈ps,k≠textOf q)∧(k,o)∈L)
 | [],L=>by simp[zh]
 |p::ps,L=>by
  show(k,o)∈zh (zg L (textOf p) v) v ps↔_
  rw[UY ps,agW]
  constructor
  ·rintro(⟨h1,q,hq,h2⟩|⟨h1,(⟨h2,h3⟩|⟨h2,h3⟩)⟩)
   ·exact .inl ⟨h1,q,List.mem_cons_of_mem _ hq,h2⟩
   ·exact .inl ⟨h3,p,List.mem_cons_self ..,h2⟩
   ·exact .inr ⟨fun q hq=>by rcases List.mem_cons.1 hq with rfl|hq<;>first|exact h2|exact h1 q hq,h3⟩
  ·rintro(⟨h1,q,hq,h2⟩|⟨h1,h2⟩)
   ·by_cases hp:∃q∈ps,k=textOf q
    ·exact .inl ⟨h1,hp⟩
    ·have hn:∀q∈ps,k≠textOf q:=fun q hq e=>hp ⟨q,hq,e⟩
     rcases List.mem_cons.1 hq with rfl|hq
     ·exact .inr ⟨hn,.inl ⟨h2,h1⟩⟩
     ·exact absurd h2 (hn q hq)
   ·exact .inr ⟨fun q hq=>h1 q (List.mem_cons_of_mem _ hq),.inr ⟨h1 p (List.mem_cons_self ..),h2⟩⟩
theorem GM{β:Type}{l:List β}(h:l.Nodup){i j:Nat}(hi:i<l.length)(hj:j<l.length)(e:l[i]=l[j]):i=j:=by
 rcases Nat.lt_trichotomy i j with h1|h1|h1
 ·exact absurd e (List.pairwise_iff_getElem.1 h i j hi hj h1)
 ·exact h1
 ·exact absurd e.symm (List.pairwise_iff_getElem.1 h j i hj hi h1)
def jq(d:Entry):List aH:=d.name::d.aliases
def vS(NL:List (ByteArray×ByteArray))(E:List Entry):Prop:=∀k o,(k,o)∈NL↔∃x∈E,textOf x.name=o∧∃q∈jq x,k=textOf q
structure iR(E:List Entry):Prop where
 ok:∀x∈E,bI x=true
 nodup:(E.map fun x=>textOf x.name).Nodup
 apart:∀x∈E,∀y∈E,∀q∈jq x,∀q'∈jq y,textOf q=textOf q'→textOf x.name=textOf y.name
theorem iR.nil:iR []:=⟨by simp,by simp,by simp⟩
theorem iR.perm{E F:List Entry}(h:iR E)(p:F.Perm E):iR F:=
 ⟨fun x hx=>h.ok x (p.mem_iff.1 hx),(p.map _).nodup_iff.2 h.nodup,fun x hx y hy=>h.apart x (p.mem_iff.1 hx) y (p.mem_iff.1 hy)⟩
theorem iR.same{E:List Entry}(h:iR E){x y:Entry}(hx:x∈E)(hy:y∈E)(e:textOf x.name=textOf y.name):x=y:=by
 obtain⟨i,hi,rfl⟩:=List.mem_iff_getElem.1 hx
 obtain⟨j,hj,rfl⟩:=List.mem_iff_getElem.1 hy
 obtain rfl:=GM h.nodup (i:=i) (j:=j) (by simpa using hi) (by simpa using hj) (by simpa using e)
 rfl
theorem agX{l:List aH}(h:different l=true):∀q∈l,aZ q=true:=by
 intro q hq
 obtain⟨i,hi,rfl⟩:=List.mem_iff_getElem.1 hq
 cases hp:aZ l[i]with
 |true=>rfl
 |false=>rw[QX i hi hp]at h;cases h
theorem xE{d:Entry}(h:bI d=true):∀q∈jq d,aZ q=true:=by
 simp only[bI,Bool.and_eq_true]at h
 obtain⟨⟨⟨⟨⟨⟨⟨⟨⟨h1,h2⟩,-⟩,-⟩,-⟩,-⟩,-⟩,-⟩,-⟩,-⟩:=h
 intro q hq
 rcases List.mem_cons.1 hq with rfl|hq
 ·exact h1
 ·exact agX h2 q hq
def kX(E:List Entry)(k:ByteArray):List Entry:=E.filter fun x=>decide (textOf x.name≠k)
theorem UZ{E:List Entry}{k:ByteArray}(h:∀x∈E,textOf x.name≠k):kX E k=E:=List.filter_eq_self.2 fun x hx=>by simpa using h x hx
theorem GN{E:List Entry}{k:ByteArray}{x:Entry}:x∈kX E k↔x∈E∧textOf x.name≠k:=by simp[kX]
theorem U0{NL:List (ByteArray×ByteArray)}{E:List Entry}(h:vS NL E)(hg:iR E){x0:Entry}(hx:x0∈E):vS (xC NL (jq x0)) (kX E (textOf x0.name)):=by
 intro k o
 rw[UX,h k o]
 constructor
 ·rintro⟨h1,x,lW,h2,q,hq,h3⟩
  refine⟨x,GN.2 ⟨lW,fun e=>?_⟩,h2,q,hq,h3⟩
  rw[hg.same lW hx e]at hq
  exact h1 q hq h3
 ·rintro⟨x,lW,h2,q,hq,h3⟩
  obtain⟨lW,hne⟩:=GN.1 lW
  exact⟨fun q' hq' e=>hne (hg.apart x lW x0 hx q hq q' hq' (h3.symm.trans e)),x,lW,h2,q,hq,h3⟩
theorem agY{NL zi:List (ByteArray×ByteArray)}{E E1:List Entry}{d:Entry}(h:vS NL E)(h1:vS zi E1)(hE:∀x∈E1,x∈E∧textOf x.name≠textOf d.name)(hf:tY NL (textOf d.name) (jq d)) :
  vS (zh zi (textOf d.name) (jq d)) (E1++[d]):=by
 intro k o
 rw[UY,h1 k o]
 constructor
 ·rintro(⟨rfl,q,hq,rfl⟩|⟨h2,x,hx,h3⟩)
  ·exact⟨d,by simp,rfl,q,hq,rfl⟩
  ·exact⟨x,List.mem_append_left _ hx,h3⟩
 ·rintro⟨x,hx,rfl,q,hq,rfl⟩
  rcases List.mem_append.1 hx with hx|hx
  ·refine .inr ⟨fun q' hq' e=>?_,x,hx,rfl,q,hq,rfl⟩
   have hm:(textOf q',textOf x.name)∈NL:=(h _ _).2 ⟨x,(hE x hx).1,rfl,q,hq,e.symm⟩
   exact(hE x hx).2 (hf q' hq' _ hm)
  ·simp only[List.mem_singleton]at hx
   subst hx
   exact .inl ⟨rfl,q,hq,rfl⟩
theorem agZ{NL:List (ByteArray×ByteArray)}{E E1:List Entry}{d:Entry}(h:vS NL E)(hg:iR E)(hv:bI d=true)(hE:∀x∈E1,x∈E∧textOf x.name≠textOf d.name)(hn:(E1.map fun x=>textOf x.name).Nodup)(hf:tY NL (textOf d.name) (jq d)):iR (E1++[d]):=by
 have key:∀x∈E1,∀q∈jq x,∀q'∈jq d,textOf q=textOf q'→False:=fun x hx q hq q' hq' e=>by
  have hm:(textOf q',textOf x.name)∈NL:=(h _ _).2 ⟨x,(hE x hx).1,rfl,q,hq,e.symm⟩
  exact(hE x hx).2 (hf q' hq' _ hm)
 refine⟨fun x hx=>?_,?_,fun x hx y hy q hq q' hq' e=>?_⟩
 ·rcases List.mem_append.1 hx with hx|hx
  ·exact hg.ok x (hE x hx).1
  ·simp only[List.mem_singleton]at hx;subst hx;exact hv
 ·rw[List.map_append]
  refine List.nodup_append.2 ⟨hn,by simp,?_⟩
  intro a ha c hc e
  simp only[List.map_cons,List.map_nil,List.mem_singleton]at hc
  obtain⟨x,hx,rfl⟩:=List.mem_map.1 ha
  exact(hE x hx).2 (e.trans hc)
 ·rcases List.mem_append.1 hx with hx1|hx1<;>rcases List.mem_append.1 hy with hy1|hy1
  ·exact hg.apart x (hE x hx1).1 y (hE y hy1).1 q hq q' hq' e
  ·simp only[List.mem_singleton]at hy1;subst hy1
   exact(key x hx1 q hq q' hq' e).elim
  ·simp only[List.mem_singleton]at hx1;subst hx1
   exact(key y hy1 q' hq' q hq e.symm).elim
  ·simp only[List.mem_singleton]at hx1 hy1;rw[hx1,hy1]
theorem GR{p q:aH}(hp:aZ p=true)(hq:aZ q=true):bD p q=true↔textOf p=textOf q:=(JZ (tJ hp) (tJ hq)).symm
theorem U4{x d:Entry}(hx:bI x=true)(hd:bI d=true):jC x d=true↔∃q∈jq x,∃q'∈jq d,textOf q=textOf q':=by
 have qi:=xE hx
 have hdn:=xE hd
 have one:∀p∈jq d,(mD x p=true↔∃q∈jq x,textOf q=textOf p):=fun p hp=>by
  unfold mD
  rw[Bool.or_eq_true,List.any_eq_true]
  constructor
  ·rintro(⟨q,hq,e⟩|e)
   ·exact⟨q,List.mem_cons_of_mem _ hq,(GR (qi q (List.mem_cons_of_mem _ hq)) (hdn p hp)).1 e⟩
   ·exact⟨x.name,List.mem_cons_self ..,(GR (qi _ (List.mem_cons_self ..)) (hdn p hp)).1 e⟩
  ·rintro⟨q,hq,e⟩
   have e':=(GR (qi q hq) (hdn p hp)).2 e
   rcases List.mem_cons.1 hq with rfl|hq
   ·exact .inr e'
   ·exact .inl ⟨q,hq,e'⟩
 unfold jC
 rw[Bool.or_eq_true,List.any_eq_true]
 constructor
 ·rintro(h|⟨p,hp,h⟩)
  ·obtain⟨q,hq,e⟩:=(one _ (List.mem_cons_self ..)).1 h
   exact⟨q,hq,_,List.mem_cons_self ..,e⟩
  ·obtain⟨q,hq,e⟩:=(one p (List.mem_cons_of_mem _ hp)).1 h
   exact⟨q,hq,p,List.mem_cons_of_mem _ hp,e⟩
 ·rintro⟨q,hq,p,hp,e⟩
  have:=(one p hp).2 ⟨q,hq,e⟩
  rcases List.mem_cons.1 hp with rfl|hp
  ·exact .inl this
  ·exact .inr ⟨p,hp,this⟩
theorem U5{NL:List (ByteArray×ByteArray)}{E:List Entry}{d:Entry}(h:vS NL E)(hg:iR E)(hd:bI d=true):Gx NL d↔∃x∈E,jC x d=true∧textOf x.name≠textOf d.name:=by
 constructor
 ·rintro⟨q,hq,o,hm,hne⟩
  obtain⟨x,hx,rfl,q',hq',e⟩:=(h _ _).1 hm
  exact⟨x,hx,(U4 (hg.ok x hx) hd).2 ⟨q',hq',q,hq,e.symm⟩,hne⟩
 ·rintro⟨x,hx,hb,hne⟩
  obtain⟨q,hq,q',hq',e⟩:=(U4 (hg.ok x hx) hd).1 hb
  exact⟨q',hq',textOf x.name,(h _ _).2 ⟨x,hx,rfl,q,hq,e.symm⟩,hne⟩
theorem LU{NL:List (ByteArray×ByteArray)}{d:Entry}:tY NL (textOf d.name) (jq d)↔¬Gx NL d:=by
 constructor
 ·rintro h ⟨q,hq,o,hm,hne⟩
  exact hne (h q hq o hm)
 ·intro h q hq o hm
  exact Classical.byContradiction fun hne=>h ⟨q,hq,o,hm,hne⟩
theorem U6{E:List Entry}(hg:iR E){d:Entry}(hd:bI d=true) :
  (idxOf (fun z=>bD z.name d.name) E=-1∧∀x∈E,textOf x.name≠textOf d.name)∨
  ∃i,∃hi:i<E.length,idxOf (fun z=>bD z.name d.name) E=(i:Int)∧textOf E[i].name=textOf d.name:=by
 have st:∀x∈E,(bD x.name d.name=true↔textOf x.name=textOf d.name):=fun x hx=>GR (xE (hg.ok x hx) _ (List.mem_cons_self ..)) (xE hd _ (List.mem_cons_self ..))
 unfold idxOf
 cases hf:E.findIdx? (fun z=>bD z.name d.name)with
 |none=>
  refine .inl ⟨rfl,fun x hx e=>?_⟩
  have:=(List.findIdx?_eq_none_iff.1 hf) x hx
  rw[(st x hx).2 e]at this;cases this
 |some i=>
  obtain⟨hi,h1,-⟩:=List.findIdx?_eq_some_iff_getElem.1 hf
  exact .inr ⟨i,hi,rfl,(st _ (List.getElem_mem hi)).1 h1⟩
theorem U7{E:List Entry}(hn:(E.map fun x=>textOf x.name).Nodup){i:Nat}(hi:i<E.length):E.eraseIdx i=kX E (textOf E[i].name):=by
 induction E generalizing i with
 |nil=>simp at hi
 |cons x E ih=>
  simp only[List.map_cons,List.nodup_cons]at hn
  cases i with
  |zero=>
   have:kX (x::E) (textOf x.name)=E:=by
    unfold kX
    rw[List.filter_cons_of_neg (by simp)]
    exact List.filter_eq_self.2 fun y hy=>by
     have:¬textOf y.name=textOf x.name:=fun e=>hn.1 (List.mem_map.2 ⟨y,hy,e⟩)
     simp[this]
   simpa using this.symm
  |succ i=>
   have hi':i<E.length:=by simpa using hi
   have hne:¬textOf x.name=textOf E[i].name:=fun e=>hn.1 (List.mem_map.2 ⟨E[i],List.getElem_mem hi',e.symm⟩)
   simp only[List.eraseIdx_cons_succ,List.getElem_cons_succ]
   rw[ih hn.2 hi']
   unfold kX
   rw[List.filter_cons_of_pos (by simp[hne])]
theorem DI{E:List Entry}(hg:iR E){i j:Nat}(hi:i<E.length)(hj:j<E.length)(e:textOf E[i].name=textOf E[j].name):i=j:=by
 exact GM hg.nodup (i:=i) (j:=j) (by simpa using hi) (by simpa using hj) (by simpa using e)
theorem ag0(f:Nat→Prop):∀n,(∃i,i<n∧f i)→∃i,i<n∧f i∧∀j,j<i→¬f j:=by
 intro n
 induction n with
 |zero=>rintro⟨i,h,_⟩;omega
 |succ n ih=>
  rintro⟨i,h,hf⟩
  by_cases hn:∃i,i<n∧f i
  ·obtain⟨j,h1,h2,h3⟩:=ih hn
   exact⟨j,by omega,h2,h3⟩
  ·exact⟨i,h,hf,fun j hj hfj=>hn ⟨j,by omega,hfj⟩⟩
inductive ag1(E:List Entry)(d:Entry):Prop where
 |busy (at0:Int) (jb:Nat) (h:jb<E.length) (hat:idxOf (fun z=>bD z.name d.name) E=at0) (hb:jC E[jb] d=true) (hpre:∀i (h:i<E.length),i<jb→jC E[i] d=true→(i:Int)=at0) (hn:¬(jb:Int)=at0) (hx:∃x∈E,jC x d=true∧textOf x.name≠textOf d.name)
 |new (hat:idxOf (fun z=>bD z.name d.name) E=-1) (hnb:∀i (h:i<E.length),jC E[i] d=true→(i:Int)=-1) (hno:∀x∈E,textOf x.name≠textOf d.name) (hx:∀x∈E,jC x d=true→textOf x.name=textOf d.name)
 |old (i0:Nat) (h:i0<E.length) (hat:idxOf (fun z=>bD z.name d.name) E=(i0:Int)) (hnb:∀i (h:i<E.length),jC E[i] d=true→(i:Int)=(i0:Int)) (he:textOf E[i0].name=textOf d.name) (hx:∀x∈E,jC x d=true→textOf x.name=textOf d.name)
theorem ag2{E:List Entry}(hg:iR E){d:Entry}(hd:bI d=true):ag1 E d:=by
 by_cases hx:∃x∈E,jC x d=true∧textOf x.name≠textOf d.name
 ·have hat:∃at0:Int,idxOf (fun z=>bD z.name d.name) E=at0∧∀i (h:i<E.length),((i:Int)=at0↔textOf E[i].name=textOf d.name):=by
   rcases U6 hg hd with⟨h1,h2⟩|⟨i0,hi0,h1,h2⟩
   ·exact⟨-1,h1,fun i hi=>⟨fun e=>by omega,fun e=>absurd e (h2 _ (List.getElem_mem hi))⟩⟩
   ·refine⟨i0,h1,fun i hi=>⟨fun e=>?_,fun e=>?_⟩⟩
    ·obtain rfl:i=i0:=by omega
     exact h2
    ·rw[DI hg hi hi0 (e.trans h2.symm)]
  obtain⟨at0,h1,h2⟩:=hat
  obtain⟨x,lW,hxb,qi⟩:=hx
  obtain⟨j,hj,rfl⟩:=List.mem_iff_getElem.1 lW
  obtain⟨jb,hjb,⟨hl,hb,hne⟩,hpre⟩:=ag0 (fun i=>∃h:i<E.length,jC E[i] d=true∧¬(i:Int)=at0) E.length ⟨j,hj,hj,hxb,fun e=>qi ((h2 j hj).1 e)⟩
  exact .busy at0 jb hl h1 hb (fun i hi hij hbi=>Classical.byContradiction fun hn=>hpre i hij ⟨hi,hbi,hn⟩) hne ⟨E[j],List.getElem_mem hj,hxb,qi⟩
 ·have hx':∀x∈E,jC x d=true→textOf x.name=textOf d.name:=fun x lW hb=>Classical.byContradiction fun hn=>hx ⟨x,lW,hb,hn⟩
  rcases U6 hg hd with⟨h1,h2⟩|⟨i0,hi0,h1,h2⟩
  ·exact .new h1 (fun i hi hb=>absurd (hx' _ (List.getElem_mem hi) hb) (h2 _ (List.getElem_mem hi))) h2 hx'
  ·refine .old i0 hi0 h1 (fun i hi hb=>?_) h2 hx'
   rw[DI hg hi hi0 ((hx' _ (List.getElem_mem hi) hb).trans h2.symm)]
def lX(at_:Int):Nat→List ah→List ah
 |_,[]=>[]
 |k,q::l=>(if(k:Int) != at_ then [q]else [])++lX at_ (k+1) l
theorem zk(p:ah)(at_:Int):∀(l:List ah) (k:Nat) (dn:Bool),(fE p at_ k dn l).Perm ((if dn then []else [p])++lX at_ k l)
 | [],_,dn=>by cases dn<;>simp[fE,lX]
 |q::l,k,dn=>by
  unfold fE lX
  generalize (if(k:Int) != at_ then [q]else [])=M
  cases dn with
  |true=>
   have:=zk p at_ l (k+1) true
   simpa using this.append_left M
  |false=>
   cases qh p.name q.name with
   |true=>
    have:=zk p at_ l (k+1) true
    simpa using this.append_left M
   |false=>
    have:=(zk p at_ l (k+1) false).append_left M
    simp only[Bool.not_false,Bool.true_and,Bool.or_false,Bool.false_eq_true,if_false,List.nil_append]at this ⊢
    exact this.trans (by simp)
theorem LW:∀(l:List ah) (k:Nat),lX (-1) k l=l
 | [],_=>rfl
 |q::l,k=>by
  unfold lX
  rw[LW l (k+1)]
  have:((k:Int) != -1)=true:=by simp
  rw[this];rfl
theorem U8:∀(l:List ah) (k:Nat) (at_:Int),at_<(k:Int)→lX at_ k l=l
 | [],_,_,_=>rfl
 |q::l,k,at_,h=>by
  unfold lX
  rw[U8 l (k+1) at_ (by omega)]
  have:((k:Int) != at_)=true:=by simp;omega
  rw[this];rfl
theorem LX:∀(l:List ah) (k i:Nat),lX ((k+i:Nat):Int) k l=l.eraseIdx i
 | [],_,_=>rfl
 |q::l,k,0=>by
  unfold lX
  rw[U8 l (k+1) _ (by omega)]
  simp
 |q::l,k,i+1=>by
  unfold lX
  have:=LX l (k+1) i
  rw[show k+1+i=k+(i+1) by omega]at this
  rw[this]
  have:((k:Int) != ((k+(i+1):Nat):Int))=true:=by simp;omega
  rw[this];rfl
theorem U9{α:Type}(f:α→ByteArray){E:List α}(hn:(E.map f).Nodup){i:Nat}(hi:i<E.length):E.eraseIdx i=E.filter fun x=>decide (f x≠f E[i]):=by
 induction E generalizing i with
 |nil=>simp at hi
 |cons x E ih=>
  simp only[List.map_cons,List.nodup_cons]at hn
  cases i with
  |zero=>
   simp only[List.eraseIdx_zero,List.tail_cons,List.getElem_cons_zero]
   rw[List.filter_cons_of_neg (by simp)]
   exact(List.filter_eq_self.2 fun y hy=>by
    have:¬f y=f x:=fun e=>hn.1 (List.mem_map.2 ⟨y,hy,e⟩)
    simp[this]).symm
  |succ i=>
   have hi':i<E.length:=by simpa using hi
   have hne:¬f x=f E[i]:=fun e=>hn.1 (List.mem_map.2 ⟨E[i],List.getElem_mem hi',e.symm⟩)
   simp only[List.eraseIdx_cons_succ,List.getElem_cons_succ]
   rw[ih hn.2 hi',List.filter_cons_of_pos (by simp[hne])]
theorem Va(q:ah):∀(P:List ah),(P.map (·.name)).Nodup→P.any (fun x=>decide (x.name=q.name))=true→(P.map (fun x=>if x.name=q.name then q else x)).Perm (q::P.filter fun x=>decide (x.name≠q.name))
 | [],_,h=>by simp at h
 |x::P,hn,h=>by
  simp only[List.map_cons,List.nodup_cons]at hn
  by_cases hx:x.name=q.name
  ·have h1:P.map (fun x=>if x.name=q.name then q else x)=P:=by
    conv=>rhs;rw[←List.map_id P]
    refine List.map_congr_left fun y hy=>?_
    have:¬y.name=q.name:=fun e=>hn.1 (List.mem_map.2 ⟨y,hy,e.trans hx.symm⟩)
    simp[this]
   have h2:(P.filter fun x=>decide (x.name≠q.name))=P:=List.filter_eq_self.2 fun y hy=>by
    have:¬y.name=q.name:=fun e=>hn.1 (List.mem_map.2 ⟨y,hy,e.trans hx.symm⟩)
    simp[this]
   rw[List.map_cons,h1,if_pos hx,List.filter_cons_of_neg (by simp[hx]),h2]
  ·have h':P.any (fun x=>decide (x.name=q.name))=true:=by simpa[hx]using h
   rw[List.map_cons,if_neg hx,List.filter_cons_of_pos (by simp[hx])]
   exact((Va q P hn.2 h').cons x).trans (List.Perm.swap _ _ _)
structure kY(P L:List ah):Prop where
 perm:P.Perm L
 nodup:(L.map (·.name)).Nodup
 ok:∀q∈L,dA q=true
theorem kY.nil:kY [] []:=⟨List.Perm.refl _,by simp,by simp⟩
theorem kY.any{P L:List ah}(h:kY P L)(k:ByteArray):P.any (fun x=>decide (x.name=k))=L.any (fun x=>decide (x.name=k)):=by
 rw[Bool.eq_iff_iff,List.any_eq_true,List.any_eq_true]
 exact⟨fun⟨x,hx,e⟩=>⟨x,h.perm.mem_iff.1 hx,e⟩,fun⟨x,hx,e⟩=>⟨x,h.perm.mem_iff.2 hx,e⟩⟩
theorem GU(L:List ah)(k:ByteArray):(idxOf (fun z=>decide (z.name=k)) L=-1∧L.any (fun x=>decide (x.name=k))=false)∨∃i,∃hi:i<L.length,idxOf (fun z=>decide (z.name=k)) L=(i:Int)∧L[i].name=k∧L.any (fun x=>decide (x.name=k))=true:=by
 unfold idxOf
 cases hf:L.findIdx? (fun z=>decide (z.name=k))with
 |none=>
  refine .inl ⟨rfl,?_⟩
  rw[List.any_eq_false]
  intro x hx
  have:=(List.findIdx?_eq_none_iff.1 hf) x hx
  simp[this]
 |some i=>
  obtain⟨hi,h1,-⟩:=List.findIdx?_eq_some_iff_getElem.1 hf
  exact .inr ⟨i,hi,rfl,by simpa using h1,List.any_eq_true.2 ⟨L[i],List.getElem_mem hi,h1⟩⟩
theorem kY.new{P L:List ah}(h:kY P L){q:ah}(hq:dA q=true)(hn:L.any (fun x=>decide (x.name=q.name))=false):kY (qf P q) (fE q (-1) 0 false L):=by
 have hp:=zk q (-1) L 0 false
 rw[LW]at hp
 have hpp:(fE q (-1) 0 false L).Perm (q::L):=hp
 have hset:qf P q=P++[q]:=by
  unfold qf
  rw[if_neg (by rw[h.any,hn];simp)]
 refine⟨?_,(hpp.map _).nodup_iff.2 ?_,fun x hx=>?_⟩
 ·rw[hset]
  exact(List.perm_append_singleton q P).trans ((h.perm.cons q).trans hpp.symm)
 ·rw[List.map_cons,List.nodup_cons]
  refine⟨fun hm=>?_,h.nodup⟩
  obtain⟨x,hx,e⟩:=List.mem_map.1 hm
  have:=List.any_eq_false.1 hn x hx
  simp[e]at this
 ·rcases List.mem_cons.1 (hpp.mem_iff.1 hx)with rfl|hx
  ·exact hq
  ·exact h.ok x hx
theorem kY.old{P L:List ah}(h:kY P L){q:ah}(hq:dA q=true){i:Nat}(hi:i<L.length)(hn:L[i].name=q.name):kY (qf P q) (fE q (i:Int) 0 false L):=by
 have hp:=zk q (i:Int) L 0 false
 have hr:=LX L 0 i
 rw[Nat.zero_add]at hr
 rw[hr,U9 (·.name) h.nodup hi,hn]at hp
 have hpp:(fE q (i:Int) 0 false L).Perm (q::L.filter fun x=>decide (x.name≠q.name)):=hp
 have ha:P.any (fun x=>decide (x.name=q.name))=true:=by rw[h.any];exact List.any_eq_true.2 ⟨L[i],List.getElem_mem hi,by simpa using hn⟩
 have hset:qf P q=P.map (fun x=>if x.name=q.name then q else x):=by
  unfold qf
  rw[if_pos ha]
 have GV:(P.map (·.name)).Nodup:=(h.perm.map _).nodup_iff.2 h.nodup
 refine⟨?_,(hpp.map _).nodup_iff.2 ?_,fun x hx=>?_⟩
 ·rw[hset]
  exact(Va q P GV ha).trans (((h.perm.filter _).cons q).trans hpp.symm)
 ·rw[List.map_cons,List.nodup_cons]
  refine⟨fun hm=>?_,(List.filter_sublist.map _).nodup h.nodup⟩
  obtain⟨x,hx,e⟩:=List.mem_map.1 hm
  have:=(List.mem_filter.1 hx).2
  simp[e]at this
 ·rcases List.mem_cons.1 (hpp.mem_iff.1 hx)with rfl|hx
  ·exact hq
  ·exact h.ok x (List.mem_filter.1 hx).1
end Go.WW
namespace Go.Proofs.YtpfifochimkpfaaGreatDoor
open Go.RowKit Go.WW
theorem LY(n:Nat)(hn:n≤12)(w:World):Calls Tryz.prog 218 #[.int .u64 (n:Int)] w fun e w'=>(∃k,e=.returned (.int .i64 k))∧w=w':=by
 have h:n=0∨n=1∨n=2∨n=3∨n=4∨n=5∨n=6∨n=7∨n=8∨n=9∨n=10∨n=11∨n=12:=by omega
 rcases h with rfl|rfl|rfl|rfl|rfl|rfl|rfl|rfl|rfl|rfl|rfl|rfl|rfl
 all_goals
  go_enter Tryz.func218,Tryz.ntmps218
  go_wp2
  go_ret
  exact⟨⟨_,rfl⟩,rfl⟩
theorem DJ(n:Nat)(hn:n≤12)(w:World):Calls Tryz.prog 181 #[.int .u64 (n:Int)] w fun e w'=>(∃k,e=.returned (.int .i64 k))∧w=w':=by
 go_enter Tryz.func181,Tryz.ntmps181
 go_wp2_with fail
 refine(LY n hn w).mono ?_
 rintro e w' ⟨⟨k,rfl⟩,rfl⟩
 dsimp only
 go_wp2_with fail
 go_ret
 exact⟨⟨_,rfl⟩,rfl⟩
theorem ag3(g cap:Nat)(X:List EE)(lm:Int)(w:World)(hn:X.length≤12)(hX:kV g X X w w)(hD:(X.map eH).Nodup)(hN:∀y,But (·=g) w y→∀x∈X,bK y x.1.parts x.2.name) :
  Calls Tryz.prog 187 #[.slice (some ⟨g,0,none⟩) X.length cap,.int .i64 0,.int .i64 X.length,.int .i64 lm,.func (.func 88) #[] #[]] w fun e w'=>e=.returned (.tuple #[])∧∃Y,kV g X Y w w'∧Sorted fB eH Y:=by
 have HI:=Lib.hid (afs g cap X w hn hX hD hN)
 clear hX hD hN
 have h12:(X.length:Int)≤12:=by omega
 go_enter Tryz.func187,Tryz.ntmps187
 go_wp2_with fail
 refine wp_loop_rounds 1 ?_
 rw[rounds_succ]
 go_wp2_with fail
 refine HI.out.mono ?_
 rintro e w' ⟨rfl,hY⟩
 dsimp only
 go_wp2_with fail
 refine bodyPost_ret (results_none rfl _ _ _) rfl ⟨rfl,hY⟩
theorem ag4(g cap:Nat)(X:List EE)(w:World)(hn:X.length≤12)(hX:kV g X X w w)(hD:(X.map eH).Nodup)(hN:∀y,But (·=g) w y→∀x∈X,bK y x.1.parts x.2.name) :
  Calls Tryz.prog 142 #[.slice (some ⟨g,0,none⟩) X.length cap,.func (.func 88) #[] #[]] w fun e w'=>e=.returned (.tuple #[])∧∃Y,kV g X Y w w'∧Sorted fB eH Y:=by
 have HI:=Lib.hid (fun lm=>ag3 g cap X lm w hn hX hD hN)
 clear hX hD hN
 go_enter Tryz.func142,Tryz.ntmps142
 go_wp2_with fail
 refine(DJ _ hn w).mono ?_
 rintro e w' ⟨⟨k,rfl⟩,rfl⟩
 dsimp only
 go_wp2_with fail
 refine(HI.out k).mono ?_
 rintro e w' ⟨rfl,hY⟩
 dsimp only
 go_wp2_with fail
 go_end0
 exact⟨rfl,hY⟩
theorem ag5(w:World):Calls Tryz.prog 225 #[.slice none 0 0,.int .i64 0,.int .i64 0,.func (.func 88) #[] #[]] w fun e w'=>e=.returned (.tuple #[])∧w=w':=by
 go_enter Tryz.func225,Tryz.ntmps225
 go_wp2_with fail
 refine wp_loop_rounds 1 ?_
 rw[rounds_succ]
 go_wp2_with fail
 go_end0
 exact⟨rfl,rfl⟩
theorem ag6(lm:Int)(w:World):Calls Tryz.prog 187 #[.slice none 0 0,.int .i64 0,.int .i64 0,.int .i64 lm,.func (.func 88) #[] #[]] w fun e w'=>e=.returned (.tuple #[])∧w=w':=by
 go_enter Tryz.func187,Tryz.ntmps187
 go_wp2_with fail
 refine wp_loop_rounds 1 ?_
 rw[rounds_succ]
 go_wp2_with fail
 refine(ag5 w).mono ?_
 rintro e w' ⟨rfl,rfl⟩
 dsimp only
 go_wp2_with fail
 refine bodyPost_ret (results_none rfl _ _ _) rfl ⟨rfl,rfl⟩
theorem ag7(w:World):Calls Tryz.prog 142 #[.slice none 0 0,.func (.func 88) #[] #[]] w fun e w'=>e=.returned (.tuple #[])∧w=w':=by
 go_enter Tryz.func142,Tryz.ntmps142
 go_wp2_with fail
 refine(DJ 0 (by omega) w).mono ?_
 rintro e w' ⟨⟨k,rfl⟩,rfl⟩
 dsimp only
 go_wp2_with fail
 refine(ag6 k w).mono ?_
 rintro e w' ⟨rfl,rfl⟩
 dsimp only
 go_wp2_with fail
 go_end0
 exact⟨rfl,rfl⟩
end Go.Proofs.YtpfifochimkpfaaGreatDoor
namespace Go.WW
open Go.RowKit
theorem Vb:12≤lim:=by simp[lim]
theorem DK{S:Nat→Prop}{w a b:World}(h:Below w.heap.size w a)(k:But S a b)(hS:∀j,S j→w.heap.size≤j):Below w.heap.size w b:=
 (((But.of_below (S:=fun _=>False) h)).past k hS).below (Nat.le_refl _) (fun _ hf=>hf.elim)
theorem gz.block{w x:World}{g:Nat}{Y:List EE}(h:gz w (some ⟨g,0,none⟩) Y)(e:x.heap[g]?=w.heap[g]?):gz x (some ⟨g,0,none⟩) Y:=by
 refine⟨h.1,fun i hi=>?_⟩
 obtain⟨b,o,cs,ha,hr,hy⟩:=h.2 i hi
 cases ha
 exact⟨g,0,cs,rfl,(fG e _ _).trans hr,hy⟩
theorem Own.open{w:World}{base:Nat}{e:TypeId}{s:Sl}{rows:List (Array Value)}{g:Nat}(h:Own w base e 17 s rows)(hg:s.a=some ⟨g,0,none⟩):Open w g (rows.length*17):=by
 rcases h.own.2 with⟨hv,_⟩|⟨g',cap,cur,hv,_,hh,hle,_,hsz,_⟩
 ·rw[hg]at hv;cases hv
 ·have ha:s.a=some ⟨g',0,none⟩:=by injection hv
  rw[hg]at ha;cases ha
  exact⟨cur,e,hh,by rw[hsz];exact Nat.mul_le_mul_right _ hle⟩
abbrev GX(E:List EE):List (ByteArray×Value):=E.map fun x=>(textOf x.2.name,Value.agg (cZ x))
end Go.WW
namespace Go.Proofs.YtpfifochimkpfaaGreatDoor
open Go.RowKit Go.WW
def Vd(E:List EE)(w:World)(z:Ending)(w':World):Prop:=∃(s:Sl) (Y:List EE),z=.returned (.slice s.a Y.length s.cap)∧Below w.heap.size w w'∧Y.Perm E∧Sorted fB eH Y∧bu w' (fresh w.heap.size w') (fun x=>gz x s.a Y)
theorem ag8(e:Nat)(E:List EE)(w:World)(hm:MapOf w e (GX E))(hn:E.length≤12)(hD:(E.map eH).Nodup)(hN:∀x∈E,aS w x.1 x.2) :
  Calls Tryz.prog 87 #[.map (some e),.func (.func 88) #[] #[]] w (Vd E w):=by
 obtain⟨w1,hrange,hit,hb1,hs1⟩:=P6 (P:=Tryz.prog) Tryz.underlying95 hm
 have HD:=Lib.hid hD
 have HN:=Lib.hid hN
 have hel:=hm.lt
 have hd0:(GX E).length=E.length:=by simp
 clear hD hN
 go_enter Tryz.func87,Tryz.ntmps87
 go_wp2_with fail
 clear hrange
 go_loopw [5] (fun lv wr=>∃(so:Sl) (T left:List EE),lv=.slice so.a T.length so.cap∧Hid (oz wr w.heap.size e (GX E) (GX left))∧Hid ((T++left).Perm E)∧Go.WW.Own wr w1.heap.size 44 17 so (T.map cZ)∧Below w.heap.size w wr∧w1.heap.size≤wr.heap.size∧(T=[]→so=⟨none,0⟩)) (fun lv _=>13-(match lv with | .slice _ k _=>k|_=>0))
 case atStart=>exact⟨⟨none,0⟩,[],E,rfl,hit,List.Perm.refl _,Go.WW.Own.nil _ _ _ _,hb1,Nat.le_refl _,fun _=>rfl⟩
 case round=>
  obtain⟨so,T,left,rfl,hI,hp,hO,hbr,o8,hnil⟩:=hrel
  have hlen:T.length+left.length=E.length:=by have:=hp.out.length_eq;simpa using this
  rcases P7 (P:=Tryz.prog) 0 hI.out with⟨hl0,hrun⟩|⟨l1,x,l2,w2,hl,hrun,hent,hI2,hb2,hs2⟩
  ·obtain rfl:left=[]:=by cases left<;>simp_all
   have xF:T.Perm E:=by simpa using hp.out
   rcases Nat.eq_zero_or_pos T.length with hT0|hT0
   ·obtain rfl:T=[]:=List.eq_nil_of_length_eq_zero hT0
    obtain rfl:=hnil rfl
    go_wp2_with fail
    refine(ag7 wr).mono ?_
    rintro z w' ⟨rfl,rfl⟩
    dsimp only
    go_wp2_with fail
    go_ret
    exact⟨⟨none,0⟩,[],rfl,hbr,xF,List.Pairwise.nil,fun x _=>⟨by simp[lim],fun i hi=>by simp at hi⟩⟩
   ·obtain⟨g,hga,hgb,hg0⟩:=hO.row 0 (by simpa using hT0)
    have hge:=hO.base hgb
    obtain⟨sa,sc⟩:=so
    obtain rfl:sa=some ⟨g,0,none⟩:=hga
    have DL:kV g T T wr wr:=⟨List.Perm.refl _,But.refl _ _,gz.iM hO (by have:=Vb;omega),by simpa using hO.open rfl⟩
    have HS:=Lib.hid (ag4 g sc T wr (by omega) DL ((xF.map eH).nodup_iff.2 HD.out) (fun y hy x hx=>(HN.out x (xF.mem_iff.1 hx)).name.later (DK hbr hy (fun j (hj:j=g)=>by omega))))
    clear DL
    go_wp2_with fail
    refine HS.out.mono ?_
    rintro z w' ⟨rfl,Y,hY,hso⟩
    dsimp only
    go_wp2_with fail
    have hbw:=DK hbr hY.but (fun j (hj:j=g)=>by omega)
    have GY:=hY.perm.length_eq
    have hg':g<w'.heap.size:=by have:=hY.but.size;omega
    go_ret
    exact⟨⟨some ⟨g,0,none⟩,sc⟩,Y,by rw[GY];rfl,hbw,hY.perm.trans xF,hso,fun x hx=>hY.rows.block (hx g ⟨by omega,hg'⟩)⟩
  ·obtain⟨L1,L',hL,e1,e2⟩:=List.map_eq_append_iff.1 hl
   obtain⟨y,L2,rfl,e3,e4⟩:=List.map_eq_cons_iff.1 e2
   subst e3 e1 e4 hL
   have hbw2:Below w.heap.size w w2:=DK hbr hb2 (fun j (hj:j=w.heap.size)=>by omega)
   have hown:Go.WW.Own ((w2.alloc (.cells (ae y.1 y.2) 44)).alloc (.cells (ae y.1 y.2) 44)) w1.heap.size 44 17 so (T.map cZ):=hO.kept fun g hg=>by
    have hgb:=hO.base hg
    rw[Below.heap_alloc _ _ _ (by simp;omega),Below.heap_alloc _ _ _ (by omega)]
    exact hb2.block g hgb.2 (show ¬g=w.heap.size by omega)
   have hrun':(Instr.next (.pointer (some ⟨w.heap.size,0,none⟩)) false 0).run Tryz.prog wr=.ok (.tuple #[.bool true,.string (textOf y.2.name),.agg (ae y.1 y.2)]) w2:=hrun
   have ag9:(Instr.entry (.pointer (some ⟨w.heap.size,0,none⟩))).run Tryz.prog w2=.ok (.tuple #[.string (textOf y.2.name),.agg (ae y.1 y.2)]) w2:=hent
   have hsrc:cO ((w2.alloc (.cells (ae y.1 y.2) 44)).alloc (.cells (ae y.1 y.2) 44)) 17 (some ⟨w2.heap.size+1,0,none⟩) [ae y.1 y.2]:=by
    have:=cO.new (w2.alloc (.cells (ae y.1 y.2) 44)) (ae y.1 y.2) 44 17 (by simp[go_sem]) (by simp[go_sem])
    rwa[World.size_alloc]at this
   have HS2:=Lib.hid hs2
   clear hrun hent hs2
   go_wp2_with (at_builtin;refine gW rfl (.tmp 14) (.tmp 16) _ rfl uZ (n:=T.length) (rows:=T.map cZ) (news:=[ae y.1 y.2]) rfl (by simp) hown rfl rfl hsrc (by rw[List.length_map];simp;omega) (by have:=HS2.out;simp;omega) ?_;intro s3 w3 hown3 hg3 iD)
   have hs2:=HS2.out
   have jY:Below w.heap.size w ((w2.alloc (.cells (ae y.1 y.2) 44)).alloc (.cells (ae y.1 y.2) 44)):=ay (ay hbw2 _) _
   have hb3:Below w.heap.size w w3:=jY.grown hg3 jY.size (fun g hg=>by have:=(hown.base hg).1;omega)
   have hs3:=hg3.size
   have hkp:∀k,k<w1.heap.size→w3.heap[k]?=w2.heap[k]?:=fun k hk=>by
    rw[hg3.block k (by simp;omega) (fun e=>by have:=(hown.base e.symm).1;omega),Below.heap_alloc _ _ _ (by simp;omega),Below.heap_alloc _ _ _ (by omega)]
   have HI3:=Lib.hid (hI2.at (hkp w.heap.size (by omega)) (hkp e (by omega)))
   have LZ:=Lib.hid (show((T++[y])++(L1++L2)).Perm E from List.Perm.trans (by simpa using List.perm_middle.symm.append_left T) hp.out)
   have L6:Go.WW.Own w3 w1.heap.size 44 17 s3 ((T++[y]).map cZ):=by rw[List.map_append];exact hown3
   have hsz3:w1.heap.size≤w3.heap.size:=by simp at hs3;omega
   have hTl:T.length+1≤12:=by simp at hlen;omega
   clear hown hown3 hg3 iD hI2 hb2 hbw2 hkp jY hs3 HS2 hs2
   go_wp2_with fail
   go_roundw
   case rel=>exact⟨s3,T++[y],L1++L2,by simp,by simpa[Hid]using HI3.out,LZ.out,L6,hb3,hsz3,by simp⟩
   case measure=>simp;omega
end Go.Proofs.YtpfifochimkpfaaGreatDoor
namespace Go.WW
open Go.RowKit
def anQ(S:Nat→Prop)(w:World)(_:Nat)(x:EE×Nat)(v:Array Value)(_ _:World):Prop:=v=#[.int .i64 x.2,.agg (cZ x.1)]∧∀y,But (Off S w) w y→aS y x.1.1 x.1.2
structure qj(y:World)(a:Option Addr)(Y:List EE):Prop where
 rows:gz y a Y
 each:∀x∈Y,aS y x.1 x.2
end Go.WW
namespace Go.Proofs.YtpfifochimkpfaaGreatDoor
open Go.RowKit Go.WW
theorem aha(b n e p:Nat)(re:ByteArray)(s:Int)(N:List (ByteArray×Value))(E:List EE)(P:List ah)(w:World)(h:dG w b n e p re s N E P)(hn:E.length≤12)(hD:(E.map eH).Nodup)(hN:∀x∈E,aS w x.1 x.2) :
  Calls Tryz.prog 52 #[.pointer (some ⟨b,0,none⟩)] w (Vd E w):=by
 obtain⟨c0,c1,c2,c3,c4,f1,hl⟩:=gm h.box
 have HI:=Lib.hid (ag8 e E w h.em hn hD hN)
 clear hD hN
 go_enter Tryz.func52,Tryz.ntmps52
 go_wp2_with fail
 refine HI.out.mono ?_
 rintro z w' ⟨sl,Y,rfl,hY⟩
 dsimp only
 go_wp2_with fail
 go_ret
 exact⟨sl,Y,rfl,hY⟩
attribute [local go_sem] Oper.semAt_some
end Go.Proofs.YtpfifochimkpfaaGreatDoor
namespace Go.WW
open Go.RowKit
def VE(_:Nat)(x:EE×Nat)(v:Array Value)(W0 W1:World):Prop:=∃r,v=#[.int .i64 x.2,.agg (ae r x.1.2)]∧bu W1 (fresh W0.heap.size W1) (fun y=>aS y r x.1.2)
end Go.WW
namespace Go.Proofs.YtpfifochimkpfaaGreatDoor
open Go.RowKit Go.WW
attribute [local go_sem] Oper.semAt_some
end Go.Proofs.YtpfifochimkpfaaGreatDoor
namespace Go.WW
open Go.RowKit
def pq:ah:=⟨⟨#[110,111,110,101]⟩,1,1,0,0,0,0,0,0,0⟩
theorem GZ:ak dE=#[.string ⟨#[]⟩,.int .i64 0,.int .i64 0,.int .i64 0,.int .i64 0,.int .i64 0,.int .i64 0,.int .i64 0,.int .i64 0,.int .i64 0]:=rfl
def iY(P:List ah)(d:Entry):ah:=if d.aP=⟨#[]⟩then pq else(P.find? (fun x=>decide (x.name=d.aP))).getD dE
end Go.WW
namespace Go.Proofs.YtpfifochimkpfaaGreatDoor
open Go.RowKit Go.WW
theorem ahb(ρ:Operand→Value)(dst:Option Tmp)(ty:TypeId)(pos:String)(after:Array Edge)(guard:Option (Nat×Bool)) :
  execOp ρ {dst,op:=.build 52 #[(0,.const (.string ⟨#[110,111,110,101]⟩)),(1,.const (.int .i64 1)),(2,.const (.int .i64 1))],type:=ty,pos,after,guard}=iI 52 #[(0,ρ (.const (.string ⟨#[110,111,110,101]⟩))),(1,ρ (.const (.int .i64 1))),(2,ρ (.const (.int .i64 1)))]:=by simp[execOp,iI]
theorem ahc(w:World):(iI 52 #[(0,.string ⟨#[110,111,110,101]⟩),(1,.int .i64 1),(2,.int .i64 1)]).run Tryz.prog w=.ok (.value (.agg (ak pq))) w:=by kernel_rfl
attribute [go_sem] ahc
attribute [go_sem ↓] ahb
theorem ahe(w:World):Calls Tryz.prog 77 #[] w fun z w'=>z=.returned (.agg (ak pq))∧Below w.heap.size w w':=by
 go_enter Tryz.func77,Tryz.ntmps77
 go_wp2_with fail
 have hrow:row? (w.alloc (.cells (ak pq) 52)) w.heap.size 0 10=some (ak pq):=by rw[EM rfl];exact gI (og pq)
 exact bodyPost_ret (xe (by rfl) Tryz.underlying52 rfl (by kernel_rfl) rfl hrow) rfl ⟨rfl,ay (Below.refl _ _) _⟩
theorem ahf(v:Value)(r:aK)(d:Entry)(w:World)(hp:d.aP=⟨#[]⟩):Calls Tryz.prog 37 #[v,.agg (ae r d)] w fun z w'=>z=.returned (.agg (ak pq))∧Below w.heap.size w w':=by
 have hB:Below w.heap.size w ((w.alloc (.cells (ae r d) 44)).alloc (.cells (ak dE) 52)):=ay ((Below.refl _ _).alloc (Nat.le_refl _) _) _
 have hx3:((w.alloc (.cells (ae r d) 44)).alloc (.cells (ak dE) 52)).heap[w.heap.size]?=some (.cells (ae r d) 44):=kS _ _ _
 have hz3:aX ((w.alloc (.cells (ae r d) 44)).alloc (.cells (ak dE) 52)) (w.heap.size+1) 0 10=true:=by simp[go_sem]
 have hc6:((w.alloc (.cells (ae r d) 44)).alloc (.cells (ak dE) 52)).cell? ⟨w.heap.size,6,none⟩=some (.string ⟨#[]⟩):=by rw[(ax hx3).1 6,BU,hp]
 have hl:w.heap.size+1<((w.alloc (.cells (ae r d) 44)).alloc (.cells (ak dE) 52)).heap.size:=by simp
 clear hx3
 rw[GZ]at hB hz3 hc6 hl
 go_enter Tryz.func37,Tryz.ntmps37
 go_wp2_with fail
 rw[←GZ]at *
 generalize ((w.alloc (.cells (ae r d) 44)).alloc (.cells (ak dE) 52))=W at *
 refine(ahe W).mono ?_
 rintro z w2 ⟨rfl,hb2⟩
 dsimp only
 have hz2:=(fD hb2 (w.heap.size+1) 0 10 hl).trans hz3
 go_wp2_with fail
 have hrow:=gJ (w:=w2) (og pq) hz2
 exact bodyPost_ret (xe (by rfl) Tryz.underlying52 rfl (by kernel_rfl) rfl hrow) rfl ⟨rfl,Go.WW.Below.putRow (ag hB hb2) (by omega)⟩
end Go.Proofs.YtpfifochimkpfaaGreatDoor
namespace Go.WW
theorem Ve{P:List ah}{d:Entry}(h:¬d.aP=⟨#[]⟩)(hp:P.any (fun x=>decide (x.name=d.aP))=true):iY P d∈P∧(iY P d).name=d.aP:=by
 unfold iY
 rw[if_neg h]
 obtain⟨x,hx,e⟩:=List.any_eq_true.1 hp
 cases hf:P.find? (fun x=>decide (x.name=d.aP))with
 |none=>exact absurd e (by simpa using List.find?_eq_none.1 hf x hx)
 |some y=>exact⟨List.mem_of_find?_eq_some hf,by simpa using List.find?_some hf⟩
theorem Vf{P:List ah}{d:Entry}(h:d.aP=⟨#[]⟩):iY P d=pq:=by
 unfold iY
 rw[if_pos h]
def jK(P:List ah)(d:Entry):Prop:=d.aP=⟨#[]⟩∨P.any (fun x=>decide (x.name=d.aP))=true
theorem Vg:dA pq=true:=by decide +kernel
theorem ahg{P:List ah}{d:Entry}(h:jK P d)(hP:∀q∈P,dA q=true):dA (iY P d)=true:=by
 by_cases he:d.aP=⟨#[]⟩
 ·rw[Vf he];exact Vg
 ·rcases h with h|h
  ·exact absurd h he
  ·exact hP _ (Ve he h).1
end Go.WW
namespace Go.Proofs.YtpfifochimkpfaaGreatDoor
open Go.RowKit Go.WW
theorem ahh(b n e p:Nat)(re:ByteArray)(s:Int)(N:List (ByteArray×Value))(E:List EE)(P:List ah)(r:aK)(d:Entry)(q:ah)(w:World)(h:dG w b n e p re s N E P)(hre:¬re=⟨#[]⟩)(hq:q∈P)(Ha:q.name=d.aP)(hne:¬d.aP=⟨#[]⟩):Calls Tryz.prog 37 #[.pointer (some ⟨b,0,none⟩),.agg (ae r d)] w fun z w'=>z=.returned (.agg (ak q))∧Below w.heap.size w w':=by
 have hB:Below w.heap.size w ((w.alloc (.cells (ae r d) 44)).alloc (.cells (ak dE) 52)):=ay ((Below.refl _ _).alloc (Nat.le_refl _) _) _
 have hx3:((w.alloc (.cells (ae r d) 44)).alloc (.cells (ak dE) 52)).heap[w.heap.size]?=some (.cells (ae r d) 44):=kS _ _ _
 have hz3:aX ((w.alloc (.cells (ae r d) 44)).alloc (.cells (ak dE) 52)) (w.heap.size+1) 0 10=true:=by simp[go_sem]
 have hc6:((w.alloc (.cells (ae r d) 44)).alloc (.cells (ak dE) 52)).cell? ⟨w.heap.size,6,none⟩=some (.string d.aP):=by rw[(ax hx3).1 6,BU]
 have hl:w.heap.size+1<((w.alloc (.cells (ae r d) 44)).alloc (.cells (ak dE) 52)).heap.size:=by simp
 have h0:=kJ _ _ hne
 have h1:¬d.aP.toList=[]:=fun h=>hne (toList_inj (b:=⟨#[]⟩) (by rw[h,ByteArray.toList_eq]))
 have h2:d.aP.toList.isEmpty=false:=by cases h:d.aP.toList<;>simp_all
 have hl0:w.heap.size<((w.alloc (.cells (ae r d) 44)).alloc (.cells (ak dE) 52)).heap.size:=by simp;omega
 have HC:=Lib.hid (afj b n e p re s N E P q _ (h.later hB) hre hq)
 clear hx3
 rw[GZ]at hB hz3 hc6 hl HC hl0
 rw[Ha]at HC
 go_enter Tryz.func37,Tryz.ntmps37
 go_wp2_with fail
 generalize ((w.alloc (.cells (ae r d) 44)).alloc (.cells #[.string ⟨#[]⟩,.int .i64 0,.int .i64 0,.int .i64 0,.int .i64 0,.int .i64 0,.int .i64 0,.int .i64 0,.int .i64 0,.int .i64 0] 52))=W at *
 refine HC.out.mono ?_
 rintro z w2 ⟨rfl,hb2⟩
 dsimp only
 have hz2:=(fD hb2 (w.heap.size+1) 0 10 hl).trans hz3
 have hl2:w.heap.size+1<w2.heap.size:=by have:=hb2.size;omega
 have hne2:w2.heap.size≠w.heap.size+1:=by omega
 go_wp2_with fail
 have hrow:=gJ (w:=w2.alloc (.cells (ak q) 52)) (og q) ((x9 hl2).trans hz2)
 exact bodyPost_ret (xe (by rfl) Tryz.underlying52 rfl (by kernel_rfl) rfl hrow) rfl ⟨rfl,Go.WW.Below.putRow ((ag hB hb2).alloc (ag hB hb2).size _) (by omega)⟩
theorem Vh(b n e p:Nat)(re:ByteArray)(s:Int)(N:List (ByteArray×Value))(E:List EE)(P:List ah)(r:aK)(d:Entry)(w:World)(h:dG w b n e p re s N E P)(hre:¬re=⟨#[]⟩)(hp:jK P d):Calls Tryz.prog 37 #[.pointer (some ⟨b,0,none⟩),.agg (ae r d)] w fun z w'=>z=.returned (.agg (ak (iY P d)))∧Below w.heap.size w w':=by
 by_cases he:d.aP=⟨#[]⟩
 ·rw[Vf he]
  exact ahf _ _ _ _ he
 ·rcases hp with hp|hp
  ·exact absurd hp he
  ·obtain⟨h1,h2⟩:=Ve he hp
   exact ahh b n e p re s N E P r d _ w h hre h1 h2 he
end Go.Proofs.YtpfifochimkpfaaGreatDoor
