/- A part of the proof. -/
import Derived.Test.YtibhckkjciflaaaGreatDoorA08
import Derived.Laws.Rows
import Derived.Lib.Join
namespace Go.aI
variable [O:dw]
open Go.RowKit
section
variable {E:Env} {P:Program} {B:Nat→Prop} {W0:World} {σ:Sg} {V:Nat→Prop} {h:MH} {w:World}
theorem ajt(hE:bT E P)(hW:∀k,B k→k<W0.heap.size){go:Task→MH→Option (MV×MH)}(hgo:oD E P B W0 go)(r:Option Nat){o:Oper}(hnd:∀c,o.op≠.defer c)
  (R:Rel E.G B W0 σ V h w) {ev:Ev} {a:Act} (hev:fB σ V ev a.eval) {v:MV} {h':MH} (ho:lG go h (fD E ev o.op h)=some (v,h'))
  {K:Act→World→Prop} {Q:Exit→Act→World→Prop}
  (hK:∀σ' V' w',dJ V σ σ'→(∀id,V id→V' id)→(∀id,V' id→V id∨h.nx≤id)→h.nx≤h'.nx→Rel E.G B W0 σ' V' h' w'→wf σ' V' v→K (a.put o.dst (ae σ' v)) w') :
  o.wpIn (fence r) 0 P a w K Q:=by
 unfold Oper.wpIn
 refine⟨fun f _=>vI r f,?_⟩
 rw[Oper.semAt_eq _ _ _ hnd]
 cases hm:fD E ev o.op h with
 |none=>rw[hm]at ho;cases ho
 |some res=>
  rw[hm]at ho
  cases res with
  |val u=>
   simp only[lG,Option.some.injEq,Prod.mk.injEq]at ho
   obtain⟨rfl,rfl⟩:=ho
   obtain⟨h1,h2⟩:=look_ok hE R hev o hm
   rw[h2,Oper.uponIn_value]
   exact hK σ V w (dJ.refl _ _) (fun _ hx=>hx) (fun _ hx=>.inl hx) (Nat.le_refl _) R h1
  |new k b=>
   simp only[lG,Option.some.injEq,Prod.mk.injEq]at ho
   obtain⟨rfl,rfl⟩:=ho
   have kE:¬V h.nx:=fun hv=>Nat.lt_irrefl _ (R.vx _ hv)
   obtain⟨obj,h1,h2,h3⟩:=MF hE hev o hm kE w
   rw[h1,Oper.uponIn_value]
   have hag:=oz (V:=V) σ ⟨w.heap.size,0,0⟩ kE
   exact hK _ _ _ hag (fun _ hx=>.inl hx) (fun _ hx=>hx.imp (fun x=>x) (fun e=>Nat.le_of_eq e.symm)) (Nat.le_succ _) (R.alloc (R.size hW) 0 0 h2) h3
  |upd u h1=>
   simp only[lG,Option.some.injEq,Prod.mk.injEq]at ho
   obtain⟨rfl,rfl⟩:=ho
   obtain⟨σ',V',w',g1,g2,g3,g4,g5,g6,g7⟩:=Vq hE R hW hev o hm
   have key:=hK σ' V' w' g1 g2 g3 g4 g5 g6
   rcases g7 with g7|⟨rfl,g7⟩
   ·rw[g7,Oper.uponIn_value];exact key
   ·rw[g7,Oper.uponIn_skip]
    exact key
  |enter f args=>
   simp only[lG]at ho
   obtain⟨F,hF,hb,hcall⟩:=hgo.1 f args h v h' ho
   obtain⟨-,h2,h3⟩:=Vr hE hev o hm w
   rw[h3 F hF hb,Oper.uponIn_enter]
   refine⟨fun hd=>(by rw[Dc]at hd;cases hd),MS ?_⟩
   refine(hcall σ V w R h2).mono ?_
   rintro e w' ⟨σ',V',g1,g2,g3,g4,g5,g6,rfl⟩
   exact hK σ' V' w' g1 g2 g3 g4 g5 g6
  |round l args=>
   simp only[lG]at ho
   obtain⟨h1,h2,h3⟩:=Vt hev o hm w
   obtain⟨f,tm,assign,body,hy,MW⟩:=hgo.2 l args h v h' ho σ V w R h1 h2
   rw[h3,hy,Oper.uponIn_round]
   refine⟨fun hd=>(by rw[Dc]at hd;cases hd),Vu ?_⟩
   refine MW.mono ?_
   rintro e w' ⟨σ',V',g1,g2,g3,g4,g5,g6,rfl⟩
   exact hK σ' V' w' g1 g2 g3 g4 g5 g6
structure nC(σ:Sg)(V:Nat→Prop)(Gs:List FL)(m:MA)(a:Act):Prop where
 size:a.tmps.size=m.nt
 cell:∀k v,m.tmps.get k=some v→(∃g∈Gs,g.p.o.dst=some k∧k<m.nt)∨wf σ V v∧a.tmps[k]?=some (ae σ v)
 df:a.defers=m.defs.map (vH σ)
 dv:∀d∈m.defs,V d
noncomputable def zV(m:MA)(G:GB)(l:List Tmp):Ev:=fun x=>match x with
 | .tmp t=>if t∈l then m.tmps.get t else none
 |x=>m.eval G x
omit O in
theorem Nr{m:MA}{ops:Array Oper}(o:Oper)(h:MH):fD E (zV m E.G (o.looksAt ops)) o.op h=fD E (m.eval E.G) o.op h:=by
 refine VB o.op fun x hx=>?_
 cases x with
 |tmp t=>simp only[zV,MA.eval];rw[if_pos (VG hx)]
 |const _=>rfl
 |global _=>rfl
 |func _=>rfl
theorem nC.zM{Gs:List FL}{m:MA}{a:Act}(T:nC σ V Gs m a)(R:Rel E.G B W0 σ V h w){l:List Tmp}(hl:∀g∈Gs,kD g.p.o.dst l=false):fB σ V (zV m E.G l) a.eval:=by
 intro x v hx
 cases x with
 |tmp t=>
  simp only[zV]at hx
  split at hx
  ·rename_i ht
   rcases T.cell t v hx with⟨g,hg,hd,-⟩|⟨h1,h2⟩
   ·exact absurd ht (GR (hl g hg) t hd)
   ·refine⟨h1,?_⟩
    show a.tmps.getD t undef=_
    rw[Array.getD_eq_getD_getElem?,h2];rfl
  ·cases hx
 |const u=>
  obtain⟨h1,h2⟩:=CO σ V u v hx
  exact⟨h2,h1.symm⟩
 |global g=>
  simp only[zV,MA.eval]at hx
  cases hb:Nat.blt g E.G.g0 with
  |false=>rw[hb]at hx;cases hx
  |true=>
   rw[hb]at hx
   cases hx
   obtain⟨h1,h2,h3⟩:=R.kR g (jf hb)
   refine⟨h1,?_⟩
   simp only[Act.eval,ae,h2,h3]
 |func f=>
  simp only[zV,MA.eval,Option.some.injEq]at hx
  subst hx
  exact⟨by simp only[wf,wfs];exact⟨trivial,trivial⟩,rfl⟩
theorem nC.wanted{Gs:List FL}{m:MA}{a:Act}(T:nC σ V Gs m a){ops:Array Oper}{o:Oper}(hl:∀g∈Gs,kD g.p.o.dst (o.looksAt ops)=false){b:Bool}(hw:lF ops m o=some b) :
  Region.wanted o (yielded ops a.tmps)=b:=by
 unfold lF at hw
 unfold Region.wanted
 split at hw
 ·rename_i hg
  cases hw
  simp only[hg]
 ·rename_i j want hg
  simp only[hg]
  split at hw
  ·rename_i g hgo
   rw[vC]at hgo
   split at hw
   ·rename_i d hd
    have hin:d∈o.looksAt ops:=by simp[Oper.looksAt,hg,hgo,hd]
    have cell:∀u,m.tmps.get d=some u→a.tmps[d]?=some (ae σ u):=fun u hu=>by
     rcases T.cell d u hu with⟨g,hg,hd,-⟩|⟨-,h2⟩
     ·exact absurd hin (GR (hl g hg) d hd)
     ·exact h2
    split at hw
    ·rename_i c hc
     cases hw
     have h2:=cell _ hc
     unfold yielded
     simp only[hgo,Option.bind_some,hd,h2,ae]
     cases c<;>cases want<;>rfl
    ·rename_i vs hc
     cases hw
     have h2:=cell _ hc
     unfold yielded
     simp only[hgo,Option.bind_some,hd,h2,ae]
     cases want<;>rfl
    ·cases hw
   ·cases hw
  ·cases hw
theorem nC.both{Gs:List FL}{m:MA}{a:Act}(T:nC σ V Gs m a){σ':Sg}{V':Nat→Prop}(hag:dJ V σ σ')(hV:∀id,V id→V' id)(dst:Option Tmp){v:MV}(hv:wf σ' V' v) :
  nC σ' V' Gs (m.put dst v) (a.put dst (ae σ' v)):=by
 have hsz:(a.put dst (ae σ' v)).tmps.size=a.tmps.size:=by cases dst<;>simp[Act.put]
 have hdf:(a.put dst (ae σ' v)).defers=a.defers:=by cases dst<;>rfl
 refine⟨by rw[hsz,xM];exact T.size,fun k u hu=>?_,?_,fun d hd=>hV d (T.dv d (by rw[GU]at hd;exact hd))⟩
 ·by_cases hk:dst=some k∧k<m.nt
  ·obtain⟨rfl,hk⟩:=hk
   rw[VH m v hk]at hu
   cases hu
   refine .inr ⟨hv,?_⟩
   simp only[Act.put]
   rw[Array.getElem?_setIfInBounds,if_pos rfl,if_pos (by rw[T.size];exact hk)]
  ·have hold:m.tmps.get k=some u:=by
    by_cases e:dst=some k
    ·subst e;rw[VI m v (fun hk'=>hk ⟨rfl,hk'⟩)]at hu;exact hu
    ·rw[Dk m v e]at hu;exact hu
   rcases T.cell k u hold with⟨g,hg,hd,hlt⟩|⟨h1,h2⟩
   ·exact .inl ⟨g,hg,hd,by rw[xM];exact hlt⟩
   ·refine .inr ⟨zH hag hV _ h1,?_⟩
    rw[qH hag _ h1,←h2]
    cases dst with
    |none=>rfl
    |some d=>
     simp only[Act.put]
     by_cases e:d=k
     ·subst e
      rw[Array.getElem?_setIfInBounds,if_pos rfl,if_neg (by rw[T.size];exact fun hk'=>hk ⟨rfl,hk'⟩),Array.getElem?_eq_none (by rw[T.size];exact Nat.le_of_not_lt (fun hk'=>hk ⟨rfl,hk'⟩))]
     ·exact Array.getElem?_setIfInBounds_ne e
 ·rw[hdf,GU,T.df]
  exact List.map_congr_left fun d hd=>by simp only[vH,hag d (T.dv d hd)]
theorem nC.ahead{Gs:List FL}{m:MA}{a:Act}(T:nC σ V Gs m a)(g:FL)(v:MV):nC σ V (Gs++[g]) (m.put g.p.o.dst v) a:=by
 refine⟨by rw[xM];exact T.size,fun k u hu=>?_,by rw[GU];exact T.df,fun d hd=>T.dv d (by rw[GU]at hd;exact hd)⟩
 by_cases hk:g.p.o.dst=some k∧k<m.nt
 ·exact .inl ⟨g,by simp,hk.1,by rw[xM];exact hk.2⟩
 ·have hold:m.tmps.get k=some u:=by
   by_cases e:g.p.o.dst=some k
   ·rw[e,VI m v (fun hk'=>hk ⟨e,hk'⟩)]at hu;exact hu
   ·rw[Dk m v e]at hu;exact hu
  rcases T.cell k u hold with⟨g',hg,hd,hlt⟩|h1
  ·exact .inl ⟨g',by simp[hg],hd,by rw[xM];exact hlt⟩
  ·exact .inr h1
theorem nC.catch{G1 G2:List FL}{g:FL}{m:MA}{a:Act}(T:nC σ V (G1++g::G2) m a){σ':Sg}{V':Nat→Prop}(hag:dJ V σ σ')(hV:∀id,V id→V' id){v:MV}(hv:wf σ' V' v)
  (hh:Has m g.p.o.dst v):nC σ' V' (G1++G2) m (a.put g.p.o.dst (ae σ' v)):=by
 have hsz:(a.put g.p.o.dst (ae σ' v)).tmps.size=a.tmps.size:=by cases g.p.o.dst<;>simp[Act.put]
 have hdf:(a.put g.p.o.dst (ae σ' v)).defers=a.defers:=by cases g.p.o.dst<;>rfl
 refine⟨by rw[hsz];exact T.size,fun k u hu=>?_,?_,fun d hd=>hV d (T.dv d hd)⟩
 ·by_cases hk:g.p.o.dst=some k∧k<m.nt
  ·obtain⟨e,hk⟩:=hk
   have:=hh k e hk
   rw[hu]at this
   cases this
   refine .inr ⟨hv,?_⟩
   rw[e]
   simp only[Act.put]
   rw[Array.getElem?_setIfInBounds,if_pos rfl,if_pos (by rw[T.size];exact hk)]
  ·rcases T.cell k u hu with⟨g',hg,hd,hlt⟩|⟨h1,h2⟩
   ·rcases List.mem_append.1 hg with hg|hg
    ·exact .inl ⟨g',by simp[hg],hd,hlt⟩
    ·rcases List.mem_cons.1 hg with rfl|hg
     ·exact absurd ⟨hd,hlt⟩ hk
     ·exact .inl ⟨g',by simp[hg],hd,hlt⟩
   ·refine .inr ⟨zH hag hV _ h1,?_⟩
    rw[qH hag _ h1,←h2]
    cases hd:g.p.o.dst with
    |none=>rfl
    |some d=>
     simp only[Act.put]
     by_cases e:d=k
     ·subst e
      rw[Array.getElem?_setIfInBounds,if_pos rfl,if_neg (by rw[T.size];exact fun hk'=>hk ⟨hd,hk'⟩),Array.getElem?_eq_none (by rw[T.size];exact Nat.le_of_not_lt (fun hk'=>hk ⟨hd,hk'⟩))]
     ·exact Array.getElem?_setIfInBounds_ne e
 ·rw[hdf,T.df]
  exact List.map_congr_left fun d hd=>by simp only[vH,hag d (T.dv d hd)]
end
end Go.aI
namespace Go.aI
variable [O:dw]
open Go.RowKit
omit O in
theorem zW{l:Array Bool}{i:Nat}:l.getD i true=false↔l[i]?=some false:=by
 rw[Array.getD_eq_getD_getElem?]
 cases h:l[i]? with
 |none=>simp
 |some b=>simp
omit O in
theorem Dn{l:Array Bool}{i:Nat}:l.getD i false=true↔l[i]?=some true:=by
 rw[Array.getD_eq_getD_getElem?]
 cases h:l[i]? with
 |none=>simp
 |some b=>simp
omit O in
theorem aju{l:Array Bool}{i:Nat}(h:l.getD i true=false)(h':l.getD i false=true):False:=by
 rw[zW]at h;rw[Dn]at h';rw[h]at h';cases h'
omit O in
theorem ajv{l:Array Bool}{i j:Nat}:(l.setIfInBounds i true).getD j true=false↔j≠i∧l.getD j true=false:=by
 rw[zW,zW,Array.getElem?_setIfInBounds]
 by_cases e:i=j
 ·subst e
  rw[if_pos rfl]
  split<;>simp
 ·rw[if_neg e]
  exact⟨fun h=>⟨Ne.symm e,h⟩,fun h=>h.2⟩
omit O in
theorem VL{l:Array Bool}{i j:Nat}(h:l.getD j false=true):(l.setIfInBounds i true).getD j false=true:=by
 rw[Dn]at h ⊢
 rw[Array.getElem?_setIfInBounds]
 split
 ·rename_i e;subst e
  rw[if_pos (Array.getElem?_eq_some_iff.1 h).1]
 ·exact h
omit O in
theorem ajw{l:Array Bool}{i j:Nat}(h:(l.setIfInBounds i true).getD j false=true):j=i∨l.getD j false=true:=by
 rw[Dn]at h ⊢
 rw[Array.getElem?_setIfInBounds]at h
 split at h
 ·rename_i e;exact .inl e.symm
 ·exact .inr h
omit O in
theorem Down.step{ops:Array Oper}{l:Array Bool}(hd:Down ops l){i:Nat}(hr:i∈Region.ready .any ops l):Down ops (l.setIfInBounds i true):=by
 intro k o ho hk e he hb
 rcases ajw hk with rfl|hk
 ·obtain⟨-,o',ho',hall⟩:=mem_ready.1 hr
  rw[ho]at ho';cases ho'
  exact VL (hall e he hb)
 ·exact VL (hd k o ho hk e he hb)
omit O in
theorem VM{A C:List PE}{p:PE}{l:Array Bool}(nd:((A++p::C).map (·.i)).Nodup)(mem:∀i,i∈(A++p::C).map (·.i)↔l.getD i true=false) :
  ∀i,i∈(A++C).map (·.i)↔(l.setIfInBounds p.i true).getD i true=false:=by
 intro i
 rw[ajv,←mem i]
 simp only[List.map_append,List.map_cons,List.mem_append,List.mem_cons]
 rw[List.map_append,List.map_cons,List.nodup_append,List.nodup_cons]at nd
 obtain⟨-,⟨n1,-⟩,n2⟩:=nd
 constructor
 ·rintro(h|h)
  ·exact⟨fun e=>n2 i h p.i (List.mem_cons_self ..) e,.inl h⟩
  ·exact⟨fun e=>n1 (e▸h),.inr (.inr h)⟩
 ·rintro⟨hne,h|h|h⟩
  ·exact .inl h
  ·exact absurd h hne
  ·exact .inr h
section
variable {E:Env} {P:Program} {B:Nat→Prop} {W0:World} {go:Task→MH→Option (MV×MH)} {ops:Array Oper} {n0:Nat}
omit O in
theorem VN(p:PE)(l:List PE)(fl:List FL)(a:MA)(h:MH):kQ E go ops (p::l) fl a h =
  (match lF ops a p.o with
  |some true=>(Bool.rec
    (match lG go h (fD E (a.eval E.G) p.o.op h)with
     |some (v,h')=>(Bool.rec none (kQ E go ops l (qF p.pre fl) (a.put p.o.dst v) h') (sS E ((a.put p.o.dst v).eval E.G) h' p.pre fl):Option (MA×MH))
     |none=>none)
    (match fD E (a.eval E.G) p.o.op h with
     |some (.val v)=>kQ E go ops l (⟨p,.look v⟩::fl) (a.put p.o.dst v) h
     |some (.new k b)=>(Bool.rec none (kQ E go ops l (⟨p,.ny h.nx k b⟩::fl) (a.put p.o.dst (k.at h.nx)) (h.new b)) (sS E ((a.put p.o.dst (k.at h.nx)).eval E.G) (h.new b) 0 fl):Option (MA×MH))
     |_=>none)
    (floats p.o):Option (MA×MH))
  |some false=>(Bool.rec (kQ E go ops l (qF p.pre fl) (a.put p.o.dst jL) h) (kQ E go ops l (⟨p,.skip⟩::fl) (a.put p.o.dst jL) h) (floats p.o):Option (MA×MH))
  |none=>none):=rfl
structure Inv(E:Env)(B:Nat→Prop)(W0:World)(ops:Array Oper)(n0:Nat)(σ:Sg)(V:Nat→Prop)(h:MH)(w:World)(m:MA)(a:Act)(Gs fl:List FL)(L:List PE)(listed:Array Bool):Prop where
 R:Rel E.G B W0 σ V h w
 tm:nC σ V Gs m a
 gh:∀g∈Gs,zU E ops V n0 m h g
 sub:∀g∈Gs,g∈fl
 self:∀p∈Gs.map (·.p)++L,Nl ops p
 sep:(Gs.map (·.p)++L).Pairwise (fun p q=>xq ops p q=true)
 nd:((Gs.map (·.p)++L).map (·.i)).Nodup
 mem:∀i,i∈(Gs.map (·.p)++L).map (·.i)↔listed.getD i true=false
 el:∀p∈Gs.map (·.p)++L,ops[p.i]?=some p.o∧Di ops p.pre p.o
 down:Down ops listed
 ids:Gs.Pairwise (fun g g'=>∀id k b id' k' b',g.r=.ny id k b→g'.r=.ny id' k' b'→id≠id')
 nx:n0≤h.nx
variable {σ:Sg} {V:Nat→Prop} {h:MH} {w:World} {m:MA} {a:Act} {Gs fl:List FL} {L:List PE} {listed:Array Bool}
theorem Inv.Dp(I:Inv E B W0 ops n0 σ V h w m a Gs fl L listed){q p:PE}(hq:q∈Gs.map (·.p)++L)(hr:q.i∈Region.ready .any ops listed)(hp:p∈Gs.map (·.p)++L):q.pre.testBit p.i=false:=by
 cases hb:q.pre.testBit p.i with
 |false=>rfl
 |true=>
  obtain⟨ho,hw⟩:=I.el q hq
  obtain⟨-,o',ho',hall⟩:=mem_ready.1 hr
  rw[ho]at ho';cases ho'
  exact(aju ((I.mem p.i).1 (List.mem_map.2 ⟨p,hp,rfl⟩)) (hw listed I.down hall p.i hb)).elim
omit O in
theorem pairs{α:Type}{R:α→α→Prop}{A C:List α}{x:α}(h:(A++x::C).Pairwise R):(∀y∈A,R y x)∧(∀y∈C,R x y):=by
 rw[List.pairwise_append,List.pairwise_cons]at h
 exact⟨fun y hy=>h.2.2 y hy x (List.mem_cons_self ..),h.2.1.1⟩
theorem Inv.float{q:PE}(I:Inv E B W0 ops n0 σ V h w m a Gs fl (q::L) listed)(hf:floats q.o=true){o:Option (MA×MH)}(hr:kQ E go ops (q::L) fl m h=o)(ho:o.isSome=true) :
  ∃g m1 h1,Inv E B W0 ops n0 σ V h1 w m1 a (Gs++[g]) (g::fl) L listed∧g.p=q∧kQ E go ops L (g::fl) m1 h1=o:=by
 have ajx:=(pairs I.sep).1
 have hold:∀g∈Gs,kD q.o.dst (g.p.o.looksAt ops)=false∧uV g.p.o.dst q.o.dst=false:=fun g hg=>by
  obtain⟨h1,h2,-⟩:=VF (ajx g.p (List.mem_map.2 ⟨g,hg,rfl⟩)) hf
  exact⟨h1,h2⟩
 have hself:=(I.self q (by simp)).2.1
 have build:∀(g:FL) (v:MV) (h1:MH),g.p=q→Rel E.G B W0 σ V h1 w→h.nx≤h1.nx→(∀g'∈Gs,Still E ((m.put q.o.dst v).eval E.G) h1 g')→zU E ops V n0 (m.put q.o.dst v) h1 g→
   (∀id k b,g.r=.ny id k b→id=h.nx)→Inv E B W0 ops n0 σ V h1 w (m.put q.o.dst v) a (Gs++[g]) (g::fl) L listed:=by
  intro g v h1 GV R1 hnx hst hg hid
  have e:(Gs++[g]).map (·.p)++L=Gs.map (·.p)++q::L:=by simp[GV]
  refine⟨R1,by rw[←GV];exact I.tm.ahead g v,fun g' hg'=>?_,fun g' hg'=>?_,by rw[e];exact I.self,by rw[e];exact I.sep,by rw[e];exact I.nd,by rw[e];exact I.mem,by rw[e];exact I.el,I.down,?_,Nat.le_trans I.nx hnx⟩
  ·rcases List.mem_append.1 hg' with hg'|hg'
   ·exact(I.gh g' hg').put (hold g' hg').1 (hold g' hg').2 (hst g' hg') (fun _ hv=>.inl hv) hnx
   ·rw[List.mem_singleton]at hg';subst hg';exact hg
  ·rcases List.mem_append.1 hg' with hg'|hg'
   ·exact List.mem_cons_of_mem _ (I.sub g' hg')
   ·rw[List.mem_singleton]at hg';subst hg';exact List.mem_cons_self ..
  ·rw[List.pairwise_append]
   refine⟨I.ids,List.pairwise_singleton _ _,fun g' hg' g2 hg2 id k b id' k' b' e1 e2=>?_⟩
   rw[List.mem_singleton]at hg2;subst hg2
   rw[hid id' k' b' e2]
   obtain⟨-,-,-,-,h5,-⟩:=(I.gh g' hg').al id k b e1
   exact Nat.ne_of_lt h5
 have keep:∀v,∀g'∈Gs,Still E ((m.put q.o.dst v).eval E.G) h g':=fun v g' hg'=>by
  unfold Still
  cases hr':g'.r with
  |skip=>trivial
  |look u=>dsimp only;rw[Dl m v h (hold g' hg').1];exact((I.gh g' hg').lk u hr').2.1
  |ny id k b=>exact((I.gh g' hg').al id k b hr').2.2.2.2.2.2.2
 rw[VN,hf]at hr
 cases hw:lF ops m q.o with
 |none=>simp only[hw]at hr;rw[←hr]at ho;cases ho
 |some b=>
  cases b with
  |false=>
   simp only[hw]at hr
   refine⟨⟨q,.skip⟩,_,h,build ⟨q,.skip⟩ jL h rfl I.R (Nat.le_refl _) (keep _) ⟨hf,fun _=>⟨?_,Nq m _ _⟩,fun v e=>(by cases e),fun id k b e=>(by cases e)⟩ (fun id k b e=>by cases e),rfl,hr⟩
   rw[zT m _ hself];exact hw
  |true=>
   simp only[hw]at hr
   split at hr
   ·rename_i v hv
    refine⟨⟨q,.look v⟩,_,h,build ⟨q,.look v⟩ v h rfl I.R (Nat.le_refl _) (keep _) ⟨hf,fun e=>(by cases e),fun u e=>?_,fun id k b e=>(by cases e)⟩ (fun id k b e=>by cases e),rfl,hr⟩
    cases e
    exact⟨by rw[zT m _ hself];exact hw,by rw[Dl m v h hself];exact hv,Nq m _ _⟩
   ·rename_i k b hv
    cases hal:sS E ((m.put q.o.dst (k.at h.nx)).eval E.G) (h.new b) 0 fl with
    |false=>rw[hal]at hr;rw[←hr]at ho;cases ho
    |true=>
     rw[hal]at hr
     refine⟨⟨q,.ny h.nx k b⟩,_,h.new b,build ⟨q,.ny h.nx k b⟩ (k.at h.nx) (h.new b) rfl (I.R.ghost b) (Nat.le_succ _)
      (fun g' hg'=>VJ (VK hal g' (I.sub g' hg')) (Nat.zero_testBit _)) ⟨hf,fun e=>(by cases e),fun u e=>(by cases e),fun id k' b' e=>?_⟩ (fun id k b e=>by cases e;rfl),rfl,hr⟩
     cases e
     refine⟨by rw[zT m _ hself];exact hw,by rw[Dl m _ _ hself];exact VC _ hv,Nq m _ _,fun hv=>Nat.lt_irrefl _ (I.R.vx _ hv),Nat.lt_succ_self _,I.R.gx,I.nx,?_⟩
     rw[MH.xA,if_pos rfl]
   ·rw[←hr]at ho;cases ho
end
end Go.aI
namespace Go.aI
variable [O:dw]
open Go.RowKit
section
variable {E:Env} {P:Program} {B:Nat→Prop} {W0:World} {go:Task→MH→Option (MV×MH)} {ops:Array Oper} {n0:Nat}
variable {σ:Sg} {V:Nat→Prop} {h:MH} {w:World} {m:MA} {a:Act} {Gs fl:List FL} {L:List PE} {listed:Array Bool}
omit O in
theorem VO{o:Oper}(h:xu o=true):∀c,o.op≠.defer c:=by
 intro c e
 simp[xu,e]at h
theorem Inv.ghost(hE:bT E P)(hW:∀k,B k→k<W0.heap.size)(r:Option Nat){g:FL}(I:Inv E B W0 ops n0 σ V h w m a Gs fl L listed)(hg:g∈Gs)(hr:g.p.i∈Region.ready .any ops listed)
  {K:Act→World→Prop} {Q:Exit→Act→World→Prop}
  (hK:∀σ' V' w' a' pY,Inv E B W0 ops n0 σ' V' h w' m a' pY fl L (listed.setIfInBounds g.p.i true)→(pY.map (·.p)++L).length+1=(Gs.map (·.p)++L).length→
   dJ V σ σ'→(∀id,V id→V' id)→(∀id,V' id→V id∨n0≤id)→K a' w'):wpOpIn (fence r) 0 P ops Q g.p.i K a w:=by
 obtain⟨G1,G2,hG⟩:=List.append_of_mem hg
 subst hG
 have GX:g.p∈(G1++g::G2).map (·.p)++L:=List.mem_append_left _ (List.mem_map.2 ⟨g,hg,rfl⟩)
 have Dq:∀g'∈G1++g::G2,g'.p∈(G1++g::G2).map (·.p)++L:=fun g' hg'=>List.mem_append_left _ (List.mem_map.2 ⟨g',hg',rfl⟩)
 have hel:=(I.el g.p GX).1
 have Ns:=I.gh g hg
 have hsep:=I.sep
 have VP:(G1++g::G2).map (·.p)++L=G1.map (·.p)++g.p::(G2.map (·.p)++L):=by simp
 rw[VP]at hsep
 obtain⟨sA,sC⟩:=pairs hsep
 have hlook:∀g'∈G1++g::G2,kD g'.p.o.dst (g.p.o.looksAt ops)=false:=by
  intro g' hg'
  have hnw:=I.Dp GX hr (Dq g' hg')
  rcases List.mem_append.1 hg' with h1|h1
  ·exact(Np (sA g'.p (List.mem_map.2 ⟨g',h1,rfl⟩)) hnw).2.2.2
  ·rcases List.mem_cons.1 h1 with rfl|h1
   ·exact(I.self _ GX).2.1
   ·exact(VF (sC g'.p (List.mem_append_left _ (List.mem_map.2 ⟨g',h1,rfl⟩))) (I.gh g' hg').fl).1
 have hev:=I.tm.zM I.R hlook
 have hnd:=VO (I.self _ GX).1
 have e1:(G1++G2).map (·.p)++L=G1.map (·.p)++(G2.map (·.p)++L):=by simp
 have build:∀(σ':Sg) (V':Nat→Prop) (w':World) (v:MV),Rel E.G B W0 σ' V' h w'→dJ V σ σ'→(∀id,V id→V' id)→wf σ' V' v→Has m g.p.o.dst v→
   (∀g'∈G1++G2,zU E ops V' n0 m h g')→Inv E B W0 ops n0 σ' V' h w' m (a.put g.p.o.dst (ae σ' v)) (G1++G2) fl L (listed.setIfInBounds g.p.i true):=by
  intro σ' V' w' v R' hag hV hv hh hgh
  have hsub:(G1.map (·.p)++(G2.map (·.p)++L)).Sublist (G1.map (·.p)++g.p::(G2.map (·.p)++L)):=List.Sublist.append_left (List.sublist_cons_self _ _) _
  have ajy:∀x∈G1++G2,x∈G1++g::G2:=fun x hx=>by
   rcases List.mem_append.1 hx with h1|h1
   ·exact List.mem_append_left _ h1
   ·exact List.mem_append_right _ (List.mem_cons_of_mem _ h1)
  have VQ:=I.self
  have Nu:=I.nd
  have VR:=I.mem
  have VS:=I.el
  rw[VP]at VQ Nu VR VS
  refine⟨R',I.tm.catch hag hV hv hh,hgh,fun g' hg'=>I.sub g' (ajy g' hg'),?_,?_,?_,?_,?_,I.down.step hr,?_,I.nx⟩
  ·rw[e1];exact fun p hp=>VQ p (hsub.subset hp)
  ·rw[e1];exact hsep.sublist hsub
  ·rw[e1];exact Nu.sublist (hsub.map _)
  ·rw[e1];exact VM Nu VR
  ·rw[e1];exact fun p hp=>VS p (hsub.subset hp)
  ·exact I.ids.sublist (List.Sublist.append_left (List.sublist_cons_self _ _) _)
 have hlen:((G1++G2).map (·.p)++L).length+1=((G1++g::G2).map (·.p)++L).length:=by simp;omega
 have Nv:∀g'∈G1++G2,g'∈G1++g::G2:=fun x hx=>by
  rcases List.mem_append.1 hx with h1|h1
  ·exact List.mem_append_left _ h1
  ·exact List.mem_append_right _ (List.mem_cons_of_mem _ h1)
 unfold wpOpIn
 simp only[hel]
 cases hres:g.r with
 |skip=>
  obtain⟨h1,h2⟩:=Ns.sk hres
  have hw:=I.tm.wanted hlook h1
  rw[if_neg (by rw[hw];exact Bool.false_ne_true)]
  refine⟨fun f _=>vI r f,?_⟩
  exact hK σ V w _ (G1++G2) (build σ V w jL I.R (dJ.refl _ _) (fun _ hx=>hx) xJ h2 (fun g' hg'=>I.gh g' (Nv g' hg'))) hlen (dJ.refl _ _) (fun _ hx=>hx) (fun _ hx=>.inl hx)
 |look v=>
  obtain⟨h1,h2,h3⟩:=Ns.lk v hres
  have hw:=I.tm.wanted hlook h1
  rw[if_pos hw]
  rw[←Nr (ops:=ops)]at h2
  obtain⟨k1,k2⟩:=look_ok hE I.R hev g.p.o h2
  unfold Oper.wpIn
  refine⟨fun f _=>vI r f,?_⟩
  rw[Oper.semAt_eq _ _ _ hnd,k2,Oper.uponIn_value]
  exact hK σ V w _ (G1++G2) (build σ V w v I.R (dJ.refl _ _) (fun _ hx=>hx) k1 h3 (fun g' hg'=>I.gh g' (Nv g' hg'))) hlen (dJ.refl _ _) (fun _ hx=>hx) (fun _ hx=>.inl hx)
 |ny id k b=>
  obtain⟨h1,h2,h3,h4,h5,h6,h7,h8⟩:=Ns.al id k b hres
  have hw:=I.tm.wanted hlook h1
  rw[if_pos hw]
  rw[←Nr (ops:=ops)]at h2
  obtain⟨obj,k1,k2,k3⟩:=MF hE hev g.p.o h2 h4 w
  unfold Oper.wpIn
  refine⟨fun f _=>vI r f,?_⟩
  rw[Oper.semAt_eq _ _ _ hnd,k1,Oper.uponIn_value]
  have hag:=oz (V:=V) σ ⟨w.heap.size,0,0⟩ h4
  refine hK _ _ _ _ (G1++G2) (build _ _ _ (k.at id) (I.R.UX (I.R.size hW) h4 h8 h6 0 0 k2) hag (fun _ hx=>.inl hx) k3 h3 (fun g' hg'=>?_)) hlen hag (fun _ hx=>.inl hx) (fun id' hx=>hx.imp (fun x=>x) (fun(e:id'=id)=>by rw[e];exact h7))
  have hg0:=I.gh g' (Nv g' hg')
  refine⟨hg0.fl,hg0.sk,hg0.lk,fun id' k' b' e=>?_⟩
  obtain⟨q1,q2,q3,q4,q5,q6,q7,q8⟩:=hg0.al id' k' b' e
  refine⟨q1,q2,q3,fun hv=>?_,q5,q6,q7,q8⟩
  rcases hv with hv|hv
  ·exact q4 hv
  ·obtain⟨i1,i2⟩:=List.pairwise_append.1 I.ids |>.2
   have i0:=(List.pairwise_append.1 I.ids).2.1
   rcases List.mem_append.1 hg' with hx|hx
   ·exact(List.pairwise_append.1 I.ids).2.2 g' hx g (List.mem_cons_self ..) id' k' b' id k b e hres hv
   ·exact(List.pairwise_cons.1 i0).1 g' hx id k b id' k' b' hres e hv.symm
theorem Inv.act(hE:bT E P)(hW:∀k,B k→k<W0.heap.size)(hgo:oD E P B W0 go)(r:Option Nat){q:PE}(I:Inv E B W0 ops n0 σ V h w m a Gs fl (q::L) listed)(hf:floats q.o=false)
  (hr:q.i∈Region.ready .any ops listed) {o:MA×MH} (hrun:kQ E go ops (q::L) fl m h=some o) {K:Act→World→Prop} {Q:Exit→Act→World→Prop}
  (hK:∀σ' V' h' w' m' a' tC,Inv E B W0 ops n0 σ' V' h' w' m' a' Gs tC L (listed.setIfInBounds q.i true)→kQ E go ops L tC m' h'=some o→
   dJ V σ σ'→(∀id,V id→V' id)→(∀id,V' id→V id∨n0≤id)→K a' w'):wpOpIn (fence r) 0 P ops Q q.i K a w:=by
 have Dt:q∈Gs.map (·.p)++q::L:=List.mem_append_right _ (List.mem_cons_self ..)
 have Dq:∀g'∈Gs,g'.p∈Gs.map (·.p)++q::L:=fun g' hg'=>List.mem_append_left _ (List.mem_map.2 ⟨g',hg',rfl⟩)
 have hel:=(I.el q Dt).1
 obtain⟨sA,sC⟩:=pairs I.sep
 have hfree:∀g'∈Gs,_:=fun g' hg'=>Np (sA g'.p (List.mem_map.2 ⟨g',hg',rfl⟩)) (I.Dp Dt hr (Dq g' hg'))
 have hlook:∀g'∈Gs,kD g'.p.o.dst (q.o.looksAt ops)=false:=fun g' hg'=>(hfree g' hg').2.2.2
 have hev:=I.tm.zM I.R hlook
 have hnd:=VO (I.self _ Dt).1
 have hsub:(Gs.map (·.p)++L).Sublist (Gs.map (·.p)++q::L):=List.Sublist.append_left (List.sublist_cons_self _ _) _
 have hkeep:∀g∈Gs,g∈qF q.pre fl:=fun g hg=>ajs (I.sub g hg) (I.Dp Dt hr (Dq g hg))
 have build:∀(σ':Sg) (V':Nat→Prop) (h':MH) (w':World) (v:MV),Rel E.G B W0 σ' V' h' w'→dJ V σ σ'→(∀id,V id→V' id)→(∀id,V' id→V id∨h.nx≤id)→h.nx≤h'.nx→wf σ' V' v→
   (∀g∈Gs,Still E ((m.put q.o.dst v).eval E.G) h' g)→Inv E B W0 ops n0 σ' V' h' w' (m.put q.o.dst v) (a.put q.o.dst (ae σ' v)) Gs (qF q.pre fl) L (listed.setIfInBounds q.i true):=by
  intro σ' V' h' w' v R' hag hV hV' hnx hv hst
  exact⟨R',I.tm.both hag hV q.o.dst hv,fun g hg=>(I.gh g hg).put (hfree g hg).1 (hfree g hg).2.1 (hst g hg) hV' hnx,hkeep,fun p hp=>I.self p (hsub.subset hp),I.sep.sublist hsub,
   I.nd.sublist (hsub.map _),VM I.nd I.mem,fun p hp=>I.el p (hsub.subset hp),I.down.step hr,I.ids,Nat.le_trans I.nx hnx⟩
 rw[VN,hf]at hrun
 unfold wpOpIn
 simp only[hel]
 cases hw:lF ops m q.o with
 |none=>simp only[hw]at hrun;cases hrun
 |some b=>
  have hw':=I.tm.wanted hlook hw
  cases b with
  |false=>
   simp only[hw]at hrun
   rw[if_neg (by rw[hw'];exact Bool.false_ne_true)]
   refine⟨fun f _=>vI r f,?_⟩
   refine hK σ V h w _ _ _ (build σ V h w jL I.R (dJ.refl _ _) (fun _ hx=>hx) (fun _ hx=>.inl hx) (Nat.le_refl _) xJ (fun g hg=>?_)) hrun (dJ.refl _ _) (fun _ hx=>hx) (fun _ hx=>.inl hx)
   unfold Still
   cases hr':g.r with
   |skip=>trivial
   |look u=>dsimp only;rw[Dl m _ h (hfree g hg).1];exact((I.gh g hg).lk u hr').2.1
   |ny id k b=>exact((I.gh g hg).al id k b hr').2.2.2.2.2.2.2
  |true=>
   simp only[hw]at hrun
   rw[if_pos hw']
   split at hrun
   ·rename_i v h1 ho
    cases hal:sS E ((m.put q.o.dst v).eval E.G) h1 q.pre fl with
    |false=>rw[hal]at hrun;cases hrun
    |true=>
     rw[hal]at hrun
     rw[←Nr (ops:=ops)]at ho
     refine ajt hE hW hgo r hnd I.R hev ho ?_
     intro σ' V' w' g1 g2 g3 g4 g5 g6
     refine hK σ' V' h1 w' _ _ _ (build σ' V' h1 w' v g5 g1 g2 g3 g4 g6 (fun g hg=>VJ (VK hal g (I.sub g hg)) (I.Dp Dt hr (Dq g hg)))) hrun g1 g2 (fun id hid=>?_)
     exact(g3 id hid).imp (fun x=>x) (fun x=>Nat.le_trans I.nx x)
   ·cases hrun
theorem Inv.ajz(I:Inv E B W0 ops n0 σ V h w m a Gs fl L listed):∀(n:Nat) (p:PE),p∈Gs.map (·.p)++L→p.i=n→∃i,i∈Region.ready .any ops listed:=by
 intro n
 induction n using Nat.strongRecOn with
 |ind n ih=>
  intro p hp hn
  have hun:=(I.mem p.i).1 (List.mem_map.2 ⟨p,hp,rfl⟩)
  by_cases hall:∀e∈p.o.after,Region.binds .any e=true→listed.getD e.on false=true
  ·exact⟨p.i,mem_ready.2 ⟨hun,p.o,(I.el p hp).1,hall⟩⟩
  ·have⟨e,he,hb,hl⟩:∃e∈p.o.after,Region.binds .any e=true∧¬listed.getD e.on false=true:=by
    refine Classical.byContradiction fun hc=>hall fun e he hb=>Classical.byContradiction fun hl=>hc ⟨e,he,hb,hl⟩
   have hlt:e.on<p.i:=by
    have h1:=(I.self p hp).2.2
    simp only[Lr,List.all_eq_true]at h1
    have h2:=h1 e (by simpa using he)
    rw[hb]at h2
    exact jf (by simpa using h2)
   have hsz:p.i<listed.size:=(Array.getElem?_eq_some_iff.1 (zW.1 hun)).1
   have ajA:listed.getD e.on true=false:=by
    rw[zW]
    rw[Dn]at hl
    have:e.on<listed.size:=Nat.lt_trans hlt hsz
    rw[Array.getElem?_eq_getElem this]at hl ⊢
    cases hx:listed[e.on]with
    |false=>rfl
    |true=>rw[hx]at hl;exact absurd rfl hl
   obtain⟨p',hp',he'⟩:=List.mem_map.1 ((I.mem e.on).2 ajA)
   exact ih e.on (by omega) p' hp' he'
theorem Inv.pick(hE:bT E P)(hW:∀k,B k→k<W0.heap.size)(hgo:oD E P B W0 go)(r:Option Nat){o:MA×MH}{Q:Exit→Act→World→Prop}{K:Act→World→Prop}{p:PE}(hr:p.i∈Region.ready .any ops listed) :
  ∀(L:List PE) (h:MH) (m:MA) (Gs fl:List FL),Inv E B W0 ops n0 σ V h w m a Gs fl L listed→p∈Gs.map (·.p)++L→kQ E go ops L fl m h=some o→
   (∀σ' V' h' w' m' a' pY tC L',Inv E B W0 ops n0 σ' V' h' w' m' a' pY tC L' (listed.setIfInBounds p.i true)→(pY.map (·.p)++L').length+1=(Gs.map (·.p)++L).length→kQ E go ops L' tC m' h'=some o→
    dJ V σ σ'→(∀id,V id→V' id)→(∀id,V' id→V id∨n0≤id)→K a' w')→wpOpIn (fence r) 0 P ops Q p.i K a w:=by
 intro L
 induction L with
 |nil=>
  intro h m Gs fl I hp hrun hK
  rw[List.append_nil]at hp
  obtain⟨g,hg,rfl⟩:=List.mem_map.1 hp
  exact I.ghost hE hW r hg hr (fun σ' V' w' a' pY I' hlen g1 g2 g3=>hK σ' V' h w' m a' pY fl [] I' hlen hrun g1 g2 g3)
 |cons q L ih=>
  intro h m Gs fl I hp hrun hK
  have ajB:p∈Gs.map (·.p)→wpOpIn (fence r) 0 P ops Q p.i K a w:=fun Nw=>by
   obtain⟨g,hg,rfl⟩:=List.mem_map.1 Nw
   exact I.ghost hE hW r hg hr (fun σ' V' w' a' pY I' hlen g1 g2 g3=>hK σ' V' h w' m a' pY fl (q::L) I' hlen hrun g1 g2 g3)
  rcases List.mem_append.1 hp with Nw|hpL
  ·exact ajB Nw
  ·cases hf:floats q.o with
   |true=>
    obtain⟨g,m1,h1,I1,GV,hrun1⟩:=I.float hf hrun rfl
    have e:(Gs++[g]).map (·.p)++L=Gs.map (·.p)++q::L:=by simp[GV]
    refine ih h1 m1 (Gs++[g]) (g::fl) I1 (by rw[e];exact hp) hrun1 ?_
    rw[e]
    exact hK
   |false=>
    have hpq:p=q:=by
     rcases List.mem_cons.1 hpL with e|ajC
     ·exact e
     ·have hs:=(pairs I.sep).2 p ajC
      have:=(Np hs (I.Dp hp hr (List.mem_append_right _ (List.mem_cons_self ..)))).2.2.1
      rw[hf]at this;cases this
    subst hpq
    refine I.act hE hW hgo r hf hr hrun (fun σ' V' h' w' m' a' tC I' hrun' g1 g2 g3=>hK σ' V' h' w' m' a' Gs tC L I' ?_ hrun' g1 g2 g3)
    simp;omega
theorem Inv.any(hE:bT E P)(hW:∀k,B k→k<W0.heap.size)(hgo:oD E P B W0 go)(r:Option Nat){m':MA}{h':MH}{Q:Exit→Act→World→Prop} :
  ∀(fuel:Nat) (σ:Sg) (V:Nat→Prop) (h:MH) (w:World) (m:MA) (a:Act) (Gs fl:List FL) (L:List PE) (listed:Array Bool),Inv E B W0 ops n0 σ V h w m a Gs fl L listed→
   (Gs.map (·.p)++L).length=fuel→kQ E go ops L fl m h=some (m',h')→
   (∀σ' V' w' a',dJ V σ σ'→(∀id,V id→V' id)→(∀id,V' id→V id∨n0≤id)→n0≤h'.nx→Rel E.G B W0 σ' V' h' w'→iW σ' V' m' a'→Q .normal a' w')→
   wpAnyIn (fence r) 0 P .any ops Q fuel listed a w:=by
 intro fuel
 have done:∀(σ:Sg) (V:Nat→Prop) (h:MH) (w:World) (m:MA) (a:Act) (Gs fl:List FL) (L:List PE) (listed:Array Bool),Inv E B W0 ops n0 σ V h w m a Gs fl L listed→
   Gs.map (·.p)++L=[]→kQ E go ops L fl m h=some (m',h')→
   (∀σ' V' w' a',dJ V σ σ'→(∀id,V id→V' id)→(∀id,V' id→V id∨n0≤id)→n0≤h'.nx→Rel E.G B W0 σ' V' h' w'→iW σ' V' m' a'→Q .normal a' w')→Q .normal a w:=by
  intro σ V h w m a Gs fl L listed I he hrun hQ
  obtain⟨e1,e2⟩:=List.append_eq_nil_iff.1 he
  have e1:=List.map_eq_nil_iff.1 e1
  subst e1;subst e2
  have e:kQ E go ops [] fl m h=some (m,h):=rfl
  rw[e]at hrun;cases hrun
  refine hQ σ V w a (dJ.refl _ _) (fun _ hx=>hx) (fun _ hx=>.inl hx) I.nx I.R ⟨⟨I.tm.size,fun k v hk=>?_⟩,I.tm.df,I.tm.dv⟩
  rcases I.tm.cell k v hk with⟨g,hg,-⟩|hx
  ·cases hg
  ·exact hx
 have ajD:∀(σ:Sg) (V:Nat→Prop) (h:MH) (w:World) (m:MA) (a:Act) (Gs fl:List FL) (L:List PE) (listed:Array Bool),Inv E B W0 ops n0 σ V h w m a Gs fl L listed→
   Region.ready .any ops listed=[]→Gs.map (·.p)++L=[]:=by
  intro σ V h w m a Gs fl L listed I hr
  cases hl:Gs.map (·.p)++L with
  |nil=>rfl
  |cons p l=>
   obtain⟨i,hi⟩:=I.ajz p.i p (by rw[hl];exact List.mem_cons_self ..) rfl
   rw[hr]at hi;cases hi
 induction fuel with
 |zero=>
  intro σ V h w m a Gs fl L listed I hlen hrun hQ
  have he:=List.eq_nil_of_length_eq_zero hlen
  refine⟨?_,done σ V h w m a Gs fl L listed I he hrun hQ⟩
  cases hr:Region.ready .any ops listed with
  |nil=>rfl
  |cons i l=>
   have hi:i∈Region.ready .any ops listed:=by rw[hr];exact List.mem_cons_self ..
   have:=(I.mem i).2 (mem_ready.1 hi).1
   rw[he]at this;cases this
 |succ fuel ih=>
  intro σ V h w m a Gs fl L listed I hlen hrun hQ
  refine⟨fun hr=>done σ V h w m a Gs fl L listed I (ajD σ V h w m a Gs fl L listed I hr) hrun hQ,fun i hi=>?_⟩
  obtain⟨p,hp,rfl⟩:=List.mem_map.1 ((I.mem i).2 (mem_ready.1 hi).1)
  refine Inv.pick hE hW hgo r hi L h m Gs fl I hp hrun ?_
  intro σ' V' h1 w' m1 a' pY tC L' I' hlen' hrun' g1 g2 g3
  refine ih σ' V' h1 w' m1 a' pY tC L' _ I' (by omega) hrun' ?_
  intro σ2 V2 w2 a2 k1 k2 k3 k4 k5 k6
  refine hQ σ2 V2 w2 a2 (g1.trans g2 k1) (fun id hid=>k2 id (g2 id hid)) (fun id hid=>?_) k4 k5 k6
  rcases k3 id hid with hx|hx
  ·exact g3 id hx
  ·exact .inr hx
theorem VT(hE:bT E P)(hW:∀k,B k→k<W0.heap.size){go:Task→MH→Option (MV×MH)}(hgo:oD E P B W0 go):zO E P B W0 go:=by
 intro id ops l m m' h h' hp hrun σ V w a r R ha
 obtain⟨hidx,hel,hok⟩:=ajn hp
 obtain⟨hself,hsep⟩:=(ajp ops l).1 hok
 refine wpIn_region_any hE.mixed ?_
 have hun:∀i,(Array.replicate ops.size false).getD i true=false↔i<ops.size:=fun i=>by
  rw[zW,Array.getElem?_replicate]
  split
  ·rename_i hi;exact⟨fun _=>hi,fun _=>rfl⟩
  ·rename_i hi;exact⟨fun hc=>(by cases hc),fun hc=>absurd hc hi⟩
 have hli:∀i,¬(Array.replicate ops.size false).getD i false=true:=fun i hi=>by
  rw[Dn,Array.getElem?_replicate]at hi
  split at hi<;>cases hi
 have I:Inv E B W0 ops h.nx σ V h w.drew m a [] [] l (Array.replicate ops.size false):=by
  refine⟨R.drew,⟨ha.tm.size,fun k v hk=>.inr (ha.tm.cell k v hk),ha.df,ha.dv⟩,fun g hg=>(by cases hg),fun g hg=>(by cases hg),hself,hsep,?_,fun i=>?_,hel,fun k o _ hk=>(hli k hk).elim,List.Pairwise.nil,Nat.le_refl _⟩
  ·exact hidx.nodup_iff.2 List.nodup_range
  ·rw[hun]
   show i∈l.map (·.i)↔_
   rw[hidx.mem_iff,List.mem_range]
 have hlen:(([]:List FL).map (·.p)++l).length=ops.size:=by
  have:=hidx.length_eq
  simpa using this
 refine Inv.any hE hW hgo r ops.size σ V h w.drew m a [] [] l _ I hlen hrun ?_
 intro σ' V' w' a' g1 g2 g3 g4 g5 g6
 exact⟨rfl,σ',V',g1,g2,g3,g4,g5,g6⟩
end
end Go.aI
namespace Go.aI
open Go.RowKit
def Ny:Option (MV×MH)→Bool
 |some (.bool b,_)=>b
 |_=>false
def start(G:GB)(t:Tr MB):MH:=⟨t,G.ro⟩
structure Nz[dw](G:GB)(t:Tr MB)(σ:Sg)(w:World):Prop where
 le:G.g0≤G.ro
 lt:∀id b,t.get id=some b→id<G.ro
 kR:∀id,id<G.g0→(σ id).blk=id∧(σ id).off=0
 blk:∀id b,t.get id=some b→iV σ (· < G.ro) id w b
 inj:∀id id' b b',t.get id=some b→t.get id'=some b'→live b=true→live b'=true→(σ id).blk=(σ id').blk→id=id'
theorem ajF[dw]{G:GB}{B:Nat→Prop}{t:Tr MB}{σ:Sg}{w:World}(h:Nz G t σ w):Rel G B w σ (· < G.ro) (start G t) w:=
 ⟨fun id b _ hb=>h.blk id b hb,fun id id' b b' _ _ h1 h2=>h.inj id id' b b' h1 h2,fun id b _ hb _ hg=>absurd (h.lt id b hb) (Nat.not_lt.2 hg),fun id hid=>⟨Nat.lt_of_lt_of_le hid h.le,h.kR id hid⟩,fun id b hb=>h.lt id b hb,
  fun _ hid=>hid,Nat.le_refl _,Kept.refl _ _⟩
structure VU[dw](G:GB)(n:Nat)(B:Nat→Prop)(t:Tr MB)(σ:Sg)(w:World):Prop where
 le:G.g0≤n
 ro:G.ro≤n
 lt:∀id b,t.get id=some b→id<n
 kR:∀id,id<G.g0→(σ id).blk=id∧(σ id).off=0
 blk:∀id b,t.get id=some b→iV σ (· < n) id w b
 inj:∀id id' b b',t.get id=some b→t.get id'=some b'→live b=true→live b'=true→(σ id).blk=(σ id').blk→id=id'
 own:∀id b,t.get id=some b→live b=true→G.ro≤id→¬B (σ id).blk
theorem ajG[dw]{G:GB}{n:Nat}{B:Nat→Prop}{t:Tr MB}{σ:Sg}{w:World}(h:VU G n B t σ w):Rel G B w σ (· < n) ⟨t,n⟩ w:=
 ⟨fun id b _ hb=>h.blk id b hb,fun id id' b b' _ _ h1 h2=>h.inj id id' b b' h1 h2,fun id b _ hb=>h.own id b hb,fun id hid=>⟨Nat.lt_of_lt_of_le hid h.le,h.kR id hid⟩,fun id b hb=>h.lt id b hb,
  fun _ hid=>hid,h.ro,Kept.refl _ _⟩
theorem ajH[dw]{E:Env}{P:Program}(hE:bT E P){w:World}(hO:zQ E P (· < w.heap.size) w){t:Tr MB}{σ:Sg}(hS:Nz E.G t σ w){n:Nat}{f:FuncId}{args:List MV}(hw:wfs σ (· < E.G.ro) args)(hr:Ny (run E n (.call f args) (start E.G t))=true) :
  Calls P f ⟨aF σ args⟩ w (fun e w'=>e=.returned (.bool true)∧Below w.heap.size w w'):=by
 unfold Ny at hr
 split at hr
 ·rename_i b h' he
  subst hr
  obtain⟨F,-,-,hc⟩:=(Vz (B:=(· < w.heap.size)) (W0:=w) hE hO (fun _ hk=>hk) (fun go hgo=>VT hE (fun _ hk=>hk) hgo) n).1 f args (start E.G t) _ _ he
  refine(hc _ _ w (ajF hS) hw).mono ?_
  rintro e w' ⟨σ',V',-,-,-,-,R,-,rfl⟩
  exact⟨rfl,R.below.below⟩
 ·cases hr
section
variable {α:Type}
noncomputable def Tr.jE:Tr α→List (Nat×α):=
 Tr.rec [] (fun _ a _ x y=>(match a with|some v=>[(0,v)]|none=>[])++(x.map (fun p=>(2*p.1+1,p.2))++y.map (fun p=>(2*p.1+2,p.2))))
theorem Tr.NC(l:Tr α)(a:Option α)(r:Tr α):(Tr.node l a r).jE=(match a with|some v=>[(0,v)]|none=>[])++(l.jE.map (fun p=>(2*p.1+1,p.2))++r.jE.map (fun p=>(2*p.1+2,p.2))):=rfl
theorem Tr.ajI:∀(p:kC) (t:Tr α) (v:α),Tr.gP p t=some v→(p.dec,v)∈t.jE:=by
 intro p
 induction p with
 |e=>
  intro t v hv
  cases t with
  |nil=>cases hv
  |node l a r=>
   have hv:a=some v:=hv
   subst hv
   rw[Tr.NC]
   exact List.mem_append_left _ (List.mem_singleton.2 rfl)
 |l p ih=>
  intro t v hv
  cases t with
  |nil=>cases hv
  |node l a r=>
   rw[Tr.NC]
   exact List.mem_append_right _ (List.mem_append_left _ (List.mem_map.2 ⟨_,ih l v hv,rfl⟩))
 |r p ih=>
  intro t v hv
  cases t with
  |nil=>cases hv
  |node l a r=>
   rw[Tr.NC]
   exact List.mem_append_right _ (List.mem_append_right _ (List.mem_map.2 ⟨_,ih r v hv,rfl⟩))
theorem Tr.Du{t:Tr α}{k:Nat}{v:α}(h:t.get k=some v):(k,v)∈t.jE:=by
 have:=Tr.ajI (yQ k) t v h
 rwa[LH]at this
end
theorem ajJ{E:Env}{P:Program}(h1:E.ty.jE.map (fun x=>P.info? x.1)=E.ty.jE.map (fun x=>some x.2.info))(h2:E.ty.jE.map (fun x=>P.underlying x.1)=E.ty.jE.map (fun x=>some x.2.und)) :
  ∀t T,E.ty.get t=some T→P.info? t=some T.info∧P.underlying t=some T.und:=fun t T h=>
 ⟨List.map_inj_left.1 h1 (t,T) (Tr.Du h),List.map_inj_left.1 h2 (t,T) (Tr.Du h)⟩
theorem ajK{E:Env}{P:Program}(h1:E.fns.jE.map (fun x=>P.funcs[x.1]?)=E.fns.jE.map (fun x=>some x.2))(h2:E.fns.jE.all (fun x=>!decide (x.2.name = "runtime.NumGoroutine"))=true) :
  ∀f F,E.fns.get f=some F→P.funcs[f]?=some F∧F.name≠ "runtime.NumGoroutine":=fun f F h=>
 ⟨List.map_inj_left.1 h1 (f,F) (Tr.Du h),by have:=List.all_eq_true.1 h2 (f,F) (Tr.Du h);simpa using this⟩
theorem ajL{P:Program}{T:Tr Unit}(h:T.jE.all (fun x=>!P.eqGuardType P.depth x.1&&!P.stoodInHeld x.1)=true):∀t,(T.get t).isSome=true→P.eqGuardType P.depth t=false∧P.stoodInHeld t=false:=by
 intro t ht
 cases hg:T.get t with
 |none=>rw[hg]at ht;cases ht
 |some u=>
  have:=List.all_eq_true.1 h (t,u) (Tr.Du hg)
  simpa using this
end Go.aI
namespace Go.aI
open Go.RowKit
variable [O:dw]
section
variable {G:GB} {B:Nat→Prop} {W0:World} {σ:Sg} {V:Nat→Prop} {h:MH} {w w':World}
theorem Rel.grown(R:Rel G B W0 σ V h w)(hW:∀k,B k→k<W0.heap.size)(hb:Below w.heap.size w w'):Rel G B W0 σ V h w':=
 ⟨fun id b hv hg=>(R.blk id b hv hg).jb (fun _ _=>rfl) (fun _ hx=>hx) hv (fun hl=>hb.block _ (R.lt hv hg hl)),R.inj,R.own,R.kR,R.nx,R.vx,R.gx,
  R.below.of_below hb (R.size hW)⟩
theorem GY{v:MV}(R:Rel G B W0 σ V h w)(hW:∀k,B k→k<W0.heap.size)(hb:Below w.heap.size w w')(hv:wf σ V v):tq G B W0 σ V h h v (.returned (ae σ v)) w':=
 ⟨σ,V,dJ.refl _ _,fun _ hx=>hx,fun _ hx=>.inl hx,Nat.le_refl _,R.grown hW hb,hv,rfl⟩
noncomputable def ajM(n:Nat):List MV:=(List.range n).map .opq
end
noncomputable def ana(f n:Nat)(m:Int)(b:Bool)(g:FuncId)(args:List MV)(h:MH):Option (MV×MH):=
 cond (Nat.beq g f) (match args with
  | [.sl id off len _,.int .i64 k]=>cond (and (Nat.beq len 1) (decide (k=m))) (match h.get id with
   |some (.cells cs _ _ _)=>cond (and (Nat.beq off 0) (oU cs (ajM n))) (some (.bool b,h)) none
   |_=>none) none
  |_=>none) none
end Go.aI
namespace Go.aI
abbrev ajN(l:List Value)(hl:∀v∈l,v.cells=#[v]∧v.oneCell'=true):dw where
 val i:=(l[i]?).getD .nilFunc
 single i:=by
  cases h:l[i]? with
  |none=>rfl
  |some v=>exact(hl v (List.mem_of_getElem? h)).1
 one i:=by
  cases h:l[i]? with
  |none=>rfl
  |some v=>exact(hl v (List.mem_of_getElem? h)).2
end Go.aI
namespace Go.aI
open Go.RowKit
abbrev lJ:=FuncId→List MV→MH→Option (MV×MH)
noncomputable def anb:lJ:=fun _ _ _=>none
noncomputable def vJ(o1 o2:lJ):lJ:=fun f args h=>match o1 f args h with|some r=>some r|none=>o2 f args h
section
variable [O:dw]
def qL(G:GB)(P:Program)(B:Nat→Prop)(W0:World)(o:lJ):Prop:=
 ∀f args h v h',o f args h=some (v,h')→∀σ V w,Rel G B W0 σ V h w→wfs σ V args→Calls P f ⟨aF σ args⟩ w (tq G B W0 σ V h h' v)
theorem zX{G:GB}{P:Program}{B:Nat→Prop}{W0:World}{o1 o2:lJ}(h1:qL G P B W0 o1)(h2:qL G P B W0 o2):qL G P B W0 (vJ o1 o2):=by
 intro f args h v h' e
 unfold vJ at e
 split at e
 ·rename_i r hr
  cases e
  exact h1 f args h v h' hr
 ·exact h2 f args h v h' e
theorem VX{E:Env}{P:Program}{B:Nat→Prop}{W0:World}(h:qL E.G P B W0 E.jP):zQ E P B W0:=h
end
def Ha(x:Int)(n:Nat):Int:=bits .or .u32 (x*2 ^ n % 4294967296) (x / 2 ^ (32-n))
noncomputable def He(x:Int)(ps:List Nat):Int→Int:=List.rec (fun y=>y) (fun p _ ih y=>ih (bits .xor .u32 y (Ha x (32-p)))) ps
theorem ajP(x:Int)(ps:List Nat):∀y,He x ps y=ps.foldl (fun y p=>bits .xor .u32 y (Ha x (32-p))) y:=by
 induction ps with
 |nil=>intro y;rfl
 |cons p ps ih=>intro y;exact ih _
noncomputable def placesOf(l:List MV):Option (List Nat):=
 List.rec (some []) (fun v _ ih=>match v with
  | .int .i64 (.ofNat n)=>cond (and (Nat.ble 1 n) (Nat.ble n 31)) (match ih with|some r=>some (n::r)|none=>none) none
  |_=>none) l
theorem ajQ(v:MV)(l:List MV):placesOf (v::l)=(match v with
  | .int .i64 (.ofNat n)=>cond (and (Nat.ble 1 n) (Nat.ble n 31)) (match placesOf l with|some r=>some (n::r)|none=>none) none
  |_=>none):=rfl
theorem ajR:∀(l:List MV) (ps:List Nat),placesOf l=some ps→(∀p∈ps,1≤p∧p≤31)∧l=ps.map (fun n=>.int .i64 (.ofNat n)):=by
 intro l
 induction l with
 |nil=>
   intro ps h;have e:placesOf []=some []:=rfl
   rw[e]at h;cases h;exact⟨fun p hp=>(by cases hp),rfl⟩
 |cons v l ih=>
  intro ps h
  rw[ajQ]at h
  split at h
  ·rename_i n
   cases hc:(and (Nat.ble 1 n) (Nat.ble n 31))with
   |false=>rw[hc]at h;cases h
   |true=>
    rw[hc]at h
    simp only[cond_true]at h
    obtain⟨c1,c2⟩:=dL hc
    split at h
    ·rename_i r hr
     cases h
     obtain⟨i1,i2⟩:=ih r hr
     refine⟨fun p hp=>?_,by rw[i2];rfl⟩
     rcases List.mem_cons.1 hp with rfl|hp
     ·exact⟨Nat.le_of_ble_eq_true c1,Nat.le_of_ble_eq_true c2⟩
     ·exact i1 p hp
    ·cases h
  ·cases h
noncomputable def anc(f:Nat):lJ:=fun g args h=>
 cond (Nat.beq g f) (match args with
  | [.int .u32 x,.sl id off len _]=>cond (Nat.ble len 64) (match jQ h id off len with
   |some l=>match placesOf l with|some ps=>some (.int .u32 (He x ps 0),h)|none=>none
   |none=>none) none
  |_=>none) none
section
variable [O:dw] {G:GB} {P:Program} {B:Nat→Prop} {W0:World}
theorem VY{σ:Sg}{V:Nat→Prop}{h:MH}{w:World}(R:Rel G B W0 σ V h w){id off n:Nat}{l:List MV}(hv:V id)(hr:jQ h id off n=some l) :
  l.length=n∧wfs σ V l∧∀i v,l[i]?=some v→w.cell? ⟨(σ id).blk,(σ id).off+off+i,none⟩=some (ae σ v):=by
 unfold jQ at hr
 split at hr
 ·rename_i cs t es o hg
  obtain⟨c,fz,h1,h2,-,h4,-,-⟩:=R.blk id _ hv hg
  obtain⟨l1,l2⟩:=sU hr
  rw[CG]at l1 l2
  have hget:∀i v,l[i]?=some v→cs[off+i]?=some v:=fun i v hi=>by
   rw[l2,List.getElem?_take]at hi
   split at hi
   ·rwa[List.getElem?_drop]at hi
   ·cases hi
  refine⟨by rw[l2,List.length_take];omega,(fP _).2 fun v hv'=>?_,fun i v hi=>?_⟩
  ·obtain⟨i,hi⟩:=List.mem_iff_getElem?.1 hv'
   exact(fP _).1 h2 v (List.mem_of_getElem? (hget i v hi))
  ·rw[cell_of_row w _ _ c t fz h1,Nat.add_assoc]
   exact h4 _ v (hget i v hi)
 ·cases hr
end
end Go.aI
