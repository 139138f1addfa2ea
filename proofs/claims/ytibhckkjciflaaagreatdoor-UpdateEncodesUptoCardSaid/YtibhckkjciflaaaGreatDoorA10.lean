/- A part of the proof. -/
import Derived.Test.YtibhckkjciflaaaGreatDoorA09
import Derived.Lib.Index
namespace Go.aI
open Go.RowKit
noncomputable def strsOf(l:List MV):Option (List (List Nat)):=
 List.rec (some []) (fun v _ ih=>match v with
  | .str s=>match ih with|some r=>some (s::r)|none=>none
  |_=>none) l
theorem ajS(v:MV)(l:List MV):strsOf (v::l)=(match v with
  | .str s=>match strsOf l with|some r=>some (s::r)|none=>none
  |_=>none):=rfl
theorem ajT:∀(l:List MV) (ss:List (List Nat)),strsOf l=some ss→l=ss.map .str:=by
 intro l
 induction l with
 |nil=>
   intro ss h;have e:strsOf []=some []:=rfl
   rw[e]at h;cases h;rfl
 |cons v l ih=>
  intro ss h
  rw[ajS]at h
  split at h
  ·rename_i s
   split at h
   ·rename_i r hr
    cases h
    rw[ih r hr];rfl
   ·cases h
  ·cases h
noncomputable def tH(sep:List Nat)(r:List (List Nat)):List Nat:=List.rec [] (fun x _ ih=>sep++(x++ih)) r
noncomputable def vK(sep:List Nat)(ls:List (List Nat)):List Nat:=List.rec [] (fun x r _=>x++tH sep r) ls
theorem ajU(sep:List Nat)(r:List (List Nat)):Lib.joinTail (sep.map UInt8.ofNat) (r.map (·.map UInt8.ofNat))=(tH sep r).map UInt8.ofNat:=by
 induction r with
 |nil=>rfl
 |cons x r ih=>
  have e:tH sep (x::r)=sep++(x++tH sep r):=rfl
  rw[e]
  have ih':=ih
  unfold Lib.joinTail at ih' ⊢
  simp only[List.map_cons,List.flatten_cons,List.map_append,List.append_assoc]
  rw[ih']
theorem VZ(sep:List Nat)(ls:List (List Nat)):Lib.join (ls.map (·.map UInt8.ofNat)) (sep.map UInt8.ofNat)=(vK sep ls).map UInt8.ofNat:=by
 cases ls with
 |nil=>rfl
 |cons x r=>
  have e:vK sep (x::r)=x++tH sep r:=rfl
  rw[e,List.map_cons,Lib.join_cons,ajU,List.map_append]
theorem ajV(sep:List Nat)(r:List (List Nat)):∀b∈tH sep r,b∈sep∨∃x∈r,b∈x:=by
 induction r with
 |nil=>intro b hb;cases hb
 |cons x r ih=>
  intro b hb
  have e:tH sep (x::r)=sep++(x++tH sep r):=rfl
  rw[e]at hb
  simp only[List.mem_append]at hb
  rcases hb with h|h|h
  ·exact .inl h
  ·exact .inr ⟨x,by simp,h⟩
  ·rcases ih b h with h|⟨y,hy,h⟩
   ·exact .inl h
   ·exact .inr ⟨y,by simp[hy],h⟩
theorem ajW(sep:List Nat)(ls:List (List Nat)):∀b∈vK sep ls,b∈sep∨∃x∈ls,b∈x:=by
 cases ls with
 |nil=>intro b hb;cases hb
 |cons x r=>
  intro b hb
  have e:vK sep (x::r)=x++tH sep r:=rfl
  rw[e]at hb
  rcases List.mem_append.1 hb with h|h
  ·exact .inr ⟨x,by simp,h⟩
  ·rcases ajV sep r b h with h|⟨y,hy,h⟩
   ·exact .inl h
   ·exact .inr ⟨y,by simp[hy],h⟩
noncomputable def Hf(h:MH)(sep:List Nat):Option (List MV)→Option (MV×MH)
 |some l=>match strsOf l with
  |some ss=>cond (and (Nat.ble (dC ss 0) 65536) (Nat.ble (dC (vK sep ss) 0) 65536)) (some (.str (vK sep ss),h)) none
  |none=>none
 |none=>none
noncomputable def ND(f:Nat):lJ:=fun g args h=>
 cond (Nat.beq g f) (match args with
  | [.sl id off len _,.str sep]=>Hf h sep (jQ h id off len)
  | [.bQ id off _ len,.str sep]=>Hf h sep (jQ h id off len)
  |_=>none) none
section
variable [O:dw] {G:GB} {P:Program} {B:Nat→Prop} {W0:World}
def NF(P:Program)(f:Nat):Prop:=∀(bk o c:Nat) (xs:List ByteArray) (sep:ByteArray) (w:World),(∀(j:Nat) x,xs[j]?=some x→w.cell? ⟨bk,o+j,none⟩=some (.string x))→bk<w.heap.size→xs.length≤140737488355328→xs.length≤c→
  (Lib.join (xs.map (·.data.toList)) sep.data.toList).length≤140737488355328→
  Calls P f #[.slice (some ⟨bk,o,none⟩) xs.length c,.string sep] w fun e w'=>e=.returned (.string ⟨(Lib.join (xs.map (·.data.toList)) sep.data.toList).toArray⟩)∧Below w.heap.size w w'
theorem V6(hW:∀k,B k→k<W0.heap.size){f:Nat}(hc:NF P f){σ:Sg}{V:Nat→Prop}{h h':MH}{w:World}{v:MV}{sep:List Nat}{id off len cap:Nat}(R:Rel G B W0 σ V h w)(hv:V id)(hs:∀b∈sep,b<256)(hcap:len≤cap)
  (ho:Hf h sep (jQ h id off len)=some (v,h')):Calls P f #[.slice (some ⟨(σ id).blk,(σ id).off+off,none⟩) len cap,.string (bytesV sep)] w (tq G B W0 σ V h h' v):=by
 unfold Hf at ho
 split at ho
 ·rename_i l hr
  split at ho
  ·rename_i ss hss
   cases hq:(and (Nat.ble (dC ss 0) 65536) (Nat.ble (dC (vK sep ss) 0) 65536))with
   |false=>rw[hq]at ho;cases ho
   |true=>
    rw[hq]at ho
    cases ho
    obtain⟨q1,q2⟩:=dL hq
    have q1:=Nat.le_of_ble_eq_true q1
    have q2:=Nat.le_of_ble_eq_true q2
    rw[jl]at q1 q2
    have hl:=ajT l ss hss
    have hget:=hr
    unfold jQ at hget
    split at hget
    ·rename_i cs t es o hg
     obtain⟨r1,r2,r3⟩:=VY R hv hr
     have hlt:=R.lt hv hg rfl
     have hmap:(ss.map bytesV).map (·.data.toList)=ss.map (·.map UInt8.ofNat):=by
      rw[List.map_map];exact List.map_congr_left fun x _=>by simp[bytesV]
     have hsep:(bytesV sep).data.toList=sep.map UInt8.ofNat:=by simp[bytesV]
     have hlen:len=(ss.map bytesV).length:=by rw[←r1,hl];simp
     subst hlen
     have:=hc (σ id).blk ((σ id).off+off) cap (ss.map bytesV) (bytesV sep) w (fun j x hj=>by
      rw[List.getElem?_map]at hj
      cases hs2:ss[j]? with
      |none=>rw[hs2]at hj;cases hj
      |some s=>
       rw[hs2]at hj;cases hj
       exact r3 j (.str s) (by rw[hl,List.getElem?_map,hs2];rfl)) hlt (by simp;omega) hcap (by rw[hmap,hsep,VZ];simp;omega)
     refine this.mono ?_
     rintro e w' ⟨rfl,hb⟩
     rw[hmap,hsep,VZ]
     refine GY (v:=.str (vK sep ss)) R hW hb ?_
     simp only[wf]
     intro b hb'
     rcases ajW sep ss b hb' with h1|⟨x,hx,h1⟩
     ·exact hs b h1
     ·have:=(fP _).1 r2 (.str x) (by rw[hl];exact List.mem_map.2 ⟨x,hx,rfl⟩)
      simp only[wf]at this
      exact this b h1
    ·cases hget
  ·cases ho
 ·cases ho
theorem ajX(hW:∀k,B k→k<W0.heap.size){f:Nat}(hc:NF P f):qL G P B W0 (ND f):=by
 intro g args h v h' ho σ V w R hw
 unfold ND at ho
 cases hg:Nat.beq g f with
 |false=>rw[hg]at ho;cases ho
 |true=>
  rw[hg]at ho
  obtain rfl:=Nat.eq_of_beq_eq_true hg
  simp only[cond_true]at ho
  split at ho
  ·rename_i id off len cap sep
   simp only[wfs,wf]at hw
   exact V6 hW hc R hw.1.1 hw.2.1 hw.1.2 ho
  ·rename_i id off l len sep
   simp only[wfs,wf]at hw
   exact V6 hW hc (cap:=(σ id).cap-l) R hw.1.1 hw.2.1 (by omega) ho
  ·cases ho
end
end Go.aI
namespace Go.aI
open Go.RowKit
noncomputable def qc(l:List Nat):List MV:=List.rec [] (fun n _ ih=>.int .u32 (.ofNat n)::ih) l
theorem vM(l:List Nat):qc l=l.map (fun n=>.int .u32 (.ofNat n)):=by
 induction l with
 |nil=>rfl
 |cons n l ih=>exact congrArg (MV.int .u32 (.ofNat n)::·) ih
noncomputable def ajY:Option (MV×MH)→Option (List Nat)
 |some (.agg l,_)=>bytesOf l
 |_=>none
structure nG where
 s0:Nat
 l0:List Nat
 t0:TypeId
 s1:Nat
 l1:List Nat
 t1:TypeId
 u8:TypeId
noncomputable def nG.b0(T:nG):MB:=.cells (qc T.l0) T.t0 1 false
noncomputable def nG.b1(T:nG):MB:=.cells (qc T.l1) T.t1 1 false
noncomputable def nG.tab(T:nG):Tr MB:=(Tr.nil.put T.s0 T.b0).put T.s1 T.b1
noncomputable def nG.at(T:nG)(a:Nat)(bs:List Nat):Tr MB:=T.tab.put a (.cells (ofBytes bs) T.u8 1 false)
def ane(E:Env)(T:nG)(f n a:Nat)(bs out:List Nat):Prop:=ajY (run E n (.call f [.bQ a 0 0 bs.length]) (start ⟨a+1,a⟩ (T.at a bs)))=some out
section
variable [O:dw]
noncomputable def ajZ(tab:List (List Nat×List Nat))(b:List Nat):Option (List Nat):=List.rec none (fun p _ ih=>Bool.rec ih (some p.2) (ng p.1 b)) tab
noncomputable def zY(b:MB):Option MB→Bool
 |some x=>fO x b
 |none=>false
noncomputable def anf(T:nG)(f a:Nat)(tab:List (List Nat×List Nat)):lJ:=fun g args h=>
 cond (Nat.beq g f) (match args with
  | [.bQ id off _ len]=>cond (and (Nat.ble a id) (and (zY T.b0 (h.get T.s0)) (zY T.b1 (h.get T.s1)))) (match h.get id with
   |some (.cells cs t _ _)=>cond (Nat.beq t T.u8) (match kP len (uN off cs)with
    |some l=>match bytesOf l with
     |some bs=>match ajZ tab bs with|some out=>some (.agg (ofBytes out),h)|none=>none
     |none=>none
    |none=>none) none
   |_=>none) none
  |_=>none) none
end
end Go.aI
namespace Go.aI
open Go.RowKit
noncomputable def ang(f:Nat)(ex:List MV)(b:Bool):lJ:=fun g args h=>cond (and (Nat.beq g f) (oU args ex)) (some (.bool b,h)) none
section
variable [O:dw] {G:GB} {P:Program} {B:Nat→Prop} {W0:World}
theorem V7{l:List Nat}{id:Nat}{t:TypeId}{w:World}{fz:Nat×Nat}{σ:Sg}{V:Nat→Prop}(h:w.heap[(σ id).blk]?=some (.cells ((l.map fun(n:Nat)=>Value.int .u32 n).toArray) t fz))(h0:(σ id).off=0)(hf:fz.1=fz.2):iV σ V id w (.cells (qc l) t 1 false):=by
 refine⟨_,fz,h,?_,?_,fun i v hv=>?_,fun hf=>(by cases hf),.inl hf⟩
 ·rw[fP];intro v hv;rw[vM]at hv;obtain⟨n,-,rfl⟩:=List.mem_map.1 hv;simp only[wf]
 ·rw[iq];intro v hv;rw[vM]at hv;obtain⟨n,-,rfl⟩:=List.mem_map.1 hv;rfl
 ·rw[vM,List.getElem?_map]at hv
  rw[h0,Nat.zero_add]
  simp only[List.getElem?_toArray,List.getElem?_map]
  cases hl:l[i]? with
  |none=>rw[hl]at hv;cases hv
  |some n=>rw[hl]at hv;cases hv;rfl
theorem aj0{G:GB}(T:nG){w:World}(hle:G.g0≤G.ro)(h0:T.s0<G.g0)(h1:T.s1<G.g0){f0 f1:Nat×Nat}(hf0:f0.1=f0.2)(hf1:f1.1=f1.2)
  (c0:w.heap[T.s0]?=some (.cells ((T.l0.map fun(n:Nat)=>Value.int .u32 n).toArray) T.t0 f0)) (c1:w.heap[T.s1]?=some (.cells ((T.l1.map fun(n:Nat)=>Value.int .u32 n).toArray) T.t1 f1)) :
  Nz G T.tab (fun id=>⟨id,0,0⟩) w:=by
 have hget:∀k b,T.tab.get k=some b→(k=T.s1∧b=T.b1)∨(k=T.s0∧b=T.b0):=fun k b hk=>by
  unfold nG.tab at hk
  rw[Tr.get_put]at hk
  split at hk
  ·rename_i e;cases hk;exact .inl ⟨e,rfl⟩
  ·rw[Tr.get_put]at hk
   split at hk
   ·rename_i e;cases hk;exact .inr ⟨e,rfl⟩
   ·rw[Tr.get_nil]at hk;cases hk
 refine⟨hle,fun k b hk=>?_,fun _ _=>⟨rfl,rfl⟩,fun k b hk=>?_,fun k k' b b' _ _ _ _ he=>he⟩
 ·rcases hget k b hk with⟨rfl,-⟩|⟨rfl,-⟩<;>omega
 ·rcases hget k b hk with⟨rfl,rfl⟩|⟨rfl,rfl⟩
  ·exact V7 c1 rfl hf1
  ·exact V7 c0 rfl hf0
end
end Go.aI
namespace Go.aI
open Go.RowKit
noncomputable def Dw(f:Nat):lJ:=fun g args h=>
 cond (Nat.beq g f) (match args with
  | [.mp id]=>match h.get id with
   |some (.map es c)=>some (.mp h.nx,h.new (.map es c))
   |_=>none
  |_=>none) none
noncomputable def NG(f:Nat):lJ:=fun g args h=>
 cond (Nat.beq g f) (match args with
  | [.str s,.str t]=>cond (Nat.ble (dC s 0) 65536) (some (.int .i64 (Lib.index (s.map UInt8.ofNat) (t.map UInt8.ofNat)),h)) none
  |_=>none) none
noncomputable def anh(f n:Nat):lJ:=fun g args h=>
 cond (Nat.beq g f) (match args with
  | [.dh _,.ptr p 0,.ptr q 0]=>match h.get p,h.get q with
   |some (.cells [.opq k] _ _ _),some (.cells [.bC] _ _ _)=>cond (Nat.beq k n) (some (.bY [],h)) none
   |_,_=>none
  |_=>none) none
section
variable [O:dw] {G:GB} {P:Program} {B:Nat→Prop} {W0:World}
theorem NH(hW:∀k,B k→k<W0.heap.size){f:Nat}(hc:∀(b:Nat) (es:Array MapEntry) (clock:Nat) (w:World),w.heap[b]?=some (.map es clock)→
   Calls P f #[.map (some b)] w (fun e w'=>e=.returned (.map (some w.heap.size))∧w'=w.alloc (.map es clock))):qL G P B W0 (Dw f):=by
 intro g args h v h' ho σ V w R hw
 unfold Dw at ho
 cases hg:Nat.beq g f with
 |false=>rw[hg]at ho;cases ho
 |true=>
  rw[hg]at ho
  obtain rfl:=Nat.eq_of_beq_eq_true hg
  simp only[cond_true]at ho
  split at ho
  ·rename_i id
   split at ho
   ·rename_i es c hget
    cases ho
    simp only[wfs,wf]at hw
    obtain⟨b1,b2⟩:=R.blk id _ hw.1 hget
    refine(hc (σ id).blk _ c w b1).mono ?_
    rintro e w' ⟨rfl,rfl⟩
    have kE:¬V h.nx:=fun hv=>Nat.lt_irrefl _ (R.vx _ hv)
    have ha:=oz (V:=V) σ ⟨w.heap.size,0,0⟩ kE
    have hblk:iV (upd σ h.nx ⟨w.heap.size,0,0⟩) (iw V h.nx) h.nx (w.alloc (.map ⟨es.map (eG σ)⟩ c)) (.map es c):=by
     refine⟨?_,fun x hx=>(FV ha (fun _ hv=>.inl hv) (b2 x hx)).1⟩
     rw[upd_same,World.alloc_heap_new]
     congr 3
     exact List.map_congr_left fun x hx=>((FV ha (V':=iw V h.nx) (fun _ hv=>.inl hv) (b2 x hx)).2).symm
    refine⟨_,_,ha,fun _ hv=>.inl hv,fun k hk=>?_,Nat.le_succ _,R.alloc (R.size hW) 0 0 hblk,?_,?_⟩
    ·rcases hk with hk|rfl
     ·exact .inl hk
     ·exact .inr (Nat.le_refl _)
    ·simp only[wf];exact .inr rfl
    ·simp only[ae,upd_same]
   ·cases ho
  ·cases ho
theorem aj1(hW:∀k,B k→k<W0.heap.size){f:Nat}(hc:∀(s t:ByteArray) (w:World),Kept B W0 w→s.size<4294967281→
   Calls P f #[.string s,.string t] w (fun e w'=>e=.returned (.int .i64 (Lib.index s.data.toList t.data.toList))∧w'=w)):qL G P B W0 (NG f):=by
 intro g args h v h' ho σ V w R hw
 unfold NG at ho
 cases hg:Nat.beq g f with
 |false=>rw[hg]at ho;cases ho
 |true=>
  rw[hg]at ho
  obtain rfl:=Nat.eq_of_beq_eq_true hg
  simp only[cond_true]at ho
  split at ho
  ·rename_i s t
   cases hq:Nat.ble (dC s 0) 65536 with
   |false=>rw[hq]at ho;cases ho
   |true=>
    rw[hq]at ho
    cases ho
    have hq:=Nat.le_of_ble_eq_true hq
    rw[jl]at hq
    refine(hc (bytesV s) (bytesV t) w R.below (by rw[qI];omega)).mono ?_
    rintro e w' ⟨rfl,rfl⟩
    have e:∀a:List Nat,(bytesV a).data.toList=a.map UInt8.ofNat:=fun a=>by simp[bytesV]
    rw[e,e]
    exact GY (v:=.int .i64 _) R hW (Below.refl _ _) (by simp only[wf])
  ·cases ho
end
end Go.aI
namespace Go.aI
open Go.RowKit
inductive SO where
 |q (n:Nat)
 |u (n:Nat)
inductive SI where
 |bin (op:Nat) (a b:SO)
 |cv (a:Nat)
 |turn (ps:List Nat) (a:Nat)
 |ch (a b c:Nat)
def NI(op:Nat)(a b:Int):Int:=
 match op with
 |0=>IntKind.u32.wrap (a+b)
 |1=>bits .and .u32 a b
 |2=>bits .or .u32 a b
 |3=>bits .xor .u32 a b
 |4=>IntKind.u32.wrap (a*2 ^ (min b.toNat 32))
 |_=>a.fdiv (2 ^ (min b.toNat 32))
def Hg(x y z:Int):Int:=bits .xor .u32 (bits .and .u32 x y) (bits .and .u32 (bits .xor .u32 IntKind.u32.max x) z)
def SO.val(S:Nat→Int):SO→Int
 | .q n=>S n
 | .u n=>n
noncomputable def nI(I:SI)(S:Nat→Int):Int:=
 match I with
 | .bin op a b=>NI op (a.val S) (b.val S)
 | .cv a=>IntKind.u32.wrap (S a)
 | .turn ps a=>He (S a) ps 0
 | .ch a b c=>Hg (S a) (S b) (S c)
def SO.lt(n:Nat):SO→Bool
 | .q k=>Nat.blt k n
 | .u _=>true
def SI.lt(n:Nat):SI→Bool
 | .bin _ a b=>and (a.lt n) (b.lt n)
 | .cv a=>Nat.blt a n
 | .turn _ a=>Nat.blt a n
 | .ch a b c=>and (Nat.blt a n) (and (Nat.blt b n) (Nat.blt c n))
theorem SO.congr{n:Nat}{a:SO}{S S':Nat→Int}(h:∀k,k<n→S k=S' k)(ha:a.lt n=true):a.val S=a.val S':=by
 cases a with
 |q k=>exact h k (jf ha)
 |u k=>rfl
theorem aj2{n:Nat}{I:SI}{S S':Nat→Int}(h:∀k,k<n→S k=S' k)(hI:I.lt n=true):nI I S=nI I S':=by
 cases I with
 |bin op a b=>
  obtain⟨h1,h2⟩:=dL hI
  simp only[nI,SO.congr h h1,SO.congr h h2]
 |cv a=>simp only[nI,h a (jf hI)]
 |turn ps a=>simp only[nI,h a (jf hI)]
 |ch a b c=>
  obtain⟨h1,h2⟩:=dL hI
  obtain⟨h2,h3⟩:=dL h2
  simp only[nI,h a (jf h1),h b (jf h2),h c (jf h3)]
def Dx(o:Option Int):Int:=match o with|some n=>n|none=>0
noncomputable def look(S:Tr Int)(k:Nat):Int:=Dx (S.get k)
noncomputable def ssa(tab:List SI):Nat→Tr Int→Tr Int:=
 List.rec (fun _ S=>S) (fun I _ ih n S=>ih (Nat.succ n) (S.put n (nI I (look S)))) tab
noncomputable def Dy(tab:List SI):Nat→Bool:=List.rec (fun _=>true) (fun I _ ih n=>and (I.lt n) (ih (Nat.succ n))) tab
theorem V8(I:SI)(tab:List SI)(n:Nat)(S:Tr Int):ssa (I::tab) n S=ssa tab (n+1) (S.put n (nI I (look S))):=rfl
theorem NJ:∀(tab:List SI) (n:Nat) (S:Tr Int) (k:Nat),k<n→look (ssa tab n S) k=look S k:=by
 intro tab
 induction tab with
 |nil=>intro n S k _;rfl
 |cons I tab ih=>
  intro n S k hk
  rw[V8,ih (n+1) _ k (by omega)]
  unfold look
  rw[Tr.get_put,if_neg (by omega)]
theorem aj3:∀(tab:List SI) (n:Nat) (S:Tr Int),Dy tab n=true→∀i I,tab[i]?=some I→look (ssa tab n S) (n+i)=nI I (look (ssa tab n S)):=by
 intro tab
 induction tab with
 |nil=>intro n S _ i I h;cases h
 |cons J tab ih=>
  intro n S hlt i I hi
  have e:Dy (J::tab) n=and (J.lt n) (Dy tab (Nat.succ n)):=rfl
  rw[e]at hlt
  obtain⟨h1,h2⟩:=dL hlt
  rw[V8]
  cases i with
  |zero=>
   simp only[List.getElem?_cons_zero,Option.some.injEq]at hi
   subst hi
   show look (ssa tab (n+1) (S.put n (nI J (look S)))) n=_
   rw[NJ tab (n+1) _ n (by omega)]
   have hn:look (S.put n (nI J (look S))) n=nI J (look S):=by unfold look;rw[Tr.get_put,if_pos rfl];rfl
   rw[hn]
   refine aj2 (n:=n) (fun k hk=>?_) h1
   rw[NJ tab (n+1) _ k (by omega)]
   unfold look
   rw[Tr.get_put,if_neg (by omega)]
  |succ i=>
   have:=ih (n+1) (S.put n (nI J (look S))) h2 i I (by simpa using hi)
   rw[show n+(i+1)=n+1+i by omega]
   exact this
structure jF where
 tab:List SI
 ix:Tr SI
 no:Tr (List Nat)
 aj6:∀k I,ix.get k=some I→∃i,k=72+i∧tab[i]?=some I
 lts:Dy tab 72=true
 lens:Nat.ble (dC tab 0) 90000=true
theorem jF.lt(T:jF){i:Nat}{I:SI}(h:T.tab[i]?=some I):72+i<100000:=by
 have h1:=Nat.le_of_ble_eq_true T.lens
 rw[jl]at h1
 have:=(List.getElem?_eq_some_iff.1 h).1
 omega
def V9:BinOp→Option Nat
 | .add=>some 0
 | .and=>some 1
 | .or=>some 2
 | .xor=>some 3
 |_=>none
def We:BinOp→Option Nat
 | .shl=>some 4
 | .shr=>some 5
 |_=>none
def jm(n:Nat):Bool:=or (Nat.blt n 8) (and (Nat.ble 72 n) (Nat.blt n 100000))
def Dz:MV→Option SO
 | .opq n=>cond (jm n) (some (.q n)) none
 | .int .u32 (.ofNat n)=>some (.u n)
 |_=>none
def Wh:SO→Nat
 | .q n=>n
 | .u n=>n
def NK:SO→SO→Bool
 | .q a,.q b=>Nat.beq a b
 | .u a,.u b=>Nat.beq a b
 |_,_=>false
def Hl:SI→SI→Bool
 | .bin c a b,.bin d x y=>and (Nat.beq c d) (and (NK a x) (NK b y))
 | .cv a,.cv b=>Nat.beq a b
 | .turn p a,.turn q b=>and (ng p q) (Nat.beq a b)
 | .ch a b c,.ch x y z=>and (Nat.beq a x) (and (Nat.beq b y) (Nat.beq c z))
 |_,_=>false
theorem Wi:∀a b,NK a b=true→a=b
 | .q a,.q b,h=>by rw[Nat.eq_of_beq_eq_true h]
 | .u a,.u b,h=>by rw[Nat.eq_of_beq_eq_true h]
 | .q _,.u _,h | .u _,.q _,h=>by cases h
theorem aj8:∀a b,Hl a b=true→a=b
 | .bin c a b,.bin d x y,h=>by
  obtain⟨h1,h2⟩:=dL h
  obtain⟨h2,h3⟩:=dL h2
  rw[Nat.eq_of_beq_eq_true h1,Wi _ _ h2,Wi _ _ h3]
 | .cv a,.cv b,h=>by rw[Nat.eq_of_beq_eq_true h]
 | .turn p a,.turn q b,h=>by
  obtain⟨h1,h2⟩:=dL h
  rw[Dj _ _ h1,Nat.eq_of_beq_eq_true h2]
 | .ch a b c,.ch x y z,h=>by
  obtain⟨h1,h2⟩:=dL h
  obtain⟨h2,h3⟩:=dL h2
  rw[Nat.eq_of_beq_eq_true h1,Nat.eq_of_beq_eq_true h2,Nat.eq_of_beq_eq_true h3]
 | .bin ..,.cv _,h | .bin ..,.turn ..,h | .bin ..,.ch ..,h=>by cases h
 | .cv _,.bin ..,h | .cv _,.turn ..,h | .cv _,.ch ..,h=>by cases h
 | .turn ..,.bin ..,h | .turn ..,.cv _,h | .turn ..,.ch ..,h=>by cases h
 | .ch ..,.bin ..,h | .ch ..,.cv _,h | .ch ..,.turn ..,h=>by cases h
noncomputable def DC(T:jF)(I:SI)(l:List Nat):Option Nat:=
 List.rec none (fun k _ ih=>match T.ix.get k with
  |some J=>cond (Hl J I) (some k) ih
  |none=>ih) l
theorem aj9(T:jF)(I:SI)(k:Nat)(l:List Nat):DC T I (k::l)=(match T.ix.get k with
  |some J=>cond (Hl J I) (some k) (DC T I l)
  |none=>DC T I l):=rfl
theorem aka{T:jF}{I:SI}{k:Nat}:∀l:List Nat,DC T I l=some k→∃i,k=72+i∧T.tab[i]?=some I:=by
 intro l
 induction l with
 |nil=>intro h;cases h
 |cons j l ih=>
  intro h
  rw[aj9]at h
  split at h
  ·rename_i J hJ
   cases hq:Hl J I with
   |false=>rw[hq]at h;exact ih h
   |true=>
    rw[hq]at h
    cases h
    obtain rfl:=aj8 _ _ hq
    exact T.aj6 _ _ hJ
  ·exact ih h
noncomputable def xO(T:jF)(a:Nat)(I:SI):Option Nat:=
 match T.no.get a with
 |some l=>DC T I l
 |none=>none
theorem DD{T:jF}{a k:Nat}{I:SI}(h:xO T a I=some k):∃i,k=72+i∧T.tab[i]?=some I:=by
 unfold xO at h
 split at h
 ·exact aka _ h
 ·cases h
def Hm:Option Nat→Option MV
 |some k=>some (.opq k)
 |none=>none
noncomputable def NL(T:jF)(op:BinOp)(_t:TypeId)(x y:MV):Option MV:=
 match V9 op with
 |some c=>match Dz x,Dz y with
  |some a,some b=>Hm (xO T (Wh a) (.bin c a b))
  |_,_=>none
 |none=>match We op,Dz x,y with
  |some c,some a,.int .u64 (.ofNat n)=>Hm (xO T (Wh a) (.bin c a (.u n)))
  |_,_,_=>none
noncomputable def NM(T:jF)(s d u8 u32:TypeId)(x:MV):Option MV:=
 match x with
 | .opq n=>cond (and (and (Nat.ble 8 n) (Nat.blt n 72)) (and (Nat.beq s u8) (Nat.beq d u32))) (Hm (xO T n (.cv n))) none
 |_=>none
noncomputable def ins(l:List Int):Nat→Tr Int→Tr Int:=List.rec (fun _ S=>S) (fun a _ ih n S=>ih (Nat.succ n) (S.put n a)) l
noncomputable def iY(T:jF)(l:List Int):Nat→Int:=look (ssa T.tab 72 (ins l 0 .nil))
theorem DF(T:jF)(l:List Int){i:Nat}{I:SI}(h:T.tab[i]?=some I):iY T l (72+i)=nI I (iY T l):=aj3 T.tab 72 _ T.lts i I h
noncomputable def DI(T:jF)(l:List Int)(n:Nat):Value:=.int (cond (jm n) .u32 .u8) (iY T l n)
structure Ext where
 val:Nat→Value
 single:∀i,(val i).cells=#[val i]
 one:∀i,(val i).oneCell'=true
noncomputable def jo(T:jF)(l:List Int)(X:Ext)(n:Nat):Value:=cond (Nat.blt n 100000) (DI T l n) (X.val (n-100000))
noncomputable abbrev kS(T:jF)(l:List Int)(X:Ext):dw where
 val:=jo T l X
 single n:=by unfold jo;cases Nat.blt n 100000<;>first|rfl|exact X.single _
 one n:=by unfold jo;cases Nat.blt n 100000<;>first|rfl|exact X.one _
theorem NP{T:jF}{l:List Int}{X:Ext}{n:Nat}(h:n<100000):jo T l X n=DI T l n:=by
 unfold jo
 rw[show Nat.blt n 100000=true from Nat.ble_eq_true_of_le h];rfl
theorem Wj{T:jF}{l:List Int}{X:Ext}(i:Nat):jo T l X (100000+i)=X.val i:=by
 unfold jo
 have e:Nat.blt (100000+i) 100000=false:=by
  cases h:Nat.blt (100000+i) 100000 with
  |false=>rfl
  |true=>have:=jf h;omega
 rw[e,Nat.add_sub_cancel_left];rfl
theorem akb(c:Nat)(op:BinOp)(h:V9 op=some c)(t:TypeId)(a b:Int):binOp op t (.int .u32 a) (.int .u32 b)=pure (.int .u32 (NI c a b)):=by
 cases op<;>cases h<;>rfl
theorem akc(c:Nat)(op:BinOp)(h:We op=some c)(t:TypeId)(a:Int)(n:Nat):binOp op t (.int .u32 a) (.int .u64 (n:Int))=pure (.int .u32 (NI c a n)):=by
 have hn:¬((n:Int)<0):=by omega
 cases op<;>cases h
 ·show Op.shift .shl .u32 a .u64 (n:Int)=_
  unfold Op.shift
  rw[if_neg hn]
  rfl
 ·show Op.shift .shr .u32 a .u64 (n:Int)=_
  unfold Op.shift
  rw[if_neg hn]
  rfl
section
variable {T:jF} {l:List Int} {X:Ext}
theorem akd{n:Nat}(h:jm n=true):n<100000:=by
 unfold jm at h
 cases h1:Nat.blt n 8 with
 |true=>have:=jf h1;omega
 |false=>rw[h1]at h;exact jf (dL h).2
theorem ake{i:Nat}(h:72+i<100000):jm (72+i)=true:=by
 unfold jm
 rw[Nat.ble_eq_true_of_le (Nat.le_add_right 72 i),show Nat.blt (72+i) 100000=true from Nat.ble_eq_true_of_le h]
 cases Nat.blt (72+i) 8<;>rfl
theorem vN{n:Nat}(h:jm n=true):jo T l X n=.int .u32 (iY T l n):=by
 rw[NP (akd h)];unfold DI;rw[h];rfl
theorem DJ{i:Nat}{I:SI}(h:T.tab[i]?=some I):jo T l X (72+i)=.int .u32 (iY T l (72+i)):=vN (ake (T.lt h))
theorem NQ{x:MV}{a:SO}(h:Dz x=some a)(σ:Sg):@ae (kS T l X) σ x=.int .u32 (a.val (iY T l)):=by
 unfold Dz at h
 split at h
 ·rename_i n
  cases hq:jm n with
  |false=>rw[hq]at h;cases h
  |true=>
   rw[hq]at h
   cases h
   exact vN hq
 ·cases h;rfl
 ·cases h
theorem NR{o:Option Nat}{v:MV}(h:Hm o=some v):∃k,o=some k∧v=.opq k:=by
 cases o with
 |none=>cases h
 |some k=>cases h;exact⟨k,rfl,rfl⟩
theorem akf{P:Program}(op:BinOp)(t:TypeId)(x y v:MV)(h:NL T op t x y=some v)(σ:Sg)(V:Nat→Prop) :
  @wf σ V v∧(@ae (kS T l X) σ x≠.nilIface∧∀c,@ae (kS T l X) σ x≠.agg c)∧∀w,(binOp op t (@ae (kS T l X) σ x) (@ae (kS T l X) σ y)).run P w=.ok (@ae (kS T l X) σ v) w:=by
 unfold NL at h
 split at h
 ·rename_i c hc
  split at h
  ·rename_i a b ha hb
   obtain⟨k,hk,rfl⟩:=NR h
   obtain⟨i,rfl,hi⟩:=DD hk
   rw[NQ ha,NQ hb]
   refine⟨by simp only[wf],⟨by simp,fun _=>by simp⟩,fun w=>?_⟩
   rw[akb c op hc]
   show Result.ok _ w=Result.ok (jo T l X (72+i)) w
   rw[DJ hi,DF T l hi]
   rfl
  ·cases h
 ·split at h
  ·rename_i c a n hc ha
   obtain⟨k,hk,rfl⟩:=NR h
   obtain⟨i,rfl,hi⟩:=DD hk
   rw[NQ ha]
   refine⟨by simp only[wf],⟨by simp,fun _=>by simp⟩,fun w=>?_⟩
   show(binOp op t (.int .u32 (a.val (iY T l))) (.int .u64 (n:Int))).run P w=_
   rw[akc c op hc]
   show Result.ok _ w=Result.ok (jo T l X (72+i)) w
   rw[DJ hi,DF T l hi]
   rfl
  ·cases h
theorem akg{P:Program}{u8 u32:TypeId}(h8:P.underlying u8=some (.int .u8))(h32:P.underlying u32=some (.int .u32))(s d:TypeId)(x v:MV)(h:NM T s d u8 u32 x=some v)(σ:Sg)(V:Nat→Prop) :
  @wf σ V v∧∀w,(convert s d (@ae (kS T l X) σ x)).run P w=.ok (@ae (kS T l X) σ v) w:=by
 unfold NM at h
 split at h
 ·rename_i n
  cases hq:and (and (Nat.ble 8 n) (Nat.blt n 72)) (and (Nat.beq s u8) (Nat.beq d u32))with
  |false=>rw[hq]at h;cases h
  |true=>
   rw[hq]at h
   obtain⟨q1,q2⟩:=dL hq
   obtain⟨q1,q3⟩:=dL q1
   obtain⟨q4,q5⟩:=dL q2
   obtain rfl:=Nat.eq_of_beq_eq_true q4
   obtain rfl:=Nat.eq_of_beq_eq_true q5
   obtain⟨k,hk,rfl⟩:=NR h
   obtain⟨i,rfl,hi⟩:=DD hk
   refine⟨by simp only[wf],fun w=>?_⟩
   have q1:=Nat.le_of_ble_eq_true q1
   have q3:=jf q3
   have hb:jo T l X n=.int .u8 (iY T l n):=by
    rw[NP (by omega)]
    unfold DI jm
    have e1:Nat.blt n 8=false:=by
     cases hh:Nat.blt n 8 with
     |false=>rfl
     |true=>have:=jf hh;omega
    have e2:Nat.ble 72 n=false:=by
     cases hh:Nat.ble 72 n with
     |false=>rfl
     |true=>have:=Nat.le_of_ble_eq_true hh;omega
    rw[e1,e2];rfl
   show(convert s d (jo T l X n)).run P w=Result.ok (jo T l X (72+i)) w
   rw[hb,DJ hi,DF T l hi]
   unfold convert
   rw[Sem.bind_ok (dD h8 w),Sem.bind_ok (dD h32 w)]
   rfl
 ·cases h
end
end Go.aI
namespace Go.aI
open Go.RowKit
noncomputable def NS(T:jF)(f:Nat):lJ:=fun g args h=>
 cond (Nat.beq g f) (match args with
  | [.opq a,.sl id off len _]=>cond (and (Nat.ble len 64) (jm a)) (match jQ h id off len with
   |some l=>match placesOf l with
    |some ps=>match xO T a (.turn ps a)with
     |some k=>some (.opq k,h)
     |none=>none
    |none=>none
   |none=>none) none
  |_=>none) none
noncomputable def NT(T:jF)(f:Nat):lJ:=fun g args h=>
 cond (Nat.beq g f) (match args with
  | [.opq a,.opq b,.opq c]=>cond (and (jm a) (and (jm b) (jm c))) (match xO T a (.ch a b c)with
   |some k=>some (.opq k,h)
   |none=>none) none
  |_=>none) none
section
variable {T:jF} {l:List Int} {X:Ext} {G:GB} {P:Program} {B:Nat→Prop} {W0:World}
theorem akh(hW:∀k,B k→k<W0.heap.size){f:Nat}(hc:∀(x:Int) (b o cap:Nat) (ps:List Nat),(∀p∈ps,1≤p∧p≤31)→ps.length≤64→∀w:World,(∀i (h:i<ps.length),w.cell? ⟨b,o+i,none⟩=some (.int .i64 (ps[i]:Nat)))→
   Calls P f #[.int .u32 x,.slice (some ⟨b,o,none⟩) ps.length cap] w (fun e w'=>e=.returned (.int .u32 (ps.foldl (fun y p=>bits .xor .u32 y (Ha x (32-p))) 0))∧w=w')):@qL (kS T l X) G P B W0 (NS T f):=by
 letI O:=kS T l X
 intro g args h v h' ho σ V w R hw
 unfold NS at ho
 cases hg:Nat.beq g f with
 |false=>rw[hg]at ho;cases ho
 |true=>
  rw[hg]at ho
  obtain rfl:=Nat.eq_of_beq_eq_true hg
  simp only[cond_true]at ho
  split at ho
  ·rename_i a id off len cap
   cases hl:(and (Nat.ble len 64) (jm a))with
   |false=>rw[hl]at ho;cases ho
   |true=>
    rw[hl]at ho
    simp only[cond_true]at ho
    obtain⟨l1,l2⟩:=dL hl
    split at ho
    ·rename_i cs hr
     split at ho
     ·rename_i ps hps
      split at ho
      ·rename_i k hk
       cases ho
       obtain⟨i,rfl,hi⟩:=DD hk
       obtain⟨p1,p2⟩:=ajR cs ps hps
       simp only[wfs,wf]at hw
       obtain⟨r1,-,r3⟩:=VY R hw.2.1.1 hr
       have hlen:len=ps.length:=by rw[←r1,p2];simp
       subst hlen
       have:=hc (iY T l a) (σ id).blk ((σ id).off+off) cap ps p1 (Nat.le_of_ble_eq_true l1) w (fun i hi=>r3 i (.int .i64 (.ofNat ps[i])) (by rw[p2];simp[hi]))
       have e:(⟨aF σ [.opq a,.sl id off ps.length cap]⟩:Array Value)=#[.int .u32 (iY T l a),.slice (some ⟨(σ id).blk,(σ id).off+off,none⟩) ps.length cap]:=by
        simp only[aF,ae]
        rw[show O.val a=.int .u32 (iY T l a) from vN l2]
       rw[e]
       refine this.mono ?_
       rintro e w' ⟨rfl,rfl⟩
       rw[←ajP]
       have ev:(Value.int .u32 (He (iY T l a) ps 0))=ae σ (.opq (72+i)):=by
        show _=jo T l X (72+i)
        rw[DJ hi,DF T l hi];rfl
       rw[ev]
       exact GY (v:=.opq (72+i)) R hW (Below.refl _ _) (by simp only[wf])
      ·cases ho
     ·cases ho
    ·cases ho
  ·cases ho
theorem aki(hW:∀k,B k→k<W0.heap.size){f:Nat}(hc:∀(x y z:Int) (w:World),Calls P f #[.int .u32 x,.int .u32 y,.int .u32 z] w (fun e w'=>e=.returned (.int .u32 (Hg x y z))∧w=w')):@qL (kS T l X) G P B W0 (NT T f):=by
 letI O:=kS T l X
 intro g args h v h' ho σ V w R hw
 unfold NT at ho
 cases hg:Nat.beq g f with
 |false=>rw[hg]at ho;cases ho
 |true=>
  rw[hg]at ho
  obtain rfl:=Nat.eq_of_beq_eq_true hg
  simp only[cond_true]at ho
  split at ho
  ·rename_i a b c
   cases hl:(and (jm a) (and (jm b) (jm c)))with
   |false=>rw[hl]at ho;cases ho
   |true=>
    rw[hl]at ho
    simp only[cond_true]at ho
    obtain⟨l1,l2⟩:=dL hl
    obtain⟨l2,l3⟩:=dL l2
    split at ho
    ·rename_i k hk
     cases ho
     obtain⟨i,rfl,hi⟩:=DD hk
     have e:(⟨aF σ [.opq a,.opq b,.opq c]⟩:Array Value)=#[.int .u32 (iY T l a),.int .u32 (iY T l b),.int .u32 (iY T l c)]:=by
      simp only[aF,ae]
      rw[show O.val a=.int .u32 (iY T l a) from vN l1,show O.val b=.int .u32 (iY T l b) from vN l2,show O.val c=.int .u32 (iY T l c) from vN l3]
     rw[e]
     refine(hc _ _ _ w).mono ?_
     rintro e w' ⟨rfl,rfl⟩
     have ev:(Value.int .u32 (Hg (iY T l a) (iY T l b) (iY T l c)))=ae σ (.opq (72+i)):=by
      show _=jo T l X (72+i)
      rw[DJ hi,DF T l hi];rfl
     rw[ev]
     exact GY (v:=.opq (72+i)) R hW (Below.refl _ _) (by simp only[wf])
    ·cases ho
  ·cases ho
end
end Go.aI
namespace Go.aI
noncomputable def DK(tab:List SI):Nat→Tr SI→Tr SI:=List.rec (fun _ S=>S) (fun I _ ih n S=>ih (Nat.succ n) (S.put n I)) tab
theorem akj:∀(tab:List SI) (n:Nat) (S:Tr SI) (k:Nat) (I:SI),(DK tab n S).get k=some I→(∃i,k=n+i∧tab[i]?=some I)∨S.get k=some I:=by
 intro tab
 induction tab with
 |nil=>intro n S k I h;exact .inr h
 |cons J tab ih=>
  intro n S k I h
  have e:DK (J::tab) n S=DK tab (n+1) (S.put n J):=rfl
  rw[e]at h
  rcases ih (n+1) _ k I h with⟨i,rfl,hi⟩|h
  ·exact .inl ⟨i+1,by omega,by simpa using hi⟩
  ·rw[Tr.get_put]at h
   split at h
   ·rename_i e;cases h;exact .inl ⟨0,by omega,rfl⟩
   ·exact .inr h
theorem akk{tab:List SI}{ix:Tr SI}(h:ix=DK tab 72 .nil):∀k I,ix.get k=some I→∃i,k=72+i∧tab[i]?=some I:=by
 intro k I hk
 rw[h]at hk
 rcases akj tab 72 .nil k I hk with h|h
 ·exact h
 ·rw[Tr.get_nil]at h;cases h
end Go.aI
