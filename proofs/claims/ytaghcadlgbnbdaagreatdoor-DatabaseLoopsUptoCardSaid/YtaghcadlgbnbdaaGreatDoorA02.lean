/- A part of the proof. -/
import Derived.Test.YtaghcadlgbnbdaaGreatDoorA01
import Derived.Carry
import Derived.WideMake
import Derived.RangeFuncOwn
import Derived.Maps.RangeRun
import Derived.RangeFuncNested
import Derived.RangeFuncBound
import Derived.RangeFuncCalls
import Derived.RangeFuncLeaves
import Derived.Shelf.Abstract
import Derived.Shelf.RegionOpen
import Derived.OwnWalkIn
import Derived.TacticsInMore
import Derived.LoopNIn
import Derived.LoopIn
import Derived.Lib.Strings
import Derived.Lib.Slices
import Derived.Lib.Walk
import Derived.Lib.Bytealg
set_option maxRecDepth 100000
set_option maxHeartbeats 2000000
namespace Go.WW
open Go.RowKit
structure But(S:Nat→Prop)(w w':World):Prop where
 os:w'.os=w.os
 tape:w'.tape=w.tape
 output:w'.output=w.output
 size:w.heap.size≤w'.heap.size
 block:∀k,k<w.heap.size→¬S k→w'.heap[k]?=w.heap[k]?
theorem But.refl(S:Nat→Prop)(w:World):But S w w:=⟨rfl,rfl,rfl,Nat.le_refl _,fun _ _ _=>rfl⟩
theorem But.trans{S:Nat→Prop}{a b c:World}(h:But S a b)(k:But S b c):But S a c:=
 ⟨k.os.trans h.os,k.tape.trans h.tape,k.output.trans h.output,Nat.le_trans h.size k.size,fun i hi hS=>(k.block i (Nat.lt_of_lt_of_le hi h.size) hS).trans (h.block i hi hS)⟩
theorem But.of_below{S:Nat→Prop}{w w':World}(h:Below w.heap.size w w'):But S w w':=⟨h.os,h.tape,h.output,h.size,fun k hk _=>h.block k hk⟩
theorem But.mono{S S':Nat→Prop}{w w':World}(h:But S w w')(hS:∀k,S k→S' k):But S' w w':=⟨h.os,h.tape,h.output,h.size,fun k hk hn=>h.block k hk (fun x=>hn (hS k x))⟩
theorem But.below{S:Nat→Prop}{w w':World}{n:Nat}(h:But S w w')(hn:n≤w.heap.size)(hS:∀k,S k→n≤k):Below n w w':=
 ⟨h.os,h.tape,h.output,h.size,fun k hk=>h.block k (Nat.lt_of_lt_of_le hk hn) (fun x=>absurd (hS k x) (by omega))⟩
structure Ua(es:Array MapEntry)(clock:Nat)(m:List (ByteArray×Value)):Prop where
 dR:es.toList.map (fun e=>(e.key,e.val))=m.map (fun x=>(Value.string x.1,x.2))
 keys:(m.map (·.1)).Nodup
 born:∀e∈es.toList,e.born<clock
 once:(es.toList.map (·.born)).Nodup
def MapOf(w:World)(b:Nat)(m:List (ByteArray×Value)):Prop:=∃es clock,w.heap[b]?=some (.map es clock)∧Ua es clock m
theorem MapOf.at{w w':World}{b:Nat}{m:List (ByteArray×Value)}(h:MapOf w b m)(e:w'.heap[b]?=w.heap[b]?):MapOf w' b m:=by
 obtain⟨es,clock,h1,h2⟩:=h
 exact⟨es,clock,e.trans h1,h2⟩
theorem MapOf.lt{w:World}{b:Nat}{m:List (ByteArray×Value)}(h:MapOf w b m):b<w.heap.size:=by
 obtain⟨es,clock,h1,_⟩:=h
 exact(Array.getElem?_eq_some_iff.1 h1).1
theorem Ub(a b:ByteArray):Instr.sameNow .string (.string a) (.string b)=some (decide (a=b)):=by
 show some (a == b)=_
 congr 1
 by_cases h:a=b
 ·rw[decide_eq_true h,(MapKept.bytes_beq a b).2 h]
 ·rw[decide_eq_false h,←Bool.not_eq_true,MapKept.bytes_beq];exact h
theorem Hl(k:ByteArray):∀(l:List MapEntry) (m:List (ByteArray×Value)) (i:Nat),l.map (fun e=>(e.key,e.val))=m.map (fun x=>(Value.string x.1,x.2))→k∉m.map (·.1)→Instr.findNow .string (.string k) l i=some none
 | [],_,_,_,_=>rfl
 |e::l,[],_,h,_=>by simp at h
 |e::l,x::m,i,h,hk=>by
  simp only[List.map_cons,List.cons.injEq,Prod.mk.injEq]at h
  unfold Instr.findNow
  have hne:¬k=x.1:=fun he=>hk (by simp[he])
  rw[h.1.1,Ub,decide_eq_false hne]
  exact Hl k l m (i+1) h.2 (fun hm=>hk (by simp only[List.map_cons,List.mem_cons];exact .inr hm))
theorem Hm(k:ByteArray)(v:Value):∀(l:List MapEntry) (m:List (ByteArray×Value)) (i:Nat),l.map (fun e=>(e.key,e.val))=m.map (fun x=>(Value.string x.1,x.2))→(m.map (·.1)).Nodup→(k,v)∈m→∃j,Instr.findNow .string (.string k) l i=some (some (i+j,v))∧m[j]?=some (k,v)
 | [],m,_,h,_,hv=>by cases m with|nil=>simp at hv|cons=>simp at h
 |e::l,[],_,h,_,_=>by simp at h
 |e::l,x::m,i,h,hn,hv=>by
  simp only[List.map_cons,List.cons.injEq,Prod.mk.injEq]at h
  simp only[List.map_cons,List.nodup_cons]at hn
  unfold Instr.findNow
  rw[h.1.1,Ub]
  by_cases he:k=x.1
  ·rw[decide_eq_true he]
   have hx:x=(k,v):=by
    rcases List.mem_cons.1 hv with e|hv
    ·exact e.symm
    ·exact absurd (List.mem_map.2 ⟨(k,v),hv,he⟩) hn.1
   subst hx
   exact⟨0,by rw[h.1.2];rfl,rfl⟩
  ·rw[decide_eq_false he]
   have hv':(k,v)∈m:=by
    rcases List.mem_cons.1 hv with e|hv
    ·exact absurd (by rw[←e]) he
    ·exact hv
   obtain⟨j,h1,h2⟩:=Hm k v l m (i+1) h.2 hn.2 hv'
   exact⟨j+1,by rw[show i+(j+1)=i+1+j by omega];exact h1,by simpa using h2⟩
section
variable {P:Program} {w:World} {mty kt et:TypeId} {b:Nat} {m:List (ByteArray×Value)} {k:ByteArray}
theorem MF{v:Value}(c:Bool)(hm:P.underlying mty=some (.map kt et))(hd:P.underlying kt=some .string)(h:MapOf w b m)(hv:(k,v)∈m) :
  (Instr.lookup mty (.map (some b)) (.string k) c).run P w=.ok (if c then .tuple #[v,.bool true]else v) w:=by
 obtain⟨es,clock,hb,hr⟩:=h
 obtain⟨j,hf,_⟩:=Hm k v _ _ 0 hr.dR hr.keys hv
 have hc:(Instr.checkKey es.isEmpty 10000 kt (.string k)).run P w=.ok () w:=MapKept.run_checkKey hd (by trivial) _ 9999
 simp[Instr.lookup,run_underlying hm,MapKept.run_getObj_map hb,hc,MapKept.run_findKey hd hf,Result.andThen]
theorem MG{z:Value}(c:Bool)(hm:P.underlying mty=some (.map kt et))(hd:P.underlying kt=some .string)(h:MapOf w b m)(hz:(zeroValue et).run P w=.ok z w)(hv:k∉m.map (·.1)) :
  (Instr.lookup mty (.map (some b)) (.string k) c).run P w=.ok (if c then .tuple #[z,.bool false]else z) w:=by
 obtain⟨es,clock,hb,hr⟩:=h
 have hf:=Hl k _ _ 0 hr.dR hv
 have hc:(Instr.checkKey es.isEmpty 10000 kt (.string k)).run P w=.ok () w:=MapKept.run_checkKey hd (by trivial) _ 9999
 simp[Instr.lookup,run_underlying hm,MapKept.run_getObj_map hb,hc,MapKept.run_findKey hd hf,Result.andThen,hz]
def hasK(m:List (ByteArray×Value))(k:ByteArray):Bool:=m.any fun x=>decide (x.1=k)
theorem Uc(m:List (ByteArray×Value))(k:ByteArray):hasK m k=true↔k∈m.map (·.1):=by simp[hasK]
def nS(m:List (ByteArray×Value))(k:ByteArray)(v:Value):List (ByteArray×Value):=if hasK m k=true then m.map (fun x=>if x.1=k then(k,v)else x)else m++[(k,v)]
def ku(m:List (ByteArray×Value))(k:ByteArray):List (ByteArray×Value):=m.filter fun x=>decide (x.1≠k)
theorem DZ{w:World}{b:Nat}(o:Obj):But (·=b) w (w.putObj b o):=
 ⟨rfl,rfl,rfl,by simp[World.putObj],fun k _ hn=>by simp only[World.putObj];rw[Array.getElem?_setIfInBounds];simp[Ne.symm (show k≠b from hn)]⟩
theorem adv(l:List MapEntry):∀(m:List (ByteArray×Value)) (j:Nat) (v:Value),l.map (fun e=>(e.key,e.val))=m.map (fun x=>(Value.string x.1,x.2))→(m.map (·.1)).Nodup→∀k v0,m[j]?=some (k,v0)→
  (l.modify j fun e=>{e with key:=.string k,val:=v}).map (fun e=>(e.key,e.val))=(m.map (fun x=>if x.1=k then(k,v)else x)).map (fun x=>(Value.string x.1,x.2)):=by
 induction l with
 |nil=>intro m j v h;cases m with|nil=>simp|cons=>simp at h
 |cons e l ih=>
  intro m j v h hn k v0 hj
  cases m with
  |nil=>simp at h
  |cons x m=>
   simp only[List.map_cons,List.cons.injEq,Prod.mk.injEq]at h
   simp only[List.map_cons,List.nodup_cons]at hn
   cases j with
   |zero=>
    simp only[List.getElem?_cons_zero,Option.some.injEq]at hj
    subst hj
    have hm:m.map (fun x=>if x.1=k then(k,v)else x)=m:=by
     conv=>rhs;rw[←List.map_id m]
     refine List.map_congr_left fun y hy=>?_
     have:¬y.1=k:=fun e=>hn.1 (List.mem_map.2 ⟨y,hy,e⟩)
     simp[this]
    simp[hm,h.2]
   |succ j=>
    simp only[List.getElem?_cons_succ]at hj
    have hne:¬x.1=k:=fun e=>hn.1 (by
     have:=List.mem_of_getElem? hj
     exact List.mem_map.2 ⟨_,this,e.symm⟩)
    simp only[List.modify_succ_cons,List.map_cons,hne,if_false]
    rw[ih m j v h.2 hn.2 k v0 hj,h.1.1,h.1.2]
theorem adw{m:List (ByteArray×Value)}{k:ByteArray}{v:Value}:(m.map (fun x=>if x.1=k then(k,v)else x)).map (·.1)=m.map (·.1):=by
 rw[List.map_map]
 refine List.map_congr_left fun x _=>?_
 simp only[Function.comp]
 split
 ·rename_i h;exact h.symm
 ·rfl
theorem AL{v:Value}(hm:P.underlying mty=some (.map kt et))(hd:P.underlying kt=some .string)(h:MapOf w b m) :
  ∃w',(Instr.mapUpdate mty (.map (some b)) (.string k) v).run P w=.ok () w'∧MapOf w' b (nS m k v)∧But (·=b) w w'∧w'.heap.size=w.heap.size:=by
 obtain⟨es,clock,hb,hr⟩:=h
 have hlt:=(Array.getElem?_eq_some_iff.1 hb).1
 have hc:(Instr.checkKey false 10000 kt (.string k)).run P w=.ok () w:=MapKept.run_checkKey hd (by trivial) _ 9999
 by_cases hk:k∈m.map (·.1)
 ·obtain⟨⟨k',v0⟩,hx,rfl⟩:=List.mem_map.1 hk
  obtain⟨j,hf,hj⟩:=Hm k' v0 _ _ 0 hr.dR hr.keys hx
  rw[Nat.zero_add]at hf
  have hjl:j<es.toList.length:=by
   have h1:=(List.getElem?_eq_some_iff.1 hj).1
   have h2:=congrArg List.length hr.dR
   simp only[List.length_map]at h2
   omega
  have hkey:es[j]?.map (·.key)=some (.string k'):=by
   have h2:=congrArg (fun l=>(l[j]?).map (·.1)) hr.dR
   simp only[List.getElem?_map,hj,Option.map_map]at h2
   rw[←Array.getElem?_toList]
   simpa[Function.comp]using h2
  have hks:(Instr.keyThatStays (((es[j]?).map (·.key)).getD (.string k')) (.string k')).run P w=.ok (.string k') w:=by
   rw[hkey];exact MapKept.run_keyThatStays (d:=.string) (by trivial)
  refine⟨w.putObj b (.map (es.modify j fun e=>{e with key:=.string k',val:=v}) clock),?_,⟨_,clock,World.putObj_heap_same hlt,?_⟩,DZ _,by simp[World.putObj]⟩
  ·simp[Instr.mapUpdate,run_underlying hm,MapKept.run_getObj_map hb,hc,MapKept.run_findKey hd hf,hks,MapKept.run_setObj_map _ hb,Result.andThen,World.putObj]
  ·unfold nS
   rw[if_pos ((Uc _ _).2 hk)]
   refine⟨?_,by rw[adw];exact hr.keys,?_,?_⟩
   ·rw[Array.toList_modify];exact adv _ _ _ _ hr.dR hr.keys k' v0 hj
   ·intro e he
    rw[Array.toList_modify]at he
    obtain⟨i,hi,rfl⟩:=List.mem_iff_getElem.1 he
    rw[List.getElem_modify]
    have hi':i<es.toList.length:=by simpa using hi
    split
    ·rename_i e;subst e;exact hr.born es.toList[j] (List.getElem_mem hi')
    ·exact hr.born _ (List.getElem_mem hi')
   ·have:(es.modify j fun e=>{e with key:=.string k',val:=v}).toList.map (·.born)=es.toList.map (·.born):=by
     rw[Array.toList_modify]
     refine List.ext_getElem (by simp) fun i h1 h2=>?_
     simp only[List.getElem_map,List.getElem_modify]
     split
     ·rename_i e;subst e;rfl
     ·rfl
    rw[this];exact hr.once
 ·have hf:=Hl k _ _ 0 hr.dR hk
  refine⟨w.putObj b (.map (es.push {key:=.string k,val:=v,born:=clock}) (clock+1)),?_,⟨_,clock+1,World.putObj_heap_same hlt,?_⟩,DZ _,by simp[World.putObj]⟩
  ·simp[Instr.mapUpdate,run_underlying hm,MapKept.run_getObj_map hb,hc,MapKept.run_findKey hd hf,MapKept.run_setObj_map _ hb,Result.andThen,World.putObj]
  ·unfold nS
   rw[if_neg (fun e=>hk ((Uc _ _).1 e))]
   refine⟨by simp[hr.dR],?_,?_,?_⟩
   ·rw[List.map_append]
    refine List.nodup_append.2 ⟨hr.keys,by simp,?_⟩
    intro a ha c hc e
    simp only[List.map_cons,List.map_nil,List.mem_singleton]at hc
    exact hk (by rw[←hc,←e];exact ha)
   ·intro e he
    simp only[Array.toList_push,List.mem_append,List.mem_singleton]at he
    rcases he with he|rfl
    ·have:=hr.born e he;omega
    ·exact Nat.lt_succ_self _
   ·simp only[Array.toList_push,List.map_append,List.map_cons,List.map_nil]
    refine List.nodup_append.2 ⟨hr.once,by simp,?_⟩
    intro a ha c hc e
    simp only[List.mem_singleton]at hc
    obtain⟨x,hx,rfl⟩:=List.mem_map.1 ha
    have:=hr.born x hx
    omega
theorem adx(l:List MapEntry):∀(m:List (ByteArray×Value)) (j:Nat),l.map (fun e=>(e.key,e.val))=m.map (fun x=>(Value.string x.1,x.2))→(m.map (·.1)).Nodup→∀k v0,m[j]?=some (k,v0)→
  (l.eraseIdx j).map (fun e=>(e.key,e.val))=(ku m k).map (fun x=>(Value.string x.1,x.2)):=by
 induction l with
 |nil=>intro m j h;cases m with|nil=>simp[ku]|cons=>simp at h
 |cons e l ih=>
  intro m j h hn k v0 hj
  cases m with
  |nil=>simp at h
  |cons x m=>
   simp only[List.map_cons,List.cons.injEq,Prod.mk.injEq]at h
   simp only[List.map_cons,List.nodup_cons]at hn
   cases j with
   |zero=>
    simp only[List.getElem?_cons_zero,Option.some.injEq]at hj
    subst hj
    have hm:ku ((k,v0)::m) k=m:=by
     unfold ku
     rw[List.filter_cons_of_neg (by simp)]
     refine List.filter_eq_self.2 fun y hy=>?_
     have:¬y.1=k:=fun e=>hn.1 (List.mem_map.2 ⟨y,hy,e⟩)
     simp[this]
    rw[hm];exact h.2
   |succ j=>
    simp only[List.getElem?_cons_succ]at hj
    have hne:¬x.1=k:=fun e=>hn.1 (by
     have:=List.mem_of_getElem? hj
     exact List.mem_map.2 ⟨_,this,e.symm⟩)
    have hd:ku (x::m) k=x::ku m k:=by unfold ku;rw[List.filter_cons_of_pos (by simp[hne])]
    rw[hd]
    simp only[List.eraseIdx_cons_succ,List.map_cons]
    rw[ih m j h.2 hn.2 k v0 hj,h.1.1,h.1.2]
theorem ady{m:List (ByteArray×Value)}{k:ByteArray}(h:k∉m.map (·.1)):ku m k=m:=
 List.filter_eq_self.2 fun y hy=>by have:¬y.1=k:=fun e=>h (List.mem_map.2 ⟨y,hy,e⟩);simp[this]
theorem MI{ty:TypeId}{tY:Array TypeId}(ht:tY[0]?=some mty)(hm:P.underlying mty=some (.map kt et))(hd:P.underlying kt=some .string)(h:MapOf w b m) :
  ∃w',(Builtin.delete_ tY ty #[.map (some b),.string k]).run P w=.ok (.tuple #[]) w'∧MapOf w' b (ku m k)∧But (·=b) w w'∧w'.heap.size=w.heap.size:=by
 obtain⟨es,clock,hb,hr⟩:=h
 have hlt:=(Array.getElem?_eq_some_iff.1 hb).1
 have hc:(Instr.checkKey es.isEmpty 10000 kt (.string k)).run P w=.ok () w:=MapKept.run_checkKey hd (by trivial) _ 9999
 by_cases hk:k∈m.map (·.1)
 ·obtain⟨⟨k',v0⟩,hx,rfl⟩:=List.mem_map.1 hk
  obtain⟨j,hf,hj⟩:=Hm k' v0 _ _ 0 hr.dR hr.keys hx
  rw[Nat.zero_add]at hf
  refine⟨w.putObj b (.map (es.eraseIdxIfInBounds j) clock),?_,⟨_,clock,World.putObj_heap_same hlt,?_⟩,DZ _,by simp[World.putObj]⟩
  ·simp[Builtin.delete_,ht,run_underlying hm,MapKept.run_getObj_map hb,hc,MapKept.run_findKey hd hf,MapKept.run_setObj_map _ hb,Result.andThen,World.putObj]
  ·have ht:(es.eraseIdxIfInBounds j).toList=es.toList.eraseIdx j:=by simp
   refine⟨by rw[ht];exact adx _ _ _ hr.dR hr.keys k' v0 hj,?_,?_,?_⟩
   ·exact(List.filter_sublist.map _).nodup hr.keys
   ·intro e he;rw[ht]at he;exact hr.born e (List.mem_of_mem_eraseIdx he)
   ·rw[ht];exact((List.eraseIdx_sublist _ _).map _).nodup hr.once
 ·have hf:=Hl k _ _ 0 hr.dR hk
  refine⟨w.putObj b (.map es clock),?_,⟨_,clock,World.putObj_heap_same hlt,by rw[ady hk];exact hr⟩,DZ _,by simp[World.putObj]⟩
  simp[Builtin.delete_,ht,run_underlying hm,MapKept.run_getObj_map hb,hc,MapKept.run_findKey hd hf,MapKept.run_setObj_map _ hb,Result.andThen,World.putObj]
theorem MapOf.len(h:MapOf w b m):∃es clock,w.heap[b]?=some (.map es clock)∧es.size=m.length:=by
 obtain⟨es,clock,hb,hr⟩:=h
 have h2:=congrArg List.length hr.dR
 simp only[List.length_map,Array.length_toList]at h2
 exact⟨es,clock,hb,h2⟩
end
end Go.WW
namespace Go.WW
open Go.RowKit
def kz(w:World)(i b:Nat)(m left:List (ByteArray×Value)):Prop:=
 ∃es clock seen c0,w.heap[i]?=some (.mapIter (some b) clock seen c0)∧w.heap[b]?=some (.map es clock)∧Ua es clock m∧clock≤c0∧(leftOf es seen).toList.map (fun e=>(e.key,e.val))=left.map (fun x=>(Value.string x.1,x.2))
theorem kz.map{w:World}{i b:Nat}{m left:List (ByteArray×Value)}(h:kz w i b m left):MapOf w b m:=by
 obtain⟨es,clock,seen,c0,h1,h2,h3,h4⟩:=h
 exact⟨es,clock,h2,h3⟩
theorem kz.at{w w':World}{i b:Nat}{m left:List (ByteArray×Value)}(h:kz w i b m left)(e:w'.heap[i]?=w.heap[i]?)(e':w'.heap[b]?=w.heap[b]?):kz w' i b m left:=by
 obtain⟨es,clock,seen,c0,h1,h2,h3,h4⟩:=h
 exact⟨es,clock,seen,c0,e.trans h1,e'.trans h2,h3,h4⟩
theorem kz.lt{w:World}{i b:Nat}{m left:List (ByteArray×Value)}(h:kz w i b m left):i<w.heap.size:=by
 obtain⟨es,clock,seen,c0,h1,h2,h3,h4⟩:=h
 exact(Array.getElem?_eq_some_iff.1 h1).1
theorem filter_one(l:List MapEntry)(seen:Array Nat)(e:MapEntry)(A B:List MapEntry)(hn:(l.map (·.born)).Nodup)(h:l.filter (fun x=>!seen.contains x.born)=A++e::B):l.filter (fun x=>!(seen.push e.born).contains x.born)=A++B:=by
 have h1:l.filter (fun x=>!(seen.push e.born).contains x.born)=(l.filter (fun x=>!seen.contains x.born)).filter (fun x=>decide (x.born≠e.born)):=by
  rw[List.filter_filter]
  refine List.filter_congr fun x _=>?_
  simp[Bool.and_comm]
 rw[h1,h,List.filter_append,List.filter_cons_of_neg (by simp)]
 have hs:(A++e::B).Sublist l:=by rw[←h];exact List.filter_sublist
 have hn':=(hs.map (·.born)).nodup hn
 rw[List.map_append,List.map_cons]at hn'
 have hAB:=List.nodup_append.1 hn'
 rw[List.filter_eq_self.2,List.filter_eq_self.2]
 ·intro x hx
  have:=(List.nodup_cons.1 hAB.2.1).1
  simp only[ne_eq,decide_not,Bool.not_eq_eq_eq_not,Bool.not_true,decide_eq_false_iff_not]
  exact fun e'=>this (by rw[←e'];exact List.mem_map.2 ⟨x,hx,rfl⟩)
 ·intro x hx
  simp only[ne_eq,decide_not,Bool.not_eq_eq_eq_not,Bool.not_true,decide_eq_false_iff_not]
  exact fun e'=>hAB.2.2 _ (List.mem_map.2 ⟨x,hx,rfl⟩) _ (by simp) e'
section
variable {P:Program} {w:World} {i b:Nat} {m left:List (ByteArray×Value)}
theorem Ho{mty kt et:TypeId}(hm:P.underlying mty=some (.map kt et))(h:MapOf w b m) :
  ∃w',(Instr.range mty (.map (some b))).run P w=.ok (.pointer (some ⟨w.heap.size,0,none⟩)) w'∧kz w' w.heap.size b m m∧Below w.heap.size w w'∧w'.heap.size=w.heap.size+1:=by
 obtain⟨es,clock,hb,hr⟩:=h
 have hlt:=(Array.getElem?_eq_some_iff.1 hb).1
 refine⟨w.alloc (.mapIter (some b) clock #[] clock),run_range_map w mty kt et b es clock hm hb,⟨es,clock,#[],clock,World.alloc_heap_new _ _,(Below.heap_alloc _ _ _ hlt).trans hb,hr,Nat.le_refl _,?_⟩,(Below.refl _ w).alloc (Nat.le_refl _) _,by simp⟩
 have:(leftOf es #[]).toList=es.toList:=by unfold leftOf;simp
 rw[this];exact hr.dR
theorem Hq(ty:TypeId)(h:kz w i b m left) :
  (left=[]∧(Instr.next (.pointer (some ⟨i,0,none⟩)) false ty).run P w=.ok (.tuple #[.bool false]) w)∨
  ∃l1 x l2 w',left=l1++x::l2∧(Instr.next (.pointer (some ⟨i,0,none⟩)) false ty).run P w=.ok (.tuple #[.bool true,.string x.1,x.2]) w'∧(Instr.entry (.pointer (some ⟨i,0,none⟩))).run P w'=.ok (.tuple #[.string x.1,x.2]) w'∧kz w' i b m (l1++l2)∧But (·=i) w w'∧w'.heap.size=w.heap.size:=by
 obtain⟨es,clock,seen,c0,h1,h2,h3,h4,h5⟩:=h
 have hib:i≠b:=fun e=>by rw[e,h2]at h1;cases h1
 rcases run_next_at (P:=P) w ty i b clock c0 seen es clock h1 h2 h3.born h4 with⟨h0,hrun⟩|⟨e,he,w1,hw1,hrun⟩
 ·left
  refine⟨?_,hrun⟩
  have hl:=congrArg List.length h5
  simp only[List.length_map,Array.length_toList]at hl
  exact List.eq_nil_of_length_eq_zero (by omega)
 ·right
  obtain⟨A,B,hAB⟩:=List.append_of_mem he
  rw[hAB,List.map_append,List.map_cons]at h5
  obtain⟨l1,l',hl,e1,e2⟩:=List.map_eq_append_iff.1 h5.symm
  obtain⟨x,l2,rfl,e3,e4⟩:=List.map_eq_cons_iff.1 e2
  simp only[Prod.mk.injEq]at e3
  have hlt:=(Array.getElem?_eq_some_iff.1 h1).1
  have hheap:w1.heap=w.heap:=by rcases hw1 with rfl|rfl<;>rfl
  have hi':(ChangeMaps.setBlock w1 i (.mapIter (some b) clock (seen.push e.born) clock)).heap[i]?=some (.mapIter (some b) clock (seen.push e.born) clock):=by
   simp only[ChangeMaps.setBlock,hheap];rw[Array.getElem?_setIfInBounds];simp[hlt]
  have hb':(ChangeMaps.setBlock w1 i (.mapIter (some b) clock (seen.push e.born) clock)).heap[b]?=some (.map es clock):=by
   simp only[ChangeMaps.setBlock,hheap];rw[Array.getElem?_setIfInBounds];simp[hib,h2]
  have adz:e∈es.toList:=by
   unfold leftOf at he
   rw[Array.toList_filter]at he
   exact(List.mem_filter.1 he).1
  refine⟨l1,x,l2,_,hl,by rw[e3.1,e3.2];exact hrun,?_,⟨es,clock,_,clock,hi',hb',h3,Nat.le_refl _,?_⟩,?_,by simp[ChangeMaps.setBlock,hheap]⟩
  ·rw[e3.1,e3.2];exact run_entry_at _ i b clock seen es clock e hi' hb' adz h3.once
  ·unfold leftOf at hAB ⊢
   rw[Array.toList_filter]at hAB ⊢
   rw[filter_one _ _ _ _ _ h3.once hAB,List.map_append,List.map_append,e1,e4]
  ·have ht:w1.tape=w.tape∧w1.os=w.os∧w1.output=w.output:=by rcases hw1 with rfl|rfl<;>exact⟨rfl,rfl,rfl⟩
   refine⟨ht.2.1,ht.1,ht.2.2,by simp[ChangeMaps.setBlock,hheap],fun k hk hn=>?_⟩
   simp only[ChangeMaps.setBlock,hheap]
   rw[Array.getElem?_setIfInBounds]
   simp[Ne.symm (show k≠i from hn)]
end
end Go.WW
namespace Go.WW
open Go.RowKit
theorem But.drew{S:Nat→Prop}{a w:World}(h:But S a w):But S a w.drew:=⟨h.os,h.tape,h.output,h.size,h.block⟩
theorem But.cell{S:Nat→Prop}{w w':World}(h:But S w w'){b o:Nat}(hb:b<w.heap.size)(hn:¬S b):w'.cell? ⟨b,o,none⟩=w.cell? ⟨b,o,none⟩:=World.cell?_of_block (a:=⟨b,o,none⟩) (h.block b hb hn)
section
variable {P:Program} {ops:Array Oper} {S:World→Prop} {Q:Act→World→Prop}
def eU(o:Oper):Bool:=looks o || (match o.op with | .nilCheck _=>true|_=>false)
theorem MJ{o:Oper}(h:eU o=true)(ρ:Operand→Value)(w:World):(∃v w',(execOp ρ o).run P w=.ok (.value v) w')∨∃h w',(execOp ρ o).run P w=.halt h w':=by
 cases hl:looks o
 ·obtain⟨dst,op,type,pos,after,guard⟩:=o
  unfold eU at h
  rw[hl]at h
  cases op<;>simp at h
  case nilCheck x=>
   simp only[execOp]
   split
   ·exact .inr ⟨_,_,rfl⟩
   ·exact .inr ⟨_,_,rfl⟩
   ·exact .inr ⟨_,_,rfl⟩
   ·split
    ·exact .inr ⟨_,_,rfl⟩
    ·simp only[Sem.run_bind]
     cases (program).run P w with
     |halt h w'=>exact .inr ⟨h,w',by simp⟩
     |ok p w1=>
      dsimp only[Result.andThen]
      cases (nilAhead (p.types.size+Made.depth) _ _ _).run P w1 with
      |halt h w'=>exact .inr ⟨h,w',by simp⟩
      |ok c w2=>
       dsimp only[Result.andThen]
       split
       ·exact .inr ⟨_,_,rfl⟩
       ·exact .inl ⟨_,_,rfl⟩
    ·exact .inl ⟨_,_,rfl⟩
   ·exact .inl ⟨_,_,rfl⟩
 ·exact G8 hl ρ w
theorem aN{o:Oper}{rest:List Oper}{a:Act}{w:World}(hw:Region.wanted o (yielded ops a.tmps)=true)(hs:eU o=true)
  (h:∀K:Act→Prop,(∀a',aF P ops eU S Q rest a' w→K a')→o.quiet P a S K):aF P ops eU S Q (o::rest) a w:=by
 rw[bu,if_pos hw,if_pos hs]
 obtain⟨v,hv,hh⟩:=h _ (fun _ x=>x)
 refine⟨v,fun w' hw'=>?_,hh⟩
 have:=hv w' hw'
 unfold Oper.quietAt at this
 rcases MJ (P:=P) hs a.eval w' with⟨u,w'',e⟩|⟨x,w'',e⟩
 ·rw[e]at this ⊢
  obtain⟨rfl,rfl⟩:=this
  rfl
 ·rw[e]at this
  exact this.elim
theorem aS{o:Oper}{rest:List Oper}{a:Act}{w:World}(hw:Region.wanted o (yielded ops a.tmps)=true)(hs:eU o=false)
  (h:∀K:Act→World→Prop,(∀a' w',S w'→aF P ops eU S Q rest a' w'→K a' w')→o.wp P a w K never):aF P ops eU S Q (o::rest) a w:=by
 rw[bu,if_pos hw,if_neg (by simp[hs])]
 exact h _ (fun _ _ x y=>⟨x,y⟩)
end
structure qO(S:Nat→Prop)(W:World) where
 w:World
 b:But S W w
instance {S:Nat→Prop} {W:World}:Nonempty (qO S W):=⟨⟨W,But.refl _ _⟩⟩
section
variable {S:Nat→Prop} {W:World} (x:qO S W) (b o:Nat) (h:b<W.heap.size) (hn:¬S b)
include h hn
theorem qO.cell:x.w.cell? ⟨b,o,none⟩=W.cell? ⟨b,o,none⟩:=x.b.cell h hn
theorem qO.frozen:x.w.frozen? ⟨b,o,none⟩=W.frozen? ⟨b,o,none⟩:=by
 have:=x.b.block b h hn
 simp[World.frozen?,this]
theorem qO.row(n:Nat):row? x.w b o n=row? W b o n:=fO (x.b.block b h hn) o n
end
attribute [go_sem] qO.cell qO.frozen qO.row
abbrev mX(S:Nat→Prop)(w:World):World→Prop:=fun w'=>∃x:qO S w,w'=x.w
theorem oP{P:Program}{id:Nat}{Q':Exit→Act→World→Prop}{a:Act}{W w:World}{l:List Oper}(S:Nat→Prop)(hW:But S W w)(hm:P.follows .mixedOrders=true)(hB:lJ eU l.toArray=true)
  (h:aF P l.toArray eU (mX S W) (fun a' w'=>Q' .normal a' w') l a w.drew):(Code.region id l.toArray true).wp P Q' a w:=
 DN (mX S W) eU hm hB ⟨⟨w.drew,hW.drew⟩,rfl⟩ h
theorem bI{S:Nat→Prop}{W w:World}(h:But S W w):mX S W w:=⟨⟨w,h⟩,rfl⟩
theorem xh{P:Program}{id:Nat}{Q':Exit→Act→World→Prop}{a:Act}{W w:World}{l:List Oper}(hW:Below W.heap.size W w)(hm:P.follows .mixedOrders=true)(hB:lJ eU l.toArray=true)
  (h:∀w1,Below W.heap.size W w1→aF P l.toArray eU (since W) (fun a' w'=>Q' .normal a' w') l a w1):(Code.region id l.toArray true).wp P Q' a w:=
 DN (since W) eU hm hB ⟨⟨w.drew,hW.drew⟩,rfl⟩ (h _ hW.drew)
def one(p:Nat):Nat→Prop:=fun k=>k=p
theorem aT{p k:Nat}(h:k≠p):¬one p k:=h
end Go.WW
namespace Go.WW.T3
open Go.RowKit Go.WW
section
variable {P:Program} {ops:Array Oper} {S:World→Prop} {kd:Oper→Nat} {Q:Act→World→Prop}
def LV(P:Program)(S:World→Prop)(kd:Oper→Nat)(w:World)(o:Oper)(ρ:Operand→Value)(v:Value):Prop:=
 if kd o=0 then ∀w',S w'→(execOp ρ o).run P w'=.ok (.value v) w' else(execOp ρ o).run P w=.ok (.value v) w
theorem LV.here{P:Program}{S:World→Prop}{kd:Oper→Nat}{w:World}{o:Oper}{ρ:Operand→Value}{v:Value}(h:LV P S kd w o ρ v)(hS:S w):(execOp ρ o).run P w=.ok (.value v) w:=by
 unfold LV at h
 split at h
 ·exact h w hS
 ·exact h
theorem LV.any{P:Program}{S:World→Prop}{kd:Oper→Nat}{w w1:World}{o:Oper}{ρ:Operand→Value}{v:Value}(h:LV P S kd w o ρ v)(h0:kd o=0):LV P S kd w1 o ρ v:=by
 unfold LV at *
 rw[if_pos h0]at *
 exact h
def aF(P:Program)(ops:Array Oper)(kd:Oper→Nat)(S:World→Prop)(Q:Act→World→Prop):List Oper→Act→World→Prop
 | [],a,w=>Q a w
 |o::rest,a,w=>
  if Region.wanted o (yielded ops a.tmps)then
   if kd o<2 then ∃v,LV P S kd w o a.eval v∧aF P ops kd S Q rest (a.put o.dst v) w
   else o.wp P a w (fun a' w'=>S w'∧aF P ops kd S Q rest a' w') never
  else aF P ops kd S Q rest (a.put o.dst undef) w
theorem bu(o:Oper)(rest:List Oper)(a:Act)(w:World):aF P ops kd S Q (o::rest) a w =
  (if Region.wanted o (yielded ops a.tmps)then
   if kd o<2 then ∃v,LV P S kd w o a.eval v∧aF P ops kd S Q rest (a.put o.dst v) w
   else o.wp P a w (fun a' w'=>S w'∧aF P ops kd S Q rest a' w') never
  else aF P ops kd S Q rest (a.put o.dst undef) w):=rfl
theorem S9{l:List Oper}{Q':Act→World→Prop}(h:∀a w,Q a w→Q' a w):∀{a w},aF P ops kd S Q l a w→aF P ops kd S Q' l a w:=by
 induction l with
 |nil=>exact fun hh=>h _ _ hh
 |cons o l ih=>
  intro a w hh
  rw[bu]at *
  split
  ·rename_i hw
   simp only[hw,if_true]at hh
   split
   ·rename_i hs
    simp only[hs,if_true]at hh
    obtain⟨v,h1,h2⟩:=hh
    exact⟨v,h1,ih h2⟩
   ·rename_i hs
    simp only[hs]at hh
    exact Oper.wp_mono (fun a' w' ⟨x,y⟩=>⟨x,ih y⟩) hh
  ·rename_i hw
   simp only[hw]at hh
   exact ih hh
theorem DJ{o:Oper}{M M':List Oper}{a:Act}{w:World}(hS:S w)(h:∀a' w',S w'→aF P ops kd S Q M a' w'→aF P ops kd S Q M' a' w')
  (hh:aF P ops kd S Q (o::M) a w):aF P ops kd S Q (o::M') a w:=by
 rw[bu]at *
 split
 ·rename_i hw
  simp only[hw,if_true]at hh
  split
  ·rename_i hs
   simp only[hs,if_true]at hh
   obtain⟨v,h1,h2⟩:=hh
   exact⟨v,h1,h _ _ hS h2⟩
  ·rename_i hs
   simp only[hs]at hh
   exact Oper.wp_mono (fun a' w' ⟨x,y⟩=>⟨x,h _ _ x y⟩) hh
 ·rename_i hw
  simp only[hw]at hh
  exact h _ _ hS hh
def nU(kd:Oper→Nat)(x o:Oper):Bool:=decide (kd x=0) || decide (kd o=0) || (decide (kd x<2)&&decide (kd o<2))
theorem DK{x o:Oper}{L:List Oper}{a:Act}{w:World}(hS:S w)(hx:∀cs b,x.op≠.select cs b)(ho:∀cs b,o.op≠.select cs b)
  (hap:x.apart ops o=true) (hst:nU kd x o=true) (h:aF P ops kd S Q (x::o::L) a w):aF P ops kd S Q (o::x::L) a w:=by
 obtain⟨h1,h2,h3⟩:=Oper.apart_spec hap
 have h2':∀d,o.dst=some d→x.dst≠some d:=fun d hd hxd=>h2 d hxd hd
 have wo:∀(b:Act) v,Region.wanted o (yielded ops (b.put x.dst v).tmps)=Region.wanted o (yielded ops b.tmps):=fun b v=>wanted_put o b x.dst v h1
 have wx:∀(b:Act) v,Region.wanted x (yielded ops (b.put o.dst v).tmps)=Region.wanted x (yielded ops b.tmps):=fun b v=>wanted_put x b o.dst v h3
 have eo:∀(w:World) (b:Act) v u,LV P S kd w o (b.put x.dst v).eval u=LV P S kd w o b.eval u:=fun w b v u=>by unfold LV;rw[execOp_put o ho b x.dst v h1]
 have ex:∀(w:World) (b:Act) v u,LV P S kd w x (b.put o.dst v).eval u=LV P S kd w x b.eval u:=fun w b v u=>by unfold LV;rw[execOp_put x hx b o.dst v h3]
 have hc:∀(b:Act) v u,(b.put x.dst v).put o.dst u=(b.put o.dst u).put x.dst v:=fun b v u=>Act.put_comm b v u h2
 have hk:(kd x=0∨kd o=0)∨kd x<2∧kd o<2:=by simpa[nU]using hst
 rw[bu]at h ⊢
 by_cases hwx:Region.wanted x (yielded ops a.tmps)=true
 ·rw[if_pos hwx]at h
  by_cases hsx:kd x<2
  ·rw[if_pos hsx]at h
   obtain⟨v,hv,h⟩:=h
   rw[bu,wo]at h
   by_cases hwo:Region.wanted o (yielded ops a.tmps)=true
   ·rw[if_pos hwo]at h ⊢
    by_cases hso:kd o<2
    ·rw[if_pos hso]at h ⊢
     obtain⟨u,hu,h⟩:=h
     rw[eo]at hu
     refine⟨u,hu,?_⟩
     rw[bu,wx,if_pos hwx,if_pos hsx]
     exact⟨v,by rw[ex];exact hv,by rw[←hc];exact h⟩
    ·rw[if_neg hso]at h ⊢
     have h0:kd x=0:=by omega
     have h':=tN ((nM ho h1 h2).1 h)
     refine Oper.wp_mono ?_ h'
     rintro a' w' ⟨⟨u,ds,rfl⟩,hS',h⟩
     refine⟨hS',?_⟩
     rw[bu,wx,show Region.wanted x (yielded ops ({a with defers:=ds}:Act).tmps)=true from hwx,if_pos rfl,if_pos hsx]
     exact⟨v,by rw[ex];exact hv.any h0,h⟩
   ·rw[if_neg hwo]at h ⊢
    rw[bu,wx,if_pos hwx,if_pos hsx]
    exact⟨v,by rw[ex];exact hv,by rw[←hc];exact h⟩
  ·have h0:kd o=0:=by omega
   have hso:kd o<2:=by omega
   rw[if_neg hsx]at h
   have h':=tN h
   by_cases hwo:Region.wanted o (yielded ops a.tmps)=true
   ·rw[if_pos hwo,if_pos hso]
    have key:∀a' w',((∃u ds,a'=({a with defers:=ds}:Act).put x.dst u)∧S w'∧aF P ops kd S Q (o::L) a' w')→
      ∃v,LV P S kd w o a.eval v∧S w'∧aF P ops kd S Q L (a'.put o.dst v) w':=by
     rintro a' w' ⟨⟨u,ds,rfl⟩,hS',hh⟩
     rw[bu,wo,show Region.wanted o (yielded ops ({a with defers:=ds}:Act).tmps)=true from hwo,if_pos rfl,if_pos hso]at hh
     obtain⟨v,hv,hh⟩:=hh
     rw[eo]at hv
     exact⟨v,hv.any h0,hS',hh⟩
    obtain⟨a1,w1,h1'⟩:=G7 h'
    obtain⟨v,hv,_⟩:=key _ _ h1'
    refine⟨v,hv,?_⟩
    rw[bu,wx,if_pos hwx,if_neg hsx,nM hx h3 h2']
    refine Oper.wp_mono ?_ h'
    intro a' w' hh
    obtain⟨v',hv',hS',hh⟩:=key _ _ hh
    have e:v'=v:=by
     have:=(hv'.here hS).symm.trans (hv.here hS)
     simpa using this
    subst e
    exact⟨hS',hh⟩
   ·rw[if_neg hwo,bu,wx,if_pos hwx,if_neg hsx,nM hx h3 h2']
    refine Oper.wp_mono ?_ h'
    rintro a' w' ⟨⟨u,ds,rfl⟩,hS',hh⟩
    rw[bu,wo,show Region.wanted o (yielded ops ({a with defers:=ds}:Act).tmps)=false from by simpa using hwo,if_neg (by simp)]at hh
    exact⟨hS',hh⟩
 ·rw[if_neg hwx]at h
  rw[bu,wo]at h
  by_cases hwo:Region.wanted o (yielded ops a.tmps)=true
  ·rw[if_pos hwo]at h ⊢
   by_cases hso:kd o<2
   ·rw[if_pos hso]at h ⊢
    obtain⟨u,hu,h⟩:=h
    rw[eo]at hu
    refine⟨u,hu,?_⟩
    rw[bu,wx,if_neg hwx,←hc]
    exact h
   ·rw[if_neg hso]at h ⊢
    have h':=tN ((nM ho h1 h2).1 h)
    refine Oper.wp_mono ?_ h'
    rintro a' w' ⟨⟨u,ds,rfl⟩,hS',h⟩
    refine⟨hS',?_⟩
    rw[bu,wx,show Region.wanted x (yielded ops ({a with defers:=ds}:Act).tmps)=false from by simpa using hwx,if_neg (by simp)]
    exact h
  ·rw[if_neg hwo]at h ⊢
   rw[bu,wx,if_neg hwx,←hc]
   exact h
theorem nN{o:Oper}{L2:List Oper}(ho:∀cs b,o.op≠.select cs b):∀(L1:List Oper),(∀x∈L1,(∀cs b,x.op≠.select cs b)∧x.apart ops o=true∧nU kd x o=true)→
  ∀(a:Act) (w:World),S w→aF P ops kd S Q (L1++o::L2) a w→aF P ops kd S Q (o::(L1++L2)) a w
 | [],_,_,_,_,h=>h
 |x::L1,hall,a,w,hS,h=>by
  have hx:=hall x (by simp)
  refine DK hS hx.1 ho hx.2.1 hx.2.2 ?_
  exact DJ hS (fun a' w' hS' hh=>nN ho L1 (fun y hy=>hall y (by simp[hy])) a' w' hS' hh) h
abbrev lk(kd:Oper→Nat):Oper→Bool:=fun o=>decide (kd o<2)
def lJ(kd:Oper→Nat)(ops:Array Oper):Bool:=
 let m:=Aq (lk kd) ops
 Region.noSelect ops&&(List.range ops.size).all fun j=>match ops[j]? with
  |none=>true
  |some oj=>
   oj.after.toList.all (fun e=>!Region.binds .any e || decide (e.on<j))&&
   (m.getD j []).all (fun i=>oj.after.toList.any fun e=>Region.binds .any e&&(e.on == i || (m.getD e.on []).contains i))&&
   (List.range j).all fun i=>match ops[i]? with
    |none=>true
    |some oi=>oj.after.toList.any (fun e=>Region.binds .any e&&e.on == i) || (oi.apart ops oj&&(nU kd oi oj || (m.getD j []).contains i))
structure tV(kd:Oper→Nat)(ops:Array Oper)(m:Array (List Nat)):Prop where
 kU:Region.noSelect ops=true
 back:∀j oj,ops[j]?=some oj→∀e∈oj.after,Region.binds .any e=true→e.on<j
 pred:∀j oj,ops[j]?=some oj→∀i∈m.getD j [],∃e∈oj.after,Region.binds .any e=true∧(e.on=i∨i∈m.getD e.on [])
 pair:∀j oj,ops[j]?=some oj→∀i,i<j→∀oi,ops[i]?=some oi→(∃e∈oj.after,Region.binds .any e=true∧e.on=i)∨(oi.apart ops oj=true∧(nU kd oi oj=true∨i∈m.getD j []))
theorem Ar(h:lJ kd ops=true):tV kd ops (Aq (lk kd) ops):=by
 unfold lJ at h
 simp only[Bool.and_eq_true,List.all_eq_true,List.mem_range]at h
 obtain⟨hs,h⟩:=h
 have lt:∀{j:Nat} {oj:Oper},ops[j]?=some oj→j<ops.size:=fun hj=>(Array.getElem?_eq_some_iff.1 hj).1
 refine⟨hs,fun j oj hj=>?_,fun j oj hj=>?_,fun j oj hj=>?_⟩
 all_goals
  have hh:=h j (lt hj)
  simp only[hj,Bool.and_eq_true,List.all_eq_true,List.mem_range]at hh
  obtain⟨⟨h1,h2⟩,h3⟩:=hh
 ·intro e he hb
  have:=h1 e (by simpa using he)
  simpa[hb]using this
 ·intro i hi
  have:=h2 i hi
  simp only[List.any_eq_true,Bool.and_eq_true,Bool.or_eq_true,beq_iff_eq,List.contains_iff_mem]at this
  obtain⟨e,he,hb,hor⟩:=this
  exact⟨e,by simpa using he,hb,hor⟩
 ·intro i hi oi ho
  have:=h3 i hi
  simp only[ho,Bool.or_eq_true,List.any_eq_true,Bool.and_eq_true,beq_iff_eq,List.contains_iff_mem]at this
  rcases this with⟨e,he,hb,hor⟩|⟨ha,hor⟩
  ·exact .inl ⟨e,by simpa using he,hb,hor⟩
  ·exact .inr ⟨ha,hor⟩
theorem Au{m:Array (List Nat)}(hok:tV kd ops m){listed:Array Bool}
  (hdown:∀k o,ops[k]?=some o→listed.getD k false=true→∀e∈o.after,Region.binds .any e=true→listed.getD e.on false=true) :
  ∀(j:Nat) (oj:Oper),ops[j]?=some oj→(∀e∈oj.after,Region.binds .any e=true→listed.getD e.on false=true)→∀i∈m.getD j [],listed.getD i false=true:=by
 intro j
 induction j using Nat.strongRecOn with
 |_ j ih=>
  intro oj hj hall i hi
  obtain⟨e,he,hb,hor⟩:=hok.pred j oj hj i hi
  rcases hor with rfl|hor
  ·exact hall e he hb
  ·have hlt:=hok.back j oj hj e he hb
   have hjs:j<ops.size:=(Array.getElem?_eq_some_iff.1 hj).1
   have hoe:ops[e.on]?=some (ops[e.on]'(by omega)):=by simp
   exact ih e.on hlt _ hoe (hdown _ _ hoe (hall e he hb)) i hor
theorem DL{m:Array (List Nat)}(hok:tV kd ops m){Q':Exit→Act→World→Prop}(hQ:∀a w,Q a w→Q' .normal a w) :
  ∀(n:Nat) (L:List Nat) (listed:Array Bool) (a:Act) (w:World),L.length=n→L.Pairwise (· < ·)→listed.size=ops.size→(∀j,j∈L↔j<ops.size∧listed.getD j true=false)→
   (∀k o,ops[k]?=some o→listed.getD k false=true→∀e∈o.after,Region.binds .any e=true→listed.getD e.on false=true)→
   S w→aF P ops kd S Q (L.filterMap (ops[·]?)) a w→wpAny P .any ops Q' n listed a w:=by
 intro n
 induction n with
 |zero=>
  intro L listed a w hn _ hsz hL _ _ h
  have:L=[]:=List.eq_nil_of_length_eq_zero hn
  subst this
  refine⟨?_,hQ _ _ h⟩
  cases hr:Region.ready .any ops listed with
  |nil=>rfl
  |cons i r=>
   have hi:i∈Region.ready .any ops listed:=by rw[hr];simp
   obtain⟨h0,o,ho,_⟩:=mem_ready.1 hi
   have:=(hL i).2 ⟨(Array.getElem?_eq_some_iff.1 ho).1,h0⟩
   cases this
 |succ n ih=>
  intro L listed a w hn hsort hsz hL hdown hS h
  refine⟨fun hr=>?_,fun i hi=>?_⟩
  ·exfalso
   cases L with
   |nil=>simp at hn
   |cons j L=>
    obtain⟨hj,hjl⟩:=(hL j).1 (by simp)
    have hoj:ops[j]?=some ops[j]:=by simp[hj]
    have:j∈Region.ready .any ops listed:=by
     refine mem_ready.2 ⟨hjl,_,hoj,fun e he hb=>?_⟩
     have hlt:=hok.back j _ hoj e he hb
     have hnot:e.on∉j::L:=by
      intro hmem
      rcases List.mem_cons.1 hmem with h1|h1
      ·omega
      ·have:=(List.pairwise_cons.1 hsort).1 _ h1;omega
     have h2:listed.getD e.on true≠false:=fun hf=>hnot ((hL e.on).2 ⟨by omega,hf⟩)
     have hes:e.on<listed.size:=by omega
     simp[hes]at h2 ⊢;exact h2
    rw[hr]at this;cases this
  ·obtain⟨h0,o,ho,hall⟩:=mem_ready.1 hi
   have his:i<ops.size:=(Array.getElem?_eq_some_iff.1 ho).1
   have hiL:i∈L:=(hL i).2 ⟨his,h0⟩
   obtain⟨L1,L2,rfl⟩:=List.append_of_mem hiL
   have dQ:=List.pairwise_append.1 hsort
   have hlt1:∀x∈L1,x<i:=fun x hx=>dQ.2.2 x hx i (by simp)
   have hgt2:∀x∈L2,i<x:=fun x hx=>(List.pairwise_cons.1 dQ.2.1).1 x hx
   rw[List.filterMap_append,List.filterMap_cons_some ho]at h
   have cO:=nN (P:=P) (ops:=ops) (S:=S) (kd:=kd) (Q:=Q) (Region.noSelect_spec hok.kU i o · · ho) (L1.filterMap (ops[·]?)) (fun x hx=>by
    obtain⟨k,hk,hox⟩:=List.mem_filterMap.1 hx
    have hkl:=((hL k).1 (by simp[hk])).2
    have hnl:¬listed.getD k false=true:=fun hf=>by rw[ve hf]at hkl;cases hkl
    refine⟨(Region.noSelect_spec hok.kU k x · · hox),?_⟩
    rcases hok.pair i o ho k (hlt1 k hk) x hox with⟨e,he,hb,rfl⟩|⟨hap,hor⟩
    ·exact absurd (hall e he hb) hnl
    ·refine⟨hap,?_⟩
     rcases hor with h1|h1
     ·exact h1
     ·exact absurd (Au hok hdown i o ho hall k h1) hnl) a w hS h
   have hrest:∀a' w',S w'→aF P ops kd S Q (L1.filterMap (ops[·]?)++L2.filterMap (ops[·]?)) a' w'→wpAny P .any ops Q' n (listed.setIfInBounds i true) a' w':=by
    intro a' w' hS' hh
    rw[←List.filterMap_append]at hh
    refine ih (L1++L2) (listed.setIfInBounds i true) a' w' ?_ ?_ (by simpa using hsz) ?_ ?_ hS' hh
    ·simp at hn ⊢;omega
    ·exact List.pairwise_append.2 ⟨dQ.1,(List.pairwise_cons.1 dQ.2.1).2,fun x hx y hy=>dQ.2.2 x hx y (by simp[hy])⟩
    ·intro j
     by_cases hji:j=i
     ·subst hji
      constructor
      ·intro hm
       exfalso
       rcases List.mem_append.1 hm with h1|h1
       ·have:=hlt1 _ h1;omega
       ·have:=hgt2 _ h1;omega
      ·rintro⟨_,hf⟩
       have:j<listed.size:=by omega
       simp[this]at hf
     ·rw[getD_set_ne true (Ne.symm hji),←hL j]
      simp[hji]
    ·intro k ok hk hkl e he hb
     by_cases hki:k=i
     ·subst hki
      rw[ho]at hk;cases hk
      exact getD_set_true (hall e he hb)
     ·rw[getD_set_ne false (Ne.symm hki)]at hkl
      exact getD_set_true (hdown k ok hk hkl e he hb)
   unfold wpOp
   simp only[ho]
   rw[bu]at cO
   split
   ·rename_i hw
    rw[if_pos hw]at cO
    refine .inl ?_
    by_cases hs:kd o<2
    ·rw[if_pos hs]at cO
     obtain⟨v,hv,hh⟩:=cO
     unfold Oper.wp
     rw[hv.here hS]
     exact hrest _ _ hS hh
    ·rw[if_neg hs]at cO
     exact tK (Oper.wp_mono (fun a' w' hh=>hrest a' w' hh.1 hh.2) cO)
   ·rename_i hw
    rw[if_neg hw]at cO
    exact hrest _ _ hS cO
theorem DN{id:Nat}{Q':Exit→Act→World→Prop}{a:Act}{w:World}{l:List Oper}(S:World→Prop)(kd:Oper→Nat)(hm:P.follows .mixedOrders=true)(hB:lJ kd l.toArray=true)
  (hS:S w.drew) (h:aF P l.toArray kd S (fun a' w'=>Q' .normal a' w') l a w.drew):(Code.region id l.toArray true).wp P Q' a w:=by
 refine wp_region_any hm ?_
 have hfm:(List.range l.toArray.size).filterMap (l.toArray[·]?)=l:=by
  apply List.ext_getElem?
  intro i
  have:∀n,(List.range n).filterMap (fun i=>l.toArray[i]?)=l.take n:=by
   intro n
   induction n with
   |zero=>simp
   |succ n ih=>
    rw[List.range_succ,List.filterMap_append,ih]
    by_cases hn:n<l.length
    ·rw[List.take_succ_eq_append_getElem hn];simp[hn]
    ·simp[hn,List.take_of_length_le (show l.length≤n by omega),List.take_of_length_le (show l.length≤n+1 by omega)]
  rw[this];simp
 have:=DL (P:=P) (S:=S) (Q:=fun a' w'=>Q' .normal a' w') (Ar hB) (Q':=Q') (fun _ _ h=>h) l.toArray.size (List.range l.toArray.size) (Array.replicate l.toArray.size false) a w.drew
  (by simp) List.pairwise_lt_range (by simp) (by intro j;simp;intro h;simp[h]) (by intro k o hk hkl;exfalso;rw[Array.getD_eq_getD_getElem?,Array.getElem?_replicate]at hkl;split at hkl<;>simp at hkl) hS (by rw[hfm];exact h)
 exact this
theorem bW{a:Act}{w:World}(h:Q a w):aF P ops kd S Q [] a w:=h
theorem aP{o:Oper}{rest:List Oper}{a:Act}{w:World}(hw:Region.wanted o (yielded ops a.tmps)=false)(h:aF P ops kd S Q rest (a.put o.dst undef) w):aF P ops kd S Q (o::rest) a w:=by
 rw[bu,if_neg (by simp[hw])];exact h
def kinds(o:Oper):Nat:=
 match o.op with
 | .load ..=>1
 |_=>if looks o then 0 else 2
theorem Ud{o:Oper}(h:kinds o<2):looks o=true:=by
 unfold kinds at h
 split at h
 ·rename_i h';unfold looks;rw[h']
 ·split at h
  ·assumption
  ·omega
theorem gI{o:Oper}{rest:List Oper}{a:Act}{w:World}(hw:Region.wanted o (yielded ops a.tmps)=true)(hs:kinds o=0)
  (h:∀K:Act→Prop,(∀a',aF P ops kinds S Q rest a' w→K a')→o.quiet P a S K):aF P ops kinds S Q (o::rest) a w:=by
 rw[bu,if_pos hw,if_pos (by omega)]
 obtain⟨v,hv,hh⟩:=h _ (fun _ x=>x)
 refine⟨v,?_,hh⟩
 unfold LV
 rw[if_pos hs]
 intro w' hw'
 have:=hv w' hw'
 unfold Oper.quietAt at this
 rcases G8 (P:=P) (Ud (o:=o) (by omega)) a.eval w' with⟨u,w'',e⟩|⟨x,w'',e⟩
 ·rw[e]at this ⊢
  obtain⟨rfl,rfl⟩:=this
  rfl
 ·rw[e]at this
  exact this.elim
theorem AO{o:Oper}{rest:List Oper}{a:Act}{w:World}(hw:Region.wanted o (yielded ops a.tmps)=true)(hs:kinds o=1)
  (h:∀K:Act→World→Prop,(∀a',aF P ops kinds S Q rest a' w→K a' w)→o.wp P a w K never):aF P ops kinds S Q (o::rest) a w:=by
 rw[bu,if_pos hw,if_pos (by omega)]
 have h':=h (fun a' w'=>w'=w∧aF P ops kinds S Q rest a' w) (fun _ x=>⟨rfl,x⟩)
 unfold Oper.wp at h'
 rcases G8 (P:=P) (Ud (o:=o) (by omega)) a.eval w with⟨u,w'',e⟩|⟨x,w'',e⟩
 ·rw[e]at h'
  obtain⟨rfl,hh⟩:=h'
  refine⟨u,?_,hh⟩
  unfold LV
  rw[if_neg (by omega)]
  exact e
 ·rw[e]at h'
  cases x<;>simp only[Oper.upon,never]at h'
theorem jg{o:Oper}{rest:List Oper}{a:Act}{w:World}(hw:Region.wanted o (yielded ops a.tmps)=true)(hs:kinds o=2)
  (h:∀K:Act→World→Prop,(∀a' w',S w'→aF P ops kinds S Q rest a' w'→K a' w')→o.wp P a w K never):aF P ops kinds S Q (o::rest) a w:=by
 rw[bu,if_pos hw,if_neg (by omega)]
 exact h _ (fun _ _ x y=>⟨x,y⟩)
end
theorem Ue{P:Program}{id:Nat}{Q':Exit→Act→World→Prop}{a:Act}{W w:World}{l:List Oper}(S:Nat→Prop)(hW:But S W w)(hm:P.follows .mixedOrders=true)(hB:lJ kinds l.toArray=true)
  (h:aF P l.toArray kinds (mX S W) (fun a' w'=>Q' .normal a' w') l a w.drew):(Code.region id l.toArray true).wp P Q' a w:=
 DN (mX S W) kinds hm hB ⟨⟨w.drew,hW.drew⟩,rfl⟩ h
end Go.WW.T3
namespace Go.WW.TI
open Go.RowKit
section
variable {F:Fence} {P:Program} {ops:Array Oper} {S:World→Prop} {st:Oper→Bool} {Q:Act→World→Prop}
def aF(F:Fence)(P:Program)(ops:Array Oper)(st:Oper→Bool)(S:World→Prop)(Q:Act→World→Prop):List Oper→Act→World→Prop
 | [],a,w=>Q a w
 |o::rest,a,w=>
  if Region.wanted o (yielded ops a.tmps)then
   if st o then ∃v,(∀w',S w'→(execOp a.eval o).run P w'=.ok (.value v) w')∧aF F P ops st S Q rest (a.put o.dst v) w
   else o.wpIn F 0 P a w (fun a' w'=>S w'∧aF F P ops st S Q rest a' w') never
  else aF F P ops st S Q rest (a.put o.dst undef) w
def AP(o:Oper):Bool:=match o.op with | .defer _=>true|_=>false
def Hr(l:List Oper):Bool:=l.all fun o=>!AP o
theorem adA{l:List Oper}(h:Hr l=true):∀(i:Nat) (o:Oper),l.toArray[i]?=some o→∀c,o.op≠.defer c:=by
 intro i o ho c hc
 have hm:o∈l:=List.mem_of_getElem? (by simpa using ho)
 have:=(List.all_eq_true.1 h) o hm
 simp[AP,hc]at this
theorem tK{o:Oper}{a:Act}{w:World}{K:Act→World→Prop}{Q':Exit→Act→World→Prop}(h:o.wpIn F 0 P a w K never):o.wpIn F 0 P a w K Q':=by
 unfold Oper.wpIn at *
 refine⟨h.1,?_⟩
 have h:=h.2
 generalize (o.semAt F.round a.eval).run P w=r at *
 cases r with
 |ok n w'=>
  cases n<;>simp only[Oper.uponIn]at h ⊢<;>
   first
    |exact h
    |exact⟨h.1,CallsIn.mono h.2 (fun e w'' he=>by cases e<;>first|exact he|exact he.elim|(obtain⟨_,_,he⟩:=he;exact he.elim))⟩
    |exact⟨h.1,RoundIn.mono h.2 (fun e w'' he=>by cases e<;>first|exact he|exact he.elim|(obtain⟨_,_,he⟩:=he;exact he.elim))⟩
 |halt x w'=>cases x<;>simp only[Oper.uponIn,never]at h ⊢
theorem tN{o:Oper}{a:Act}{w:World}{K:Act→World→Prop}(h:o.wpIn F 0 P a w K never) :
  o.wpIn F 0 P a w (fun a' w'=>(∃u ds,a'=({a with defers:=ds}:Act).put o.dst u)∧K a' w') never:=by
 unfold Oper.wpIn at *
 refine⟨h.1,?_⟩
 have h:=h.2
 generalize (o.semAt F.round a.eval).run P w=r at *
 cases r with
 |ok n w'=>
  cases n<;>simp only[Oper.uponIn]at h ⊢<;>
   first
    |exact⟨⟨_,a.defers,rfl⟩,h⟩
    |exact⟨⟨_,_,rfl⟩,h⟩
    |exact⟨h.1,CallsIn.mono h.2 (fun e w'' he=>by cases e<;>first|exact⟨⟨_,a.defers,rfl⟩,he⟩|exact he)⟩
    |exact⟨h.1,RoundIn.mono h.2 (fun e w'' he=>by cases e<;>first|exact⟨⟨_,a.defers,rfl⟩,he⟩|exact he)⟩
    |exact⟨h.1,RowsIn.mono h.2 (fun _ _ he=>⟨⟨_,a.defers,rfl⟩,he⟩)⟩
    |exact h
 |halt x w'=>cases x<;>simp only[Oper.uponIn,never]at h ⊢
theorem G7(hd:F.depth=none){o:Oper}{a:Act}{w:World}{K:Act→World→Prop}(h:o.wpIn F 0 P a w K never):∃a' w',K a' w':=by
 have hroom:∀n,F.room n:=fun n d e=>by rw[hd]at e;cases e
 unfold Oper.wpIn at *
 have h:=h.2
 generalize (o.semAt F.round a.eval).run P w=r at *
 cases r with
 |ok n w'=>
  cases n<;>simp only[Oper.uponIn]at h<;>
   first
    |exact⟨_,_,h⟩
    |(obtain⟨e,w'',fr,hR,_⟩:=h.2.2 [] (hroom _)
      cases e with
      |returned v=>exact⟨_,_,hR⟩
      |panicked c=>exact hR.elim
      |outgrown=>obtain⟨_,_,hR⟩:=hR;exact hR.elim)
    |(obtain⟨e,w'',hR,_⟩:=h.2.2 default [] (hroom _)
      cases e with
      |returned v=>exact⟨_,_,hR⟩
      |panicked c=>exact hR.elim
      |outgrown=>obtain⟨_,_,hR⟩:=hR;exact hR.elim)
    |(obtain⟨v,w'',hR,_⟩:=h.2 default [] (hroom _);exact⟨_,_,hR⟩)
    |exact h.elim
 |halt x w'=>cases x<;>simp only[Oper.uponIn,never]at h
theorem nM(hF:∀f,F.fn f){o:Oper}{a:Act}{w:World}{K:Act→World→Prop}{dst:Option Tmp}{v:Value}(hnd:∀c,o.op≠.defer c)(hs:∀cs b,o.op≠.select cs b)
  (h1:∀d,dst=some d→d∉o.looksAt ops) (h2:∀d,dst=some d→o.dst≠some d) :
  o.wpIn F 0 P (a.put dst v) w K never↔o.wpIn F 0 P a w (fun a' w'=>K (a'.put dst v) w') never:=by
 unfold Oper.wpIn
 rw[Oper.semAt_eq _ _ _ hnd,Oper.semAt_eq _ _ _ hnd,execOp_put o hs a dst v h1]
 generalize (execOp a.eval o).run P w=r
 have hc:∀(b:Act) u,(b.put dst v).put o.dst u=(b.put o.dst u).put dst v:=fun b u=>Act.put_comm b v u h2
 have hd:∀d,({a.put dst v with defers:=d::(a.put dst v).defers}:Act)=({a with defers:=d::a.defers}:Act).put dst v:=fun d=>Act.put_defers a dst v d
 refine and_congr ⟨fun _ f _=>hF f,fun _ f _=>hF f⟩ ?_
 cases r with
 |ok n w'=>
  cases n<;>simp only[Oper.uponIn,hc,hd]
 |halt x w'=>cases x<;>simp only[Oper.uponIn]
theorem bu(o:Oper)(rest:List Oper)(a:Act)(w:World):aF F P ops st S Q (o::rest) a w =
  (if Region.wanted o (yielded ops a.tmps)then
   if st o then ∃v,(∀w',S w'→(execOp a.eval o).run P w'=.ok (.value v) w')∧aF F P ops st S Q rest (a.put o.dst v) w
   else o.wpIn F 0 P a w (fun a' w'=>S w'∧aF F P ops st S Q rest a' w') never
  else aF F P ops st S Q rest (a.put o.dst undef) w):=rfl
theorem S9{l:List Oper}{Q':Act→World→Prop}(h:∀a w,Q a w→Q' a w):∀{a w},aF F P ops st S Q l a w→aF F P ops st S Q' l a w:=by
 induction l with
 |nil=>exact fun hh=>h _ _ hh
 |cons o l ih=>
  intro a w hh
  rw[bu]at *
  split
  ·rename_i hw
   simp only[hw,if_true]at hh
   split
   ·rename_i hs
    simp only[hs,if_true]at hh
    obtain⟨v,h1,h2⟩:=hh
    exact⟨v,h1,ih h2⟩
   ·rename_i hs
    simp only[hs]at hh
    exact Oper.wpIn_mono (fun a' w' ⟨x,y⟩=>⟨x,ih y⟩) hh
  ·rename_i hw
   simp only[hw]at hh
   exact ih hh
theorem DJ{o:Oper}{M M':List Oper}{a:Act}{w:World}(hS:S w)(h:∀a' w',S w'→aF F P ops st S Q M a' w'→aF F P ops st S Q M' a' w')
  (hh:aF F P ops st S Q (o::M) a w):aF F P ops st S Q (o::M') a w:=by
 rw[bu]at *
 split
 ·rename_i hw
  simp only[hw,if_true]at hh
  split
  ·rename_i hs
   simp only[hs,if_true]at hh
   obtain⟨v,h1,h2⟩:=hh
   exact⟨v,h1,h _ _ hS h2⟩
  ·rename_i hs
   simp only[hs]at hh
   exact Oper.wpIn_mono (fun a' w' ⟨x,y⟩=>⟨x,h _ _ x y⟩) hh
 ·rename_i hw
  simp only[hw]at hh
  exact h _ _ hS hh
theorem DK(hF:∀f,F.fn f)(hdp:F.depth=none){x o:Oper}{L:List Oper}{a:Act}{w:World}(hxd:∀c,x.op≠.defer c)(hod:∀c,o.op≠.defer c)(hx:∀cs b,x.op≠.select cs b)(ho:∀cs b,o.op≠.select cs b)
  (hap:x.apart ops o=true) (hst:st x=true∨st o=true) (h:aF F P ops st S Q (x::o::L) a w):aF F P ops st S Q (o::x::L) a w:=by
 obtain⟨h1,h2,h3⟩:=Oper.apart_spec hap
 have h2':∀d,o.dst=some d→x.dst≠some d:=fun d hd hxd=>h2 d hxd hd
 have wo:∀(b:Act) v,Region.wanted o (yielded ops (b.put x.dst v).tmps)=Region.wanted o (yielded ops b.tmps):=fun b v=>wanted_put o b x.dst v h1
 have wx:∀(b:Act) v,Region.wanted x (yielded ops (b.put o.dst v).tmps)=Region.wanted x (yielded ops b.tmps):=fun b v=>wanted_put x b o.dst v h3
 have eo:∀(b:Act) v,execOp (b.put x.dst v).eval o=execOp b.eval o:=fun b v=>execOp_put o ho b x.dst v h1
 have ex:∀(b:Act) v,execOp (b.put o.dst v).eval x=execOp b.eval x:=fun b v=>execOp_put x hx b o.dst v h3
 have hc:∀(b:Act) v u,(b.put x.dst v).put o.dst u=(b.put o.dst u).put x.dst v:=fun b v u=>Act.put_comm b v u h2
 rw[bu]at h ⊢
 by_cases hwx:Region.wanted x (yielded ops a.tmps)=true
 ·rw[if_pos hwx]at h
  by_cases hsx:st x=true
  ·rw[if_pos hsx]at h
   obtain⟨v,hv,h⟩:=h
   rw[bu,wo,eo]at h
   by_cases hwo:Region.wanted o (yielded ops a.tmps)=true
   ·rw[if_pos hwo]at h ⊢
    by_cases hso:st o=true
    ·rw[if_pos hso]at h ⊢
     obtain⟨u,hu,h⟩:=h
     refine⟨u,hu,?_⟩
     rw[bu,wx,if_pos hwx,if_pos hsx,ex]
     exact⟨v,hv,by rw[←hc];exact h⟩
    ·rw[if_neg hso]at h ⊢
     have h':=tN ((nM hF hod ho h1 h2).1 h)
     refine Oper.wpIn_mono ?_ h'
     rintro a' w' ⟨⟨u,ds,rfl⟩,hS',h⟩
     refine⟨hS',?_⟩
     rw[bu,wx,show Region.wanted x (yielded ops ({a with defers:=ds}:Act).tmps)=true from hwx,if_pos rfl,if_pos hsx,ex]
     exact⟨v,hv,h⟩
   ·rw[if_neg hwo]at h ⊢
    rw[bu,wx,if_pos hwx,if_pos hsx,ex]
    exact⟨v,hv,by rw[←hc];exact h⟩
  ·have hso:st o=true:=hst.resolve_left hsx
   rw[if_neg hsx]at h
   have h':=tN h
   by_cases hwo:Region.wanted o (yielded ops a.tmps)=true
   ·rw[if_pos hwo,if_pos hso]
    have key:∀a' w',((∃u ds,a'=({a with defers:=ds}:Act).put x.dst u)∧S w'∧aF F P ops st S Q (o::L) a' w')→
      ∃v,(∀w',S w'→(execOp a.eval o).run P w'=.ok (.value v) w')∧S w'∧aF F P ops st S Q L (a'.put o.dst v) w':=by
     rintro a' w' ⟨⟨u,ds,rfl⟩,hS',hh⟩
     rw[bu,wo,show Region.wanted o (yielded ops ({a with defers:=ds}:Act).tmps)=true from hwo,if_pos rfl,if_pos hso,eo]at hh
     obtain⟨v,hv,hh⟩:=hh
     exact⟨v,hv,hS',hh⟩
    obtain⟨a1,w1,h1'⟩:=G7 hdp h'
    obtain⟨v,hv,_⟩:=key _ _ h1'
    refine⟨v,hv,?_⟩
    rw[bu,wx,if_pos hwx,if_neg hsx,nM hF hxd hx h3 h2']
    refine Oper.wpIn_mono ?_ h'
    intro a' w' hh
    obtain⟨v',hv',hS',hh⟩:=key _ _ hh
    have e:v'=v:=by
     have:=(hv' _ hS').symm.trans (hv _ hS')
     simpa using this
    subst e
    exact⟨hS',hh⟩
   ·rw[if_neg hwo,bu,wx,if_pos hwx,if_neg hsx,nM hF hxd hx h3 h2']
    refine Oper.wpIn_mono ?_ h'
    rintro a' w' ⟨⟨u,ds,rfl⟩,hS',hh⟩
    rw[bu,wo,show Region.wanted o (yielded ops ({a with defers:=ds}:Act).tmps)=false from by simpa using hwo,if_neg (by simp)]at hh
    exact⟨hS',hh⟩
 ·rw[if_neg hwx]at h
  rw[bu,wo,eo]at h
  by_cases hwo:Region.wanted o (yielded ops a.tmps)=true
  ·rw[if_pos hwo]at h ⊢
   by_cases hso:st o=true
   ·rw[if_pos hso]at h ⊢
    obtain⟨u,hu,h⟩:=h
    refine⟨u,hu,?_⟩
    rw[bu,wx,if_neg hwx,←hc]
    exact h
   ·rw[if_neg hso]at h ⊢
    have h':=tN ((nM hF hod ho h1 h2).1 h)
    refine Oper.wpIn_mono ?_ h'
    rintro a' w' ⟨⟨u,ds,rfl⟩,hS',h⟩
    refine⟨hS',?_⟩
    rw[bu,wx,show Region.wanted x (yielded ops ({a with defers:=ds}:Act).tmps)=false from by simpa using hwx,if_neg (by simp)]
    exact h
  ·rw[if_neg hwo]at h ⊢
   rw[bu,wx,if_neg hwx,←hc]
   exact h
theorem nN(hF:∀f,F.fn f)(hdp:F.depth=none){o:Oper}{L2:List Oper}(hod:∀c,o.op≠.defer c)(ho:∀cs b,o.op≠.select cs b):∀(L1:List Oper),(∀x∈L1,((∀c,x.op≠.defer c)∧∀cs b,x.op≠.select cs b)∧x.apart ops o=true∧(st x=true∨st o=true))→
  ∀(a:Act) (w:World),S w→aF F P ops st S Q (L1++o::L2) a w→aF F P ops st S Q (o::(L1++L2)) a w
 | [],_,_,_,_,h=>h
 |x::L1,hall,a,w,hS,h=>by
  have hx:=hall x (by simp)
  refine DK hF hdp hx.1.1 hod hx.1.2 ho hx.2.1 hx.2.2 ?_
  exact DJ hS (fun a' w' hS' hh=>nN hF hdp hod ho L1 (fun y hy=>hall y (by simp[hy])) a' w' hS' hh) h
theorem DL(hF:∀f,F.fn f)(hdp:F.depth=none)(hnd:∀(i:Nat) (o:Oper),ops[i]?=some o→∀c,o.op≠.defer c){m:Array (List Nat)}(hok:tV st ops m){Q':Exit→Act→World→Prop}(hQ:∀a w,Q a w→Q' .normal a w) :
  ∀(n:Nat) (L:List Nat) (listed:Array Bool) (a:Act) (w:World),L.length=n→L.Pairwise (· < ·)→listed.size=ops.size→(∀j,j∈L↔j<ops.size∧listed.getD j true=false)→
   (∀k o,ops[k]?=some o→listed.getD k false=true→∀e∈o.after,Region.binds .any e=true→listed.getD e.on false=true)→
   S w→aF F P ops st S Q (L.filterMap (ops[·]?)) a w→wpAnyIn F 0 P .any ops Q' n listed a w:=by
 intro n
 induction n with
 |zero=>
  intro L listed a w hn _ hsz hL _ _ h
  have:L=[]:=List.eq_nil_of_length_eq_zero hn
  subst this
  refine⟨?_,hQ _ _ h⟩
  cases hr:Region.ready .any ops listed with
  |nil=>rfl
  |cons i r=>
   have hi:i∈Region.ready .any ops listed:=by rw[hr];simp
   obtain⟨h0,o,ho,_⟩:=mem_ready.1 hi
   have:=(hL i).2 ⟨(Array.getElem?_eq_some_iff.1 ho).1,h0⟩
   cases this
 |succ n ih=>
  intro L listed a w hn hsort hsz hL hdown hS h
  refine⟨fun hr=>?_,fun i hi=>?_⟩
  ·exfalso
   cases L with
   |nil=>simp at hn
   |cons j L=>
    obtain⟨hj,hjl⟩:=(hL j).1 (by simp)
    have hoj:ops[j]?=some ops[j]:=by simp[hj]
    have:j∈Region.ready .any ops listed:=by
     refine mem_ready.2 ⟨hjl,_,hoj,fun e he hb=>?_⟩
     have hlt:=hok.back j _ hoj e he hb
     have hnot:e.on∉j::L:=by
      intro hmem
      rcases List.mem_cons.1 hmem with h1|h1
      ·omega
      ·have:=(List.pairwise_cons.1 hsort).1 _ h1;omega
     have h2:listed.getD e.on true≠false:=fun hf=>hnot ((hL e.on).2 ⟨by omega,hf⟩)
     have hes:e.on<listed.size:=by omega
     simp[hes]at h2 ⊢;exact h2
    rw[hr]at this;cases this
  ·obtain⟨h0,o,ho,hall⟩:=mem_ready.1 hi
   have his:i<ops.size:=(Array.getElem?_eq_some_iff.1 ho).1
   have hiL:i∈L:=(hL i).2 ⟨his,h0⟩
   obtain⟨L1,L2,rfl⟩:=List.append_of_mem hiL
   have dQ:=List.pairwise_append.1 hsort
   have hlt1:∀x∈L1,x<i:=fun x hx=>dQ.2.2 x hx i (by simp)
   have hgt2:∀x∈L2,i<x:=fun x hx=>(List.pairwise_cons.1 dQ.2.1).1 x hx
   rw[List.filterMap_append,List.filterMap_cons_some ho]at h
   have cO:=nN hF hdp (P:=P) (ops:=ops) (S:=S) (st:=st) (Q:=Q) (hnd i o ho) (Region.noSelect_spec hok.kU i o · · ho) (L1.filterMap (ops[·]?)) (fun x hx=>by
    obtain⟨k,hk,hox⟩:=List.mem_filterMap.1 hx
    have hkl:=((hL k).1 (by simp[hk])).2
    have hnl:¬listed.getD k false=true:=fun hf=>by rw[ve hf]at hkl;cases hkl
    refine⟨⟨hnd k x hox,(Region.noSelect_spec hok.kU k x · · hox)⟩,?_⟩
    rcases hok.pair i o ho k (hlt1 k hk) x hox with⟨e,he,hb,rfl⟩|⟨hap,hor⟩
    ·exact absurd (hall e he hb) hnl
    ·refine⟨hap,?_⟩
     rcases hor with h1|h1|h1
     ·exact .inl h1
     ·exact .inr h1
     ·exact absurd (Au hok hdown i o ho hall k h1) hnl) a w hS h
   have hrest:∀a' w',S w'→aF F P ops st S Q (L1.filterMap (ops[·]?)++L2.filterMap (ops[·]?)) a' w'→wpAnyIn F 0 P .any ops Q' n (listed.setIfInBounds i true) a' w':=by
    intro a' w' hS' hh
    rw[←List.filterMap_append]at hh
    refine ih (L1++L2) (listed.setIfInBounds i true) a' w' ?_ ?_ (by simpa using hsz) ?_ ?_ hS' hh
    ·simp at hn ⊢;omega
    ·exact List.pairwise_append.2 ⟨dQ.1,(List.pairwise_cons.1 dQ.2.1).2,fun x hx y hy=>dQ.2.2 x hx y (by simp[hy])⟩
    ·intro j
     by_cases hji:j=i
     ·subst hji
      constructor
      ·intro hm
       exfalso
       rcases List.mem_append.1 hm with h1|h1
       ·have:=hlt1 _ h1;omega
       ·have:=hgt2 _ h1;omega
      ·rintro⟨_,hf⟩
       have:j<listed.size:=by omega
       simp[this]at hf
     ·rw[getD_set_ne true (Ne.symm hji),←hL j]
      simp[hji]
    ·intro k ok hk hkl e he hb
     by_cases hki:k=i
     ·subst hki
      rw[ho]at hk;cases hk
      exact getD_set_true (hall e he hb)
     ·rw[getD_set_ne false (Ne.symm hki)]at hkl
      exact getD_set_true (hdown k ok hk hkl e he hb)
   unfold wpOpIn
   simp only[ho]
   rw[bu]at cO
   split
   ·rename_i hw
    rw[if_pos hw]at cO
    by_cases hs:st o=true
    ·rw[if_pos hs]at cO
     obtain⟨v,hv,hh⟩:=cO
     unfold Oper.wpIn
     refine⟨fun f _=>hF f,?_⟩
     rw[Oper.semAt_eq _ _ _ (hnd i o ho),hv w hS]
     exact hrest _ _ hS hh
    ·rw[if_neg hs]at cO
     exact tK (Oper.wpIn_mono (fun a' w' hh=>hrest a' w' hh.1 hh.2) cO)
   ·rename_i hw
    rw[if_neg hw]at cO
    exact⟨fun f _=>hF f,hrest _ _ hS cO⟩
theorem Uf(hF:∀f,F.fn f)(hdp:F.depth=none){id:Nat}{Q':Exit→Act→World→Prop}{a:Act}{w:World}{l:List Oper}(S:World→Prop)(st:Oper→Bool)(hm:P.follows .mixedOrders=true)(hB:lJ st l.toArray=true)(hnd:Hr l=true)
  (hS:S w.drew) (h:aF F P l.toArray st S (fun a' w'=>Q' .normal a' w') l a w.drew):(Code.region id l.toArray true).wpIn F 0 P Q' a w:=by
 refine wpIn_region_any hm ?_
 have hfm:(List.range l.toArray.size).filterMap (l.toArray[·]?)=l:=by
  apply List.ext_getElem?
  intro i
  have:∀n,(List.range n).filterMap (fun i=>l.toArray[i]?)=l.take n:=by
   intro n
   induction n with
   |zero=>simp
   |succ n ih=>
    rw[List.range_succ,List.filterMap_append,ih]
    by_cases hn:n<l.length
    ·rw[List.take_succ_eq_append_getElem hn];simp[hn]
    ·simp[hn,List.take_of_length_le (show l.length≤n by omega),List.take_of_length_le (show l.length≤n+1 by omega)]
  rw[this];simp
 have:=DL hF hdp (adA hnd) (P:=P) (S:=S) (Q:=fun a' w'=>Q' .normal a' w') (Ar hB) (Q':=Q') (fun _ _ h=>h) l.toArray.size (List.range l.toArray.size) (Array.replicate l.toArray.size false) a w.drew
  (by simp) List.pairwise_lt_range (by simp) (by intro j;simp;intro h;simp[h]) (by intro k o hk hkl;exfalso;rw[Array.getD_eq_getD_getElem?,Array.getElem?_replicate]at hkl;split at hkl<;>simp at hkl) hS (by rw[hfm];exact h)
 exact this
theorem Ug{l:Nat}{o:Oper}{a:Act}{w:World}{K:Act→World→Prop}(hnd:∀c,o.op≠.defer c)(h:o.wp P a w K never):o.wpIn (Fence.wide.inRound l) 0 P a w K never:=by
 unfold Oper.wpIn
 refine⟨fun f _=>trivial,?_⟩
 rw[Oper.semAt_eq _ _ _ hnd]
 unfold Oper.wp at h
 generalize (execOp a.eval o).run P w=r at *
 cases r with
 |ok n w'=>
  cases n<;>simp only[Oper.upon,Oper.uponIn]at h ⊢<;>
   first
    |exact h
    |exact⟨fun e=>(by cases e),(callsIn_wide (n:=0)).2 h⟩
    |exact⟨fun e=>(by cases e),fun c cs _=>let⟨v,w'',hR,hs⟩:=h c cs;⟨v,w'',hR,stepsIn_wide.2 hs⟩⟩
    |exact h.elim
 |halt x w'=>cases x<;>simp only[Oper.upon,never]at h ⊢
theorem bW{a:Act}{w:World}(h:Q a w):aF F P ops st S Q [] a w:=h
theorem aP{o:Oper}{rest:List Oper}{a:Act}{w:World}(hw:Region.wanted o (yielded ops a.tmps)=false)(h:aF F P ops st S Q rest (a.put o.dst undef) w):aF F P ops st S Q (o::rest) a w:=by
 rw[bu,if_neg (by simp[hw])];exact h
theorem gI{o:Oper}{rest:List Oper}{a:Act}{w:World}(hw:Region.wanted o (yielded ops a.tmps)=true)(hs:eU o=true)
  (h:∀K:Act→Prop,(∀a',aF F P ops eU S Q rest a' w→K a')→o.quiet P a S K):aF F P ops eU S Q (o::rest) a w:=by
 rw[bu,if_pos hw,if_pos hs]
 obtain⟨v,hv,hh⟩:=h _ (fun _ x=>x)
 refine⟨v,fun w' hw'=>?_,hh⟩
 have:=hv w' hw'
 unfold Oper.quietAt at this
 rcases MJ (P:=P) hs a.eval w' with⟨u,w'',e⟩|⟨x,w'',e⟩
 ·rw[e]at this ⊢
  obtain⟨rfl,rfl⟩:=this
  rfl
 ·rw[e]at this
  exact this.elim
theorem jg{l:Nat}{o:Oper}{rest:List Oper}{a:Act}{w:World}(hw:Region.wanted o (yielded ops a.tmps)=true)(hs:eU o=false)(hnd:AP o=false)
  (h:∀K:Act→World→Prop,(∀a' w',S w'→aF (Fence.wide.inRound l) P ops eU S Q rest a' w'→K a' w')→o.wp P a w K never):aF (Fence.wide.inRound l) P ops eU S Q (o::rest) a w:=by
 rw[bu,if_pos hw,if_neg (by simp[hs])]
 exact Ug (fun c hc=>by simp[AP,hc]at hnd) (h _ (fun _ _ x y=>⟨x,y⟩))
end
theorem xm{P:Program}{id l:Nat}{Q':Exit→Act→World→Prop}{a:Act}{W w:World}{ops:List Oper}(S:Nat→Prop)(hW:But S W w)(hm:P.follows .mixedOrders=true)(hB:lJ eU ops.toArray=true)(hnd:Hr ops=true)
  (h:aF (Fence.wide.inRound l) P ops.toArray eU (mX S W) (fun a' w'=>Q' .normal a' w') ops a w.drew):(Code.region id ops.toArray true).wpIn (Fence.wide.inRound l) 0 P Q' a w:=
 Uf (fun _=>trivial) rfl (mX S W) eU hm hB hnd ⟨⟨w.drew,hW.drew⟩,rfl⟩ h
end Go.WW.TI
namespace Go.WW
open Go.RowKit
def span(m c:Nat):Nat→Prop:=fun b=>m≤b∧b<c
def AQ{α:Type}(P:Program)(g:Nat)(lb:Array Value)(S:Nat→Prop)(xs:List α)(V:Nat→α→Array Value→World→World→Prop)(w:World):Prop:=
 ∀(l:Nat) (J Jx:Nat→Nat→World→Prop) (W:World),Below w.heap.size w W→w.heap.size≤l→l<W.heap.size→
  (∀c1 W1,W.heap.size≤c1→c1≤W1.heap.size→Below W.heap.size W W1→J c1 0 W1)→
  (∀c1 k W1 W2,J c1 k W1→But (span W.heap.size c1) W1 W2→J c1 k W2)→
  (∀c1 k W1 W2,Jx c1 k W1→But (span W.heap.size c1) W1 W2→Jx c1 k W2)→
  (∀c1 k x v W0 W1,xs[k]?=some x→J c1 k W0→But (span W.heap.size c1) W0 W1→V c1 x v W0 W1→W.heap.size≤c1→c1≤W0.heap.size→YieldAt Fence.wide 0 P l v W1 fun e W'=>
   But (fun b=>(S b∨b=l)∨c1≤b) W1 W'∧((e=.returned (.bool true)∧J c1 (k+1) W')∨(e=.returned (.bool false)∧Jx c1 (k+1) W')))→
  Calls P g (#[.func (.yield l) #[] #[]]++lb) W fun e W'=>(∃v,e=.returned v)∧((∃c1,J c1 xs.length W')∨(∃c1 k,Jx c1 k W'))
def adB(S:Nat→Prop)(I:Nat→Nat→World→Prop)(Ix:Code→Nat→Nat→World→Prop)(c1 k:Nat)(U:World):Exit→Act→World→Prop
 | .normal,_,X=>But (fun b=>S b∨c1≤b) U X∧I c1 k X
 | .ret,_,X=>But (fun b=>S b∨c1≤b) U X∧Ix .ret c1 k X
 | .exit id,_,X=>But (fun b=>S b∨c1≤b) U X∧Ix (.exit id) c1 k X
 | .goto t,_,X=>But (fun b=>S b∨c1≤b) U X∧Ix (.goto t) c1 k X
 |_,_,_=>False
theorem But.putObj{w:World}{l:Nat}(o:Obj):But (one l) w (w.putObj l o):=DZ o
theorem vg{α:Type}{P:Program}{g:Operand}{ps:Array Tmp}{assign body:Code}{Q:Exit→Act→World→Prop}{a:Act}{w:World}
  {gf:Nat} {lb:Array Value} (hg:a.eval g=.func (.func gf) #[] lb) (eg:∀args w,(callFunc gf args).run P w=.ok (.enter gf args) w)
  {S:Nat→Prop} (hS:∀b,S b→b<w.heap.size) {xs:List α} {V:Nat→α→Array Value→World→World→Prop} (hps:∀c1 x v W0 W,V c1 x v W0 W→v.size=ps.size)
  (hseq:AQ P gf lb S xs V w) (I:Nat→Nat→World→Prop) (Ix:Code→Nat→Nat→World→Prop)
  (hI0:∀c1 W,w.heap.size<c1→c1≤W.heap.size→Below w.heap.size w W→I c1 0 W)
  (hIs:∀c1 k W W',I c1 k W→But (span w.heap.size c1) W W'→I c1 k W')
  (D5:∀c c1 k W W',Ix c c1 k W→But (span w.heap.size c1) W W'→Ix c c1 k W')
  (D6:∀c1 k x v W0 W,xs[k]?=some x→V c1 x v W0 W→I c1 k W0→But (span w.heap.size c1) W0 W→w.heap.size+1<c1→c1≤W0.heap.size→
   assign.wpIn (Fence.wide.inRound (w.heap.size+1)) 0 P (Exit.then (fun a' W'=>Below W.heap.size W W'∧∀U,But (one (w.heap.size+1)) W' U→body.wpIn (Fence.wide.inRound (w.heap.size+1)) 0 P (adB S I Ix c1 (k+1) U) a' U) (fun _ _ _=>False))
    {tmps:=(ps.zip v).foldl (fun t (p,v)=>t.setIfInBounds p v) a.tmps,defers:=[]} W)
  (hdone:∀c1 W,I c1 xs.length W→W.heap[w.heap.size]?=some (.deferred (some []))→Q .normal {a with defers:={target:=.collected w.heap.size,args:=#[]}::a.defers} W)
  (hstop:∀c c1 k W,Ix c c1 k W→W.heap[w.heap.size]?=some (.deferred (some []))→c.wp P Q {a with defers:={target:=.collected w.heap.size,args:=#[]}::a.defers} W) :
  (Code.rangeFunc g ps assign body).wp P Q a w:=by
 refine(wpIn_wide (n:=0)).1 (wpIn_rangeFunc ?_)
 intro fn hfn
 show ∃l mark w₁ d w₁' f args w₂,_
 obtain⟨lp,hlp⟩:∃lp:LoopState→Option Code→Loop,lp=fun st pe=>{state:=st,pending:=pe,fn,tmps:=a.tmps,params:=ps,assign,body,defers:=w.heap.size}:=⟨_,rfl⟩
 obtain⟨A,hA⟩:∃A,(w.alloc (.deferred (some []))).alloc (.loop (lp .ready none))=A:=⟨_,rfl⟩
 have hL:A.heap[w.heap.size+1]?=some (.loop (lp .ready none)):=by
  have:=World.alloc_heap_new (w.alloc (.deferred (some []))) (.loop (lp .ready none))
  rw[World.size_alloc,hA]at this;exact this
 have hD:A.heap[w.heap.size]?=some (.deferred (some [])):=by
  rw[←hA];exact(Below.heap_alloc _ _ _ (by simp)).trans (World.alloc_heap_new w _)
 have hB:Below w.heap.size w A:=by
  rw[←hA];exact((Below.refl _ w).alloc (Nat.le_refl _) _).alloc (by simp) _
 have hsz:A.heap.size=w.heap.size+1+1:=by rw[←hA];simp
 refine⟨w.heap.size+1,[{target:=.collected w.heap.size,args:=#[]}],A,{target:=.fn (.func gf) lb,args:=#[.func (.yield (w.heap.size+1)) #[] #[]]},A,gf,
  #[.func (.yield (w.heap.size+1)) #[] #[]]++lb,A,?_,?_,?_,?_,fun e=>(by cases e),?_⟩
 ·rw[←hA,hlp];exact run_enterLoop_outer _ _ _ _ _
 ·simp only[resolve,hg];simp[go_sem]
 ·intro f' hf';trivial
 ·simp[invoke,go_sem,eg]
 ·have wide:∀{c1 b:Nat},span A.heap.size c1 b→span w.heap.size c1 b:=fun h=>⟨by have:=h.1;omega,h.2⟩
  have keep:∀{c1 b:Nat} {X Y:World},But (span A.heap.size c1) X Y→b<A.heap.size→b<X.heap.size→Y.heap[b]?=X.heap[b]?:=fun h hb hx=>h.block _ hx (fun e=>by have:=e.1;omega)
  refine(callsIn_wide (n:=0)).2 (Calls.mono (hseq (w.heap.size+1)
   (fun c1 k W=>w.heap.size+1<c1∧I c1 k W∧W.heap[w.heap.size+1]?=some (.loop (lp .ready none))∧W.heap[w.heap.size]?=some (.deferred (some [])))
   (fun c1 k W=>w.heap.size+1<c1∧∃c,Ix c c1 k W∧W.heap[w.heap.size+1]?=some (.loop (lp .done (some c)))∧W.heap[w.heap.size]?=some (.deferred (some [])))
   A hB (by omega) (by omega) ?_ ?_ ?_ ?_) ?_)
  ·intro c1 W1 h1 h2 hb
   exact⟨by omega,hI0 c1 W1 (by omega) h2 (hB.trans (hb.mono hB.size)),(hb.block _ (by omega)).trans hL,(hb.block _ (by omega)).trans hD⟩
  ·rintro c1 k W1 W2 ⟨hc,hi,hl,hk⟩ hb
   exact⟨hc,hIs _ _ _ _ hi (hb.mono fun _=>wide),(keep hb (by omega) (Array.getElem?_eq_some_iff.1 hl).1).trans hl,(keep hb (by omega) (Array.getElem?_eq_some_iff.1 hk).1).trans hk⟩
  ·rintro c1 k W1 W2 ⟨hc,c,hi,hl,hk⟩ hb
   exact⟨hc,c,D5 _ _ _ _ _ hi (hb.mono fun _=>wide),(keep hb (by omega) (Array.getElem?_eq_some_iff.1 hl).1).trans hl,(keep hb (by omega) (Array.getElem?_eq_some_iff.1 hk).1).trans hk⟩
  ·rintro c1 k x v W0 W hx ⟨_,hi,hl0,hk0⟩ hbs hv hc0 hc1
   have hl:=(keep hbs (by omega) (Array.getElem?_eq_some_iff.1 hl0).1).trans hl0
   have hk:=(keep hbs (by omega) (Array.getElem?_eq_some_iff.1 hk0).1).trans hk0
   have hlt:w.heap.size+1<W.heap.size:=(Array.getElem?_eq_some_iff.1 hl).1
   have hy:=run_yield (P:=P) (args:=v) hl (by rw[hlp];exact hps _ _ _ _ _ hv)
   rw[hlp]at hy
   refine⟨fn,_,assign,body,hy,roundIn_of_wpIn hfn (wpIn_mono (D6 c1 k x v W0 W hx hv hi (hbs.mono fun _=>wide) (by omega) hc1) ?_)⟩
   rintro e a' W' he
   cases e with
   |normal=>
    obtain⟨hbW,hbody⟩:=he
    have hl1:=(hbW.block _ hlt).trans hl
    have hk1:=(hbW.block _ (by omega)).trans hk
    refine⟨_,run_beginRound hl1 (by rw[hlp]),?_⟩
    obtain⟨U,hU⟩:∃U,W'.putObj (w.heap.size+1) (.loop {lp .ready none with state:=.busy})=U:=⟨_,rfl⟩
    have fA:But (one (w.heap.size+1)) W' U:=by rw[←hU];exact But.putObj _
    have Uh:U.heap[w.heap.size+1]?=some (.loop {lp .ready none with state:=.busy}):=by rw[←hU];exact World.putObj_heap_same (Array.getElem?_eq_some_iff.1 hl1).1
    have Ui:U.heap[w.heap.size]?=some (.deferred (some [])):=(fA.block _ (Array.getElem?_eq_some_iff.1 hk1).1 (aT (by omega))).trans hk1
    rw[hU]
    refine wpIn_mono (hbody U fA) ?_
    have adC:But (fun b=>(S b∨b=w.heap.size+1)∨c1≤b) W U:=(But.of_below hbW).trans (fA.mono fun _ e=>.inl (.inr e))
    have over:∀(jump:Option Code) (X:World),But (fun b=>S b∨c1≤b) U X→
      (Instr.endRound (w.heap.size+1) jump).run P X=.ok (.bool jump.isNone) (X.putObj (w.heap.size+1) (.loop (lp (if jump.isNone then .ready else .done) jump)))∧
      (X.putObj (w.heap.size+1) (.loop (lp (if jump.isNone then .ready else .done) jump))).heap[w.heap.size+1]?=some (.loop (lp (if jump.isNone then .ready else .done) jump))∧
      (X.putObj (w.heap.size+1) (.loop (lp (if jump.isNone then .ready else .done) jump))).heap[w.heap.size]?=some (.deferred (some []))∧
      But (fun b=>(S b∨b=w.heap.size+1)∨c1≤b) W (X.putObj (w.heap.size+1) (.loop (lp (if jump.isNone then .ready else .done) jump)))∧
      But (span w.heap.size c1) X (X.putObj (w.heap.size+1) (.loop (lp (if jump.isNone then .ready else .done) jump))):=fun jump X hX=>by
     have hl3:=(hX.block _ (Array.getElem?_eq_some_iff.1 Uh).1 (fun e=>e.elim (fun e=>by have:=hS _ e;omega) (fun e=>by omega))).trans Uh
     have hk3:=(hX.block _ (Array.getElem?_eq_some_iff.1 Ui).1 (fun e=>e.elim (fun e=>by have:=hS _ e;omega) (fun e=>by omega))).trans Ui
     have hr:=run_endRound (P:=P) jump hl3
     have hp:But (one (w.heap.size+1)) X (X.putObj (w.heap.size+1) (.loop (lp (if jump.isNone then .ready else .done) jump))):=But.putObj _
     refine⟨?_,World.putObj_heap_same (Array.getElem?_eq_some_iff.1 hl3).1,(hp.block _ (Array.getElem?_eq_some_iff.1 hk3).1 (aT (by omega))).trans hk3,(adC.trans (hX.mono fun _ e=>e.imp .inl id)).trans (hp.mono fun _ e=>.inl (.inr e)),hp.mono fun b e=>?_⟩
     ·rw[hlp]at hr ⊢;exact hr
     ·obtain rfl:b=w.heap.size+1:=e
      exact⟨by omega,by omega⟩
    rintro e a3 X hp
    cases e with
    |normal=>
     obtain⟨hX,qQ⟩:=hp
     obtain⟨hr,hl4,hk4,hbX,yI⟩:=over none X hX
     exact⟨_,_,hr,hbX,.inl ⟨rfl,by omega,hIs _ _ _ _ qQ yI,hl4,hk4⟩⟩
    |ret=>
     obtain⟨hX,qQ⟩:=hp
     obtain⟨hr,hl4,hk4,hbX,yI⟩:=over (some .ret) X hX
     exact⟨_,_,hr,hbX,.inr ⟨rfl,by omega,.ret,D5 _ _ _ _ _ qQ yI,hl4,hk4⟩⟩
    |exit id=>
     obtain⟨hX,qQ⟩:=hp
     obtain⟨hr,hl4,hk4,hbX,yI⟩:=over (some (.exit id)) X hX
     exact⟨_,_,hr,hbX,.inr ⟨rfl,by omega,.exit id,D5 _ _ _ _ _ qQ yI,hl4,hk4⟩⟩
    |goto t=>
     obtain⟨hX,qQ⟩:=hp
     obtain⟨hr,hl4,hk4,hbX,yI⟩:=over (some (.goto t)) X hX
     exact⟨_,_,hr,hbX,.inr ⟨rfl,by omega,.goto t,D5 _ _ _ _ _ qQ yI,hl4,hk4⟩⟩
    |panic ch=>exact hp.elim
    |outgrown=>exact hp.elim
   |ret=>exact he.elim
   |exit id=>exact he.elim
   |goto t=>exact he.elim
   |panic ch=>exact he.elim
   |outgrown=>exact he.elim
  ·have fin:∀{c1:Nat} {X:World} (o:Obj),w.heap.size+1<c1→But (span w.heap.size c1) X (X.putObj (w.heap.size+1) o):=fun o h=>(But.putObj o).mono fun b e=>by
    obtain rfl:b=w.heap.size+1:=e
    exact⟨by omega,h⟩
   rintro e X ⟨⟨v,rfl⟩,(⟨c1,hc,hi,hl,hk⟩|⟨c1,k,hc,c,hi,hl,hk⟩)⟩
   ·refine⟨none,_,by have:=run_endLoop (P:=P) hl (by rw[hlp];simp);rw[hlp]at this;exact this,hdone c1 _ (hIs _ _ _ _ hi (fin _ hc)) ((World.putObj_heap_other (by omega)).trans hk)⟩
   ·refine⟨some c,_,by have:=run_endLoop (P:=P) hl (by rw[hlp];simp);rw[hlp]at this;exact this,(wpIn_wide (n:=0)).2 (hstop c c1 k _ (D5 _ _ _ _ _ hi (fin _ hc)) ((World.putObj_heap_other (by omega)).trans hk))⟩
abbrev PP:=Sl×aB
def yJ(x:PP):Array Value:=ak x.1 x.2
structure tZ(w:World)(a:Option Addr)(X:List PP):Prop where
 len:X.length≤lim+1
 rows:∀i (hi:i<X.length),∃b o,a=some ⟨b,o,none⟩∧row? w b (o+i*2) 2=some (yJ X[i])
 each:∀x∈X,bg w x.1 x.2
abbrev Off(S:Nat→Prop)(w:World):Nat→Prop:=fun k=>S k∨w.heap.size≤k
def Uj(S:Nat→Prop)(w:World)(_:Nat)(x:PP)(v:Array Value)(_ _:World):Prop:=v=#[.agg (yJ x)]∧∀y,But (Off S w) w y→bg y x.1 x.2
end Go.WW
namespace Go.Proofs.YtaghcadlgbnbdaaGreatDoor
open Go.RowKit Go.WW
attribute [local go_sem] Oper.semAt_some
theorem adD(a:Option Addr)(n cap:Nat)(w:World):Calls Tryz.prog 110 #[.slice a n cap] w fun e w'=>e=.returned (.func (.func 180) #[] #[.pointer (some ⟨w.heap.size,0,none⟩)])∧w'=w.alloc (.cells #[.slice a n cap] 26):=by
 go_enter Tryz.func110,Tryz.ntmps110
 go_wp2
 go_ret
 exact⟨rfl,rfl⟩
theorem adE(b cap:Nat)(a:Option Addr)(X:List PP)(S:Nat→Prop)(w:World)(hc:w.cell? ⟨b,0,none⟩=some (.slice a X.length cap))(hL:∀y,But (Off S w) w y→tZ y a X) :
  AQ Tryz.prog 180 #[.pointer (some ⟨b,0,none⟩)] S X (Uj S w) w:=by
 intro l J Jx W hW hl1 hl2 h0 hJ hJx hY
 have hn:X.length≤4294967001:=(hL w (But.refl _ _)).len
 have hcW:W.cell? ⟨b,0,none⟩=some (.slice a X.length cap):=(hW.cell (World.block_lt_of_cell? w _ hc)).trans hc
 have D7:But (Off S w) w W:=But.of_below hW
 have HJ:=Lib.hid hJ
 have xn:=Lib.hid hJx
 have HY:=Lib.hid hY
 have HL:=Lib.hid hL
 have H0:=Lib.hid (h0 W.heap.size W (Nat.le_refl _) (Nat.le_refl _) (Below.refl _ _))
 clear hJ hJx hY hL h0
 refine(callsIn_wide (n:=0)).1 ?_
 refine callsIn_of_wp Tryz.func180 rfl trivial ?_ rfl
 simp only[Tryz.ntmps180,List.size_toArray,List.length_cons,List.length_nil,Nat.reduceAdd,Nat.reduceSub,Array.replicate_succ,Array.replicate_zero,List.push_toArray,List.append_toArray,List.nil_append,List.cons_append]
 rcases Nat.eq_zero_or_pos X.length with hX|hX
 ·obtain rfl:X=[]:=List.eq_nil_of_length_eq_zero hX
  gi_wp2
  refine wpIn_loop_rounds 1 ?_
  rw[roundsIn_succ]
  gi_wp2
  go_end0
  exact⟨⟨_,rfl⟩,.inl ⟨_,H0.out⟩⟩
 obtain⟨B,o,rfl,-⟩:=(HL.out w (But.refl _ _)).rows 0 hX
 gi_wp2
 gi_loopw [7] (fun iv wr=>∃i:Nat,i≤X.length∧iv=.int .i64 i∧Hid (J W.heap.size i wr)∧Hid (But (Off S w) w wr)∧W.heap.size≤wr.heap.size) (fun iv _=>X.length-(intOf iv).toNat)
 case atStart=>exact⟨0,Nat.zero_le _,rfl,H0,D7,Nat.le_refl _⟩
 case round=>
  obtain⟨i,hi,rfl,hj,hbu,hsz⟩:=hrel
  by_cases hlt:i<X.length
  ·have hki:(i:Int)<(X.length:Int):=by omega
   obtain⟨B',o',e,hr⟩:=(HL.out wr hbu.out).rows i hlt
   cases e
   have HP:=Lib.hid (fun y hy=>(HL.out y hy).each _ (List.getElem_mem hlt))
   have hx:X[i]?=some X[i]:=by simp[hlt]
   generalize X[i]=x at *
   obtain⟨s,p⟩:=x
   have hr':row? wr B (o+i*2) 2=some (ak s p):=hr
   clear hr
   have hal:But (Off S w) w (wr.alloc (.cells (ak s p) 25)):=hbu.out.trans (But.of_below ((Below.refl _ wr).alloc (Nat.le_refl _) _))
   obtain⟨fn,tmps,assign,body,hy,hR⟩:=HY.out W.heap.size i (s,p) #[.agg (ak s p)] wr (wr.alloc (.cells (ak s p) 25)) hx hj.out (But.of_below ((Below.refl _ wr).alloc (Nat.le_refl _) _)) ⟨rfl,HP.out⟩ (Nat.le_refl _) hsz
   gi_wp2
   refine⟨rfl,hR.mono ?_⟩
   rintro e W3 ⟨hb3,h3⟩
   have HB3:=Lib.hid (show But (Off S w) w W3 from hal.trans (hb3.mono fun k hk=>by
    rcases hk with(hk|rfl)|hk
    ·exact .inl hk
    ·exact .inr hl1
    ·exact .inr (Nat.le_trans hW.size hk)))
   have vk:W.heap.size≤W3.heap.size:=by have:=hb3.size;simp at this;omega
   clear hal hy hR hb3
   rcases h3 with⟨rfl,hj3⟩|⟨rfl,hx3⟩
   ·have qR:=Lib.hid hj3
    clear hj3
    gi_wp2
    go_roundw
    case rel=>exact⟨i+1,by omega,by go_num,qR.out,HB3.out,vk⟩
    case measure=>simp[intOf];omega
   ·have qR:=Lib.hid hx3
    clear hx3
    gi_wp2
    refine bodyPost_ret (results_none rfl _ _ _) rfl ?_
    exact⟨⟨_,rfl⟩,.inr ⟨_,_,qR.out⟩⟩
  ·obtain rfl:i=X.length:=by omega
   gi_wp2
   go_end0
   exact⟨⟨_,rfl⟩,.inl ⟨_,hj.out⟩⟩
end Go.Proofs.YtaghcadlgbnbdaaGreatDoor
namespace Go.Proofs
theorem Tryz.stringslite_IndexByte(s:ByteArray)(c:Int)(w:World) :
  Calls Tryz.prog 279 #[.string s,.int .u8 c] w fun e w'=>e=.returned (.int .i64 (Lib.indexByte s.data.toList c.toNat.toUInt8))∧w'=w:=by
 go_enter Tryz.func279,Tryz.ntmps279
 go_wp2
 rw[run_callFunc_extern Tryz.func331 (by kernel_rfl) (by kernel_rfl) (by kernel_rfl) (e:=Extern.BytealgIndexByte.indexByte) (by kernel_rfl),Lib.run_indexByteString]
 simp only[Result.andThen]
 rw[Oper.upon_value]
 go_wp2
 go_ret
 exact⟨rfl,rfl⟩
theorem Tryz.stringslite_Index_one(s:ByteArray)(c:UInt8)(w:World) :
  Calls Tryz.prog 201 #[.string s,.string ⟨#[c]⟩] w fun e w'=>e=.returned (.int .i64 (Lib.indexByte s.data.toList c))∧w'=w:=by
 go_enter Tryz.func201,Tryz.ntmps201
 go_wp2_with (go_at_call 279;refine(Tryz.stringslite_IndexByte _ _ _).mono ?_;rintro e w' ⟨rfl,rfl⟩)
 ·have h:([c] == s.toList)=true:=by assumption
  go_ret
  refine⟨?_,rfl⟩
  have e:s.data.toList=[c]:=by rw[←Lib.toList_data];exact(beq_iff_eq.1 h).symm
  rw[e]
  simp[Lib.indexByte]
 ·go_ret
  exact⟨rfl,rfl⟩
theorem Tryz.strings_Index_one(s:ByteArray)(c:UInt8)(w:World) :
  Calls Tryz.prog 195 #[.string s,.string ⟨#[c]⟩] w fun e w'=>e=.returned (.int .i64 (Lib.indexByte s.data.toList c))∧w'=w:=by
 go_enter Tryz.func195,Tryz.ntmps195
 go_wp2_with (go_at_call 201;refine(Tryz.stringslite_Index_one _ _ _).mono ?_;rintro e w' ⟨rfl,rfl⟩)
 go_ret
 exact⟨rfl,rfl⟩
end Go.Proofs
namespace Go.WW
open Go.RowKit
def Uk{α:Type}(F:Fence)(n:Nat)(P:Program)(g:Nat)(lb:Array Value)(encs:α→Array Value)(bs B:Nat)(ok:α→Prop)(S Sp:List α→Prop)(w:World):Prop:=
 ∀(l:Nat) (J Jx:List α→World→Prop) (W:World),Below B w W→
  (∀pre W1 v,J pre W1→J pre (W1.setCell ⟨bs,0,none⟩ v))→
  (∀pre x W1,ok x→J pre W1→YieldAt F (n-1) P l (encs x) W1 fun e W'=>
   (e=.returned (.bool true)∧J (pre++[x]) W'∧Below B W1 W')∨(e=.returned (.bool false)∧Jx (pre++[x]) W'))→
  J [] W→
  CallsIn F n P g (#[.func (.yield l) #[] #[]]++lb) W fun e W'=>(∃v,e=.returned v)∧((∃xs,S xs∧J xs W')∨(∃pre,Sp pre∧Jx pre W'))
def Ul{α:Type}(B:Nat)(I Ix:List α→World→Prop)(xs:List α)(W:World):Exit→Act→World→Prop
 | .normal,_,W'=>KeepsOthers W W'∧Below B W W'∧I xs W'
 | .ret,_,W'=>KeepsOthers W W'∧Ix xs W'
 |_,_,_=>False
variable {F:Fence} {n:Nat} {P:Program}
theorem adF{α:Type}{g:Operand}{ps:Array Tmp}{assign body:Code}{Q:Exit→Act→World→Prop}{a:Act}{w:World}
  (hro:F.round=none) (h1:1≤n) {gf:Nat} {lb:Array Value} (hg:a.eval g=.func (.func gf) #[] lb) (hFg:F.fn gf) (eg:∀args w,(callFunc gf args).run P w=.ok (.enter gf args) w)
  {encs:α→Array Value} {bs:Nat} {ok:α→Prop} {S Sp:List α→Prop} (hseq:Uk F (n-1) P gf lb encs bs w.heap.size ok S Sp w) (hbs:bs<w.heap.size) (hps:∀x,(encs x).size=ps.size)
  (I Ix:List α→World→Prop) (hI:OwnFrom w.heap.size I) (hIs:∀s W v,I s W→I s (W.setCell ⟨bs,0,none⟩ v)) (hIx:OwnFrom w.heap.size Ix) (h0:I [] w) (a₁:α→Act)
  (hassign:∀(l:Nat) (x:α) (W:World) (K:Act→World→Prop),K (a₁ x) W→
   assign.wpIn (F.inRound l) (n-1-1) P (Exit.then K (fun _ _ _=>False)) {tmps:=(ps.zip (encs x)).foldl (fun t (p,v)=>t.setIfInBounds p v) a.tmps,defers:=[]} W)
  (hbody:∀(l:Nat) (pre:List α) (x:α) (W:World),ok x→I pre W→body.wpIn (F.inRound l) (n-1-1) P (Ul w.heap.size I Ix (pre++[x]) W) (a₁ x) W)
  (hdone:∀(D:Nat) (xs:List α) (W:World),w.heap.size≤D→S xs→I xs W→W.heap[D]?=some (.deferred (some []))→Q .normal {a with defers:={target:=.collected D,args:=#[]}::a.defers} W)
  (hstop:∀(D:Nat) (pre:List α) (W:World),w.heap.size≤D→Sp pre→Ix pre W→W.heap[D]?=some (.deferred (some []))→Code.ret.wpIn F n P Q {a with defers:={target:=.collected D,args:=#[]}::a.defers} W) :
  (Code.rangeFunc g ps assign body).wpIn F n P Q a w:=by
 refine wpIn_rangeFunc ?_
 intro fn hfn
 rw[hro]
 obtain⟨lp,hlp⟩:∃lp:LoopState→Option Code→Loop,lp=fun st pe=>{state:=st,pending:=pe,fn,tmps:=a.tmps,params:=ps,assign,body,defers:=w.heap.size}:=⟨_,rfl⟩
 obtain⟨V,hV⟩:∃V,(w.alloc (.deferred (some []))).alloc (.loop (lp .ready none))=V:=⟨_,rfl⟩
 have hL:V.heap[w.heap.size+1]?=some (.loop (lp .ready none)):=by
  have:=World.alloc_heap_new (w.alloc (.deferred (some []))) (.loop (lp .ready none))
  rw[World.size_alloc,hV]at this;exact this
 have hD:V.heap[w.heap.size]?=some (.deferred (some [])):=by
  rw[←hV];exact(Below.heap_alloc _ _ _ (by simp)).trans (World.alloc_heap_new w _)
 have hB:Below w.heap.size w V:=by
  rw[←hV];exact((Below.refl _ w).alloc (Nat.le_refl _) _).alloc (by simp) _
 refine⟨w.heap.size+1,[{target:=.collected w.heap.size,args:=#[]}],V,{target:=.fn (.func gf) lb,args:=#[.func (.yield (w.heap.size+1)) #[] #[]]},V,gf,
  #[.func (.yield (w.heap.size+1)) #[] #[]]++lb,V,?_,?_,?_,?_,fun _=>h1,?_⟩
 ·rw[←hV,hlp];exact run_enterLoop_outer _ _ _ _ _
 ·simp only[resolve,hg];simp[go_sem]
 ·intro f' hf';simp[Target.leads]at hf';subst hf';exact hFg
 ·simp[invoke,go_sem,eg]
 ·refine(hseq (w.heap.size+1)
   (fun pre W=>I pre W∧W.heap[w.heap.size+1]?=some (.loop (lp .ready none))∧W.heap[w.heap.size]?=some (.deferred (some [])))
   (fun pre W=>Ix pre W∧W.heap[w.heap.size+1]?=some (.loop (lp .done (some .ret)))∧W.heap[w.heap.size]?=some (.deferred (some [])))
   V hB
   (fun pre W1 v hs=>⟨hIs _ _ _ hs.1,(Below.heap_setCell _ _ _ _ (by simp;omega)).trans hs.2.1,(Below.heap_setCell _ _ _ _ (by simp;omega)).trans hs.2.2⟩)
   ?_ ⟨by rw[←hV];exact hI.alloc _ (hI.alloc _ h0),hL,hD⟩).mono ?_
  ·rintro pre x W hx ⟨hi,hl,hk⟩
   have hlt:w.heap.size+1<W.heap.size:=(Array.getElem?_eq_some_iff.1 hl).1
   have hy:=run_yield (P:=P) (args:=encs x) hl (by rw[hlp];exact hps x)
   rw[hlp]at hy
   refine⟨fn,_,assign,body,hy,roundIn_of_wpIn hfn (hassign _ x W _ ⟨_,run_beginRound hl (by rw[hlp]),?_⟩)⟩
   obtain⟨U,hU⟩:∃U,W.putObj (w.heap.size+1) (.loop {lp .ready none with state:=.busy})=U:=⟨_,rfl⟩
   have hl2:U.heap[w.heap.size+1]?=some (.loop {lp .ready none with state:=.busy}):=by rw[←hU];exact World.putObj_heap_same hlt
   have hk2:U.heap[w.heap.size]?=some (.deferred (some [])):=by rw[←hU];exact(World.putObj_heap_other (by omega)).trans hk
   have hw2:Below w.heap.size W U:=by rw[←hU];exact belowK_b (w:=w) (Nat.le_refl _) _ _ _ _ (by omega) hl rfl rfl
   have hi2:I pre U:=by rw[←hU];exact hI.putObj _ hi (by omega) hl rfl
   rw[hU]
   refine wpIn_mono (hbody _ pre x _ hx hi2) ?_
   have over:∀(jump:Option Code) (X:World),KeepsOthers U X→
     (Instr.endRound (w.heap.size+1) jump).run P X=.ok (.bool jump.isNone) (X.putObj (w.heap.size+1) (.loop (lp (if jump.isNone then .ready else .done) jump)))∧
     X.heap[w.heap.size+1]?=some (.loop {lp .ready none with state:=.busy})∧
     (X.putObj (w.heap.size+1) (.loop (lp (if jump.isNone then .ready else .done) jump))).heap[w.heap.size+1]?=some (.loop (lp (if jump.isNone then .ready else .done) jump))∧
     (X.putObj (w.heap.size+1) (.loop (lp (if jump.isNone then .ready else .done) jump))).heap[w.heap.size]?=some (.deferred (some [])):=fun jump X hX=>by
    have hl3:=hX.same _ _ hl2 rfl
    have hr:=run_endRound (P:=P) jump hl3
    rw[hlp]at hr ⊢
    exact⟨hr,by rw[hlp]at hl3;exact hl3,World.putObj_heap_same (Array.getElem?_eq_some_iff.1 hl3).1,(World.putObj_heap_other (by omega)).trans (hX.same _ _ hk2 rfl)⟩
   rintro e a3 X hp
   cases e with
   |normal=>
    obtain⟨hX,hbX,qQ⟩:=hp
    obtain⟨hr,hl3,hl4,hk4⟩:=over none X hX
    exact⟨_,_,hr,.inl ⟨rfl,⟨hI.putObj _ qQ (by omega) hl3 rfl,hl4,hk4⟩,(hw2.trans hbX).trans (belowK_b (w:=w) (Nat.le_refl _) _ _ _ _ (by omega) hl3 rfl rfl)⟩⟩
   |ret=>
    obtain⟨hX,qQ⟩:=hp
    obtain⟨hr,hl3,hl4,hk4⟩:=over (some .ret) X hX
    exact⟨_,_,hr,.inr ⟨rfl,hIx.putObj _ qQ (by omega) hl3 rfl,hl4,hk4⟩⟩
   |exit id=>exact hp.elim
   |goto t=>exact hp.elim
   |panic ch=>exact hp.elim
   |outgrown=>exact hp.elim
  ·rintro e X ⟨⟨v,rfl⟩,(⟨xs,hS,hi,hl,hk⟩|⟨pre,hSp,hi,hl,hk⟩)⟩
   ·exact⟨none,_,by have:=run_endLoop (P:=P) hl (by rw[hlp];simp);rw[hlp]at this;exact this,hdone _ xs _ (Nat.le_refl _) hS (hI.putObj _ hi (by omega) hl rfl) ((World.putObj_heap_other (by omega)).trans hk)⟩
   ·exact⟨some .ret,_,by have:=run_endLoop (P:=P) hl (by rw[hlp];simp);rw[hlp]at this;exact this,hstop _ pre _ (Nat.le_refl _) hSp (hIx.putObj _ hi (by omega) hl rfl) ((World.putObj_heap_other (by omega)).trans hk)⟩
end Go.WW
namespace Go.WW
def au(v lo hi:Int):Bool:=decide (lo≤v)&&decide (v≤hi)
def adG(t:Int):Bool:=au t 0 1099511627776
end Go.WW
namespace Go.Proofs.YtaghcadlgbnbdaaGreatDoor
open Go.RowKit Go.WW
theorem xq(v lo hi:Int)(w:World):Calls Tryz.prog 102 #[.int .i64 v,.int .i64 lo,.int .i64 hi] w fun e w'=>e=.returned (.bool (au v lo hi))∧w=w':=by
 go_enter Tryz.func102,Tryz.ntmps102
 go_wp2
 all_goals go_ret
 all_goals exact⟨by first|(simp[au, *];done)|(simp[au];omega),rfl⟩
theorem xu(v lo hi:Int)(w:World):Calls Tryz.prog 114 #[.int .i64 v,.int .i64 lo,.int .i64 hi] w fun e w'=>e=.returned (.bool (au v lo hi))∧w=w':=by
 go_enter Tryz.func114,Tryz.ntmps114
 go_wp2
 all_goals go_ret
 all_goals exact⟨by first|(simp[au, *];done)|(simp[au];omega),rfl⟩
theorem Um(v lo hi:Int)(w:World):Calls Tryz.prog 131 #[.int .i64 v,.int .i64 lo,.int .i64 hi] w fun e w'=>e=.returned (.bool (au v lo hi))∧w=w':=by
 go_enter Tryz.func131,Tryz.ntmps131
 go_wp2
 all_goals go_ret
 all_goals exact⟨by first|(simp[au, *];done)|(simp[au];omega),rfl⟩
theorem qU(v lo hi:Int)(w:World):Calls Tryz.prog 127 #[.int .i64 v,.int .i64 lo,.int .i64 hi] w fun e w'=>e=.returned (.bool (au v lo hi))∧w=w':=by
 go_enter Tryz.func127,Tryz.ntmps127
 go_wp2
 all_goals go_ret
 all_goals exact⟨by first|(simp[au, *];done)|(simp[au];omega),rfl⟩
end Go.Proofs.YtaghcadlgbnbdaaGreatDoor
namespace Go.WW
def uf(c:UInt8):Bool:=decide (33≤(c.toNat:Int))&&decide ((c.toNat:Int)≤126)
def visible(s:ByteArray):Bool:=s.data.toList.all uf
def sized(s:ByteArray):Bool:=decide (1≤(s.size:Int))&&decide ((s.size:Int)≤32)
def ji(s:ByteArray):Bool:=visible s&&sized s
theorem Ht(s:ByteArray)(k:Nat)(h:k<s.size):s.data.toList[k]?=some s[k]:=by
 have h':k<s.data.size:=h
 rw[Array.getElem?_toList,Array.getElem?_eq_getElem h'];rfl
theorem oQ{p:UInt8→Bool}(s:ByteArray)(k:Nat)(h:k<s.size)(h1:(s.data.toList.take k).all p=true)(h2:p s[k]=true):(s.data.toList.take (k+1)).all p=true:=by
 rw[List.take_succ_eq_append_getElem (by simpa using h),List.all_append,h1]
 have:s.data.toList[k]=s[k]:=rfl
 simp[this,h2]
theorem D8{p:UInt8→Bool}(s:ByteArray)(k:Nat)(h:k<s.size)(h2:p s[k]=false):s.data.toList.all p=false:=by
 rw[List.all_eq_false]
 exact⟨s[k],List.mem_of_getElem? (Ht s k h),by simp[h2]⟩
theorem D9{p:UInt8→Bool}(s:ByteArray)(k:Nat)(h:s.size≤k)(h1:(s.data.toList.take k).all p=true):s.data.toList.all p=true:=by
 rwa[List.take_of_length_le (by simpa using h)]at h1
end Go.WW
namespace Go.Proofs.YtaghcadlgbnbdaaGreatDoor
open Go.RowKit Go.WW
theorem MK(s:ByteArray)(w:World)(hs:s.size≤maxLen):Calls Tryz.prog 128 #[.string s] w fun e w'=>e=.returned (.bool (visible s))∧w=w':=by
 unfold maxLen at hs
 go_enter Tryz.func128,Tryz.ntmps128
 go_wp2
 go_loop [3] (fun i=>∃k:Nat,k≤s.size∧i=.int .i64 k∧Hid ((s.data.toList.take k).all uf=true)) (fun i=>s.size-(intOf i).toNat)
 case atStart=>exact⟨0,Nat.zero_le _,rfl,by simp[Hid]⟩
 case round=>
  obtain⟨k,hk,rfl,hall⟩:=hrel
  by_cases hlt:k<s.size
  ·go_wp2
   all_goals first
    |(go_ret;exact⟨by rw[show visible s=false from D8 s k hlt (by simp[uf];omega)];rfl,rfl⟩)
    |(go_round
      case rel=>exact⟨k+1,by omega,by go_num,oQ s k hlt hall.out (by simp[uf];omega)⟩
      case measure=>simp[intOf];omega)
  ·go_wp2
   go_ret
   exact⟨by rw[show visible s=true from D9 s k (by omega) hall.out];rfl,rfl⟩
theorem MM(s:ByteArray)(w:World)(hs:s.size≤maxLen):Calls Tryz.prog 83 #[.string s] w fun e w'=>e=.returned (.bool (sized s))∧w=w':=by
 unfold maxLen at hs
 go_enter Tryz.func83,Tryz.ntmps83
 go_wp2
 all_goals go_ret
 all_goals exact⟨by first|(simp[sized, *];done)|(simp[sized];omega),rfl⟩
theorem Un(s:ByteArray)(w:World)(hs:s.size≤maxLen):Calls Tryz.prog 250 #[.string s] w fun e w'=>e=.returned (.bool (ji s))∧w=w':=by
 have hs':=hs
 unfold maxLen at hs
 go_enter Tryz.func250,Tryz.ntmps250
 go_wp2
 go_loop [6] (fun i=>∃k:Nat,k≤s.size∧i=.int .i64 k∧Hid ((s.data.toList.take k).all uf=true)) (fun i=>s.size-(intOf i).toNat)
 case atStart=>exact⟨0,Nat.zero_le _,rfl,by simp[Hid]⟩
 case round=>
  obtain⟨k,hk,rfl,hall⟩:=hrel
  by_cases hlt:k<s.size
  ·go_wp2
   all_goals first
    |(go_ret;exact⟨by rw[show ji s=false from by rw[ji,show visible s=false from D8 s k hlt (by simp[uf];omega)];rfl];rfl,rfl⟩)
    |(go_round
      case rel=>exact⟨k+1,by omega,by go_num,oQ s k hlt hall.out (by simp[uf];omega)⟩
      case measure=>simp[intOf];omega)
  ·go_wp2_with (go_at_call 83;refine(MM _ _ hs').mono ?_;rintro e w' ⟨rfl,rfl⟩)
   go_ret
   exact⟨by rw[show ji s=sized s from by rw[ji,show visible s=true from D9 s k (by omega) hall.out];rfl];rfl,rfl⟩
theorem adH(s:ByteArray)(w:World)(hs:s.size≤maxLen):Calls Tryz.prog 105 #[.string s] w fun e w'=>e=.returned (.bool (visible s&&decide ((s.size:Int)≤32)))∧w=w':=by
 unfold maxLen at hs
 go_enter Tryz.func105,Tryz.ntmps105
 go_wp2
 go_loop [6] (fun i=>∃k:Nat,k≤s.size∧i=.int .i64 k∧Hid ((s.data.toList.take k).all uf=true)) (fun i=>s.size-(intOf i).toNat)
 case atStart=>exact⟨0,Nat.zero_le _,rfl,by simp[Hid]⟩
 case round=>
  obtain⟨k,hk,rfl,hall⟩:=hrel
  by_cases hlt:k<s.size
  ·go_wp2
   all_goals first
    |(go_ret;exact⟨by rw[show visible s=false from D8 s k hlt (by simp[uf];omega)];rfl,rfl⟩)
    |(go_round
      case rel=>exact⟨k+1,by omega,by go_num,oQ s k hlt hall.out (by simp[uf];omega)⟩
      case measure=>simp[intOf];omega)
  ·go_wp2
   all_goals go_ret
   all_goals exact⟨by rw[show visible s=true from D9 s k (by omega) hall.out];first|rfl|(simp;done)|(simp;omega),rfl⟩
end Go.Proofs.YtaghcadlgbnbdaaGreatDoor
namespace Go.WW
def oU(c:UInt8):Bool:=(c.toNat:Int) == 46 || (c.toNat:Int) == 45 || (decide (65≤(c.toNat:Int))&&decide ((c.toNat:Int)≤90)) || (decide (48≤(c.toNat:Int))&&decide ((c.toNat:Int)≤57))
def fE(c:UInt8):Bool:=(c.toNat:Int) == 46
def lM(s:ByteArray)(i:Nat):Bool:=
 match s.data.toList[i]? with
 |none=>true
 |some c=>oU c&&!(fE c&&(i == 0 || i+1 == s.size || (s.data.toList[i-1]?).any fE))
def gZ(s:ByteArray):Bool:=(List.range s.size).all (lM s)&&sized s
def bD(p:aB):Bool:=p.parts.all ji&&decide (1≤(p.parts.length:Int))&&decide ((p.parts.length:Int)≤4)&&gZ p.aG
def bn(p q:aB):Bool:=decide (p.aG=q.aG)&&decide (p.parts=q.parts)
theorem le_max{n:Nat}(h:n≤lim):n≤maxLen:=by unfold lim at h;unfold maxLen;omega
theorem kC{α:Type}{p:α→Bool}(l:List α)(k:Nat)(h:k<l.length)(h1:(l.take k).all p=true)(h2:p l[k]=true):(l.take (k+1)).all p=true:=by
 rw[List.take_succ_eq_append_getElem h,List.all_append,h1];simp[h2]
theorem qV{α:Type}{p:α→Bool}(l:List α)(k:Nat)(h:k<l.length)(h2:p l[k]=false):l.all p=false:=by
 rw[List.all_eq_false];exact⟨l[k],List.getElem_mem h,by simp[h2]⟩
theorem qW{α:Type}{p:α→Bool}(l:List α)(k:Nat)(h:l.length≤k)(h1:(l.take k).all p=true):l.all p=true:=by
 rwa[List.take_of_length_le h]at h1
theorem MN(s:ByteArray)(k:Nat)(h:k<s.size):lM s k=(oU s[k]&&!(fE s[k]&&(k == 0 || k+1 == s.size || (s.data.toList[k-1]?).any fE))):=by
 unfold lM;rw[Ht s k h]
theorem Hu(s:ByteArray)(k:Nat)(h:k<s.size)(hn:lM s k=false):gZ s=false:=by
 have:(List.range s.size).all (lM s)=false:=by rw[List.all_eq_false];exact⟨k,List.mem_range.2 h,by simp[hn]⟩
 rw[gZ,this];rfl
theorem Hw(s:ByteArray)(k:Nat)(h:(List.range k).all (lM s)=true)(hn:lM s k=true):(List.range (k+1)).all (lM s)=true:=by
 rw[List.range_succ,List.all_append,h];simp[hn]
theorem adI(s:ByteArray)(k:Nat)(hk:k=s.size)(h:(List.range k).all (lM s)=true):gZ s=sized s:=by
 subst hk;rw[gZ,h];rfl
theorem adJ(c:Int):c=46∨c=45∨(65≤c∧c≤90)∨(48≤c∧c≤57)∨c<45∨c=47∨(57<c∧c<65)∨90<c:=by omega
theorem Ea{c:UInt8}(h:(c.toNat:Int)=46∨(c.toNat:Int)=45∨(65≤(c.toNat:Int)∧(c.toNat:Int)≤90)∨(48≤(c.toNat:Int)∧(c.toNat:Int)≤57)):oU c=true:=by
 unfold oU;simp;omega
theorem adK{c:UInt8}(h:(c.toNat:Int)<45∨(c.toNat:Int)=47∨(57<(c.toNat:Int)∧(c.toNat:Int)<65)∨90<(c.toNat:Int)):oU c=false:=by
 unfold oU;simp;omega
theorem Hy{c:UInt8}(h:¬(c.toNat:Int)=46):fE c=false:=by unfold fE;simpa using h
theorem Uo{c:UInt8}(h:(c.toNat:Int)=46):fE c=true:=by unfold fE;simpa using h
theorem adL{s:ByteArray}{k:Nat}(hk:k<s.size)(h:oU s[k]=false):lM s k=false:=by rw[MN s k hk,h];rfl
theorem MP{s:ByteArray}{k:Nat}(hk:k<s.size)(h:oU s[k]=true)(h':fE s[k]=false):lM s k=true:=by rw[MN s k hk,h,h'];rfl
theorem adM{s:ByteArray}{k:Nat}(hk:k<s.size)(h':fE s[k]=true):lM s k=!(k == 0 || k+1 == s.size || (s.data.toList[k-1]?).any fE):=by
 have:oU s[k]=true:=Ea (.inl (by unfold fE at h';simpa using h'))
 rw[MN s k hk,this,h'];rfl
theorem MQ{s:ByteArray}(h:((s.size:Int)<1∨32<(s.size:Int))∨(!visible s)=true):ji s=false:=by
 unfold ji sized
 rcases h with h|h
 ·have:(decide (1≤(s.size:Int))&&decide ((s.size:Int)≤32))=false:=by simp;omega
  rw[this];simp
 ·have:visible s=false:=by simpa using h
  rw[this];rfl
theorem adN{s:ByteArray}(h:32<(s.size:Int)):ji s=false:=MQ (.inl (.inr h))
theorem adO{s:ByteArray}(h:(s.size:Int)<1):ji s=false:=MQ (.inl (.inl h))
theorem adP{s:ByteArray}(h:(1≤(s.size:Int)∧(s.size:Int)≤32)∧(!visible s)=false):ji s=true:=by
 have:visible s=true:=by simpa using h.2
 unfold ji sized;rw[this];simp[h.1]
theorem Ur{p:aB}(k:Nat)(hlt:k<p.parts.length)(h:ji p.parts[k]=false):bD p=false:=by rw[bD,qV p.parts k hlt h];rfl
theorem adQ{p:aB}(h:p.parts.all ji=true)(h1:1≤(p.parts.length:Int))(h2:(p.parts.length:Int)≤4):bD p=gZ p.aG:=by simp[bD,h,h1,h2]
theorem adR{p:aB}(h2:4<(p.parts.length:Int)):bD p=false:=by
 have:decide ((p.parts.length:Int)≤4)=false:=by simp;omega
 simp[bD,this]
theorem adS{p:aB}(h2:(p.parts.length:Int)<1):bD p=false:=by
 have:decide (1≤(p.parts.length:Int))=false:=by simp;omega
 simp[bD,this]
end Go.WW
namespace Go.Proofs.YtaghcadlgbnbdaaGreatDoor
open Go.RowKit Go.WW
theorem Us(s:ByteArray)(w:World)(hs:s.size≤lim):Calls Tryz.prog 61 #[.string s] w fun e w'=>e=.returned (.bool (gZ s))∧w=w':=by
 have hs':s.size≤4294967000:=hs
 go_enter Tryz.func61,Tryz.ntmps61
 go_wp2
 go_loop [3] (fun i=>∃k:Nat,k≤s.size∧i=.int .i64 k∧Hid ((List.range k).all (lM s)=true)) (fun i=>s.size-(intOf i).toNat)
 case atStart=>exact⟨0,Nat.zero_le _,rfl,by simp[Hid]⟩
 case round=>
  obtain⟨k,hk,rfl,hall⟩:=hrel
  by_cases hlt:k<s.size
  ·have hall':=hall;clear hall
   rcases adJ (s[k].toNat:Int)with hc|hc|⟨hc1,hc2⟩|⟨hc1,hc2⟩|hc|hc|⟨hc1,hc2⟩|hc
   ·have HD:=Uo hc
    have HA:=Lib.hid (adM hlt HD)
    clear HD
    have hb:((s[k].toNat:Int) == 46)=true:=by simp[hc]
    have hb':((s[k].toNat:Int) != 46)=false:=by simp[hc]
    clear hc
    by_cases h0:k=0
    ·subst h0
     go_wp2
     go_ret
     exact⟨by rw[Hu s 0 hlt (by rw[HA.out];rfl)];rfl,rfl⟩
    ·have h0':((k:Int) == 0)=false:=by simp;omega
     by_cases h1:k+1=s.size
     ·have h1':((k:Int) == (s.size:Int)-1)=true:=by simp;omega
      have H1:=Lib.hid h1
      clear h1
      go_wp2
      go_ret
      exact⟨by rw[Hu s k hlt (by rw[HA.out,H1.out];simp)];rfl,rfl⟩
     ·obtain⟨j,rfl⟩:∃j,k=j+1:=⟨k-1,by omega⟩
      have hj:j<s.size:=by omega
      have aqJ:((j:Int)+1 == 0)=false:=by simp;omega
      have h1':((j:Int)+1 == (s.size:Int)-1)=false:=by simp;omega
      have H1:=Lib.hid h1
      clear h1 h0 h0'
      by_cases h2:(s[j].toNat:Int)=46
      ·have h2':((s[j].toNat:Int) == 46)=true:=by simp[h2]
       have HJ:=Lib.hid (Uo h2)
       clear h2
       go_wp2
       go_ret
       exact⟨by rw[Hu s (j+1) hlt (by rw[HA.out];simp[Ht s j hj,HJ.out])];rfl,rfl⟩
      ·have h2':((s[j].toNat:Int) == 46)=false:=by simp[h2]
       have HJ:=Lib.hid (Hy h2)
       clear h2
       have HS:=Lib.hid (Hw s (j+1) hall'.out (by rw[HA.out];simp[Ht s j hj,HJ.out,H1.out]))
       go_wp2
       go_round
       case rel=>exact⟨j+1+1,by omega,by go_num,HS.out⟩
       case measure=>simp[intOf];omega
   ·have HA:=Lib.hid (MP hlt (Ea (.inr (.inl hc))) (Hy (by omega)))
    go_wp2
    go_round
    case rel=>exact⟨k+1,by omega,by go_num,Hw s k hall'.out HA.out⟩
    case measure=>simp[intOf];omega
   ·have HA:=Lib.hid (MP hlt (Ea (.inr (.inr (.inl ⟨hc1,hc2⟩)))) (Hy (by omega)))
    go_wp2
    go_round
    case rel=>exact⟨k+1,by omega,by go_num,Hw s k hall'.out HA.out⟩
    case measure=>simp[intOf];omega
   ·have HA:=Lib.hid (MP hlt (Ea (.inr (.inr (.inr ⟨hc1,hc2⟩)))) (Hy (by omega)))
    go_wp2
    go_round
    case rel=>exact⟨k+1,by omega,by go_num,Hw s k hall'.out HA.out⟩
    case measure=>simp[intOf];omega
   all_goals
    have HA:=Lib.hid (Hu s k hlt (adL hlt (adK (by omega))))
    have b1:((s[k].toNat:Int) == 46)=false:=by simp;omega
    have b2:((s[k].toNat:Int) != 46)=true:=by simp;omega
    have b3:((s[k].toNat:Int) != 45)=true:=by simp;omega
    first|(have b4:decide ((s[k].toNat:Int)≤57)=false:=(by simp;omega))|skip
    first|(have b5:decide ((s[k].toNat:Int)≤90)=false:=(by simp;omega))|skip
    go_wp2
    go_ret
    exact⟨by rw[HA.out];rfl,rfl⟩
  ·have HE:=Lib.hid (adI s k (by omega) hall.out)
   go_wp2
   all_goals go_ret
   all_goals exact⟨by rw[HE.out];first|rfl|(simp[sized, *];done)|(simp[sized];omega),rfl⟩
theorem AU(s:Sl)(p:aB)(w:World)(hp:bg w s p):Calls Tryz.prog 124 #[.agg (ak s p)] w fun e w'=>e=.returned (.bool (bD p))∧Below w.heap.size w w':=by
 have hl:p.parts.length≤4294967000:=hp.1.1
 go_enter Tryz.func124,Tryz.ntmps124
 go_wp2
 go_loop [3] (fun i=>∃k:Nat,k≤p.parts.length∧i=.int .i64 k∧Hid ((p.parts.take k).all ji=true)) (fun i=>p.parts.length-(intOf i).toNat)
 case atStart=>exact⟨0,Nat.zero_le _,rfl,by simp[Hid]⟩
 case round=>
  obtain⟨k,hk,rfl,hall⟩:=hrel
  by_cases hlt:k<p.parts.length
  ·obtain⟨b,o,ha,hc,hsz⟩:=hp.1.get k hlt
   have hb:b<w.heap.size:=World.block_lt_of_cell? w _ hc
   go_wp2_with (go_at_call 128;refine(MK _ _ (le_max hsz)).mono ?_;rintro e w' ⟨rfl,rfl⟩)
   all_goals first
    |(go_ret
      have hno:ji p.parts[k]=false:=by first|exact MQ ‹_›|exact adN ‹_›|exact adO ‹_›
      exact⟨by rw[Ur k hlt hno];rfl,(Below.refl _ _).alloc (Nat.le_refl _) _⟩)
    |(go_round
      case rel=>exact⟨k+1,by omega,by go_num,kC p.parts k hlt hall.out (adP ‹_›)⟩
      case measure=>simp[intOf];omega)
  ·have hy:=qW p.parts k (by omega) hall.out
   have HY:Hid (p.parts.all ji=true):=hy
   clear hy
   go_wp2_with (go_at_call 61;refine(Us _ _ hp.2).mono ?_;rintro e w' ⟨rfl,rfl⟩)
   all_goals go_ret
   all_goals exact⟨by first|(rw[adQ HY.out ‹_› ‹_›];rfl)|(rw[adR ‹_›];rfl)|(rw[adS ‹_›];rfl),(Below.refl _ _).alloc (Nat.le_refl _) _⟩
end Go.Proofs.YtaghcadlgbnbdaaGreatDoor
namespace Go.WW
theorem str_eq(a b:ByteArray)(h:a=b):(a.toList == b.toList)=true:=by subst h;simp
theorem kD(a b:ByteArray)(h:¬a=b):(a.toList == b.toList)=false:=by
 rw[ByteArray.toList_eq,ByteArray.toList_eq,beq_eq_false_iff_ne]
 exact fun e=>h (WideShapes.bytes_inj e)
theorem adT{p q:aB}(h:¬p.aG=q.aG):bn p q=false:=by simp[bn,h]
theorem adU{p q:aB}(h:¬p.parts.length=q.parts.length):bn p q=false:=by
 have:decide (p.parts=q.parts)=false:=by simp;intro e;exact h (by rw[e])
 simp[bn,this]
theorem adV{p q:aB}(k:Nat)(h1:k<p.parts.length)(h2:k<q.parts.length)(h:¬p.parts[k]=q.parts[k]):bn p q=false:=by
 have:decide (p.parts=q.parts)=false:=by simp;intro e;exact h (by simp[e])
 simp[bn,this]
theorem adW{p q:aB}(k:Nat)(hr:p.aG=q.aG)(h1:p.parts.length≤k)(h2:q.parts.length≤k)(h:p.parts.take k=q.parts.take k):bn p q=true:=by
 rw[List.take_of_length_le h1,List.take_of_length_le h2]at h
 simp[bn,hr,h]
theorem adX{α:Type}{l m:List α}(k:Nat)(h1:k<l.length)(h2:k<m.length)(h:l.take k=m.take k)(he:l[k]=m[k]):l.take (k+1)=m.take (k+1):=by
 rw[List.take_succ_eq_append_getElem h1,List.take_succ_eq_append_getElem h2,h,he]
end Go.WW
namespace Go.Proofs.YtaghcadlgbnbdaaGreatDoor
open Go.RowKit Go.WW
theorem qX(s t:Sl)(p q:aB)(w:World)(hp:bg w s p)(hq:bg w t q):Calls Tryz.prog 21 #[.agg (ak s p),.agg (ak t q)] w fun e w'=>e=.returned (.bool (bn p q))∧Below w.heap.size w w':=by
 have hl:p.parts.length≤4294967000:=hp.1.1
 have hB:Below w.heap.size w ((w.alloc (.cells (ak s p) 25)).alloc (.cells (ak t q) 25)):=((Below.refl _ _).alloc (Nat.le_refl _) _).alloc (by simp) _
 by_cases hr:p.aG=q.aG
 ·have hr':=str_eq _ _ hr
  have HR:=Lib.hid hr;clear hr
  by_cases hn:p.parts.length=q.parts.length
  ·have hn':((p.parts.length:Int) != (q.parts.length:Int))=false:=by simp[hn]
   have hn1:p.parts.length≤q.parts.length:=by omega
   have hn2:q.parts.length≤p.parts.length:=by omega
   clear hn
   go_enter Tryz.func21,Tryz.ntmps21
   go_wp2
   go_loopw [5] (fun i wr=>Below ((w.alloc (.cells (ak s p) 25)).alloc (.cells (ak t q) 25)).heap.size ((w.alloc (.cells (ak s p) 25)).alloc (.cells (ak t q) 25)) wr∧∃k:Nat,k≤p.parts.length∧i=.int .i64 k∧Hid (p.parts.take k=q.parts.take k)) (fun i _=>p.parts.length-(intOf i).toNat)
   case atStart=>exact⟨Below.refl _ _,0,Nat.zero_le _,rfl,by simp[Hid]⟩
   case round=>
    obtain⟨hbr,k,hk,rfl,hall⟩:=hrel
    obtain⟨hcc,aU,hrr⟩:=bf hbr
    by_cases hlt:k<p.parts.length
    ·have hlq:k<q.parts.length:=by omega
     obtain⟨b,o,ha,hc,hsz⟩:=hp.1.get k hlt
     obtain⟨b',o',ha',hc',hsz'⟩:=hq.1.get k hlq
     have hb:b<w.heap.size:=World.block_lt_of_cell? w _ hc
     have hb':b'<w.heap.size:=World.block_lt_of_cell? w _ hc'
     have hb1:b<w.heap.size+1+1:=by omega
     have hb1':b'<w.heap.size+1+1:=by omega
     have hki:(k:Int)<(p.parts.length:Int):=by omega
     have hkq:(k:Int)<(q.parts.length:Int):=by omega
     by_cases he:p.parts[k]=q.parts[k]
     ·have he':=str_eq _ _ he
      have HT:=Lib.hid (adX k hlt hlq hall.out he)
      clear he
      go_wp2
      refine dP hbr (by kernel_rfl) (by kernel_rfl) ?_
      repeat (go_big_quiet_step (fail))
      refine wpQuiet_nil ?_
      intro w2 hb2
      go_wp2
      go_roundw
      case rel=>exact⟨hb2,k+1,by omega,by go_num,HT.out⟩
      case measure=>simp[intOf];omega
     ·have he':=kD _ _ he
      have HT:=Lib.hid (adV k hlt hlq he)
      clear he
      go_wp2
      refine dP hbr (by kernel_rfl) (by kernel_rfl) ?_
      repeat (go_big_quiet_step (fail))
      refine wpQuiet_nil ?_
      intro w2 hb2
      go_wp2
      go_ret
      exact⟨by rw[HT.out];rfl,hB.trans (hb2.mono (by simp;omega))⟩
    ·have HT:=Lib.hid (adW k HR.out (by omega) (by omega) hall.out)
     go_wp2
     go_ret
     exact⟨by rw[HT.out];rfl,hB.trans (hbr.mono (by simp;omega))⟩
  ·have hn':((p.parts.length:Int) != (q.parts.length:Int))=true:=by simp;omega
   have HN:=Lib.hid (adU hn);clear hn
   go_enter Tryz.func21,Tryz.ntmps21
   go_wp2
   go_ret
   exact⟨by rw[HN.out];rfl,hB⟩
 ·have hr':=kD _ _ hr
  have HN:=Lib.hid (adT hr);clear hr
  go_enter Tryz.func21,Tryz.ntmps21
  go_wp2
  go_ret
  exact⟨by rw[HN.out];rfl,hB⟩
end Go.Proofs.YtaghcadlgbnbdaaGreatDoor
namespace Go.WW
def dS(p:Int):Int:=if p == 1 then 16 else if p == 2 then 32 else 0
def nV(k:Key):Bool:=decide (0<dS k.profile)&&((k.bytes.length:Int) == dS k.profile)&&au k.version 0 65535
def iC(gU ver:Int)(k:Key):Bool:=!(dS k.profile == 0)&&!(k.version != ver)&&(if gU == 0 then nV k else au k.bytes.length 1 256)
def iQ{α:Type}(r:α→α→Bool)(l:List α)(i:Nat):Bool:=i == 0 || (match l[i-1]?,l[i]? with|some a,some b=>r a b|_,_=>true)
def ordered{α:Type}(r:α→α→Bool)(l:List α):Bool:=(List.range l.length).all (iQ r l)
def lN(a b:Key):Bool:=decide (a.profile<b.profile)
def iI(s:aW):Bool:=au s.version 1 65535&&au s.keys.length 1 4&&decide ((s.fP.size:Int)≤256)&&au s.jr 0 65536&&(decide (0<s.jr) || s.fP.toList.isEmpty)&&au s.created 0 1099511627776
def gV(gU:Int)(s:aW):Bool:=s.keys.all (iC gU s.version)&&ordered lN s.keys&&iI s
theorem Hz{f:Nat→Bool}(k:Nat)(h:(List.range k).all f=true)(hn:f k=true):(List.range (k+1)).all f=true:=by
 rw[List.range_succ,List.all_append,h];simp[hn]
theorem Eb{f:Nat→Bool}(n k:Nat)(h:k<n)(hn:f k=false):(List.range n).all f=false:=by
 rw[List.all_eq_false];exact⟨k,List.mem_range.2 h,by simp[hn]⟩
theorem adZ{f:Nat→Bool}(n k:Nat)(hk:k=n)(h:(List.range k).all f=true):(List.range n).all f=true:=by subst hk;exact h
end Go.WW
namespace Go.Proofs.YtaghcadlgbnbdaaGreatDoor
open Go.RowKit Go.WW
theorem ug(p:Int)(w:World):Calls Tryz.prog 189 #[.int .i64 p] w fun e w'=>e=.returned (.int .i64 (dS p))∧w=w':=by
 rcases(show p=1∨p=2∨(¬p=1∧¬p=2) by omega)with rfl|rfl|⟨h1,h2⟩
 iterate 2
  ·go_enter Tryz.func189,Tryz.ntmps189
   go_wp2
   go_ret
   exact⟨rfl,rfl⟩
 ·have h1':(p == 1)=false:=by simpa using h1
  have h2':(p == 2)=false:=by simpa using h2
  have HK:Hid (dS p=0):=by simp[Hid,dS,h1,h2]
  clear h1 h2
  go_enter Tryz.func189,Tryz.ntmps189
  go_wp2
  go_ret
  exact⟨by rw[HK.out];rfl,rfl⟩
theorem yK(s:Sl)(k:Key)(w:World):Calls Tryz.prog 190 #[.agg (bY s k)] w fun e w'=>e=.returned (.bool (nV k))∧Below w.heap.size w w':=by
 have hB:∀ob,Below w.heap.size w (w.alloc ob):=fun ob=>(Below.refl _ _).alloc (Nat.le_refl _) _
 by_cases h1:0<dS k.profile
 ·by_cases h2:(k.bytes.length:Int)=dS k.profile
  ·have h2':((k.bytes.length:Int) == dS k.profile)=true:=by simp[h2]
   have HF:Hid (nV k=au k.version 0 65535):=by simp[Hid,nV,h1,h2]
   clear h2
   go_enter Tryz.func190,Tryz.ntmps190
   go_wp2
   refine dP (Below.refl _ _) (by kernel_rfl) (by kernel_rfl) ?_
   repeat (go_big_quiet_step (first|(go_at_call 189;exact Calls.DI (ug _ _))|(go_at_call 127;exact Calls.DI (qU _ _ _ _))))
   refine wpQuiet_nil ?_
   intro w2 hb2
   go_wp2
   go_ret
   exact⟨by rw[HF.out];rfl,(hB _).trans (hb2.mono (by simp))⟩
  ·have h2':((k.bytes.length:Int) == dS k.profile)=false:=by simp[h2]
   have HF:Hid (nV k=false):=by simp[Hid,nV,h2]
   clear h2
   go_enter Tryz.func190,Tryz.ntmps190
   go_wp2
   refine dP (Below.refl _ _) (by kernel_rfl) (by kernel_rfl) ?_
   repeat (go_big_quiet_step ((go_at_call 189;exact Calls.DI (ug _ _))))
   refine wpQuiet_nil ?_
   intro w2 hb2
   go_wp2
   go_ret
   exact⟨by rw[HF.out];rfl,(hB _).trans (hb2.mono (by simp))⟩
 ·have h1':decide (0<dS k.profile)=false:=by simpa using h1
  have HF:Hid (nV k=false):=by simp[Hid,nV,h1']
  clear h1
  go_enter Tryz.func190,Tryz.ntmps190
  go_wp2
  refine dP (Below.refl _ _) (by kernel_rfl) (by kernel_rfl) ?_
  repeat (go_big_quiet_step ((go_at_call 189;exact Calls.DI (ug _ _))))
  refine wpQuiet_nil ?_
  intro w2 hb2
  go_wp2
  go_ret
  exact⟨by rw[HF.out];rfl,(hB _).trans (hb2.mono (by simp))⟩
end Go.Proofs.YtaghcadlgbnbdaaGreatDoor
namespace Go.WW
def pY(c:Int):Int:=if 97≤c∧c≤122 then 1 else if 65≤c∧c≤90 then 2 else if 48≤c∧c≤57 then 3 else 0
def yL(c:Int):Int:=if 97≤c∧c≤122 then 1 else if 65≤c∧c≤90 then 2 else if 48≤c∧c≤57 then 3 else if 32≤c∧c≤126 then 4 else 5
theorem Ut(c:Int):3<yL c↔pY c=0:=by
 unfold yL pY
 (repeat' split)<;>omega
def qY(c:UInt8):Bool:=!(pY c.toNat == 0) || (c.toNat:Int) == 45 || (c.toNat:Int) == 95 || (c.toNat:Int) == 46
def oV(s:ByteArray):Bool:=s.data.toList.all qY&&au s.size 1 32
def dN(p:ah):Bool:=oV p.name&&au p.length 1 64&&au p.classes 1 5&&au p.distinct 0 p.length&&au p.history 0 16&&au p.jy 0 1099511627776&&au p.fD 0 1099511627776&&(p.fD == 0 || decide (p.jy≤p.fD))&&au p.fails 0 1000&&au p.window 0 1099511627776&&au p.lock 0 1099511627776
theorem Uu(p:ah)(h:¬oV p.name=true):dN p=false:=by
 have hb:(oV p.name)=false:=by first|exact h|(simpa using h)|(simp;omega)
 simp only[dN,hb,Bool.false_and]
theorem Uw(p:ah)(h:¬au p.length 1 64=true):dN p=false:=by
 have hb:(au p.length 1 64)=false:=by first|exact h|(simpa using h)|(simp;omega)
 simp only[dN,hb,Bool.false_and,Bool.and_false]
theorem Ux(p:ah)(h:¬au p.classes 1 5=true):dN p=false:=by
 have hb:(au p.classes 1 5)=false:=by first|exact h|(simpa using h)|(simp;omega)
 simp only[dN,hb,Bool.false_and,Bool.and_false]
theorem Uy(p:ah)(h:¬au p.distinct 0 p.length=true):dN p=false:=by
 have hb:(au p.distinct 0 p.length)=false:=by first|exact h|(simpa using h)|(simp;omega)
 simp only[dN,hb,Bool.false_and,Bool.and_false]
theorem Uz(p:ah)(h:¬au p.history 0 16=true):dN p=false:=by
 have hb:(au p.history 0 16)=false:=by first|exact h|(simpa using h)|(simp;omega)
 simp only[dN,hb,Bool.false_and,Bool.and_false]
theorem UA(p:ah)(h:¬au p.jy 0 1099511627776=true):dN p=false:=by
 have hb:(au p.jy 0 1099511627776)=false:=by first|exact h|(simpa using h)|(simp;omega)
 simp only[dN,hb,Bool.false_and,Bool.and_false]
theorem UB(p:ah)(h:¬au p.fD 0 1099511627776=true):dN p=false:=by
 have hb:(au p.fD 0 1099511627776)=false:=by first|exact h|(simpa using h)|(simp;omega)
 simp only[dN,hb,Bool.false_and,Bool.and_false]
theorem UC(p:ah)(h:¬((p.fD == 0)=true∨p.jy≤p.fD)):dN p=false:=by
 have hb:(p.fD == 0 || decide (p.jy≤p.fD))=false:=by first|exact h|(simpa using h)|(simp;omega)
 simp only[dN,hb,Bool.false_and,Bool.and_false]
theorem MS(p:ah)(h:¬au p.fails 0 1000=true):dN p=false:=by
 have hb:(au p.fails 0 1000)=false:=by first|exact h|(simpa using h)|(simp;omega)
 simp only[dN,hb,Bool.false_and,Bool.and_false]
theorem MW(p:ah)(h:¬au p.window 0 1099511627776=true):dN p=false:=by
 have hb:(au p.window 0 1099511627776)=false:=by first|exact h|(simpa using h)|(simp;omega)
 simp only[dN,hb,Bool.false_and,Bool.and_false]
theorem ad1(p:ah)(h:¬au p.lock 0 1099511627776=true):dN p=false:=by
 have hb:(au p.lock 0 1099511627776)=false:=by first|exact h|(simpa using h)|(simp;omega)
 simp only[dN,hb,Bool.and_false]
theorem H9(p:ah)(h1:oV p.name=true)(h2:au p.length 1 64=true)(h3:au p.classes 1 5=true)(h4:au p.distinct 0 p.length=true)(h5:au p.history 0 16=true)(h6:au p.jy 0 1099511627776=true)(h7:au p.fD 0 1099511627776=true)(h8:(p.fD == 0)=true∨p.jy≤p.fD)(h9:au p.fails 0 1000=true)(h10:au p.window 0 1099511627776=true):dN p=(au p.lock 0 1099511627776):=by
 have e1:(oV p.name)=true:=by first|exact h1|(simpa using h1)|(simp;omega)
 have e2:(au p.length 1 64)=true:=by first|exact h2|(simpa using h2)|(simp;omega)
 have e3:(au p.classes 1 5)=true:=by first|exact h3|(simpa using h3)|(simp;omega)
 have e4:(au p.distinct 0 p.length)=true:=by first|exact h4|(simpa using h4)|(simp;omega)
 have e5:(au p.history 0 16)=true:=by first|exact h5|(simpa using h5)|(simp;omega)
 have e6:(au p.jy 0 1099511627776)=true:=by first|exact h6|(simpa using h6)|(simp;omega)
 have e7:(au p.fD 0 1099511627776)=true:=by first|exact h7|(simpa using h7)|(simp;omega)
 have e8:(p.fD == 0 || decide (p.jy≤p.fD))=true:=by first|exact h8|(simpa using h8)|(simp;omega)
 have e9:(au p.fails 0 1000)=true:=by first|exact h9|(simpa using h9)|(simp;omega)
 have e10:(au p.window 0 1099511627776)=true:=by first|exact h10|(simpa using h10)|(simp;omega)
 simp only[dN,e1,e2,e3,e4,e5,e6,e7,e8,e9,e10,Bool.true_and]
theorem UD(p:ah)(h1:oV p.name=true)(h2:au p.length 1 64=true)(h3:au p.classes 1 5=true)(h4:au p.distinct 0 p.length=true)(h5:au p.history 0 16=true)(h6:au p.jy 0 1099511627776=true)(h7:au p.fD 0 1099511627776=true)(h8:p.fD=0∨p.jy≤p.fD)(h9:au p.fails 0 1000=true)(h10:au p.window 0 1099511627776=true):dN p=au p.lock 0 1099511627776:=
 H9 p h1 h2 h3 h4 h5 h6 h7 (h8.imp (fun h=>by simpa using h) id) h9 h10
theorem UE(p:ah)(h:¬p.fD=0)(h':p.fD<p.jy):dN p=false:=UC p (by simp only[beq_iff_eq];omega)
theorem UF{c:UInt8}(h:pY c.toNat=0)(h1:¬(c.toNat:Int)=45)(h2:¬(c.toNat:Int)=95)(h3:¬(c.toNat:Int)=46):qY c=false:=by simp[qY,h];omega
theorem UG{c:UInt8}(h:¬pY c.toNat=0):qY c=true:=by simp[qY,h]
theorem AV{c:UInt8}(h:(c.toNat:Int)=45∨(c.toNat:Int)=95∨(c.toNat:Int)=46):qY c=true:=by simp[qY];omega
theorem UH{s:ByteArray}(k:Nat)(hk:k<s.size)(h:qY s[k]=false):oV s=false:=by rw[oV,D8 s k hk h];rfl
theorem UI{s:ByteArray}(k:Nat)(hk:s.size≤k)(h:(s.data.toList.take k).all qY=true):oV s=au s.size 1 32:=by rw[oV,D9 s k hk h];rfl
end Go.WW
namespace Go.Proofs.YtaghcadlgbnbdaaGreatDoor
open Go.RowKit Go.WW
theorem letter_c(c:Int)(w:World):Calls Tryz.prog 192 #[.int .u8 c] w fun e w'=>e=.returned (.int .i64 (pY c))∧w=w':=by
 rcases(show(97≤c∧c≤122)∨(65≤c∧c≤90)∨(48≤c∧c≤57)∨c<48∨(57<c∧c<65)∨(90<c∧c<97)∨122<c by omega)with⟨h1,h2⟩|⟨h1,h2⟩|⟨h1,h2⟩|h1|⟨h1,h2⟩|⟨h1,h2⟩|h1
 all_goals
  obtain⟨n,hn⟩:∃n,pY c=n:=⟨_,rfl⟩
  have hn':=hn
  unfold pY at hn'
  repeat (first|rw[if_pos (by omega)]at hn'|rw[if_neg (by omega)]at hn')
  subst hn'
  have HN:=Lib.hid hn
  clear hn
  go_enter Tryz.func192,Tryz.ntmps192
  go_wp2
  go_ret
  exact⟨by rw[HN.out];rfl,rfl⟩
theorem Ec(c:Int)(w:World):Calls Tryz.prog 182 #[.int .u8 c] w fun e w'=>e=.returned (.int .i64 (yL c))∧w=w':=by
 rcases(show(97≤c∧c≤122)∨(65≤c∧c≤90)∨(48≤c∧c≤57)∨c<32∨(32≤c∧c<48)∨(57<c∧c<65)∨(90<c∧c<97)∨(122<c∧c≤126)∨126<c by omega)with⟨h1,h2⟩|⟨h1,h2⟩|⟨h1,h2⟩|h1|⟨h1,h2⟩|⟨h1,h2⟩|⟨h1,h2⟩|⟨h1,h2⟩|h1
 all_goals
  obtain⟨n,hn⟩:∃n,yL c=n:=⟨_,rfl⟩
  have hn':=hn
  unfold yL at hn'
  repeat (first|rw[if_pos (by omega)]at hn'|rw[if_neg (by omega)]at hn')
  subst hn'
  have HN:=Lib.hid hn
  clear hn
  go_enter Tryz.func182,Tryz.ntmps182
  go_wp2
  go_ret
  exact⟨by rw[HN.out];rfl,rfl⟩
theorem ad2(s:ByteArray)(w:World)(hs:s.size≤lim):Calls Tryz.prog 130 #[.string s] w fun e w'=>e=.returned (.bool (oV s))∧w=w':=by
 have hs':s.size≤4294967000:=hs
 go_enter Tryz.func130,Tryz.ntmps130
 go_wp2
 go_loop [3] (fun i=>∃k:Nat,k≤s.size∧i=.int .i64 k∧Hid ((s.data.toList.take k).all qY=true)) (fun i=>s.size-(intOf i).toNat)
 case atStart=>exact⟨0,Nat.zero_le _,rfl,by simp[Hid]⟩
 case round=>
  obtain⟨k,hk,rfl,hall⟩:=hrel
  by_cases hlt:k<s.size
  ·by_cases hz:pY s[k].toNat=0
   ·have hz':(pY s[k].toNat == 0)=true:=by simp[hz]
    by_cases c1:(s[k].toNat:Int)=45
    ·have b1:((s[k].toNat:Int) != 45)=false:=by simp[c1]
     have HS:=Lib.hid (oQ s k hlt hall.out (AV (.inl c1)))
     clear c1 hz
     go_wp2_with (go_at_call 192;refine(letter_c _ _).mono ?_;rintro e w' ⟨rfl,rfl⟩)
     go_round
     case rel=>exact⟨k+1,by omega,by go_num,HS.out⟩
     case measure=>simp[intOf];omega
    ·have b1:((s[k].toNat:Int) != 45)=true:=by simp[c1]
     by_cases c2:(s[k].toNat:Int)=95
     ·have b2:((s[k].toNat:Int) != 95)=false:=by simp[c2]
      have HS:=Lib.hid (oQ s k hlt hall.out (AV (.inr (.inl c2))))
      clear c1 c2 hz
      go_wp2_with (go_at_call 192;refine(letter_c _ _).mono ?_;rintro e w' ⟨rfl,rfl⟩)
      go_round
      case rel=>exact⟨k+1,by omega,by go_num,HS.out⟩
      case measure=>simp[intOf];omega
     ·have b2:((s[k].toNat:Int) != 95)=true:=by simp[c2]
      by_cases c3:(s[k].toNat:Int)=46
      ·have b3:((s[k].toNat:Int) != 46)=false:=by simp[c3]
       have HS:=Lib.hid (oQ s k hlt hall.out (AV (.inr (.inr c3))))
       clear c1 c2 c3 hz
       go_wp2_with (go_at_call 192;refine(letter_c _ _).mono ?_;rintro e w' ⟨rfl,rfl⟩)
       go_round
       case rel=>exact⟨k+1,by omega,by go_num,HS.out⟩
       case measure=>simp[intOf];omega
      ·have b3:((s[k].toNat:Int) != 46)=true:=by simp[c3]
       have HS:=Lib.hid (UH k hlt (UF hz c1 c2 c3))
       clear c1 c2 c3 hz
       go_wp2_with (go_at_call 192;refine(letter_c _ _).mono ?_;rintro e w' ⟨rfl,rfl⟩)
       go_ret
       exact⟨by rw[HS.out];rfl,rfl⟩
   ·have HS:=Lib.hid (oQ s k hlt hall.out (UG hz))
    have hz':(pY s[k].toNat == 0)=false:=by simp[hz]
    clear hz
    go_wp2_with (go_at_call 192;refine(letter_c _ _).mono ?_;rintro e w' ⟨rfl,rfl⟩)
    go_round
    case rel=>exact⟨k+1,by omega,by go_num,HS.out⟩
    case measure=>simp[intOf];omega
  ·have HE:=Lib.hid (UI k (by omega) hall.out)
   go_wp2_with (go_at_call 131;refine(Um _ _ _ _).mono ?_;rintro e w' ⟨rfl,rfl⟩)
   go_ret
   exact⟨by rw[HE.out];rfl,rfl⟩
theorem ad3(s:ByteArray)(w:World)(hs:s.size≤lim):Calls Tryz.prog 115 #[.string s] w fun e w'=>e=.returned (.bool (oV s))∧w=w':=by
 have hs':s.size≤4294967000:=hs
 go_enter Tryz.func115,Tryz.ntmps115
 go_wp2
 go_loop [7] (fun i=>∃k:Nat,k≤s.size∧i=.int .i64 k∧Hid ((s.data.toList.take k).all qY=true)) (fun i=>s.size-(intOf i).toNat)
 case atStart=>exact⟨0,Nat.zero_le _,rfl,by simp[Hid]⟩
 case round=>
  obtain⟨k,hk,rfl,hall⟩:=hrel
  by_cases hlt:k<s.size
  ·by_cases hz:pY s[k].toNat=0
   ·have hz':decide (3<yL s[k].toNat)=true:=by simpa using(Ut _).2 hz
    by_cases c1:(s[k].toNat:Int)=45
    ·have b1:((s[k].toNat:Int) != 45)=false:=by simp[c1]
     have HS:=Lib.hid (oQ s k hlt hall.out (AV (.inl c1)))
     clear c1 hz
     go_wp2_with (go_at_call 182;refine(Ec _ _).mono ?_;rintro e w' ⟨rfl,rfl⟩)
     go_round
     case rel=>exact⟨k+1,by omega,by go_num,HS.out⟩
     case measure=>simp[intOf];omega
    ·have b1:((s[k].toNat:Int) != 45)=true:=by simp[c1]
     by_cases c2:(s[k].toNat:Int)=95
     ·have b2:((s[k].toNat:Int) != 95)=false:=by simp[c2]
      have HS:=Lib.hid (oQ s k hlt hall.out (AV (.inr (.inl c2))))
      clear c1 c2 hz
      go_wp2_with (go_at_call 182;refine(Ec _ _).mono ?_;rintro e w' ⟨rfl,rfl⟩)
      go_round
      case rel=>exact⟨k+1,by omega,by go_num,HS.out⟩
      case measure=>simp[intOf];omega
     ·have b2:((s[k].toNat:Int) != 95)=true:=by simp[c2]
      by_cases c3:(s[k].toNat:Int)=46
      ·have b3:((s[k].toNat:Int) != 46)=false:=by simp[c3]
       have HS:=Lib.hid (oQ s k hlt hall.out (AV (.inr (.inr c3))))
       clear c1 c2 c3 hz
       go_wp2_with (go_at_call 182;refine(Ec _ _).mono ?_;rintro e w' ⟨rfl,rfl⟩)
       go_round
       case rel=>exact⟨k+1,by omega,by go_num,HS.out⟩
       case measure=>simp[intOf];omega
      ·have b3:((s[k].toNat:Int) != 46)=true:=by simp[c3]
       have HS:=Lib.hid (UH k hlt (UF hz c1 c2 c3))
       clear c1 c2 c3 hz
       go_wp2_with (go_at_call 182;refine(Ec _ _).mono ?_;rintro e w' ⟨rfl,rfl⟩)
       go_ret
       exact⟨by rw[HS.out];rfl,rfl⟩
   ·have HS:=Lib.hid (oQ s k hlt hall.out (UG hz))
    have hz':decide (3<yL s[k].toNat)=false:=by simpa using mt (Ut _).1 hz
    clear hz
    go_wp2_with (go_at_call 182;refine(Ec _ _).mono ?_;rintro e w' ⟨rfl,rfl⟩)
    go_round
    case rel=>exact⟨k+1,by omega,by go_num,HS.out⟩
    case measure=>simp[intOf];omega
  ·have HE:=Lib.hid (UI k (by omega) hall.out)
   go_wp2_with (go_at_call 114;refine(xu _ _ _ _).mono ?_;rintro e w' ⟨rfl,rfl⟩)
   go_ret
   exact⟨by rw[HE.out];rfl,rfl⟩
theorem AX(v:Int)(w:World):Calls Tryz.prog 113 #[.int .i64 v] w fun e w'=>e=.returned (.bool (au v 0 1099511627776))∧w=w':=by
 go_enter Tryz.func113,Tryz.ntmps113
 go_wp2_with (go_at_call 114;refine(xu _ _ _ _).mono ?_;rintro e w' ⟨rfl,rfl⟩)
 go_ret
 exact⟨rfl,rfl⟩
theorem UJ(p:ah)(w:World)(hs:p.name.size≤lim):Calls Tryz.prog 81 #[.agg (az p)] w fun e w'=>e=.returned (.bool (dN p))∧Below w.heap.size w w':=by
 go_enter Tryz.func81,Tryz.ntmps81
 go_wp2_with (first|(go_at_call 130;refine(ad2 _ _ hs).mono ?_;rintro e w' ⟨rfl,rfl⟩)|(go_at_call 131;refine(Um _ _ _ _).mono ?_;rintro e w' ⟨rfl,rfl⟩))
 all_goals go_ret
 all_goals exact⟨by first|(rw[Uu p ‹_›];rfl)|(rw[Uw p ‹_›];rfl)|(rw[Ux p ‹_›];rfl)|(rw[Uy p ‹_›];rfl)|(rw[Uz p ‹_›];rfl)|(rw[UA p ‹_›];rfl)|(rw[UB p ‹_›];rfl)|(rw[UC p ‹_›];rfl)|(rw[MS p ‹_›];rfl)|(rw[MW p ‹_›];rfl)|(rw[ad1 p ‹_›];rfl)|(rw[H9 p ‹_› ‹_› ‹_› ‹_› ‹_› ‹_› ‹_› ‹_› ‹_› ‹_›];rfl)|(rw[UD p ‹_› ‹_› ‹_› ‹_› ‹_› ‹_› ‹_› (.inl ‹p.fD=0›) ‹_› ‹_›];rfl)|(rw[UD p ‹_› ‹_› ‹_› ‹_› ‹_› ‹_› ‹_› (.inr ‹p.jy≤p.fD›) ‹_› ‹_›];rfl)|(rw[UE p ‹_› ‹_›];rfl),(Below.refl _ _).alloc (Nat.le_refl _) _⟩
end Go.Proofs.YtaghcadlgbnbdaaGreatDoor
