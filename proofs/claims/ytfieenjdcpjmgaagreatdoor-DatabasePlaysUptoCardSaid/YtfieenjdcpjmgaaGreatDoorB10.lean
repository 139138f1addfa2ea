/- A part of the proof. -/
import Derived.Test.YtfieenjdcpjmgaaGreatDoorB09
import Derived.Test.YtfieenjdcpjmgaaGreatDoorB03
import Derived.Test.YtfieenjdcpjmgaaGreatDoorB08
import Derived.Test.YtfieenjdcpjmgaaGreatDoorB07
import Derived.Test.YtfieenjdcpjmgaaGreatDoorB04
import Derived.Test.YtfieenjdcpjmgaaGreatDoorB05
import Derived.OwnWalk
set_option maxRecDepth 100000
set_option maxHeartbeats 2000000
namespace Go.WW
def idxOf{α:Type}(f:α→Bool)(l:List α):Int:=match l.findIdx? f with|some i=>(i:Int)|none=>-1
theorem KJ{α:Type}{f:α→Bool}{l:List α}(k:Nat)(hk:k<l.length)(h:(l.take k).all (fun x=>!f x)=true)(hf:f l[k]=true):idxOf f l=(k:Int):=by
 have:l.findIdx? f=some k:=by
  rw[List.findIdx?_eq_some_iff_getElem]
  refine⟨hk,hf,fun j hj=>?_⟩
  have:=List.all_eq_true.1 h (l[j]'(by omega)) (by rw[List.mem_iff_getElem];exact⟨j,by simp;omega,by simp⟩)
  simpa using this
 rw[idxOf,this]
theorem KL{α:Type}{f:α→Bool}{l:List α}(k:Nat)(hk:l.length≤k)(h:(l.take k).all (fun x=>!f x)=true):idxOf f l=-1:=by
 have:l.findIdx? f=none:=by
  rw[List.findIdx?_eq_none_iff]
  intro x hx
  rw[List.take_of_length_le hk]at h
  simpa using List.all_eq_true.1 h x hx
 rw[idxOf,this]
theorem agv{α:Type}{f:α→Bool}{l:List α}(k:Nat)(hk:k<l.length)(hf:f l[k]=true):l.any f=true:=List.any_eq_true.2 ⟨l[k],List.getElem_mem hk,hf⟩
theorem agw{α:Type}{f:α→Bool}{l:List α}(k:Nat)(hk:l.length≤k)(h:(l.take k).all (fun x=>!f x)=true):l.any f=false:=by
 rw[List.take_of_length_le hk]at h
 rw[List.any_eq_false]
 intro x hx
 have:=List.all_eq_true.1 h x hx
 simpa using this
end Go.WW
namespace Go.Proofs.YtfieenjdcpjmgaaGreatDoor
open Go.RowKit Go.WW
theorem TU(a b:ByteArray)(w:World):Calls Tryz.prog 215 #[.string a,.string b] w fun e w'=>e=.returned (.int .i64 (dD a b))∧w=w':=by
 cases h:Op.bytesLess a.toList b.toList
 ·by_cases he:a=b
  ·have he':=str_eq _ _ he
   have HN:=Lib.hid (show dD a b=0 by subst he;exact KI a)
   clear he
   go_enter Tryz.func215,Tryz.ntmps215
   go_wp2
   go_ret
   exact⟨by rw[HN.out];rfl,rfl⟩
  ·have he':=lu _ _ he
   have HN:=Lib.hid (KH h he)
   clear he
   go_enter Tryz.func215,Tryz.ntmps215
   go_wp2
   go_ret
   exact⟨by rw[HN.out];rfl,rfl⟩
 ·have HN:=Lib.hid (KG h)
  go_enter Tryz.func215,Tryz.ntmps215
  go_wp2
  go_ret
  exact⟨by rw[HN.out];rfl,rfl⟩
theorem TV(s t:Sl)(p q:az)(w:World)(hp:bn w s p)(hq:bn w t q):Calls Tryz.prog 144 #[.agg (ah s p),.agg (ah t q)] w fun e w'=>e=.returned (.int .i64 (fE p q))∧Below w.heap.size w w':=by
 have hl:p.parts.length≤4294967000:=hp.1.1
 have hl2:q.parts.length≤4294967000:=hq.1.1
 have hB:Below w.heap.size w ((w.alloc (.cells (ah s p) 40)).alloc (.cells (ah t q) 40)):=((Below.refl _ _).alloc (Nat.le_refl _) _).alloc (by simp) _
 go_enter Tryz.func144,Tryz.ntmps144
 go_wp2_with (go_at_call 215;refine(TU _ _ _).mono ?_;rintro e w' ⟨rfl,rfl⟩)
 go_loopw [5,6] (fun c i wr=>Below ((w.alloc (.cells (ah s p) 40)).alloc (.cells (ah t q) 40)).heap.size ((w.alloc (.cells (ah s p) 40)).alloc (.cells (ah t q) 40)) wr∧∃(k:Nat) (z:Int),k≤p.parts.length∧k≤q.parts.length∧i=.int .i64 k∧c=.int .i64 z∧Hid (o5 p q k z)) (fun _ i _=>p.parts.length-(intOf i).toNat)
 case atStart=>exact⟨Below.refl _ _,0,_,Nat.zero_le _,Nat.zero_le _,rfl,rfl,agp p q⟩
 case round=>
  obtain⟨hbr,k,z,hk,hk2,rfl,rfl,hall⟩:=hrel
  obtain⟨hcc,aT,hrr⟩:=bg hbr
  by_cases hz:z=0
  ·subst hz
   by_cases hlt:k<p.parts.length
   ·have hki:(k:Int)<(p.parts.length:Int):=by omega
    by_cases hlq:k<q.parts.length
    ·have hkq:(k:Int)<(q.parts.length:Int):=by omega
     obtain⟨b,o,ha,hc,hsz⟩:=hp.1.get k hlt
     obtain⟨b',o',ha',hc',hsz'⟩:=hq.1.get k hlq
     have hb:b<w.heap.size:=World.block_lt_of_cell? w _ hc
     have hb':b'<w.heap.size:=World.block_lt_of_cell? w _ hc'
     have hb1:b<w.heap.size+1+1:=by omega
     have hb1':b'<w.heap.size+1+1:=by omega
     have HT:=Lib.hid (agq hall.out hlt hlq)
     go_wp2
     refine dM hbr (by kernel_rfl) (by kernel_rfl) ?_
     repeat (go_big_quiet_step ((go_at_call 215;exact Calls.BV (TU _ _ _))))
     refine wpQuiet_nil ?_
     intro w2 hb2
     go_wp2
     go_roundw
     case rel=>exact⟨hb2,k+1,_,by omega,by omega,by go_num,rfl,HT.out⟩
     case measure=>simp[intOf];omega
    ·have HN:=Lib.hid (agt hall.out hlt (by omega))
     have h1:¬(p.parts.length:Int)<(q.parts.length:Int):=by omega
     have h2:(q.parts.length:Int)<(p.parts.length:Int):=by omega
     go_wp2
     go_ret
     exact⟨by rw[HN.out];rfl,hB.trans (hbr.mono (by simp;omega))⟩
   ·by_cases hlq:k<q.parts.length
    ·have HN:=Lib.hid (ags hall.out (by omega) hlq)
     have h1:(p.parts.length:Int)<(q.parts.length:Int):=by omega
     go_wp2
     go_ret
     exact⟨by rw[HN.out];rfl,hB.trans (hbr.mono (by simp;omega))⟩
    ·have HN:=Lib.hid (agu hall.out (by omega) (by omega))
     have h1:¬(p.parts.length:Int)<(q.parts.length:Int):=by omega
     have h2:¬(q.parts.length:Int)<(p.parts.length:Int):=by omega
     go_wp2
     go_ret
     exact⟨by rw[HN.out];rfl,hB.trans (hbr.mono (by simp;omega))⟩
  ·have HN:=Lib.hid (agr hall.out hz)
   have hz':(z == 0)=false:=by simp[hz]
   clear hz
   go_wp2
   go_ret
   exact⟨by rw[HN.out];rfl,hB.trans (hbr.mono (by simp;omega))⟩
theorem Gv(r:aN)(d:Entry)(t:Sl)(q:az)(w:World)(he:bK w r d)(hq:bn w t q):Calls Tryz.prog 78 #[.agg (ae r d),.agg (ah t q)] w fun e w'=>e=.returned (.bool (gq d q))∧Below w.heap.size w w':=by
 have hl:d.aliases.length≤4294967000:=he.aliases.1
 have hB:Below w.heap.size w ((w.alloc (.cells (ae r d) 47)).alloc (.cells (ah t q) 40)):=((Below.refl _ _).alloc (Nat.le_refl _) _).alloc (by simp) _
 go_enter Tryz.func78,Tryz.ntmps78
 go_wp2_with fail
 go_loopw [5] (fun i wr=>Below ((w.alloc (.cells (ae r d) 47)).alloc (.cells (ah t q) 40)).heap.size ((w.alloc (.cells (ae r d) 47)).alloc (.cells (ah t q) 40)) wr∧∃k:Nat,k≤d.aliases.length∧i=.int .i64 k∧Hid ((d.aliases.take k).all (fun a=>!aY a q)=true)) (fun i _=>d.aliases.length-(intOf i).toNat)
 case atStart=>exact⟨Below.refl _ _,0,Nat.zero_le _,rfl,by simp[Hid]⟩
 case round=>
  obtain⟨hbr,k,hk,rfl,hall⟩:=hrel
  obtain⟨hcc,aT,hrr⟩:=bg hbr
  by_cases hlt:k<d.aliases.length
  ·have hki:(k:Int)<(d.aliases.length:Int):=by omega
   obtain⟨b,o,t1,ha,hc,hp⟩:=he.aliases.get k hlt
   have hb:b<w.heap.size:=gm hc
   have hb1:b<w.heap.size+1+1:=by omega
   cases hs:aY d.aliases[k] q
   ·have HS:=Lib.hid (kW (p:=fun a=>!aY a q) d.aliases k hlt hall.out (by simp[hs]))
    go_wp2_with fail
    refine dM hbr (by kernel_rfl) (by kernel_rfl) ?_
    repeat (go_big_quiet_step ((go_at_call 27;rename_i xw;exact Calls.gz (hs▸nV _ _ _ _ _ ((hp.later hB).later xw.b) ((hq.later hB).later xw.b)))))
    refine wpQuiet_nil ?_
    intro w2 hb2
    go_wp2_with fail
    go_roundw
    case rel=>exact⟨hb2,k+1,by omega,by go_num,HS.out⟩
    case measure=>simp[intOf];omega
   ·have HS:=Lib.hid (show gq d q=true by rw[gq,agv k hlt hs];rfl)
    go_wp2_with fail
    refine dM hbr (by kernel_rfl) (by kernel_rfl) ?_
    repeat (go_big_quiet_step ((go_at_call 27;rename_i xw;exact Calls.gz (hs▸nV _ _ _ _ _ ((hp.later hB).later xw.b) ((hq.later hB).later xw.b)))))
    refine wpQuiet_nil ?_
    intro w2 hb2
    go_wp2_with fail
    go_ret
    exact⟨by rw[HS.out];rfl,hB.trans (hb2.mono (by simp;omega))⟩
  ·have HN:=Lib.hid (show gq d q=aY d.name q by rw[gq,agw k (by omega) hall.out];rfl)
   go_wp2_with fail
   refine(nV _ _ _ _ _ ((he.name.later hB).later hbr) ((hq.later hB).later hbr)).mono ?_
   rintro e w2 ⟨rfl,hb2⟩
   dsimp only
   go_wp2_with fail
   go_ret
   exact⟨by rw[HN.out];rfl,hB.trans ((ag hbr hb2).mono (by simp;omega))⟩
end Go.Proofs.YtfieenjdcpjmgaaGreatDoor
namespace Go.WW
open Go.RowKit
theorem CZ{w:World}{b o n:Nat}{cs:Array Value}(h:row? w b o n=some cs){j m:Nat}(hj:j+m≤n):row? w b (o+j) m=fO cs j m:=by
 have hs:=x9 h
 unfold row? at h ⊢
 cases hb:w.heap[b]? with
 |none=>rw[hb]at h;simp at h
 |some ob=>
  rw[hb]at h
  cases ob with
  |cells c t f=>
   dsimp only at h ⊢
   by_cases hn:o+n≤c.size
   ·rw[if_pos hn]at h
    injection h with h
    rw[if_pos (by omega)]
    unfold fO
    rw[if_pos (by omega),←h,Array.extract_extract]
    congr 2
    omega
   ·rw[if_neg hn]at h;cases h
  |_=>simp at h
theorem uV{w:World}{b o:Nat}{r:aN}{d:Entry}(h:row? w b o 17=some (ae r d)):row? w b o 2=some (ah r.parts d.name):=by
 have:=CZ h (j:=0) (m:=2) (by omega)
 rw[Nat.add_zero]at this
 rw[this];exact Cf r d
end Go.WW
namespace Go.Proofs.YtfieenjdcpjmgaaGreatDoor
open Go.RowKit Go.WW
theorem C9(e p:Sl)(D:Db)(t:Sl)(q:az)(w:World)(he:jd w e.a D.entries)(hq:bn w t q):Calls Tryz.prog 77 #[.agg (ak e p D),.agg (ah t q)] w fun x w'=>x=.returned (.int .i64 (idxOf (fun d=>aY d.name q) D.entries))∧Below w.heap.size w w':=by
 have hl:D.entries.length≤4294967000:=he.1
 have hB:Below w.heap.size w ((w.alloc (.cells (ak e p D) 32)).alloc (.cells (ah t q) 40)):=((Below.refl _ _).alloc (Nat.le_refl _) _).alloc (by simp) _
 go_enter Tryz.func77,Tryz.ntmps77
 go_wp2_with fail
 go_loopw [5] (fun i wr=>Below ((w.alloc (.cells (ak e p D) 32)).alloc (.cells (ah t q) 40)).heap.size ((w.alloc (.cells (ak e p D) 32)).alloc (.cells (ah t q) 40)) wr∧∃k:Nat,k≤D.entries.length∧i=.int .i64 k∧Hid ((D.entries.take k).all (fun d=>!aY d.name q)=true)) (fun i _=>D.entries.length-(intOf i).toNat)
 case atStart=>exact⟨Below.refl _ _,0,Nat.zero_le _,rfl,by simp[Hid]⟩
 case round=>
  obtain⟨hbr,k,hk,rfl,hall⟩:=hrel
  obtain⟨hcc,aT,hrr⟩:=bg hbr
  by_cases hlt:k<D.entries.length
  ·have hki:(k:Int)<(D.entries.length:Int):=by omega
   obtain⟨b,o,r,ha,hc,hp⟩:=he.get k hlt
   have hb:b<w.heap.size:=gm hc
   have hb1:b<w.heap.size+1+1:=by omega
   have hc2:=uV hc
   clear hc
   cases hs:aY D.entries[k].name q
   ·have HS:=Lib.hid (kW (p:=fun d=>!aY d.name q) D.entries k hlt hall.out (by simp[hs]))
    go_wp2_with fail
    refine dM hbr (by kernel_rfl) (by kernel_rfl) ?_
    repeat (go_big_quiet_step ((go_at_call 27;rename_i xw;exact Calls.gz (hs▸nV _ _ _ _ _ ((hp.name.later hB).later xw.b) ((hq.later hB).later xw.b)))))
    refine wpQuiet_nil ?_
    intro w2 hb2
    go_wp2_with fail
    go_roundw
    case rel=>exact⟨hb2,k+1,by omega,by go_num,HS.out⟩
    case measure=>simp[intOf];omega
   ·have HS:=Lib.hid (KJ (f:=fun d=>aY d.name q) k hlt hall.out hs)
    go_wp2_with fail
    refine dM hbr (by kernel_rfl) (by kernel_rfl) ?_
    repeat (go_big_quiet_step ((go_at_call 27;rename_i xw;exact Calls.gz (hs▸nV _ _ _ _ _ ((hp.name.later hB).later xw.b) ((hq.later hB).later xw.b)))))
    refine wpQuiet_nil ?_
    intro w2 hb2
    go_wp2_with fail
    go_ret
    exact⟨by rw[HS.out];rfl,hB.trans (hb2.mono (by simp;omega))⟩
  ·have HN:=Lib.hid (KL (l:=D.entries) (f:=fun d:Entry=>aY d.name q) k (by omega) hall.out)
   go_wp2_with fail
   go_ret
   exact⟨by rw[HN.out];rfl,hB.trans (hbr.mono (by simp;omega))⟩
theorem yB(e p:Sl)(D:Db)(s:ByteArray)(w:World)(hp:je w p.a D.au):Calls Tryz.prog 43 #[.agg (ak e p D),.string s] w fun x w'=>x=.returned (.int .i64 (idxOf (fun q=>decide (q.name=s)) D.au))∧Below w.heap.size w w':=by
 have hl:D.au.length≤4294967000:=hp.1
 have hB:Below w.heap.size w (w.alloc (.cells (ak e p D) 32)):=(Below.refl _ _).alloc (Nat.le_refl _) _
 go_enter Tryz.func43,Tryz.ntmps43
 go_wp2_with fail
 go_loop [5] (fun i=>∃k:Nat,k≤D.au.length∧i=.int .i64 k∧Hid ((D.au.take k).all (fun q=>!decide (q.name=s))=true)) (fun i=>D.au.length-(intOf i).toNat)
 case atStart=>exact⟨0,Nat.zero_le _,rfl,by simp[Hid]⟩
 case round=>
  obtain⟨k,hk,rfl,hall⟩:=hrel
  by_cases hlt:k<D.au.length
  ·have hki:(k:Int)<(D.au.length:Int):=by omega
   obtain⟨b,o,ha,hc,hpl⟩:=hp.get k hlt
   have hb:b<w.heap.size:=gm hc
   have hc2:w.cell? ⟨b,o+k*10,none⟩=some (.string D.au[k].name):=by have:=gX hc 0 (by omega);simpa[go_sem]using this
   clear hc
   by_cases hs:D.au[k].name=s
   ·have hs':=str_eq _ _ hs
    have HS:=Lib.hid (KJ (f:=fun q=>decide (q.name=s)) k hlt hall.out (by simp[hs]))
    clear hs
    go_wp2_with fail
    go_ret
    exact⟨by rw[HS.out];rfl,hB⟩
   ·have hs':=lu _ _ hs
    have HS:=Lib.hid (kW (p:=fun q=>!decide (q.name=s)) D.au k hlt hall.out (by simp[hs]))
    clear hs
    go_wp2_with fail
    go_round
    case rel=>exact⟨k+1,by omega,by go_num,HS.out⟩
    case measure=>simp[intOf];omega
  ·have HN:=Lib.hid (KL (l:=D.au) (f:=fun q:ai=>decide (q.name=s)) k (by omega) hall.out)
   go_wp2_with fail
   go_ret
   exact⟨by rw[HN.out];rfl,hB⟩
end Go.Proofs.YtfieenjdcpjmgaaGreatDoor
namespace Go.WW
open Go.RowKit
abbrev EE:=aN×Entry
def cu(x:EE):Array Value:=ae x.1 x.2
def gK(w:World)(a:Option Addr)(X:List EE):Prop:=aX w 17 a X.length fun i cs=>∃x,X[i]?=some x∧cs=cu x
theorem gK.later{w w':World}(h:Below w.heap.size w w'){a:Option Addr}{X:List EE}(x:gK w a X):gK w' a X:=aX.later h (fun _ _ y=>y) x
theorem gK.at{w:World}{b o:Nat}{X:List EE}(x:gK w (some ⟨b,o,none⟩) X)(i:Nat)(h:i<X.length):row? w b (o+i*17) 17=some (ae X[i].1 X[i].2):=by
 obtain⟨b',o',cs,ha,hr,y,hy,rfl⟩:=x.2 i h
 cases ha
 rw[List.getElem?_eq_getElem h]at hy;cases hy
 exact hr
theorem gK.dG{w:World}{a:Option Addr}{X:List EE}(x:gK w a X)(h:∀y∈X,bK w y.1 y.2):jd w a (X.map (·.2)):=by
 refine⟨by simpa using x.1,fun i hi=>?_⟩
 have hi':i<X.length:=by simpa using hi
 obtain⟨b,o,cs,ha,hr,y,hy,rfl⟩:=x.2 i hi'
 exact⟨b,o,_,ha,hr,y.2,y.1,by simp[hy],rfl,h y (List.mem_of_getElem? hy)⟩
theorem gK.eG{w:World}{base:Nat}{e:TypeId}{s:Sl}{X:List EE}(h:Own w base e 17 s (X.map cu))(hn:X.length≤lim):gK w s.a X:=
 aX.eG h (by simp) hn (fun i hi=>by simp at hi;exact⟨X[i],List.getElem?_eq_getElem hi,by simp⟩)
theorem tK{W w w':World}{E:TypeId}{k:Nat}{s:Sl}{rows:List (Array Value)}(h:Own w W.heap.size E k s rows)(hb:Below W.heap.size W w)(hg:w.grownBy w' s.blk):Below W.heap.size W w':=hb.grown hg hb.size (fun _ e=>(h.base e).1)
theorem agx{α:Type}(X:List α)(i k:Nat)(h:k<X.length):(X.take (k+1)).eraseIdx i=if k=i then(X.take k).eraseIdx i else(X.take k).eraseIdx i++[X[k]]:=by
 rw[List.take_succ_eq_append_getElem h]
 have hl:(X.take k).length=k:=by simp;omega
 rcases Nat.lt_trichotomy i k with h1|h1|h1
 ·rw[if_neg (by omega),List.eraseIdx_append_of_lt_length (by omega)]
 ·subst h1
  have e:(X.take i).eraseIdx i=X.take i:=List.eraseIdx_of_length_le (by omega)
  rw[if_pos rfl,List.eraseIdx_append_of_length_le (by omega),e,hl,Nat.sub_self];simp
 ·rw[if_neg (by omega),List.eraseIdx_of_length_le (by simp;omega),List.eraseIdx_of_length_le (by omega)]
def KN(X:List EE)(w:World)(e:Ending)(w':World):Prop:=∃s:Sl,e=.returned (.slice s.a X.length s.cap)∧Below w.heap.size w w'∧bH w' (fresh w.heap.size w') (fun y=>gK y s.a X)
end Go.WW
namespace Go.Proofs.YtfieenjdcpjmgaaGreatDoor
open Go.RowKit Go.WW
def qg(T:TypeId)(n:Nat)(parts:Array (Nat×Value)):Sem Next:=do pure (.value (←Instr.buildSlice T n parts))
theorem agy(ρ:Operand→Value)(dst:Option Tmp)(x:Operand)(ty:TypeId)(pos:String)(after:Array Edge)(guard:Option (Nat×Bool)):execOp ρ {dst,op:=.buildSlice 29 1 #[(0,x)],type:=ty,pos,after,guard}=qg 29 1 #[(0,ρ x)]:=by simp[execOp,qg]
theorem agz(w:World)(r:aN)(d:Entry):(qg 29 1 #[(0,.agg (ae r d))]).run Tryz.prog w=.ok (.value (.slice (some ⟨w.heap.size,0,none⟩) 1 1)) (w.alloc (.cells (ae r d) 47)):=by kernel_rfl
theorem agA(ρ:Operand→Value)(dst:Option Tmp)(x:Operand)(ty:TypeId)(pos:String)(after:Array Edge)(guard:Option (Nat×Bool)):execOp ρ {dst,op:=.buildSlice 30 1 #[(0,x)],type:=ty,pos,after,guard}=qg 30 1 #[(0,ρ x)]:=by simp[execOp,qg]
theorem agB(w:World)(p:ai):(qg 30 1 #[(0,.agg (aC p))]).run Tryz.prog w=.ok (.value (.slice (some ⟨w.heap.size,0,none⟩) 1 1)) (w.alloc (.cells (aC p) 50)):=by kernel_rfl
attribute [go_sem] agz agB
attribute [go_sem ↓] agy agA
theorem uX:gp Tryz.prog 29 47 17 248:=gp.of Tryz.underlying29 (by kernel_rfl)
theorem TW(a:Option Addr)(cap:Nat)(X:List EE)(j:Nat)(w:World)(hX:gK w a X)(hj:j<X.length):Calls Tryz.prog 79 #[.slice a X.length cap,.int .i64 j] w (KN (X.eraseIdx j) w):=by
 have hn:X.length≤4294967000:=hX.1
 rcases aX.addr hX with h0|⟨b,o,rfl,hb⟩
 ·omega
 go_enter Tryz.func79,Tryz.ntmps79
 go_wp2_with fail
 go_loopw [5,6] (fun ov i wr=>∃(k m:Nat) (so:Sl) (rows:List (Array Value)),k≤X.length∧m≤k∧i=.int .i64 k∧ov=.slice so.a m so.cap∧Hid (rows.length=m)∧Hid (rows=((X.take k).eraseIdx j).map cu)∧Below w.heap.size w wr∧Go.WW.Own wr w.heap.size 47 17 so rows) (fun _ i _=>X.length-(intOf i).toNat)
 case atStart=>exact⟨0,0,⟨none,0⟩,[],Nat.zero_le _,Nat.le_refl _,rfl,rfl,rfl,by simp[Hid],Below.refl _ _,Go.WW.Own.nil _ _ _ _⟩
 case round=>
  obtain⟨k,m,so,rows,hk,hm,rfl,rfl,hlr,hrw,hbr,hO⟩:=hrel
  by_cases hlt:k<X.length
  ·have hrow:=hX.at k hlt
   obtain⟨hcc,aT,hrr⟩:=bg hbr
   have hki:(k:Int)<(X.length:Int):=by omega
   have hte:=agx X j k hlt
   by_cases hkj:k=j
   ·have agC:((k:Int) != (j:Int))=false:=by simp[hkj]
    rw[if_pos hkj]at hte
    have HT:=Lib.hid (show rows=((X.take (k+1)).eraseIdx j).map cu by rw[hte];exact hrw.out)
    clear hte hkj
    go_wp2_with fail
    go_roundw
    case rel=>exact⟨k+1,m,so,rows,by omega,by omega,by go_num,rfl,hlr.out,HT.out,hbr,hO⟩
    case measure=>simp[intOf];omega
   ·have agC:((k:Int) != (j:Int))=true:=by simp;omega
    rw[if_neg hkj]at hte
    have HT:=Lib.hid (show rows++[cu X[k]]=((X.take (k+1)).eraseIdx j).map cu by rw[hte,hrw.out];simp)
    clear hte hkj
    generalize hxk:X[k]=xk at *
    have hown:Go.WW.Own (wr.alloc (.cells (ae xk.1 xk.2) 47)) w.heap.size 47 17 so rows:=hO.kept fun g hg=>Below.heap_alloc _ _ _ (hO.base hg).2
    go_wp2_with (at_builtin;refine gI rfl (.tmp 16) (.tmp 21) _ rfl uX (n:=m) rfl hlr.out.symm hown rfl rfl (cZ.new _ (ae xk.1 xk.2) _ _ (by simp[go_sem]) (by simp[go_sem])) (by have:=hlr.out;rw[this];simp;omega) (by have h9:=hbr.size;simp;omega) ?_;intro s3 w3 hown3 hg3 gJ)
    have hb3:=tK hown (aj hbr _) hg3
    have HL:=Lib.hid (show(rows++[cu xk]).length=m+1 by have:=hlr.out;simp[this])
    clear hown hg3 gJ hO hlr hcc aT hrr
    go_wp2_with fail
    go_roundw
    case rel=>exact⟨k+1,m+1,s3,_,by omega,by omega,by go_num,rfl,HL.out,HT.out,hb3,hown3⟩
    case measure=>simp[intOf];omega
  ·obtain rfl:k=X.length:=by omega
   have h1:=hrw.out
   rw[List.take_of_length_le (Nat.le_refl _)]at h1
   have h2:=hlr.out
   subst h1
   have HM:=Lib.hid (show m=(X.eraseIdx j).length by rw[←h2];simp)
   go_wp2_with fail
   go_ret
   exact⟨so,by rw[←HM.out];rfl,hbr,fun y hy=>gK.eG (hO.kept fun _ hg=>hy _ (hO.base hg)) (by have:=List.length_eraseIdx_le X j;have:=hX.1;omega)⟩
end Go.Proofs.YtfieenjdcpjmgaaGreatDoor
namespace Go.WW
open Go.RowKit
abbrev eY(x:EE):az:=x.2.name
def nM(e:EE)(X R:List EE)(k:Nat)(dn:Bool):Prop:=kP fE eY e X=R++(if dn then X.drop k else kP fE eY e (X.drop k))
theorem agD(e:EE)(X:List EE):nM e X [] 0 false:=rfl
theorem agE{e:EE}{X R:List EE}{k:Nat}(h:nM e X R k false)(hk:k<X.length)(hc:fE (eY e) (eY X[k])<0):nM e X (R++[e]++[X[k]]) (k+1) true:=by
 unfold nM at *
 rw[h,List.drop_eq_getElem_cons hk]
 simp[kP,hc]
theorem agF{e:EE}{X R:List EE}{k:Nat}(h:nM e X R k false)(hk:k<X.length)(hc:¬fE (eY e) (eY X[k])<0):nM e X (R++[X[k]]) (k+1) false:=by
 unfold nM at *
 rw[h,List.drop_eq_getElem_cons hk]
 simp[kP,hc]
theorem agG{e:EE}{X R:List EE}{k:Nat}(h:nM e X R k true)(hk:k<X.length):nM e X (R++[X[k]]) (k+1) true:=by
 unfold nM at *
 rw[h,List.drop_eq_getElem_cons hk]
 simp
theorem agH{e:EE}{X R:List EE}{k:Nat}(h:nM e X R k true)(hk:X.length≤k):kP fE eY e X=R:=by
 unfold nM at h;rw[h,List.drop_of_length_le hk];simp
theorem agI{e:EE}{X R:List EE}{k:Nat}(h:nM e X R k false)(hk:X.length≤k):kP fE eY e X=R++[e]:=by
 unfold nM at h;rw[h,List.drop_of_length_le hk];rfl
theorem agJ(e:EE)(X:List EE):(kP fE eY e X).length=X.length+1:=by rw[(wV eY e X).length_eq];simp
end Go.WW
namespace Go.Proofs.YtfieenjdcpjmgaaGreatDoor
open Go.RowKit Go.WW
theorem agK(a:Option Addr)(cap:Nat)(r:aN)(d:Entry)(w:World):Calls Tryz.prog 80 #[.slice a 0 cap,.agg (ae r d)] w (KN [(r,d)] w):=by
 have hB:Below w.heap.size w (w.alloc (.cells (ae r d) 47)):=(Below.refl _ _).alloc (Nat.le_refl _) _
 have hbox:(w.alloc (.cells (ae r d) 47)).heap[w.heap.size]?=some (.cells (ae r d) 47):=World.alloc_heap_new _ _
 have hW:w.heap.size<(w.alloc (.cells (ae r d) 47)).heap.size:=by simp
 have Dc:row? (w.alloc (.cells (ae r d) 47)) w.heap.size 0 17=some (ae r d):=(bQ hbox).trans (by kernel_rfl)
 go_enter Tryz.func80,Tryz.ntmps80
 go_wp2_with fail
 generalize (w.alloc (.cells (ae r d) 47))=W at *
 go_loopw [5,6,7] (fun ov dv iv wr=>∃(so:Sl) (m:Nat) (rows:List (Array Value)),iv=.int .i64 0∧dv=.bool false∧ov=.slice so.a m so.cap∧wr=W∧Hid (rows.length=m)∧Hid (rows=[])∧Go.WW.Own wr w.heap.size 47 17 so rows) (fun _ _ _ _=>0)
 case atStart=>exact⟨⟨none,0⟩,0,[],rfl,rfl,rfl,rfl,rfl,rfl,Go.WW.Own.nil _ _ _ _⟩
 case round=>
  obtain⟨so,m,rows,rfl,rfl,rfl,rfl,hlr,hr0,hO⟩:=hrel
  have hown:Go.WW.Own (wr.alloc (.cells (ae r d) 47)) w.heap.size 47 17 so rows:=hO.kept fun g hg=>Below.heap_alloc _ _ _ (hO.base hg).2
  go_wp2_with (at_builtin;refine gI rfl (.tmp 40) (.tmp 42) _ rfl uX (n:=m) (s:=so) rfl hlr.out.symm hown rfl rfl (cZ.new _ (ae r d) _ _ (by simp[go_sem]) (by simp[go_sem])) (by rw[hr0.out];first|decide|simp) (by have h9:=hB.size;simp;omega) ?_;intro s3 w3 hown3 hg3 gJ)
  have hb3:=tK hown (aj hB _) hg3
  have HM:=Lib.hid (show m=0 by rw[←hlr.out,hr0.out];rfl)
  have HO:Go.WW.Own w3 w.heap.size 47 17 s3 ([(r,d)].map cu):=by have:=hown3;rw[hr0.out]at this;exact this
  go_wp2_with fail
  go_ret
  exact⟨s3,by rw[HM.out];rfl,hb3,fun y hy=>gK.eG (X:=[(r,d)]) (HO.kept fun _ hg=>hy _ (HO.base hg)) (by simp[lim])⟩
theorem TY(a:Option Addr)(cap:Nat)(X:List EE)(r:aN)(d:Entry)(w:World)(hX:gK w a X)(hm:∀x∈X,bK w x.1 x.2)(he:bK w r d)(hn:X.length≤1000000):Calls Tryz.prog 80 #[.slice a X.length cap,.agg (ae r d)] w (KN (kP fE eY (r,d) X) w):=by
 rcases aX.addr hX with h0|⟨b,o,rfl,hb⟩
 ·obtain rfl:X=[]:=List.eq_nil_of_length_eq_zero h0
  exact agK a cap r d w
 have hB:Below w.heap.size w (w.alloc (.cells (ae r d) 47)):=(Below.refl _ _).alloc (Nat.le_refl _) _
 have hbox:(w.alloc (.cells (ae r d) 47)).heap[w.heap.size]?=some (.cells (ae r d) 47):=World.alloc_heap_new _ _
 have hW:(w.alloc (.cells (ae r d) 47)).heap.size=w.heap.size+1:=by simp
 go_enter Tryz.func80,Tryz.ntmps80
 go_wp2_with fail
 generalize (w.alloc (.cells (ae r d) 47))=W at *
 go_loopw [5,6,7] (fun ov dv iv wr=>∃(k m:Nat) (dn:Bool) (so:Sl) (R:List EE),k≤X.length∧m≤k+1∧Hid (dn=false→m≤k)∧iv=.int .i64 k∧dv=.bool dn∧ov=.slice so.a m so.cap∧Hid (R.length=m)∧Hid (nM (r,d) X R k dn)∧Below W.heap.size W wr∧Go.WW.Own wr W.heap.size 47 17 so (R.map cu)) (fun _ _ iv _=>X.length-(intOf iv).toNat)
 case atStart=>exact⟨0,0,false,⟨none,0⟩,[],Nat.zero_le _,by omega,fun _=>Nat.le_refl _,rfl,rfl,rfl,rfl,agD _ _,Below.refl _ _,Go.WW.Own.nil _ _ _ _⟩
 case round=>
  obtain⟨k,m,dn,so,R,hk,hmk,hdn,rfl,rfl,rfl,hlr,hI,hbr,hO⟩:=hrel
  have hW2:w.heap.size<wr.heap.size:=by have:=hbr.size;omega
  have hbw:b<wr.heap.size:=by omega
  have hbx:wr.heap[w.heap.size]?=some (.cells (ae r d) 47):=(hbr.block _ (by omega)).trans hbox
  have Dc:row? wr w.heap.size 0 17=some (ae r d):=(bQ hbx).trans (by kernel_rfl)
  have hx2:row? wr w.heap.size 0 2=some (ah r.parts d.name):=uV Dc
  by_cases hlt:k<X.length
  ·have hki:(k:Int)<(X.length:Int):=by omega
   have hrow:row? wr b (o+k*17) 17=some (ae X[k].1 X[k].2):=(gZ ((ag hB hbr).block b hb) _ _).trans (hX.at k hlt)
   have hrow0:=hX.at k hlt
   have hrow2:=uV hrow
   have hmk':=hm X[k] (List.getElem_mem hlt)
   have hBr:=ag hB hbr
   cases dn
   ·by_cases hc:fE d.name X[k].2.name<0
    ·have HI:=Lib.hid (agE hI.out hlt hc)
     generalize X[k]=x at *
     go_wp2_with fail
     refine dM (Below.refl _ wr) (by kernel_rfl) (by kernel_rfl) ?_
     repeat (go_big_quiet_step ((go_at_call 144;rename_i xw;exact Calls.gz (TV _ _ _ _ _ ((he.name.later hBr).later xw.b) ((hmk'.name.later hBr).later xw.b)))))
     refine wpQuiet_nil ?_
     intro w2 hb2
     have apQ:row? w2 w.heap.size 0 17=some (ae r d):=(gZ (hb2.block _ hW2) _ _).trans Dc
     have hO2:Go.WW.Own (w2.alloc (.cells (ae r d) 47)) W.heap.size 47 17 so (R.map cu):=hO.kept fun g hg=>by rw[Below.heap_alloc _ _ _ (Nat.lt_of_lt_of_le (hO.base hg).2 hb2.size)];exact hb2.block g (hO.base hg).2
     have hb2':=ag hbr hb2
     have hW3:w.heap.size<w2.heap.size:=by have:=hb2'.size;omega
     go_wp2_with (first
      |(at_builtin;refine gI rfl (.tmp 27) (.tmp 29) _ rfl uX (n:=m) rfl (by have:=hlr.out;simp[this]) hO2 rfl rfl (cZ.new _ (ae r d) _ _ (by simp[go_sem]) (by simp[go_sem])) (by have:=hlr.out;simp[this];omega) (by have h9:=hb2'.size;simp;omega) ?_;intro s3 w3 hown3 hg3 gJ;have hb3:=tK hO2 (aj hb2' _) hg3;have hrow3:=(gZ ((ag hB hb3).block b hb) (o+k*17) 17).trans hrow0;have hbw3:=Nat.lt_of_lt_of_le hb (ag hB hb3).size)
      |(have hO3:Go.WW.Own (w3.alloc (.cells (ae x.1 x.2) 47)) W.heap.size 47 17 s3 (R.map cu++[ae r d]):=hown3.kept fun g hg=>Below.heap_alloc _ _ _ (hown3.base hg).2
        at_builtin;refine gI rfl (.tmp 31) (.tmp 36) _ rfl uX (n:=m+1) (s:=s3) rfl (by have:=hlr.out;simp[this]) hO3 rfl rfl (cZ.new _ (ae x.1 x.2) _ _ (by simp[go_sem]) (by simp[go_sem])) (by have:=hlr.out;simp[this];omega) (by have h9:=hb3.size;simp;omega) ?_;intro s4 w4 hown4 hg4 KO;have hb4:=tK hO3 (aj hb3 _) hg4))
     have HL:=Lib.hid (show(R++[(r,d)]++[x]).length=m+1+1 by have:=hlr.out;simp[this])
     have HO:Go.WW.Own w4 W.heap.size 47 17 s4 ((R++[(r,d)]++[x]).map cu):=by simpa[cu]using hown4
     go_roundw
     case rel=>exact⟨k+1,m+1+1,true,s4,_,by omega,by have:=hdn.out (by trivial);omega,(fun h=>by cases h),by go_num,rfl,rfl,HL.out,HI.out,hb4,HO⟩
     case measure=>simp[intOf];omega
    ·have HI:=Lib.hid (agF hI.out hlt hc)
     generalize X[k]=x at *
     go_wp2_with fail
     refine dM (Below.refl _ wr) (by kernel_rfl) (by kernel_rfl) ?_
     repeat (go_big_quiet_step ((go_at_call 144;rename_i xw;exact Calls.gz (TV _ _ _ _ _ ((he.name.later hBr).later xw.b) ((hmk'.name.later hBr).later xw.b)))))
     refine wpQuiet_nil ?_
     intro w2 hb2
     have hb2':=ag hbr hb2
     have hrow3:=(gZ ((ag hB hb2').block b hb) (o+k*17) 17).trans hrow0
     have hbw3:=Nat.lt_of_lt_of_le hb (ag hB hb2').size
     have hO3:Go.WW.Own (w2.alloc (.cells (ae x.1 x.2) 47)) W.heap.size 47 17 so (R.map cu):=hO.kept fun g hg=>by rw[Below.heap_alloc _ _ _ (Nat.lt_of_lt_of_le (hO.base hg).2 hb2.size)];exact hb2.block g (hO.base hg).2
     clear Dc hx2 hrow hrow2
     go_wp2_with (at_builtin;refine gI rfl (.tmp 31) (.tmp 36) _ rfl uX (n:=m) (s:=so) rfl (by have:=hlr.out;simp[this]) hO3 rfl rfl (cZ.new _ (ae x.1 x.2) _ _ (by simp[go_sem]) (by simp[go_sem])) (by have:=hlr.out;simp[this];omega) (by have h9:=hb2'.size;simp;omega) ?_;intro s4 w4 hown4 hg4 KO;have hb4:=tK hO3 (aj hb2' _) hg4)
     have HL:=Lib.hid (show(R++[x]).length=m+1 by have:=hlr.out;simp[this])
     have HO:Go.WW.Own w4 W.heap.size 47 17 s4 ((R++[x]).map cu):=by simpa[cu]using hown4
     go_roundw
     case rel=>exact⟨k+1,m+1,false,s4,_,by omega,by omega,(fun _=>by have:=hdn.out (by trivial);omega),by go_num,rfl,rfl,HL.out,HI.out,hb4,HO⟩
     case measure=>simp[intOf];omega
   ·have HI:=Lib.hid (agG hI.out hlt)
    generalize X[k]=x at *
    go_wp2_with fail
    refine dM (Below.refl _ wr) (by kernel_rfl) (by kernel_rfl) ?_
    repeat (go_big_quiet_step (fail))
    refine wpQuiet_nil ?_
    intro w2 hb2
    have hb2':=ag hbr hb2
    have hrow3:=(gZ ((ag hB hb2').block b hb) (o+k*17) 17).trans hrow0
    have hbw3:=Nat.lt_of_lt_of_le hb (ag hB hb2').size
    have hO3:Go.WW.Own (w2.alloc (.cells (ae x.1 x.2) 47)) W.heap.size 47 17 so (R.map cu):=hO.kept fun g hg=>by rw[Below.heap_alloc _ _ _ (Nat.lt_of_lt_of_le (hO.base hg).2 hb2.size)];exact hb2.block g (hO.base hg).2
    clear Dc hx2 hrow hrow2
    go_wp2_with (at_builtin;refine gI rfl (.tmp 31) (.tmp 36) _ rfl uX (n:=m) (s:=so) rfl (by have:=hlr.out;simp[this]) hO3 rfl rfl (cZ.new _ (ae x.1 x.2) _ _ (by simp[go_sem]) (by simp[go_sem])) (by have:=hlr.out;simp[this];omega) (by have h9:=hb2'.size;simp;omega) ?_;intro s4 w4 hown4 hg4 KO;have hb4:=tK hO3 (aj hb2' _) hg4)
    have HL:=Lib.hid (show(R++[x]).length=m+1 by have:=hlr.out;simp[this])
    have HO:Go.WW.Own w4 W.heap.size 47 17 s4 ((R++[x]).map cu):=by simpa[cu]using hown4
    go_roundw
    case rel=>exact⟨k+1,m+1,true,s4,_,by omega,by omega,(fun h=>by cases h),by go_num,rfl,rfl,HL.out,HI.out,hb4,HO⟩
    case measure=>simp[intOf];omega
  ·have hBr:=ag hB hbr
   cases dn
   ·have HI:=Lib.hid (agI hI.out (by omega))
    have hown:Go.WW.Own (wr.alloc (.cells (ae r d) 47)) W.heap.size 47 17 so (R.map cu):=hO.kept fun g hg=>Below.heap_alloc _ _ _ (hO.base hg).2
    go_wp2_with (at_builtin;refine gI rfl (.tmp 40) (.tmp 42) _ rfl uX (n:=m) (s:=so) rfl (by have:=hlr.out;simp[this]) hown rfl rfl (cZ.new _ (ae r d) _ _ (by simp[go_sem]) (by simp[go_sem])) (by have:=hlr.out;simp[this];omega) (by have h9:=hbr.size;simp;omega) ?_;intro s3 w3 hown3 hg3 gJ)
    have hb3:=tK hown (aj hbr _) hg3
    have HL:=Lib.hid (show(R++[(r,d)]).length=m+1 by have:=hlr.out;simp[this])
    have HO:Go.WW.Own w3 W.heap.size 47 17 s3 ((R++[(r,d)]).map cu):=by simpa[cu]using hown3
    go_wp2_with fail
    go_ret
    refine⟨s3,by rw[HI.out,HL.out];rfl,ag hB hb3,?_⟩
    rw[HI.out]
    exact fun y hy=>gK.eG (HO.kept fun _ hg=>hy _ ⟨by have:=(HO.base hg).1;omega,(HO.base hg).2⟩) (by rw[HL.out];unfold lim;omega)
   ·have HI:=Lib.hid (agH hI.out (by omega))
    go_wp2_with fail
    go_ret
    refine⟨so,by rw[HI.out,hlr.out];rfl,hBr,?_⟩
    rw[HI.out]
    exact fun y hy=>gK.eG (hO.kept fun _ hg=>hy _ ⟨by have:=(hO.base hg).1;omega,(hO.base hg).2⟩) (by rw[hlr.out];unfold lim;omega)
end Go.Proofs.YtfieenjdcpjmgaaGreatDoor
namespace Go.WW
open Go.RowKit
def lI(re:ByteArray)(s:Int)(n e p:Nat):Array Value:=#[.string re,.int .i64 s,.map (some n),.map (some e),.map (some p)]
theorem uY(re:ByteArray)(s s':Int)(n e p:Nat):(lI re s n e p).setIfInBounds 1 (.int .i64 s')=lI re s' n e p:=by kernel_rfl
theorem agL(re:ByteArray)(s:Int)(n e p:Nat):(lI re s n e p)[0]?=some (.string re):=rfl
theorem agM(re:ByteArray)(s:Int)(n e p:Nat):(lI re s n e p)[1]?=some (.int .i64 s):=rfl
theorem agN(re:ByteArray)(s:Int)(n e p:Nat):(lI re s n e p)[2]?=some (.map (some n)):=rfl
theorem agO(re:ByteArray)(s:Int)(n e p:Nat):(lI re s n e p)[3]?=some (.map (some e)):=rfl
theorem agP(re:ByteArray)(s:Int)(n e p:Nat):(lI re s n e p)[4]?=some (.map (some p)):=rfl
attribute [go_sem] agL agM agN agO agP
end Go.WW
namespace Go.Proofs.YtfieenjdcpjmgaaGreatDoor
open Go.RowKit Go.WW
theorem jo(b:Nat)(re:ByteArray)(w:World)(hc:w.cell? ⟨b,0,none⟩=some (.string re))(hre:¬re=⟨#[]⟩):Calls Tryz.prog 44 #[.pointer (some ⟨b,0,none⟩)] w fun e w'=>e=.returned (.bool false)∧w=w':=by
 have h0:=lu _ _ hre
 have h1:¬re.toList=[]:=fun h=>hre (toList_inj (b:=⟨#[]⟩) (by rw[h,ByteArray.toList_eq]))
 have h2:re.toList.isEmpty=false:=by cases h:re.toList<;>simp_all
 clear hre
 go_enter Tryz.func44,Tryz.ntmps44
 go_wp2
 go_ret
 exact⟨rfl,rfl⟩
theorem ru(s:Sl)(p:az)(w:World)(hp:bn w s p)(hok:bG p=true):Calls Tryz.prog 65 #[.agg (ah s p)] w fun e w'=>e=.returned (.string (textOf p))∧Below w.heap.size w w':=by
 have hB:Below w.heap.size w (w.alloc (.cells (ah s p) 40)):=(Below.refl _ _).alloc (Nat.le_refl _) _
 go_enter Tryz.func65,Tryz.ntmps65
 go_wp2_with fail
 refine(Td _ _ _ (hp.later hB) hok).mono ?_
 rintro e w2 ⟨rfl,hb2⟩
 dsimp only
 go_wp2_with fail
 go_ret
 exact⟨rfl,ag hB hb2⟩
theorem wX(b:Nat)(s:Int)(w:World)(hc:w.cell? ⟨b,1,none⟩=some (.int .i64 s))(hf:w.frozen? ⟨b,1,none⟩=false)(h0:0≤s)(h1:s<1000000):Calls Tryz.prog 68 #[.pointer (some ⟨b,0,none⟩)] w fun e w'=>e=.returned (.tuple #[])∧w'=w.setCell ⟨b,1,none⟩ (.int .i64 (s+1)):=by
 have h2:(s == 4611686018427387903)=false:=by simp;omega
 have hb:b<w.heap.size:=World.block_lt_of_cell? w _ hc
 go_enter Tryz.func68,Tryz.ntmps68
 go_wp2
 go_end0
 exact⟨rfl,rfl⟩
end Go.Proofs.YtfieenjdcpjmgaaGreatDoor
namespace Go.WW
end Go.WW
namespace Go.Proofs.YtfieenjdcpjmgaaGreatDoor
open Go.RowKit Go.WW
end Go.Proofs.YtfieenjdcpjmgaaGreatDoor
namespace Go.WW
open Go.RowKit
theorem Own.empty(w:World)(e:TypeId)(k:Nat):Own (w.alloc (.cells #[] e)) w.heap.size e k ⟨some ⟨w.heap.size,0,none⟩,0⟩ []:=
 ⟨World.ownsRow_made w #[] 0 (Nat.le_refl _) (by unfold maxLen;omega) (by simp),by simp⟩
theorem Own.fresh{w w':World}{base:Nat}{e:TypeId}{k:Nat}{s:Sl}{rows:List (Array Value)}(h:Own w base e k s rows)(hw:∀j,fresh base w j→w'.heap[j]?=w.heap[j]?):Own w' base e k s rows:=
 h.kept fun _ hg=>hw _ (h.base hg)
def apR(w:World)(l:List ByteArray)(e:Ending)(w':World):Prop:=
 ∃s:Sl,e=.returned (.slice s.a l.length s.cap)∧Below w.heap.size w w'∧bH w' (fresh w.heap.size w') (fun x=>kH x s.a l)
def Df(w:World)(l:List UInt8)(e:Ending)(w':World):Prop:=
 ∃s:Sl,e=.returned (.slice s.a l.length s.cap)∧Below w.heap.size w w'∧bH w' (fresh w.heap.size w') (fun x=>BytesAt x s.a l)
theorem TZ{l:List ByteArray}(i:Nat)(v:Value)(h:∃s,l[i]?=some s∧v=.string s∧s.size≤lim):v.oneCell'=true:=by obtain⟨s,_,rfl,_⟩:=h;rfl
theorem Gw{l:List UInt8}(i:Nat)(v:Value)(h:∃c,l[i]?=some c∧v=.int .u8 c.toNat):v.oneCell'=true:=by obtain⟨s,_,rfl⟩:=h;rfl
theorem Ua{w w':World}{e:TypeId}{s:Sl}{rows:List (Array Value)}{l:List UInt8}(h:Own w' w.heap.size e 1 s rows)(hl:rows.length=l.length)(hn:l.length≤lim)(hb:Below w.heap.size w w')
  (hR:∀i (hi:i<rows.length),∃v,rows[i]=#[v]∧∃c,l[i]?=some c∧v=.int .u8 c.toNat):Df w l (.returned (.slice s.a l.length s.cap)) w':=
 ⟨s,rfl,hb,fun _ hx=>dY.eG (h.fresh hx) hl hn hR⟩
theorem dY.none{w:World}{n:Nat}{R:Nat→Value→Prop}(h:dY w none n R):n=0:=by
 rcases h.addr with h|⟨b,o,h,_⟩
 ·exact h
 ·cases h
theorem cZ.later{w w':World}{k:Nat}{A:Option Addr}{rows:List (Array Value)}(h:cZ w k A rows)(hb:Below w.heap.size w w'):cZ w' k A rows:=
 ⟨h.size,h.one,fun i hi=>by obtain⟨b,o,h1,h2⟩:=h.at_ i hi;exact⟨b,o,h1,by rw[gZ (hb.block b (gm h2))];exact h2⟩⟩
end Go.WW
namespace Go.Proofs.YtfieenjdcpjmgaaGreatDoor
open Go.RowKit Go.WW
theorem agQ(cap:Nat)(w:World):(binOp .eql 38 (.slice none 0 cap) (.slice none 0 0)).run Tryz.prog w=.ok (.bool true) w:=by kernel_rfl
theorem agR(ad:Addr)(n cap:Nat)(w:World):(binOp .eql 38 (.slice (some ad) n cap) (.slice none 0 0)).run Tryz.prog w=.ok (.bool false) w:=by kernel_rfl
theorem agS(cap:Nat)(w:World):(binOp .eql 61 (.slice none 0 cap) (.slice none 0 0)).run Tryz.prog w=.ok (.bool true) w:=by kernel_rfl
theorem agT(ad:Addr)(n cap:Nat)(w:World):(binOp .eql 61 (.slice (some ad) n cap) (.slice none 0 0)).run Tryz.prog w=.ok (.bool false) w:=by kernel_rfl
attribute [go_sem] agQ agR agS agT
theorem Ub:gp Tryz.prog 38 9 1 16:=gp.of Tryz.underlying38 (by kernel_rfl)
theorem agU(a:Option Addr)(cap:Nat)(l:List UInt8)(w:World)(hl:BytesAt w a l):Calls Tryz.prog 132 #[.slice a l.length cap] w (Df w l):=by
 have hn:l.length≤4294967000:=hl.1
 obtain⟨rows,hlr,oV,hrR⟩:=dY.src hl Gw
 have hown:=Go.WW.Own.nil w w.heap.size 5 1
 have nI:=Lib.hid hlr
 have HRR:=Lib.hid hrR
 have Dh:=Lib.hid hl.1
 clear hlr hrR hl
 go_enter Tryz.func132,Tryz.ntmps132
 go_wp2_with (at_builtin;refine gI rfl (.const (.slice none 0 0)) (.tmp 3) _ rfl eF (n:=0) (s:=⟨none,0⟩) rfl rfl hown rfl nI.out.symm oV (by rw[nI.out];simp;omega) (by simp) ?_;intro s3 w3 hown3 hg3 gJ)
 go_ret
 have hb3:Below w.heap.size w w3:=(Below.refl _ w).grown hg3 (by simp) (fun k e=>by cases e)
 have:=Ua (l:=l) hown3 (by simpa using nI.out) Dh.out hb3 (fun i hi=>by simpa using HRR.out i (by simpa using hi))
 simpa using this
end Go.Proofs.YtfieenjdcpjmgaaGreatDoor
namespace Go.WW
open Go.RowKit
def agV(w:World)(p:az)(e:Ending)(w':World):Prop:=
 ∃s:Sl,e=.returned (.agg (ah s p))∧Below w.heap.size w w'∧bH w' (fresh w.heap.size w') (fun x=>bn x s p)
theorem lZ{w:World}{p:Addr}{v:Value}{k o n:Nat}(h:k≠p.block):aS (w.setCell p v) k o n=aS w k o n:=sS (Below.heap_setCell w p v k h) o n
theorem jq(w:World)(a b:Obj):((w.alloc a).alloc b).heap[w.heap.size]?=some a:=by
 rw[Below.heap_alloc _ _ _ (by simp)];exact World.alloc_heap_new w a
attribute [go_sem] lZ
end Go.WW
namespace Go.Proofs.YtfieenjdcpjmgaaGreatDoor
open Go.RowKit Go.WW
end Go.Proofs.YtfieenjdcpjmgaaGreatDoor
namespace Go.WW
open Go.RowKit
structure jW(E:TypeId)(kk:Nat)(R:World→Nat→Array Value→Prop)(wr:World)(base:Nat)(so:Sl)(rows:List (Array Value)):Prop where
 own:Own wr base E kk so rows
 each:∀i (hi:i<rows.length),bH wr (aee base wr so.blk) (fun x=>R x i rows[i])
theorem jW.nil(E:TypeId)(kk:Nat)(R:World→Nat→Array Value→Prop)(w:World)(base:Nat):jW E kk R w base ⟨none,0⟩ []:=⟨Own.nil w base E kk,fun i hi=>by simp at hi⟩
theorem jW.carry{E:TypeId}{kk:Nat}{R:World→Nat→Array Value→Prop}{wr w2:World}{base:Nat}{so:Sl}{rows:List (Array Value)}(h:jW E kk R wr base so rows)(hb:Below wr.heap.size wr w2)(o:Obj):Own (w2.alloc o) base E kk so rows:=
 h.own.kept fun g hg=>by rw[Below.heap_alloc _ _ _ (Nat.lt_of_lt_of_le (h.own.base hg).2 hb.size)];exact hb.block g (h.own.base hg).2
theorem jW.step{E:TypeId}{kk:Nat}{R:World→Nat→Array Value→Prop}{wr w1 w2 w3:World}{base:Nat}{so s3:Sl}{rows:List (Array Value)}{cs:Array Value}{o:Obj}(h:jW E kk R wr base so rows)(hb1:Below wr.heap.size wr w1)(hb:Below w1.heap.size w1 w2)
  (hnew:bH w2 (fresh w1.heap.size w2) (fun x=>R x rows.length cs)) (hown:Own w3 base E kk s3 (rows++[cs])) (hg:(w2.alloc o).grownBy w3 so.blk) (hat:s3.blk=so.blk∨s3.blk=some (w2.alloc o).heap.size) (hbase:base≤wr.heap.size):jW E kk R w3 base s3 (rows++[cs]):=by
 have hs1:=hb1.size
 have hs2:=hb.size
 have hs3:=hg.size
 have hsa:(w2.alloc o).heap.size=w2.heap.size+1:=by simp
 have hso:∀g,so.blk=some g→g<wr.heap.size:=fun g hg=>(h.own.base hg).2
 refine⟨hown,fun i hi=>?_⟩
 by_cases hlt:i<rows.length
 ·rw[List.getElem_append_left hlt]
  refine(h.each i hlt).to (fun k hk=>?_) (fun k hk=>⟨hk.1,by have:=hk.2.1;omega,?_⟩)
  ·have hk1:=hk.2.1
   rw[hg.block k (by omega) hk.2.2,Below.heap_alloc _ _ _ (by omega),hb.block k (by omega),hb1.block k hk1]
  ·have hk1:=hk.2.1
   rcases hat with e|e
   ·rw[e];exact hk.2.2
   ·rw[e];intro h';cases h';omega
 ·obtain rfl:i=rows.length:=by simp at hi;omega
  rw[List.getElem_append_right (by omega)]
  simp only[Nat.sub_self,List.getElem_cons_zero]
  refine hnew.to (fun k hk=>?_) (fun k hk=>⟨by have:=hk.1;omega,by have:=hk.2;omega,?_⟩)
  ·have hk1:=hk.1
   have hk2:=hk.2
   rw[hg.block k (by omega) (fun e=>by have:=hso k e.symm;omega),Below.heap_alloc _ _ _ hk2]
  ·have hk1:=hk.1
   have hk2:=hk.2
   rcases hat with e|e
   ·intro h';have:=hso k (e▸h'.symm);omega
   ·rw[e];intro h';cases h';omega
theorem jW.done{E:TypeId}{kk n:Nat}{R:World→Nat→Array Value→Prop}{w':World}{base:Nat}{so:Sl}{rows:List (Array Value)}(h:jW E kk R w' base so rows)(hn:rows.length=n)(hl:n≤lim):bH w' (fresh base w') (fun x=>aX x kk so.a n (R x)):=fun x hx=>
 aX.eG (h.own.fresh hx) hn hl (fun i hi=>h.each i hi x (fun k hk=>hx k ⟨hk.1,hk.2.1⟩))
def Di(Φ:World→Sl→Prop)(n:Nat)(w:World)(e:Ending)(w':World):Prop:=∃s:Sl,e=.returned (.slice s.a n s.cap)∧Below w.heap.size w w'∧bH w' (fresh w.heap.size w') (fun x=>Φ x s)
theorem Dj{W wr w1 w2 w3:World}{so:Sl}{o:Obj}{E:TypeId}{kk:Nat}{R:World→Nat→Array Value→Prop}{rows:List (Array Value)}(h:jW E kk R wr W.heap.size so rows)(hb:Below W.heap.size W wr)(hb1:Below wr.heap.size wr w1)(hb2:Below w1.heap.size w1 w2)(hg:(w2.alloc o).grownBy w3 so.blk):Below W.heap.size W w3:=
 have h2:=ag (ag hb hb1) hb2
 (h2.alloc h2.size o).grown hg (by have:=h2.size;simp;omega) (fun _ e=>(h.own.base e).1)
end Go.WW
namespace Go.Proofs.YtfieenjdcpjmgaaGreatDoor
open Go.RowKit Go.WW
theorem AB:gp Tryz.prog 41 40 2 40:=gp.of Tryz.underlying41 (by kernel_rfl)
theorem Uc:gp Tryz.prog 65 69 3 40:=gp.of Tryz.underlying65 (by kernel_rfl)
theorem Ud:gp Tryz.prog 44 67 5 64:=gp.of Tryz.underlying44 (by kernel_rfl)
theorem qh:gp Tryz.prog 45 61 1 24:=gp.of Tryz.underlying45 (by kernel_rfl)
def Ue(l:List (List UInt8))(x:World)(i:Nat)(cs:Array Value):Prop:=∃v,cs=#[v]∧∃p,∃s:Sl,l[i]?=some p∧v=.slice s.a p.length s.cap∧BytesAt x s.a p
theorem agW(a:Option Addr)(cap:Nat)(l:List (List UInt8))(w:World)(hl:fK w a l) :
  Calls Tryz.prog 131 #[.slice a l.length cap,.func (.func 132) #[] #[]] w (Di (fun x s=>fK x s.a l) l.length w):=by
 have hn:l.length≤4294967000:=hl.1
 rcases dY.addr hl with h0|⟨b,o,rfl,hb⟩
 ·obtain rfl:l=[]:=List.eq_nil_of_length_eq_zero h0
  go_enter Tryz.func131,Tryz.ntmps131
  go_wp2_with fail
  refine wp_loop_rounds 1 ?_
  rw[rounds_succ]
  go_wp2_with fail
  go_ret
  exact⟨⟨none,0⟩,rfl,Below.refl _ _,fun x _=>⟨by simp[lim],fun i hi=>by simp at hi⟩⟩
 go_enter Tryz.func131,Tryz.ntmps131
 go_wp2_with fail
 go_loopw [5,10] (fun ov i wr=>∃(k:Nat) (so:Sl) (rows:List (Array Value)),k≤l.length∧i=.int .i64 k∧ov=.slice so.a k so.cap∧Hid (rows.length=k)∧Below w.heap.size w wr∧jW 61 1 (Ue l) wr w.heap.size so rows) (fun _ i _=>l.length-(intOf i).toNat)
 case atStart=>exact⟨0,⟨none,0⟩,[],Nat.zero_le _,rfl,rfl,rfl,Below.refl _ _,jW.nil _ _ _ _ _⟩
 case round=>
  obtain⟨k,so,rows,hk,rfl,rfl,hlr,hbr,hC⟩:=hrel
  by_cases hlt:k<l.length
  ·obtain⟨t,hc,hp⟩:=hl.at k hlt
   obtain⟨hcc,aT,hrr⟩:=bg hbr
   go_wp2_with fail
   have hb1:Below wr.heap.size wr wr:=Below.refl _ _
   refine(agU _ _ _ _ (hp.later (ag hbr hb1))).mono ?_
   rintro e w2 ⟨s',rfl,hb2,hd2⟩
   have hr2:=ag hb1 hb2
   have hown:=hC.carry hr2 (.cells #[Value.slice s'.a l[k].length s'.cap] 61)
   clear hcc aT hrr
   go_wp2_with (at_builtin;refine gI rfl (.tmp 14) (.tmp 18) _ rfl qh (n:=k) rfl hlr.out.symm hown rfl rfl (cZ.new _ #[Value.slice s'.a l[k].length s'.cap] _ _ (by simp[go_sem]) (by simp[go_sem,dJ,Value.oneCell'])) (by have:=hlr.out;rw[this];simp;omega) (by have h9:=hbr.size;have h8:=hr2.size;simp;omega) ?_;intro s3 w3 hown3 hg3 gJ)
   have yC:=hC.step hb1 hb2 (o:=.cells #[Value.slice s'.a l[k].length s'.cap] 61) (R:=Ue l) (fun x hx=>⟨_,rfl,l[k],s',by rw[hlr.out];exact List.getElem?_eq_getElem hlt,rfl,hd2 x hx⟩) hown3 hg3 gJ hbr.size
   have hb3:=Dj hC hbr hb1 hb2 hg3
   have HL:=Lib.hid (show(rows++[#[Value.slice s'.a l[k].length s'.cap]]).length=k+1 by have:=hlr.out;simp[this])
   clear hown hown3 hg3 gJ hC hd2 hr2 hb1 hb2 hlr
   go_wp2_with fail
   go_roundw
   case rel=>exact⟨k+1,s3,_,by omega,by go_num,rfl,HL.out,hb3,yC⟩
   case measure=>simp[intOf];omega
  ·obtain rfl:k=l.length:=by omega
   go_wp2_with fail
   go_ret
   exact⟨so,rfl,hbr,fun x hx=>dY.eG (hC.own.fresh hx) hlr.out hl.1 (fun i hi=>hC.each i hi x (fun j hj=>hx j ⟨hj.1,hj.2.1⟩))⟩
end Go.Proofs.YtfieenjdcpjmgaaGreatDoor
namespace Go.WW
open Go.RowKit
def agX(w:World)(d:Entry)(e:Ending)(w':World):Prop:=∃r:aN,e=.returned (.agg (ae r d))∧Below w.heap.size w w'∧bH w' (fresh w.heap.size w') (fun x=>bK x r d)
theorem run_loadVar_row{P:Program}{T:TypeId}{d:TypeDesc}{n:Nat}(hu:P.underlying T=some d)(hd:d.isRow=true)(hi:(P.info? T).map (·.size)=some n){w:World}{b o:Nat}{cs:Array Value}(h:row? w b o n=some cs) :
  (loadVar T ⟨b,o,none⟩).run P w=.ok (.agg cs) w:=by
 have hs:=x9 h
 have:=run_loadVar_mid (P:=P) w b o T cs.toList d (Qw h) hu hd (by rw[hi];simp[hs])
 simpa using this
theorem KP{P:Program}{fn:Func}{a:Tmp}{T:TypeId}{d:TypeDesc}{n:Nat}(hf:fn.results=#[.cell a T])(hu:P.underlying T=some d)(hd:d.isRow=true)(hi:(P.info? T).map (·.size)=some n){tmps:Array Value}{w:World}{b o:Nat}{cs:Array Value}(ha:tmps.getD a undef=.pointer (some ⟨b,o,none⟩))(h:row? w b o n=some cs) :
  (results fn tmps).run P w=.ok (.agg cs) w:=by
 have hl:=run_loadVar_row hu hd hi h
 have ha':(asAddr (tmps.getD a undef)).run P w=.ok ⟨b,o,none⟩ w:=by rw[ha];rfl
 rw[Array.getD_eq_getD_getElem?]at ha'
 unfold results
 rw[hf]
 simp[Sem.run_bind,ha',hl,Result.andThen]
theorem jE{P:Program}{fn:Func}{a t:Tmp}{T:TypeId}{d:TypeDesc}{n:Nat}(hf:fn.results=#[.cell a T,.tmp t])(hu:P.underlying T=some d)(hd:d.isRow=true)(hi:(P.info? T).map (·.size)=some n){tmps:Array Value}{w:World}{b o:Nat}{cs:Array Value}(ha:tmps.getD a undef=.pointer (some ⟨b,o,none⟩))(h:row? w b o n=some cs) :
  (results fn tmps).run P w=.ok (.tuple #[.agg cs,tmps.getD t undef]) w:=by
 have hl:=run_loadVar_row hu hd hi h
 have ha':(asAddr (tmps.getD a undef)).run P w=.ok ⟨b,o,none⟩ w:=by rw[ha];rfl
 rw[Array.getD_eq_getD_getElem?]at ha'
 unfold results
 rw[hf]
 simp[Sem.run_bind,ha',hl,Result.andThen]
theorem aB{w:World}{b:Nat}{c:Array Value}{t:TypeId}(h:w.heap[b]?=some (.cells c t)):(∀o,w.cell? ⟨b,o,none⟩=c[o]?)∧(∀o,w.frozen? ⟨b,o,none⟩=false)∧(∀o n,row? w b o n=fO c o n)∧(b<w.heap.size):=
 ⟨fun o=>cell_of_row w b o c t _ h,fun o=>frozen_of_row w b o c t h,fun _ _=>bQ h,(Array.getElem?_eq_some_iff.1 h).1⟩
end Go.WW
namespace Go.Proofs.YtfieenjdcpjmgaaGreatDoor
open Go.RowKit Go.WW
end Go.Proofs.YtfieenjdcpjmgaaGreatDoor
