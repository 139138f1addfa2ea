/- A part of the proof. -/
import Derived.Test.YtaghcadlgbnbdaaGreatDoorA06
import Derived.Test.YtaghcadlgbnbdaaGreatDoorA02
import Derived.Test.YtaghcadlgbnbdaaGreatDoorA07
import Derived.Test.YtaghcadlgbnbdaaGreatDoorA05
import Derived.Test.YtaghcadlgbnbdaaGreatDoorA04
set_option maxRecDepth 100000
set_option maxHeartbeats 4000000
namespace Go.WW
def Jg(x y:Int):Int:=if x=0 then y else x
end Go.WW
namespace Go.Proofs.YtaghcadlgbnbdaaGreatDoor
open Go.RowKit Go.WW
theorem XY(a:ByteArray)(w:World):Calls Tryz.prog 185 #[.string a] w fun e w'=>e=.returned (.bool false)∧w=w':=by
 have h:=str_eq a a rfl
 go_enter Tryz.func185,Tryz.ntmps185
 go_wp2
 go_ret
 exact⟨rfl,rfl⟩
theorem OG(a b:ByteArray)(w:World):Calls Tryz.prog 118 #[.string a,.string b] w fun e w'=>e=.returned (.int .i64 (bQ a b))∧w=w':=by
 cases h:Op.bytesLess a.toList b.toList
 ·by_cases he:a=b
  have he':=str_eq _ _ he
  have HN:=Lib.hid (show bQ a b=0 by subst he;exact N9 a)
  rotate_left
  have he':=kD _ _ he
  have HN:=Lib.hid (N8 h he)
  rotate_left
  all_goals
   clear he
   go_enter Tryz.func118,Tryz.ntmps118
   go_wp2_with (go_at_call 185;refine(XY _ _).mono ?_;rintro e w' ⟨rfl,rfl⟩)
   go_ret
   exact⟨by rw[HN.out];rfl,rfl⟩
 ·have HN:=Lib.hid (N7 h)
  go_enter Tryz.func118,Tryz.ntmps118
  go_wp2_with (go_at_call 185;refine(XY _ _).mono ?_;rintro e w' ⟨rfl,rfl⟩)
  go_ret
  exact⟨by rw[HN.out];rfl,rfl⟩
theorem XZ(a a':Option Addr)(cap cap':Nat)(m:List ByteArray)(w:World):Calls Tryz.prog 119 #[.slice a 0 cap,.slice a' m.length cap'] w fun e w'=>e=.returned (.int .i64 (nR [] m))∧w=w':=by
 cases m with
 |nil=>
  go_enter Tryz.func119,Tryz.ntmps119
  go_wp2
  refine wp_loop_rounds 1 ?_
  rw[rounds_succ]
  go_wp2
  go_ret
  exact⟨rfl,rfl⟩
 |cons x m=>
  have h1:(0:Int)<((x::m).length:Int):=by simp
  generalize hn:(x::m).length=n at *
  go_enter Tryz.func119,Tryz.ntmps119
  go_wp2
  refine wp_loop_rounds 1 ?_
  rw[rounds_succ]
  go_wp2
  go_ret
  exact⟨rfl,rfl⟩
theorem ajb(a a':Option Addr)(cap cap':Nat)(l m:List ByteArray)(w:World)(hl:iU w a l)(hm:iU w a' m):Calls Tryz.prog 119 #[.slice a l.length cap,.slice a' m.length cap'] w fun e w'=>e=.returned (.int .i64 (nR l m))∧w=w':=by
 have hn:l.length≤4294967000:=hl.1
 have hn':m.length≤4294967000:=hm.1
 rcases dJ.addr hl with h0|⟨b,o,rfl,hb⟩
 ·obtain rfl:l=[]:=List.eq_nil_of_length_eq_zero h0
  exact XZ a a' cap cap' m w
 rcases dJ.addr hm with h0|⟨b',o',rfl,hb'⟩
 ·obtain rfl:m=[]:=List.eq_nil_of_length_eq_zero h0
  cases l with
  |nil=>exact XZ _ a' cap cap' [] w
  |cons x l=>
   have hc:w.cell? ⟨b,o,none⟩=some (.string x):=by have:=(iU.at hl 0 (by simp)).1;simpa using this
   have h1:(0:Int)<((x::l).length:Int):=by simp
   have HN:=Lib.hid (show nR (x::l) []=1 from rfl)
   generalize hnn:(x::l).length=n at *
   go_enter Tryz.func119,Tryz.ntmps119
   go_wp2
   refine wp_loop_rounds 1 ?_
   rw[rounds_succ]
   go_wp2
   go_ret
   exact⟨by rw[HN.out];rfl,rfl⟩
 go_enter Tryz.func119,Tryz.ntmps119
 go_wp2
 go_loop [11] (fun i=>∃k:Nat,k≤l.length∧k≤m.length∧i=.int .i64 k∧Hid (nR l m=nR (l.drop k) (m.drop k))) (fun i=>l.length-(intOf i).toNat)
 case atStart=>exact⟨0,Nat.zero_le _,Nat.zero_le _,rfl,rfl⟩
 case round=>
  obtain⟨k,hk,hk2,rfl,hall⟩:=hrel
  by_cases hlt:k<l.length
  ·have hki:(k:Int)<(l.length:Int):=by omega
   have hc:=(iU.at hl k hlt).1
   by_cases hlm:k<m.length
   ·have lg:(k:Int)<(m.length:Int):=by omega
    have hc':=(iU.at hm k hlm).1
    have hst:nR l m=if bQ l[k] m[k]=0 then nR (l.drop (k+1)) (m.drop (k+1))else bQ l[k] m[k]:=by
     rw[hall.out,List.drop_eq_getElem_cons hlt,List.drop_eq_getElem_cons hlm];rfl
    generalize l[k]=x at *
    generalize m[k]=y at *
    by_cases hz:bQ x y=0
    ·rw[if_pos hz]at hst
     have HS:=Lib.hid hst
     have hz':(bQ x y != 0)=false:=by simp[hz]
     clear hst hz hall
     go_wp2_with (go_at_call 118;refine(OG _ _ _).mono ?_;rintro e w' ⟨rfl,rfl⟩)
     go_round
     case rel=>exact⟨k+1,by omega,by omega,by go_num,HS.out⟩
     case measure=>simp[intOf];omega
    ·rw[if_neg hz]at hst
     have HS:=Lib.hid hst
     have hz':(bQ x y != 0)=true:=by simp[hz]
     clear hst hz hall
     go_wp2_with (go_at_call 118;refine(OG _ _ _).mono ?_;rintro e w' ⟨rfl,rfl⟩)
     go_ret
     exact⟨by rw[HS.out];rfl,rfl⟩
   ·have HN:=Lib.hid (show nR l m=1 by rw[hall.out,List.drop_eq_getElem_cons hlt,List.drop_of_length_le (show m.length≤k by omega)];rfl)
    have lg:(m.length:Int)≤(k:Int):=by omega
    go_wp2
    go_ret
    exact⟨by rw[HN.out];rfl,rfl⟩
  ·by_cases hlm:k<m.length
   ·have HN:=Lib.hid (show nR l m=-1 by rw[hall.out,List.drop_of_length_le (show l.length≤k by omega),List.drop_eq_getElem_cons hlm];rfl)
    have h1:(l.length:Int)<(m.length:Int):=by omega
    go_wp2
    go_ret
    exact⟨by rw[HN.out];rfl,rfl⟩
   ·have HN:=Lib.hid (show nR l m=0 by rw[hall.out,List.drop_of_length_le (show l.length≤k by omega),List.drop_of_length_le (show m.length≤k by omega)];rfl)
    have h1:¬(l.length:Int)<(m.length:Int):=by omega
    go_wp2
    go_ret
    exact⟨by rw[HN.out];rfl,rfl⟩
theorem ajc(g cap:Nat)(x y:Int)(w:World)(h0:w.cell? ⟨g,0,none⟩=some (.int .i64 x))(h1:w.cell? ⟨g,1,none⟩=some (.int .i64 y)):Calls Tryz.prog 117 #[.slice (some ⟨g,0,none⟩) 2 cap] w fun e w'=>e=.returned (.int .i64 (Jg x y))∧w=w':=by
 by_cases hx:x=0
 ·subst hx
  have HN:=Lib.hid (show Jg 0 y=y from rfl)
  by_cases hy:y=0
  ·subst hy
   go_enter Tryz.func117,Tryz.ntmps117
   go_wp2
   refine wp_loop_rounds 3 ?_
   rw[rounds_succ]
   go_wp2
   rw[rounds_succ]
   go_wp2
   rw[rounds_succ]
   go_wp2
   go_ret
   exact⟨rfl,rfl⟩
  ·have hy':(y != 0)=true:=by simp[hy]
   clear hy
   go_enter Tryz.func117,Tryz.ntmps117
   go_wp2
   refine wp_loop_rounds 3 ?_
   rw[rounds_succ]
   go_wp2
   rw[rounds_succ]
   go_wp2
   go_ret
   exact⟨by rw[HN.out];rfl,rfl⟩
 ·have hx':(x != 0)=true:=by simp[hx]
  have HN:=Lib.hid (show Jg x y=x from if_neg hx)
  clear hx
  go_enter Tryz.func117,Tryz.ntmps117
  go_wp2
  refine wp_loop_rounds 3 ?_
  rw[rounds_succ]
  go_wp2
  go_ret
  exact⟨by rw[HN.out];rfl,rfl⟩
theorem ajd(s t:Sl)(p q:aB)(w:World)(hp:bg w s p)(hq:bg w t q):Calls Tryz.prog 64 #[.agg (ak s p),.agg (ak t q)] w fun e w'=>e=.returned (.int .i64 (dV p q))∧Below w.heap.size w w':=by
 have hB:Below w.heap.size w ((w.alloc (.cells (ak s p) 25)).alloc (.cells (ak t q) 25)):=((Below.refl _ _).alloc (Nat.le_refl _) _).alloc (by simp) _
 have HN:=Lib.hid (show dV p q=Jg (bQ p.aG q.aG) (nR p.parts q.parts) from rfl)
 go_enter Tryz.func64,Tryz.ntmps64
 go_wp2_with fail
 refine Td (Below.refl _ _) (by kernel_rfl) (by kernel_rfl) ?_
 intro w1 hb1
 repeat (first|(refine aP (by rfl) ?_)|(refine gI (by rfl) (by rfl) (fun K hK=>?_);go_big_quiet_op;refine hK _ ?_;clear hK K))
 refine jg (by rfl) (by rfl) (fun K hK=>?_)
 go_wp2_with fail
 refine(OG _ _ _).mono ?_
 rintro e w' ⟨rfl,rfl⟩
 refine hK _ _ (dC hb1) ?_
 clear hK K
 repeat (first|(refine aP (by rfl) ?_)|(refine gI (by rfl) (by rfl) (fun K hK=>?_);go_big_quiet_op;refine hK _ ?_;clear hK K))
 refine jg (by rfl) (by rfl) (fun K hK=>?_)
 go_wp2_with fail
 refine(ajb _ _ _ _ _ _ _ (hp.1.later (ag hB hb1)) (hq.1.later (ag hB hb1))).mono ?_
 rintro e w' ⟨rfl,rfl⟩
 refine hK _ _ (dC hb1) ?_
 clear hK K
 repeat (first|(refine aP (by rfl) ?_)|(refine gI (by rfl) (by rfl) (fun K hK=>?_);go_big_quiet_op;refine hK _ ?_;clear hK K))
 refine jg (by rfl) (by rfl) (fun K hK=>?_)
 go_wp2_with fail
 refine hK _ _ (dC (aC hb1 _)) ?_
 clear hK K
 repeat (first|(refine aP (by rfl) ?_)|(refine gI (by rfl) (by rfl) (fun K hK=>?_);go_big_quiet_op;refine hK _ ?_;clear hK K))
 refine jg (by rfl) (by rfl) (fun K hK=>?_)
 go_wp2_with fail
 refine(ajc _ _ (bQ p.aG q.aG) (nR p.parts q.parts) _ (by simp[go_sem]) (by simp[go_sem])).mono ?_
 rintro e w' ⟨rfl,rfl⟩
 refine hK _ _ (dC (aC hb1 _)) ?_
 clear hK K
 repeat (first|(refine aP (by rfl) ?_)|(refine gI (by rfl) (by rfl) (fun K hK=>?_);go_big_quiet_op;refine hK _ ?_;clear hK K))
 refine bW ?_
 go_wp2_with fail
 go_ret
 exact⟨by rw[HN.out];rfl,ag hB (aC hb1 _)⟩
theorem X0(r t:aI)(d g:Entry)(w:World)(hp:bg w r.parts d.name)(hq:bg w t.parts g.name):Calls Tryz.prog 63 #[.agg (ae r d),.agg (ae t g)] w fun e w'=>e=.returned (.int .i64 (dV d.name g.name))∧Below w.heap.size w w':=by
 have hB:Below w.heap.size w ((w.alloc (.cells (ae r d) 32)).alloc (.cells (ae t g) 32)):=((Below.refl _ _).alloc (Nat.le_refl _) _).alloc (by simp) _
 go_enter Tryz.func63,Tryz.ntmps63
 go_wp2_with fail
 refine(ajd _ _ _ _ _ (hp.later hB) (hq.later hB)).mono ?_
 rintro e w' ⟨rfl,hb⟩
 go_wp2_with fail
 go_ret
 exact⟨rfl,ag hB hb⟩
end Go.Proofs.YtaghcadlgbnbdaaGreatDoor
namespace Go.WW
open Go.RowKit
section
variable {α β:Type} {c:β→β→Int} {k:α→β}
def Mid(c:β→β→Int)(k:α→β)(Y:List α)(i j:Nat):Prop:=∃A x B C,Y=A++x::(B++C)∧A.length=j∧A.length+B.length=i∧Sorted c k (A++B)∧∀b∈B,c (k x) (k b)<0
theorem X3{Y:List α}{i:Nat}(h:Sorted c k (Y.take i))(hi:i<Y.length):Mid c k Y i i:=
 ⟨Y.take i,Y[i],[],Y.drop (i+1),by rw[List.nil_append,←List.drop_eq_getElem_cons hi,List.take_append_drop],by simp;omega,by simp;omega,by simpa using h,by simp⟩
theorem mid_zero{Y:List α}{i:Nat}(h:Mid c k Y i 0):Sorted c k (Y.take (i+1)):=by
 obtain⟨A,x,B,C,rfl,hA,hi,hs,hb⟩:=h
 have:A=[]:=List.eq_nil_of_length_eq_zero hA
 subst this
 simp only[List.length_nil,Nat.zero_add,List.nil_append]at *
 subst hi
 rw[List.take_succ_cons,List.take_left']
 ·exact List.pairwise_cons.2 ⟨hb,hs⟩
 ·rfl
theorem mid_step{Y:List α}{i j:Nat}(h:Mid c k Y i (j+1))(h1:j+1<Y.length)(hc:c (k Y[j+1]) (k Y[j])<0):Mid c k ((Y.set (j+1) Y[j]).set j Y[j+1]) i j:=by
 obtain⟨A,x,B,C,rfl,hA,hi,hs,hb⟩:=h
 obtain⟨A',y,rfl⟩:∃A' y,A=A'++[y]:=⟨A.dropLast,A.getLast (by intro e;subst e;simp at hA),(List.dropLast_concat_getLast _).symm⟩
 have hA':A'.length=j:=by simpa using hA
 subst hA'
 have e1:(A'++[y]++x::(B++C))[A'.length+1]=x:=by simp
 have e0:(A'++[y]++x::(B++C))[A'.length]=y:=by simp
 rw[e1,e0]at hc
 refine⟨A',x,y::B,C,?_,rfl,by simp at hi ⊢;omega,by simpa using hs,fun b hbm=>?_⟩
 ·rw[e1,e0]
  simp
 ·rcases List.mem_cons.1 hbm with rfl|hbm
  ·exact hc
  ·exact hb b hbm
theorem X4(ht:yH c){Y:List α}{i j:Nat}(h:Mid c k Y i (j+1))(h1:j+1<Y.length)(hd:(Y.map k).Nodup)(hc:¬c (k Y[j+1]) (k Y[j])<0):Sorted c k (Y.take (i+1)):=by
 obtain⟨A,x,B,C,rfl,hA,hi,hs,hb⟩:=h
 obtain⟨A',y,rfl⟩:∃A' y,A=A'++[y]:=⟨A.dropLast,A.getLast (by intro e;subst e;simp at hA),(List.dropLast_concat_getLast _).symm⟩
 have hA':A'.length=j:=by simpa using hA
 subst hA'
 have e1:(A'++[y]++x::(B++C))[A'.length+1]=x:=by simp
 have e0:(A'++[y]++x::(B++C))[A'.length]=y:=by simp
 rw[e1,e0]at hc
 have hne:k x≠k y:=by
  intro e
  rw[List.map_append,List.map_append,List.map_cons,List.nodup_append]at hd
  exact hd.2.2 (k y) (by simp) (k x) (by simp) e.symm
 have hyx:c (k y) (k x)<0:=by
  have h0:c (k y) (k x)≠0:=fun e0=>hne ((ht.zero _ _).1 e0).symm
  have:=ht.tX (k y) (k x)
  omega
 have et:(A'++[y]++x::(B++C)).take (i+1)=(A'++[y])++x::B:=by
  have e:A'++[y]++x::(B++C)=((A'++[y])++x::B)++C:=by simp
  rw[e,List.take_left']
  simp at hi ⊢;omega
 rw[et]
 have hs':=List.pairwise_append.1 hs
 have hs1:=List.pairwise_append.1 hs'.1
 refine List.pairwise_append.2 ⟨hs'.1,List.pairwise_cons.2 ⟨hb,hs'.2.1⟩,fun a ha z hz=>?_⟩
 rcases List.mem_cons.1 hz with rfl|hz
 ·rcases List.mem_append.1 ha with ha|ha
  ·exact ht.trans _ _ _ (hs1.2.2 a ha y (by simp)) hyx
  ·simp at ha;subst ha;exact hyx
 ·exact hs'.2.2 a ha z hz
theorem swap_perm{Y:List α}{j:Nat}(h1:j+1<Y.length):((Y.set (j+1) Y[j]).set j Y[j+1]).Perm Y:=by
 have e:Y=Y.take j++Y[j]::Y[j+1]::Y.drop (j+2):=by
  conv=>lhs;rw[←List.take_append_drop j Y,List.drop_eq_getElem_cons (by omega),List.drop_eq_getElem_cons h1]
 have hl:(Y.take j).length=j:=by simp;omega
 generalize Y[j]=y at *
 generalize Y[j+1]=x at *
 generalize Y.take j=A at *
 generalize Y.drop (j+2)=C at *
 subst e
 subst hl
 simp
 exact(List.Perm.refl A).append (List.Perm.swap _ _ _)
end
theorem aje{c cs:Array Value}{o n:Nat}(hn:cs.size=n)(h:o+n≤c.size):eQ (splice c o cs) o n=some cs:=by
 subst hn
 unfold eQ
 rw[if_pos (by rw[Hf h];exact h)]
 congr 1
 apply Array.ext_getElem?
 intro i
 simp only[splice,Array.getElem?_extract,List.getElem?_toArray,List.getElem?_append,List.length_append,List.length_take,Array.length_toList,List.getElem?_take,List.getElem?_drop]
 have:min o c.size=o:=by omega
 by_cases hi:i<cs.size
 ·simp[this,hi,show ¬o+i<o by omega,show o+i<o+cs.size by omega]
 ·rw[if_neg (by omega),Array.getElem?_eq_none (by omega)]
theorem ajf{c cs:Array Value}{o o' n:Nat}(h:o+cs.size≤c.size)(ha:o'+n≤o∨o+cs.size≤o'):eQ (splice c o cs) o' n=eQ c o' n:=by
 unfold eQ
 rw[Hf h]
 split
 ·congr 1
  apply Array.ext_getElem?
  intro i
  simp only[splice,Array.getElem?_extract,List.getElem?_toArray,List.getElem?_append,List.length_append,List.length_take,Array.length_toList,List.getElem?_take,List.getElem?_drop,Array.getElem?_toList]
  have hm:min o c.size=o:=by omega
  have hsz:(List.take o c.toList++cs.toList++List.drop (o+cs.size) c.toList).length=c.size:=by simp;omega
  by_cases hi:i<n
  ·have h1:i<min (o'+n) c.size-o':=by omega
   rcases ha with ha|ha
   ·simp[hm,show o'+i<o by omega,show o'+i<o+cs.size by omega,show o+(cs.size+(c.size-(o+cs.size)))=c.size by omega]
   ·simp[hm,show ¬o'+i<o+cs.size by omega,show o+cs.size+(o'+i-(o+cs.size))=o'+i by omega,show o+(cs.size+(c.size-(o+cs.size)))=c.size by omega]
  ·rw[if_neg (by omega),if_neg (by omega)]
 ·rfl
def Open(w:World)(g n:Nat):Prop:=∃c t,w.heap[g]?=some (.cells c t)∧n≤c.size
theorem Open.put{w:World}{g n o:Nat}{cs:Array Value}(h:Open w g n)(ho:o+cs.size≤n):Open (putRow w g o cs) g n:=by
 obtain⟨c,t,hc,hn⟩:=h
 exact⟨_,t,pX hc (by omega),by rw[Hf (by omega)];exact hn⟩
theorem Open.can{w:World}{g n o m:Nat}(h:Open w g n)(ho:o+m≤n):aJ w g o m=true:=by
 obtain⟨c,t,hc,hn⟩:=h
 exact nO hc (by omega)
theorem Open.at{w w':World}{g n:Nat}(h:Open w g n)(e:w'.heap[g]?=w.heap[g]?):Open w' g n:=by
 obtain⟨c,t,hc,hn⟩:=h
 exact⟨c,t,e.trans hc,hn⟩
theorem X8{w:World}{g n o o' m:Nat}{cs:Array Value}(h:Open w g n)(ho:o+cs.size≤n)(ha:o'+m≤o∨o+cs.size≤o'):row? (putRow w g o cs) g o' m=row? w g o' m:=by
 obtain⟨c,t,hc,hn⟩:=h
 rw[bV (pX hc (by omega)),bV hc,ajf (by omega) ha]
theorem X9{w:World}{g n o m:Nat}{cs:Array Value}(h:Open w g n)(hm:cs.size=m)(ho:o+m≤n):row? (putRow w g o cs) g o m=some cs:=by
 obtain⟨c,t,hc,hn⟩:=h
 rw[bV (pX hc (by omega)),aje hm (by omega)]
theorem Jh(x:EE):(bC x).size=17:=rfl
theorem fB.put{w:World}{g:Nat}{Y:List EE}(h:fB w (some ⟨g,0,none⟩) Y)(ho:Open w g (Y.length*17)){i:Nat}(hi:i<Y.length)(x:EE):fB (putRow w g (0+i*17) (bC x)) (some ⟨g,0,none⟩) (Y.set i x):=by
 refine⟨by simpa using h.1,fun j hj=>?_⟩
 have hj':j<Y.length:=by simpa using hj
 have hs:=Jh x
 by_cases e:j=i
 ·subst e
  exact⟨g,0,_,rfl,X9 ho (Jh x) (by omega),x,by simp[hj'],rfl⟩
 ·obtain⟨b,o,cs,ha,hr,y,hy,rfl⟩:=h.2 j hj'
  cases ha
  refine⟨g,0,_,rfl,(X8 ho (by omega) (by omega)).trans hr,y,by rw[List.getElem?_set_ne (by omega)];exact hy,rfl⟩
theorem But.put{S:Nat→Prop}{W w:World}{g o:Nat}{cs:Array Value}(h:But S W w)(hg:S g):But S W (putRow w g o cs):=
 h.trans ⟨by have:=(DV (Nat.le_refl g) cs.toList o w).os;exact this,(DV (Nat.le_refl g) cs.toList o w).tape,(DV (Nat.le_refl g) cs.toList o w).output,by rw[jS];exact Nat.le_refl _,fun k _ hn=>jh (fun e=>hn (e▸hg))⟩
end Go.WW
namespace Go.WW
open Go.RowKit
structure jV(g:Nat)(X Y:List EE)(w0 w:World):Prop where
 perm:Y.Perm X
 but:But (·=g) w0 w
 rows:fB w (some ⟨g,0,none⟩) Y
 opn:Open w g (Y.length*17)
theorem jV.step{g:Nat}{X Y:List EE}{w0 w w':World}(h:jV g X Y w0 w)(hb:Below w.heap.size w w'):jV g X Y w0 w':=by
 refine⟨h.perm,h.but.trans (But.of_below hb),h.rows.later hb,h.opn.at ?_⟩
 obtain⟨c,t,hc,_⟩:=h.opn
 exact hb.block g (Array.getElem?_eq_some_iff.1 hc).1
theorem jV.drew{g:Nat}{X Y:List EE}{w0 w:World}(h:jV g X Y w0 w):jV g X Y w0 w.drew:=h.step (Below.refl _ _).drew
theorem jV.swap{g:Nat}{X Y:List EE}{w0 w:World}(h:jV g X Y w0 w){j:Nat}(h1:j+1<Y.length):jV g X ((Y.set (j+1) Y[j]).set j Y[j+1]) w0 (putRow (putRow w g ((j+1)*17) (bC Y[j])) g (j*17) (bC Y[j+1])):=by
 have r1:=h.rows.put h.opn h1 Y[j]
 have s1:=Jh Y[j]
 have s2:=Jh Y[j+1]
 have o1:Open (putRow w g (0+(j+1)*17) (bC Y[j])) g (Y.length*17):=h.opn.put (by omega)
 have r2:=r1.put (by simpa using o1) (i:=j) (by simp;omega) Y[j+1]
 rw[Nat.zero_add]at r2 o1
 rw[Nat.zero_add]at r2
 exact⟨(swap_perm h1).trans h.perm,(h.but.put rfl).put rfl,r2,by simpa using o1.put (by omega)⟩
end Go.WW
namespace Go.Proofs.YtaghcadlgbnbdaaGreatDoor
open Go.RowKit Go.WW
theorem ajg(g cap:Nat)(X:List EE)(w:World)(hn:X.length≤12)(hX:jV g X X w w)(hD:(X.map dW).Nodup)(hN:∀y,But (·=g) w y→∀x∈X,bg y x.1.parts x.2.name) :
  Calls Tryz.prog 257 #[.slice (some ⟨g,0,none⟩) X.length cap,.int .i64 0,.int .i64 X.length,.func (.func 63) #[] #[]] w fun e w'=>e=.returned (.tuple #[])∧∃Y,jV g X Y w w'∧Sorted dV dW Y:=by
 have HF:=Lib.hid hN
 have HD:=Lib.hid hD
 clear hN hD
 go_enter Tryz.func257,Tryz.ntmps257
 go_wp2_with fail
 go_loopw [8] (fun iv wr=>∃(i:Nat) (Y:List EE),1≤i∧i≤13∧iv=.int .i64 i∧Hid (jV g X Y w wr)∧Hid (Sorted dV dW (Y.take i))) (fun iv _=>13-(intOf iv).toNat)
 case atStart=>exact⟨1,X,Nat.le_refl _,by omega,rfl,hX,by cases X<;>simp[Hid,Sorted]⟩
 case round=>
  obtain⟨i,Y,h1,h13,rfl,hS,hso⟩:=hrel
  have HL:=Lib.hid (hS.out.perm.length_eq)
  by_cases hlt:i<X.length
  ·have hki:(i:Int)<(X.length:Int):=by omega
   have HM:=Lib.hid (X3 hso.out (by rw[HL.out];exact hlt))
   go_wp2_with fail
   clear hso HL
   go_loopw [9] (fun jv wr=>∃(j:Nat) (Y:List EE),j≤i∧jv=.int .i64 j∧Hid (jV g X Y w wr)∧Hid (Mid dV dW Y i j)) (fun jv _=>(intOf jv).toNat)
   case atStart=>exact⟨i,Y,Nat.le_refl _,rfl,hS,HM⟩
   case round=>
    clear hS HM
    obtain⟨j,Y,hj,rfl,hS,hM⟩:=hrel
    have HL:=Lib.hid (hS.out.perm.length_eq)
    cases j with
    |zero=>
     have HZ:=Lib.hid (mid_zero hM.out)
     go_wp2_with fail
     refine dP (Below.refl _ wr) (by kernel_rfl) (by kernel_rfl) ?_
     repeat (go_big_quiet_step (fail))
     refine wpQuiet_nil ?_
     intro w2 hb2
     have HS2:=Lib.hid (hS.out.step hb2)
     go_wp2_with fail
     go_roundw
     case rel=>exact⟨i+1,Y,by omega,by omega,by go_num,HS2.out,HZ.out⟩
     case measure=>simp[intOf];omega
    |succ j=>
     have hjl:j+1<Y.length:=by rw[HL.out];omega
     have hji:(0:Int)<((j+1:Nat):Int):=by omega
     have NI:((j+1:Nat):Int)<(X.length:Int):=by omega
     have hr1:=hS.out.rows.at (j+1) hjl
     have hr0:=hS.out.rows.at j (by omega)
     have hN1:=Lib.hid (fun y hy=>HF.out y (hS.out.but.trans (But.of_below hy)) Y[j+1] (hS.out.perm.mem_iff.1 (List.getElem_mem hjl)))
     have hN0:=Lib.hid (fun y hy=>HF.out y (hS.out.but.trans (But.of_below hy)) Y[j] (hS.out.perm.mem_iff.1 (List.getElem_mem (by omega))))
     rw[Nat.zero_add]at hr1 hr0
     have hgw:g<wr.heap.size:=gq hr1
     by_cases hc:dV Y[j+1].2.name Y[j].2.name<0
     ·have OH:=Lib.hid (mid_step hM.out hjl hc)
      have HS2:=Lib.hid (fun w2 hb2=>((hS.out.step (w':=w2) hb2)).drew.swap hjl)
      generalize Y[j+1]=x at *
      generalize Y[j]=z at *
      go_wp2_with fail
      refine dP (Below.refl _ wr) (by kernel_rfl) (by kernel_rfl) ?_
      repeat (go_big_quiet_step ((go_at_call 63;rename_i xw;exact Calls.gX (X0 _ _ _ _ _ (hN1.out _ xw.b) (hN0.out _ xw.b)))))
      refine wpQuiet_nil ?_
      intro w2 hb2
      go_wp2_with fail
      have hr1':row? w2 g ((j+1)*17) 17=some (ae x.1 x.2):=(fO (hb2.block g hgw) _ _).trans hr1
      have ajh:row? w2 g (j*17) 17=some (ae z.1 z.2):=(fO (hb2.block g hgw) _ _).trans hr0
      have HO:=Lib.hid (hS.out.step hb2).opn
      have hp1:aJ w2 g ((j+1)*17) 17=true:=HO.out.can (by omega)
      have hp0:aJ (putRow w2.drew g ((j+1)*17) (ae z.1 z.2)) g (j*17) 17=true:=Open.can (n:=Y.length*17) (Open.put (HO.out.at rfl) (by show(j+1)*17+17≤_;omega)) (by omega)
      have vk:Hid (jV g X ((Y.set (j+1) z).set j x) w (putRow (putRow w2.drew g ((j+1)*17) (ae z.1 z.2)) g (j*17) (ae x.1 x.2))):=HS2.out w2 hb2
      clear hr1 hr0 HS2 hN1 hN0 HO
      refine T3.Ue (·=g) (But.refl _ w2) (by kernel_rfl) (by kernel_rfl) ?_
      repeat (first|(refine T3.aP (by rfl) ?_)|(refine T3.gI (by rfl) (by rfl) (fun K hK=>?_);go_big_quiet_op;refine hK _ ?_;clear hK K)|(refine T3.AO (by rfl) (by rfl) (fun K hK=>?_);go_wp2_with fail))
      refine T3.jg (by rfl) (by rfl) (fun K hK=>?_)
      go_wp2_with fail
      have HB1:=Lib.hid (But.put (g:=g) (o:=(j+1)*17) (cs:=ae z.1 z.2) (S:=(·=g)) (But.refl _ w2).drew rfl)
      generalize putRow w2.drew g ((j+1)*17) (ae z.1 z.2)=V at *
      refine hK _ _ (bI HB1.out) ?_
      clear hK K
      repeat (first|(refine T3.aP (by rfl) ?_)|(refine T3.gI (by rfl) (by rfl) (fun K hK=>?_);go_big_quiet_op;refine hK _ ?_;clear hK K)|(refine T3.AO (by rfl) (by rfl) (fun K hK=>?_);go_wp2_with fail))
      refine T3.jg (by rfl) (by rfl) (fun K hK=>?_)
      go_wp2_with fail
      have HB2:=Lib.hid (But.put (g:=g) (o:=j*17) (cs:=ae x.1 x.2) HB1.out rfl)
      generalize putRow V g (j*17) (ae x.1 x.2)=U at *
      refine hK _ _ (bI HB2.out) ?_
      clear hK K
      repeat (first|(refine T3.aP (by rfl) ?_)|(refine T3.gI (by rfl) (by rfl) (fun K hK=>?_);go_big_quiet_op;refine hK _ ?_;clear hK K)|(refine T3.AO (by rfl) (by rfl) (fun K hK=>?_);go_wp2_with fail))
      refine T3.bW ?_
      go_wp2_with fail
      go_roundw
      case rel=>exact⟨j,(Y.set (j+1) z).set j x,by omega,rfl,vk,OH⟩
      case measure=>simp[intOf]
     ·have HZ:=Lib.hid (X4 MC hM.out hjl ((hS.out.perm.map dW).nodup_iff.2 HD.out) hc)
      generalize Y[j+1]=x at *
      generalize Y[j]=z at *
      go_wp2_with fail
      refine dP (Below.refl _ wr) (by kernel_rfl) (by kernel_rfl) ?_
      repeat (go_big_quiet_step ((go_at_call 63;rename_i xw;exact Calls.gX (X0 _ _ _ _ _ (hN1.out _ xw.b) (hN0.out _ xw.b)))))
      refine wpQuiet_nil ?_
      intro w2 hb2
      have HS2:=Lib.hid (hS.out.step hb2)
      go_wp2_with fail
      go_roundw
      case rel=>exact⟨i+1,Y,by omega,by omega,by go_num,HS2.out,HZ.out⟩
      case measure=>simp[intOf];omega
  ·have hki:¬(i:Int)<(X.length:Int):=by omega
   go_wp2_with fail
   go_end0
   exact⟨rfl,Y,hS.out,by have:=hso.out;rwa[List.take_of_length_le (by rw[HL.out];omega)]at this⟩
theorem OI(n:Nat)(hn:n≤12)(w:World):Calls Tryz.prog 266 #[.int .u64 (n:Int)] w fun e w'=>(∃k,e=.returned (.int .i64 k))∧w=w':=by
 have h:n=0∨n=1∨n=2∨n=3∨n=4∨n=5∨n=6∨n=7∨n=8∨n=9∨n=10∨n=11∨n=12:=by omega
 rcases h with rfl|rfl|rfl|rfl|rfl|rfl|rfl|rfl|rfl|rfl|rfl|rfl|rfl
 all_goals
  go_enter Tryz.func266,Tryz.ntmps266
  go_wp2
  go_ret
  exact⟨⟨_,rfl⟩,rfl⟩
theorem EN(n:Nat)(hn:n≤12)(w:World):Calls Tryz.prog 184 #[.int .u64 (n:Int)] w fun e w'=>(∃k,e=.returned (.int .i64 k))∧w=w':=by
 go_enter Tryz.func184,Tryz.ntmps184
 go_wp2_with fail
 refine(OI n hn w).mono ?_
 rintro e w' ⟨⟨k,rfl⟩,rfl⟩
 dsimp only
 go_wp2_with fail
 go_ret
 exact⟨⟨_,rfl⟩,rfl⟩
theorem aji(g cap:Nat)(X:List EE)(lm:Int)(w:World)(hn:X.length≤12)(hX:jV g X X w w)(hD:(X.map dW).Nodup)(hN:∀y,But (·=g) w y→∀x∈X,bg y x.1.parts x.2.name) :
  Calls Tryz.prog 183 #[.slice (some ⟨g,0,none⟩) X.length cap,.int .i64 0,.int .i64 X.length,.int .i64 lm,.func (.func 63) #[] #[]] w fun e w'=>e=.returned (.tuple #[])∧∃Y,jV g X Y w w'∧Sorted dV dW Y:=by
 have HI:=Lib.hid (ajg g cap X w hn hX hD hN)
 clear hX hD hN
 have h12:(X.length:Int)≤12:=by omega
 go_enter Tryz.func183,Tryz.ntmps183
 go_wp2_with fail
 refine wp_loop_rounds 1 ?_
 rw[rounds_succ]
 go_wp2_with fail
 refine HI.out.mono ?_
 rintro e w' ⟨rfl,hY⟩
 dsimp only
 go_wp2_with fail
 refine bodyPost_ret (results_none rfl _ _ _) rfl ⟨rfl,hY⟩
theorem ajj(g cap:Nat)(X:List EE)(w:World)(hn:X.length≤12)(hX:jV g X X w w)(hD:(X.map dW).Nodup)(hN:∀y,But (·=g) w y→∀x∈X,bg y x.1.parts x.2.name) :
  Calls Tryz.prog 116 #[.slice (some ⟨g,0,none⟩) X.length cap,.func (.func 63) #[] #[]] w fun e w'=>e=.returned (.tuple #[])∧∃Y,jV g X Y w w'∧Sorted dV dW Y:=by
 have HI:=Lib.hid (fun lm=>aji g cap X lm w hn hX hD hN)
 clear hX hD hN
 go_enter Tryz.func116,Tryz.ntmps116
 go_wp2_with fail
 refine(EN _ hn w).mono ?_
 rintro e w' ⟨⟨k,rfl⟩,rfl⟩
 dsimp only
 go_wp2_with fail
 refine(HI.out k).mono ?_
 rintro e w' ⟨rfl,hY⟩
 dsimp only
 go_wp2_with fail
 go_end0
 exact⟨rfl,hY⟩
theorem ajk(w:World):Calls Tryz.prog 257 #[.slice none 0 0,.int .i64 0,.int .i64 0,.func (.func 63) #[] #[]] w fun e w'=>e=.returned (.tuple #[])∧w=w':=by
 go_enter Tryz.func257,Tryz.ntmps257
 go_wp2_with fail
 refine wp_loop_rounds 1 ?_
 rw[rounds_succ]
 go_wp2_with fail
 go_end0
 exact⟨rfl,rfl⟩
theorem ajl(lm:Int)(w:World):Calls Tryz.prog 183 #[.slice none 0 0,.int .i64 0,.int .i64 0,.int .i64 lm,.func (.func 63) #[] #[]] w fun e w'=>e=.returned (.tuple #[])∧w=w':=by
 go_enter Tryz.func183,Tryz.ntmps183
 go_wp2_with fail
 refine wp_loop_rounds 1 ?_
 rw[rounds_succ]
 go_wp2_with fail
 refine(ajk w).mono ?_
 rintro e w' ⟨rfl,rfl⟩
 dsimp only
 go_wp2_with fail
 refine bodyPost_ret (results_none rfl _ _ _) rfl ⟨rfl,rfl⟩
theorem ajm(w:World):Calls Tryz.prog 116 #[.slice none 0 0,.func (.func 63) #[] #[]] w fun e w'=>e=.returned (.tuple #[])∧w=w':=by
 go_enter Tryz.func116,Tryz.ntmps116
 go_wp2_with fail
 refine(EN 0 (by omega) w).mono ?_
 rintro e w' ⟨⟨k,rfl⟩,rfl⟩
 dsimp only
 go_wp2_with fail
 refine(ajl k w).mono ?_
 rintro e w' ⟨rfl,rfl⟩
 dsimp only
 go_wp2_with fail
 go_end0
 exact⟨rfl,rfl⟩
end Go.Proofs.YtaghcadlgbnbdaaGreatDoor
namespace Go.WW
open Go.RowKit
theorem Ya:12≤lim:=by simp[lim]
theorem zy{S:Nat→Prop}{w a b:World}(h:Below w.heap.size w a)(k:But S a b)(hS:∀j,S j→w.heap.size≤j):Below w.heap.size w b:=
 (((But.of_below (S:=fun _=>False) h)).past k hS).below (Nat.le_refl _) (fun _ hf=>hf.elim)
theorem fB.block{w x:World}{g:Nat}{Y:List EE}(h:fB w (some ⟨g,0,none⟩) Y)(e:x.heap[g]?=w.heap[g]?):fB x (some ⟨g,0,none⟩) Y:=by
 refine⟨h.1,fun i hi=>?_⟩
 obtain⟨b,o,cs,ha,hr,hy⟩:=h.2 i hi
 cases ha
 exact⟨g,0,cs,rfl,(fO e _ _).trans hr,hy⟩
theorem Own.open{w:World}{base:Nat}{e:TypeId}{s:Sl}{rows:List (Array Value)}{g:Nat}(h:Own w base e 17 s rows)(hg:s.a=some ⟨g,0,none⟩):Open w g (rows.length*17):=by
 rcases h.own.2 with⟨hv,_⟩|⟨g',cap,cur,hv,_,hh,hle,_,hsz,_⟩
 ·rw[hg]at hv;cases hv
 ·have ha:s.a=some ⟨g',0,none⟩:=by injection hv
  rw[hg]at ha;cases ha
  exact⟨cur,e,hh,by rw[hsz];exact Nat.mul_le_mul_right _ hle⟩
abbrev kL(E:List EE):List (ByteArray×Value):=E.map fun x=>(textOf x.2.name,Value.agg (bC x))
end Go.WW
namespace Go.Proofs.YtaghcadlgbnbdaaGreatDoor
open Go.RowKit Go.WW
def Yb(E:List EE)(w:World)(z:Ending)(w':World):Prop:=∃(s:Sl) (Y:List EE),z=.returned (.slice s.a Y.length s.cap)∧Below w.heap.size w w'∧Y.Perm E∧Sorted dV dW Y∧aZ w' (fresh w.heap.size w') (fun x=>fB x s.a Y)
theorem ajn(e:Nat)(E:List EE)(w:World)(hm:MapOf w e (kL E))(hn:E.length≤12)(hD:(E.map dW).Nodup)(hN:∀x∈E,bz w x.1 x.2) :
  Calls Tryz.prog 62 #[.map (some e),.func (.func 63) #[] #[]] w (Yb E w):=by
 obtain⟨w1,hrange,hit,hb1,hs1⟩:=Ho (P:=Tryz.prog) Tryz.underlying86 hm
 have HD:=Lib.hid hD
 have HN:=Lib.hid hN
 have hel:=hm.lt
 have hd0:(kL E).length=E.length:=by simp
 clear hD hN
 go_enter Tryz.func62,Tryz.ntmps62
 go_wp2_with fail
 clear hrange
 go_loopw [5] (fun lv wr=>∃(so:Sl) (T left:List EE),lv=.slice so.a T.length so.cap∧Hid (kz wr w.heap.size e (kL E) (kL left))∧Hid ((T++left).Perm E)∧Go.WW.Own wr w1.heap.size 32 17 so (T.map bC)∧Below w.heap.size w wr∧w1.heap.size≤wr.heap.size∧(T=[]→so=⟨none,0⟩)) (fun lv _=>13-(match lv with | .slice _ k _=>k|_=>0))
 case atStart=>exact⟨⟨none,0⟩,[],E,rfl,hit,List.Perm.refl _,Go.WW.Own.nil _ _ _ _,hb1,Nat.le_refl _,fun _=>rfl⟩
 case round=>
  obtain⟨so,T,left,rfl,hI,hp,hO,hbr,o6,hnil⟩:=hrel
  have hlen:T.length+left.length=E.length:=by have:=hp.out.length_eq;simpa using this
  rcases Hq (P:=Tryz.prog) 0 hI.out with⟨hl0,hrun⟩|⟨l1,x,l2,w2,hl,hrun,hent,hI2,hb2,hs2⟩
  ·obtain rfl:left=[]:=by cases left<;>simp_all
   have xO:T.Perm E:=by simpa using hp.out
   rcases Nat.eq_zero_or_pos T.length with hT0|hT0
   ·obtain rfl:T=[]:=List.eq_nil_of_length_eq_zero hT0
    obtain rfl:=hnil rfl
    go_wp2_with fail
    refine(ajm wr).mono ?_
    rintro z w' ⟨rfl,rfl⟩
    dsimp only
    go_wp2_with fail
    go_ret
    exact⟨⟨none,0⟩,[],rfl,hbr,xO,List.Pairwise.nil,fun x _=>⟨by simp[lim],fun i hi=>by simp at hi⟩⟩
   ·obtain⟨g,hga,hgb,hg0⟩:=hO.row 0 (by simpa using hT0)
    have hge:=hO.base hgb
    obtain⟨sa,sc⟩:=so
    obtain rfl:sa=some ⟨g,0,none⟩:=hga
    have EO:jV g T T wr wr:=⟨List.Perm.refl _,But.refl _ _,fB.dX hO (by have:=Ya;omega),by simpa using hO.open rfl⟩
    have HS:=Lib.hid (ajj g sc T wr (by omega) EO ((xO.map dW).nodup_iff.2 HD.out) (fun y hy x hx=>(HN.out x (xO.mem_iff.1 hx)).name.later (zy hbr hy (fun j (hj:j=g)=>by omega))))
    clear EO
    go_wp2_with fail
    refine HS.out.mono ?_
    rintro z w' ⟨rfl,Y,hY,hso⟩
    dsimp only
    go_wp2_with fail
    have hbw:=zy hbr hY.but (fun j (hj:j=g)=>by omega)
    have Ji:=hY.perm.length_eq
    have hg':g<w'.heap.size:=by have:=hY.but.size;omega
    go_ret
    exact⟨⟨some ⟨g,0,none⟩,sc⟩,Y,by rw[Ji];rfl,hbw,hY.perm.trans xO,hso,fun x hx=>hY.rows.block (hx g ⟨by omega,hg'⟩)⟩
  ·obtain⟨L1,L',hL,e1,e2⟩:=List.map_eq_append_iff.1 hl
   obtain⟨y,L2,rfl,e3,e4⟩:=List.map_eq_cons_iff.1 e2
   subst e3 e1 e4 hL
   have hbw2:Below w.heap.size w w2:=zy hbr hb2 (fun j (hj:j=w.heap.size)=>by omega)
   have hown:Go.WW.Own ((w2.alloc (.cells (ae y.1 y.2) 32)).alloc (.cells (ae y.1 y.2) 32)) w1.heap.size 32 17 so (T.map bC):=hO.kept fun g hg=>by
    have hgb:=hO.base hg
    rw[Below.heap_alloc _ _ _ (by simp;omega),Below.heap_alloc _ _ _ (by omega)]
    exact hb2.block g hgb.2 (show ¬g=w.heap.size by omega)
   have hrun':(Instr.next (.pointer (some ⟨w.heap.size,0,none⟩)) false 0).run Tryz.prog wr=.ok (.tuple #[.bool true,.string (textOf y.2.name),.agg (ae y.1 y.2)]) w2:=hrun
   have EP:(Instr.entry (.pointer (some ⟨w.heap.size,0,none⟩))).run Tryz.prog w2=.ok (.tuple #[.string (textOf y.2.name),.agg (ae y.1 y.2)]) w2:=hent
   have hsrc:bJ ((w2.alloc (.cells (ae y.1 y.2) 32)).alloc (.cells (ae y.1 y.2) 32)) 17 (some ⟨w2.heap.size+1,0,none⟩) [ae y.1 y.2]:=by
    have:=bJ.new (w2.alloc (.cells (ae y.1 y.2) 32)) (ae y.1 y.2) 32 17 (by simp[go_sem]) (by simp[go_sem])
    rwa[World.size_alloc]at this
   have HS2:=Lib.hid hs2
   clear hrun hent hs2
   go_wp2_with (at_builtin;refine gK rfl (.tmp 14) (.tmp 16) _ rfl vM (n:=T.length) (rows:=T.map bC) (news:=[ae y.1 y.2]) rfl (by simp) hown rfl rfl hsrc (by rw[List.length_map];simp;omega) (by have:=HS2.out;simp;omega) ?_;intro s3 w3 hown3 hg3 fQ)
   have hs2:=HS2.out
   have oZ:Below w.heap.size w ((w2.alloc (.cells (ae y.1 y.2) 32)).alloc (.cells (ae y.1 y.2) 32)):=aC (aC hbw2 _) _
   have hb3:Below w.heap.size w w3:=oZ.grown hg3 oZ.size (fun g hg=>by have:=(hown.base hg).1;omega)
   have hs3:=hg3.size
   have hkp:∀k,k<w1.heap.size→w3.heap[k]?=w2.heap[k]?:=fun k hk=>by
    rw[hg3.block k (by simp;omega) (fun e=>by have:=(hown.base e.symm).1;omega),Below.heap_alloc _ _ _ (by simp;omega),Below.heap_alloc _ _ _ (by omega)]
   have HI3:=Lib.hid (hI2.at (hkp w.heap.size (by omega)) (hkp e (by omega)))
   have ER:=Lib.hid (show((T++[y])++(L1++L2)).Perm E from List.Perm.trans (by simpa using List.perm_middle.symm.append_left T) hp.out)
   have OJ:Go.WW.Own w3 w1.heap.size 32 17 s3 ((T++[y]).map bC):=by rw[List.map_append];exact hown3
   have hsz3:w1.heap.size≤w3.heap.size:=by simp at hs3;omega
   have hTl:T.length+1≤12:=by simp at hlen;omega
   clear hown hown3 hg3 fQ hI2 hb2 hbw2 hkp oZ hs3 HS2 hs2
   go_wp2_with fail
   go_roundw
   case rel=>exact⟨s3,T++[y],L1++L2,by simp,by simpa[Hid]using HI3.out,ER.out,OJ,hb3,hsz3,by simp⟩
   case measure=>simp;omega
end Go.Proofs.YtaghcadlgbnbdaaGreatDoor
namespace Go.WW
open Go.RowKit
def Yc(S:Nat→Prop)(w:World)(_:Nat)(x:EE×Nat)(v:Array Value)(_ _:World):Prop:=v=#[.int .i64 x.2,.agg (bC x.1)]∧∀y,But (Off S w) w y→bz y x.1.1 x.1.2
structure uF(y:World)(a:Option Addr)(Y:List EE):Prop where
 rows:fB y a Y
 each:∀x∈Y,bz y x.1 x.2
end Go.WW
namespace Go.Proofs.YtaghcadlgbnbdaaGreatDoor
open Go.RowKit Go.WW
theorem ajo(b n e p:Nat)(re:ByteArray)(s:Int)(N:List (ByteArray×Value))(E:List EE)(P:List ah)(w:World)(h:bT w b n e p re s N E P)(hn:E.length≤12)(hD:(E.map dW).Nodup)(hN:∀x∈E,bz w x.1 x.2) :
  Calls Tryz.prog 28 #[.pointer (some ⟨b,0,none⟩)] w (Yb E w):=by
 obtain⟨c0,c1,c2,c3,c4,f1,hl⟩:=fH h.box
 have HI:=Lib.hid (ajn e E w h.em hn hD hN)
 clear hD hN
 go_enter Tryz.func28,Tryz.ntmps28
 go_wp2_with fail
 refine HI.out.mono ?_
 rintro z w' ⟨sl,Y,rfl,hY⟩
 dsimp only
 go_wp2_with fail
 go_ret
 exact⟨sl,Y,rfl,hY⟩
theorem ajp(b n e p:Nat)(re:ByteArray)(s:Int)(N:List (ByteArray×Value))(E:List EE)(P:List ah)(w:World)(h:bT w b n e p re s N E P)(hre:¬re=⟨#[]⟩)(hn:E.length≤12)(hD:(E.map dW).Nodup)(hN:∀x∈E,bz w x.1 x.2) :
  Calls Tryz.prog 7 #[.pointer (some ⟨b,0,none⟩)] w fun z w'=>∃(sl:Sl) (Y:List EE),z=.returned (.func (.func 29) #[] #[.pointer (some ⟨w.heap.size,0,none⟩)])∧Below w.heap.size w w'∧w'.heap[w.heap.size]?=some (.cells #[.slice sl.a Y.length sl.cap] 41)∧Y.Perm E∧Sorted dV dW Y∧aZ w' (fresh w.heap.size w') (fun x=>fB x sl.a Y):=by
 have hB:Below w.heap.size w (w.alloc (.cells #[.slice none 0 0] 41)):=(Below.refl _ _).alloc (Nat.le_refl _) _
 have hx3:(w.alloc (.cells #[.slice none 0 0] 41)).heap[w.heap.size]?=some (.cells #[.slice none 0 0] 41):=World.alloc_heap_new _ _
 have h':=h.later hB
 have HE:=Lib.hid (ajo b n e p re s N E P _ h' hn hD (fun x hx=>(hN x hx).later hB))
 have hW:w.heap.size<(w.alloc (.cells #[.slice none 0 0] 41)).heap.size:=by simp
 clear hD hN
 go_enter Tryz.func7,Tryz.ntmps7
 go_wp2_with fail
 generalize (w.alloc (.cells #[.slice none 0 0] 41))=W at *
 obtain⟨c0,c1,c2,c3,c4,f1,hl⟩:=fH h'.box
 refine(lq _ _ _ c0 hre).mono ?_
 rintro x w' ⟨rfl,rfl⟩
 dsimp only
 go_wp2_with fail
 refine HE.out.mono ?_
 rintro z w2 ⟨sl,Y,rfl,hb2,hp,hso,hd⟩
 dsimp only
 have hx2:=aA hb2 hx3
 have hcx:w2.cell? ⟨w.heap.size,0,none⟩=some (.slice none 0 0):=(ai hx2).1 0
 have hfx:w2.frozen? ⟨w.heap.size,0,none⟩=false:=(ai hx2).2.1 0
 have hlx:w.heap.size<w2.heap.size:=(Array.getElem?_eq_some_iff.1 hx2).1
 go_wp2_with fail
 have hset:=cZ (o:=0) (.slice sl.a Y.length sl.cap) hx2
 have hsz:(w2.setCell ⟨w.heap.size,0,none⟩ (.slice sl.a Y.length sl.cap)).heap.size=w2.heap.size:=by simp[World.setCell]
 go_ret
 refine⟨sl,Y,rfl,(ag hB hb2).setCell (Nat.le_refl _) _,hset,hp,hso,fun x hx=>hd x fun k hk=>?_⟩
 have hk1:=hk.1
 have hk2:=hk.2
 rw[hx k ⟨by omega,by omega⟩]
 exact Below.heap_setCell _ _ _ _ (show k≠w.heap.size by omega)
theorem ajq(a:Option Addr)(n cap:Nat)(w:World):Calls Tryz.prog 30 #[.slice a n cap] w fun e w'=>e=.returned (.func (.func 65) #[] #[.pointer (some ⟨w.heap.size,0,none⟩)])∧w'=w.alloc (.cells #[.slice a n cap] 41):=by
 go_enter Tryz.func30,Tryz.ntmps30
 go_wp2
 go_ret
 exact⟨rfl,rfl⟩
attribute [local go_sem] Oper.semAt_some
theorem ajr(b cap:Nat)(a:Option Addr)(Y:List EE)(S:Nat→Prop)(w:World)(hc:w.cell? ⟨b,0,none⟩=some (.slice a Y.length cap))(hL:∀y,But (Off S w) w y→uF y a Y) :
  AQ Tryz.prog 65 #[.pointer (some ⟨b,0,none⟩)] S Y.zipIdx (Yc S w) w:=by
 intro l J Jx W hW hl1 hl2 h0 hJ hJx hY
 have hn:Y.length≤4294967000:=(hL w (But.refl _ _)).rows.1
 have hcW:W.cell? ⟨b,0,none⟩=some (.slice a Y.length cap):=(hW.cell (World.block_lt_of_cell? w _ hc)).trans hc
 have D7:But (Off S w) w W:=But.of_below hW
 have HJ:=Lib.hid hJ
 have xn:=Lib.hid hJx
 have HY:=Lib.hid hY
 have HL:=Lib.hid hL
 have H0:=Lib.hid (h0 W.heap.size W (Nat.le_refl _) (Nat.le_refl _) (Below.refl _ _))
 clear hJ hJx hY hL h0
 refine(callsIn_wide (n:=0)).1 ?_
 refine callsIn_of_wp Tryz.func65 rfl trivial ?_ rfl
 simp only[Tryz.ntmps65,List.size_toArray,List.length_cons,List.length_nil,Nat.reduceAdd,Nat.reduceSub,Array.replicate_succ,Array.replicate_zero,List.push_toArray,List.append_toArray,List.nil_append,List.cons_append]
 rcases Nat.eq_zero_or_pos Y.length with hX|hX
 ·obtain rfl:Y=[]:=List.eq_nil_of_length_eq_zero hX
  gi_wp2
  refine wpIn_loop_rounds 1 ?_
  rw[roundsIn_succ]
  gi_wp2
  go_end0
  exact⟨⟨_,rfl⟩,.inl ⟨_,H0.out⟩⟩
 obtain⟨B,o,-,rfl,-⟩:=(HL.out w (But.refl _ _)).rows.2 0 hX
 gi_wp2
 gi_loopw [7] (fun iv wr=>∃i:Nat,i≤Y.length∧iv=.int .i64 i∧Hid (J W.heap.size i wr)∧Hid (But (Off S w) w wr)∧W.heap.size≤wr.heap.size) (fun iv _=>Y.length-(intOf iv).toNat)
 case atStart=>exact⟨0,Nat.zero_le _,rfl,H0,D7,Nat.le_refl _⟩
 case round=>
  obtain⟨i,hi,rfl,hj,hbu,hsz⟩:=hrel
  by_cases hlt:i<Y.length
  ·have hki:(i:Int)<(Y.length:Int):=by omega
   have hr:=(HL.out wr hbu.out).rows.at i hlt
   have HP:=Lib.hid (fun y hy=>(HL.out y hy).each _ (List.getElem_mem hlt))
   have hx:(Y.zipIdx)[i]?=some (Y[i],i):=by rw[List.getElem?_zipIdx];simp[hlt]
   generalize Y[i]=x at *
   obtain⟨r,d⟩:=x
   have hr':row? wr B (o+i*17) 17=some (ae r d):=hr
   clear hr
   have hal:But (Off S w) w (wr.alloc (.cells (ae r d) 32)):=hbu.out.trans (But.of_below ((Below.refl _ wr).alloc (Nat.le_refl _) _))
   obtain⟨fn,tmps,assign,body,hy,hR⟩:=HY.out W.heap.size i ((r,d),i) #[.int .i64 i,.agg (ae r d)] wr (wr.alloc (.cells (ae r d) 32)) hx hj.out (But.of_below ((Below.refl _ wr).alloc (Nat.le_refl _) _)) ⟨rfl,HP.out⟩ (Nat.le_refl _) hsz
   gi_wp2
   refine⟨rfl,hR.mono ?_⟩
   rintro e W3 ⟨hb3,h3⟩
   have HB3:=Lib.hid (show But (Off S w) w W3 from hal.trans (hb3.mono fun k hk=>by
    rcases hk with(hk|rfl)|hk
    ·exact .inl hk
    ·exact .inr hl1
    ·exact .inr (Nat.le_trans hW.size hk)))
   have vk:W.heap.size≤W3.heap.size:=by have:=hb3.size;simp at this;omega
   clear hal hy hR hb3
   rcases h3 with⟨rfl,hj3⟩|⟨rfl,hx3⟩
   ·have qR:=Lib.hid hj3
    clear hj3
    gi_wp2
    go_roundw
    case rel=>exact⟨i+1,by omega,by go_num,qR.out,HB3.out,vk⟩
    case measure=>simp[intOf];omega
   ·have qR:=Lib.hid hx3
    clear hx3
    gi_wp2
    refine bodyPost_ret (results_none rfl _ _ _) rfl ?_
    exact⟨⟨_,rfl⟩,.inr ⟨_,_,qR.out⟩⟩
  ·obtain rfl:i=Y.length:=by omega
   gi_wp2
   go_end0
   exact⟨⟨_,rfl⟩,.inl ⟨_,by simpa using hj.out⟩⟩
end Go.Proofs.YtaghcadlgbnbdaaGreatDoor
namespace Go.WW
open Go.RowKit
def VE(_:Nat)(x:EE×Nat)(v:Array Value)(W0 W1:World):Prop:=∃r,v=#[.int .i64 x.2,.agg (ae r x.1.2)]∧aZ W1 (fresh W0.heap.size W1) (fun y=>bz y r x.1.2)
end Go.WW
namespace Go.Proofs.YtaghcadlgbnbdaaGreatDoor
open Go.RowKit Go.WW
attribute [local go_sem] Oper.semAt_some
end Go.Proofs.YtaghcadlgbnbdaaGreatDoor
namespace Go.WW
open Go.RowKit
def Yd:ah:=⟨⟨#[110,111,110,101]⟩,1,1,0,0,0,0,0,0,0⟩
def arB(P:List ah)(d:Entry):ah:=if d.aK=⟨#[]⟩then Yd else(P.find? (fun x=>decide (x.name=d.aK))).getD ni
end Go.WW
namespace Go.Proofs.YtaghcadlgbnbdaaGreatDoor
open Go.RowKit Go.WW
theorem ajs(w:World):(mW 35 #[(0,.string ⟨#[110,111,110,101]⟩),(1,.int .i64 1),(2,.int .i64 1)]).run Tryz.prog w=.ok (.value (.agg (az Yd))) w:=by kernel_rfl
attribute [go_sem] ajs
end Go.Proofs.YtaghcadlgbnbdaaGreatDoor
namespace Go.WW
def l9(P:List ah)(d:Entry):Prop:=d.aK=⟨#[]⟩∨P.any (fun x=>decide (x.name=d.aK))=true
end Go.WW
namespace Go.Proofs.YtaghcadlgbnbdaaGreatDoor
open Go.RowKit Go.WW
end Go.Proofs.YtaghcadlgbnbdaaGreatDoor
namespace Go.WW
open Go.RowKit
theorem Ye{α β:Type}(f:α→β)(l:List α)(i:Nat):(l.eraseIdx i).map f=(l.map f).eraseIdx i:=by
 simp only[List.eraseIdx_eq_take_drop_succ,List.map_append,List.map_take,List.map_drop]
def ja(S:Nat→Prop)(w:World)(Φ:World→Prop):Prop:=∀y,But S w y→Φ y
theorem ja.on{S:Nat→Prop}{w w':World}{Φ:World→Prop}(h:ja S w Φ)(hb:But S w w'):ja S w' Φ:=fun y hy=>h y (hb.trans hy)
theorem ja.later{S:Nat→Prop}{w w':World}{Φ:World→Prop}(h:ja S w Φ)(hb:Below w.heap.size w w'):ja S w' Φ:=h.on (But.of_below hb)
theorem ja.out{S:Nat→Prop}{w:World}{Φ:World→Prop}(h:ja S w Φ):Φ w:=h w (But.refl _ _)
theorem ja.ES{S:Nat→Prop}{w:World}{base:Nat}{Φ:World→Prop}(h:aZ w (fresh base w) Φ)(hS:∀k,S k→k<base):ja S w Φ:=
 fun y hy=>h y fun k hk=>hy.block k hk.2 fun hs=>by have:=hS k hs;have:=hk.1;omega
structure gW(S:Nat→Prop)(es ps:Sl)(D:Db)(X:List EE)(w:World):Prop where
 dR:ja S w (fun y=>uF y es.a X)
 eu:ja S w (fun y=>fG y ps.a D.ax)
 cap:D.ax.length≤ps.cap
theorem gW.on{S:Nat→Prop}{es ps:Sl}{D:Db}{X:List EE}{w w':World}(h:gW S es ps D X w)(hb:But S w w'):gW S es ps D X w':=⟨h.dR.on hb,h.eu.on hb,h.cap⟩
theorem gW.later{S:Nat→Prop}{es ps:Sl}{D:Db}{X:List EE}{w w':World}(h:gW S es ps D X w)(hb:Below w.heap.size w w'):gW S es ps D X w':=h.on (But.of_below hb)
inductive ou(D:Db)(q:ah):Int→Db→Prop where
 |bad (hv:dN q=false):ou D q 2 D
 |new (hv:dN q=true) (hn:D.ax.any (fun x=>decide (x.name=q.name))=false):ou D q 0 {D with ax:=dY q (-1) 0 false D.ax,ay:=D.ay+1}
 |old (hv:dN q=true) (i:Nat) (hi:i<D.ax.length) (hn:D.ax[i].name=q.name):ou D q 0 {D with ax:=dY q (i:Int) 0 false D.ax,ay:=D.ay+1}
inductive nG(D:Db)(X:List EE)(r:aI)(d:Entry):Int→Db→List EE→Prop where
 |bad (hv:bF d=false∨¬d.name.aG=D.aG):nG D X r d 2 D X
 |vV (hv:bF d=true) (hre:d.name.aG=D.aG) (hpe:¬d.aK=⟨#[]⟩) (hn:D.ax.any (fun x=>decide (x.name=d.aK))=false):nG D X r d 9 D X
 |busy (hv:bF d=true) (hre:d.name.aG=D.aG) (hp:l9 D.ax d) (hx:∃x∈X.map (·.2),iF x d=true∧textOf x.name≠textOf d.name):nG D X r d 11 D X
 |put (hv:bF d=true) (hre:d.name.aG=D.aG) (hp:l9 D.ax d) (hx:∀x∈X.map (·.2),iF x d=true→textOf x.name=textOf d.name) (X1:List EE) (hs:X1.Sublist X) (h1:X1.map (·.2)=jK (X.map (·.2)) (textOf d.name)) :
   nG D X r d 0 {D with entries:=(jH dV dW (r,d) X1).map (·.2),ay:=D.ay+1} (jH dV dW (r,d) X1)
structure iG(D:Db)(X:List EE)(NL:List (ByteArray×ByteArray))(E:List EE)(P:List ah):Prop where
 eq:D.entries=X.map (·.2)
 names:vT NL (E.map (·.2))
 good:gy (E.map (·.2))
 perm:(E.map (·.2)).Perm (X.map (·.2))
 sorted:Sorted dV dW X
 eu:lZ P D.ax
 has:∀x∈X,l9 D.ax x.2
theorem iG.BB{D:Db}{X:List EE}{NL:List (ByteArray×ByteArray)}{E:List EE}{P:List ah}(h:iG D X NL E P):gy (X.map (·.2)):=h.good.perm h.perm.symm
theorem l9.mono{L L':List ah}{d:Entry}(h:l9 L d)(hL:∀x∈L,∃y∈L',y.name=x.name):l9 L' d:=by
 rcases h with h|h
 ·exact .inl h
 ·obtain⟨x,hx,e⟩:=List.any_eq_true.1 h
  obtain⟨y,hy,e'⟩:=hL x hx
  exact .inr (List.any_eq_true.2 ⟨y,hy,by simpa[e']using e⟩)
theorem ajt{D D':Db}{q:ah}{no:Int}(h:ou D q no D')(hn:(D.ax.map (·.name)).Nodup):∀x∈D.ax,∃y∈D'.ax,y.name=x.name:=by
 intro x hx
 cases h with
 |bad hv=>exact⟨x,hx,rfl⟩
 |new hv hn=>
  have hp:=zx q (-1) D.ax 0 false
  rw[OD]at hp
  exact⟨x,hp.mem_iff.2 (by simp[hx]),rfl⟩
 |old hv i hi hnm=>
  have hp:=zx q (i:Int) D.ax 0 false
  have hr:=OE D.ax 0 i
  rw[Nat.zero_add]at hr
  rw[hr,Jf (·.name) hn hi,hnm]at hp
  by_cases e:x.name=q.name
  ·exact⟨q,hp.mem_iff.2 (by simp),e.symm⟩
  ·exact⟨x,hp.mem_iff.2 (by simp[hx,e]),rfl⟩
theorem Yf{D D':Db}{q:ah}{no:Int}(h:ou D q no D'):D'.entries=D.entries∧D'.aG=D.aG∧D.ay≤D'.ay∧D'.ay≤D.ay+1∧D'.ax.length≤D.ax.length+1:=by
 cases h with
 |bad hv=>exact⟨rfl,rfl,by omega,by omega,by omega⟩
 |new hv hn=>exact⟨rfl,rfl,by simp;omega,by simp,I8 _ _ _ _ _⟩
 |old hv i hi hnm=>exact⟨rfl,rfl,by simp;omega,by simp,I8 _ _ _ _ _⟩
theorem aju{D D':Db}{X X':List EE}{r:aI}{d:Entry}{no:Int}(h:nG D X r d no D' X'):D'.ax=D.ax∧D'.aG=D.aG∧D.ay≤D'.ay∧D'.ay≤D.ay+1∧X'.length≤X.length+1∧(D.entries=X.map (·.2)→D'.entries=X'.map (·.2))∧(∀x∈X',x=(r,d)∨x∈X):=by
 cases h with
 |bad hv=>exact⟨rfl,rfl,by omega,by omega,by omega,id,fun x hx=>.inr hx⟩
 |vV hv hre hpe hn=>exact⟨rfl,rfl,by omega,by omega,by omega,id,fun x hx=>.inr hx⟩
 |busy hv hre hp hx=>exact⟨rfl,rfl,by omega,by omega,by omega,id,fun x hx=>.inr hx⟩
 |put hv hre hp hx X1 hs h1=>
  refine⟨rfl,rfl,by simp;omega,by simp,?_,fun _=>rfl,fun x hx=>?_⟩
  ·rw[ahZ];have:=hs.length_le;omega
  ·rcases List.mem_cons.1 ((xg dW (r,d) X1).mem_iff.1 hx)with e|hx
   ·exact .inl e
   ·exact .inr (hs.mem hx)
theorem iG.put{D:Db}{X:List EE}{NL:List (ByteArray×ByteArray)}{E:List EE}{P:List ah}{r r':aI}{d:Entry}(h:iG D X NL E P)(hv:bF d=true)(hp:l9 D.ax d)(hx:∀x∈X.map (·.2),iF x d=true→textOf x.name=textOf d.name)(X1:List EE)(hs:X1.Sublist X)(h1:X1.map (·.2)=jK (X.map (·.2)) (textOf d.name))
  {N1:List (ByteArray×Value)} {E1:List EE} (hR:uw (gQ NL) E (textOf d.name) N1 E1) :
  uy NL (textOf d.name) (iM d)∧∃mf,rQ N1 (textOf d.name) (iM d)=gQ mf∧iG {D with entries:=(jH dV dW (r,d) X1).map (·.2),ay:=D.ay+1} (jH dV dW (r,d) X1) mf (E1++[(r',d)]) P:=by
 have hf:uy NL (textOf d.name) (iM d):=OC.2 fun hb=>by
  obtain⟨x,jl,hxb,qx⟩:=(XR h.names h.good hv).1 hb
  exact qx (hx x (h.perm.mem_iff.1 jl) hxb)
 have hE1:∃zu,N1=gQ zu∧E1.map (·.2)=jK (E.map (·.2)) (textOf d.name)∧vT zu (E1.map (·.2)):=by
  rcases hR with⟨x,jl,qx,rfl,rfl⟩|⟨hno,rfl,rfl⟩
  ·have e1:(qm E (textOf d.name)).map (·.2)=jK (E.map (·.2)) (textOf d.name):=by
    unfold qm jK
    rw[List.filter_map];rfl
   refine⟨xN NL (iM x.2),OB _ _,e1,?_⟩
   rw[e1,←qx]
   exact XP h.names h.good (List.mem_map.2 ⟨x,jl,rfl⟩)
  ·refine⟨NL,rfl,(XO fun x hx'=>?_).symm,h.names⟩
   obtain⟨y,hy,rfl⟩:=List.mem_map.1 hx'
   exact hno y hy
 obtain⟨zu,rfl,e1,hn1⟩:=hE1
 have hm:∀x∈E1.map (·.2),x∈E.map (·.2)∧textOf x.name≠textOf d.name:=fun x hx'=>by rw[e1]at hx';exact Jd.1 hx'
 refine⟨hf,zt zu (textOf d.name) (iM d),XL _ _ _,rfl,?_,?_,?_,?_,h.eu,fun x hx'=>?_⟩
 ·rw[List.map_append]
  exact ai6 h.names hn1 hm hf
 ·rw[List.map_append]
  refine ai7 h.names h.good hv hm ?_ hf
  rw[e1]
  exact(List.filter_sublist.map _).nodup h.good.nodup
 ·rw[List.map_append,e1]
  refine((h.perm.filter _).append_right [d]).trans ?_
  show(jK (X.map (·.2)) (textOf d.name)++[d]).Perm _
  rw[←h1]
  have hi:=(xg (c:=dV) dW (r,d) X1).map (fun x:EE=>x.2)
  rw[List.map_cons]at hi
  exact(List.perm_append_singleton _ _).trans hi.symm
 ·refine TZ dW MC (r,d) X1 (h.sorted.sublist hs) fun x hx' e=>?_
  have:x.2∈jK (X.map (·.2)) (textOf d.name):=by rw[←h1];exact List.mem_map.2 ⟨x,hx',rfl⟩
  exact(Jd.1 this).2 (congrArg textOf e)
 ·rcases List.mem_cons.1 ((xg dW (r,d) X1).mem_iff.1 hx')with rfl|hx'
  ·exact hp
  ·exact h.has x (hs.mem hx')
end Go.WW
namespace Go.Proofs.YtaghcadlgbnbdaaGreatDoor
open Go.RowKit Go.WW
structure jm(S:Nat→Prop)(b n e p:Nat)(re:ByteArray)(s:Int)(NL:List (ByteArray×ByteArray))(E:List EE)(P:List ah)(w:World):Prop where
 db:bT w b n e p re s (gQ NL) E P
 keep:∀x∈E,lC S w x
 sub:∀k,aX b n e p k→S k
theorem jm.later{S:Nat→Prop}{b n e p:Nat}{re:ByteArray}{s:Int}{NL:List (ByteArray×ByteArray)}{E:List EE}{P:List ah}{w w':World}(h:jm S b n e p re s NL E P w)(hb:Below w.heap.size w w'):jm S b n e p re s NL E P w':=⟨h.db.later hb,fun x hx=>(h.keep x hx).on (But.of_below hb),h.sub⟩
theorem jm.lt{S:Nat→Prop}{b n e p:Nat}{re:ByteArray}{s:Int}{NL:List (ByteArray×ByteArray)}{E:List EE}{P:List ah}{w:World}(h:jm S b n e p re s NL E P w):∀k,aX b n e p k→k<w.heap.size:=fun k hk=>Classical.byContradiction fun hn=>qo h.db k (by omega) hk
theorem ajv(S:Nat→Prop)(es ps:Sl)(D:Db)(X:List EE)(q:ah)(w:World)(h:gW S es ps D X w)(hS:∀k,S k→k<w.heap.size)(hs:q.name.size≤lim)(hn:D.ax.length<64)(hs0:0≤D.ay)(hs1:D.ay<1000000) :
  Calls Tryz.prog 39 #[.agg (aj es ps D),.agg (az q)] w fun z w'=>∃(no:Int) (ps':Sl) (D':Db),z=.returned (.tuple #[.agg (aj es ps' D'),.int .i64 no])∧Below w.heap.size w w'∧gW S es ps' D' X w'∧ou D q no D':=by
 have out:∀(k:Int),ou D q 0 {D with ax:=dY q k 0 false D.ax,ay:=D.ay+1}→∀(z:Ending) (w':World),Ov es {D with ax:=dY q k 0 false D.ax,ay:=D.ay+1} 0 w z w'→
   ∃(no:Int) (ps':Sl) (D':Db),z=.returned (.tuple #[.agg (aj es ps' D'),.int .i64 no])∧Below w.heap.size w w'∧gW S es ps' D' X w'∧ou D q no D':=by
  rintro k hk z w' ⟨s,rfl,hb,hd⟩
  exact⟨0,s,_,rfl,hb,⟨h.dR.later hb,fun y hy=>(ja.ES hd hS y hy).1,hd.out.2⟩,hk⟩
 cases hv:dN q with
 |false=>
  refine(aiQ es ps D q w hs hv).mono ?_
  rintro z w' ⟨rfl,hb⟩
  exact⟨2,ps,D,rfl,hb,h.later hb,.bad hv⟩
 |true=>
  have hp:=h.eu.out
  rcases BA D.ax q.name with⟨hi,ha⟩|⟨i,hil,hi,hnm,-⟩
  ·exact(XC es ps D q w hs hv hp hn hs0 hs1 _ hi).mono (out (-1) (.new hv ha))
  ·exact(XC es ps D q w hs hv hp hn hs0 hs1 _ hi).mono (out i (.old hv i hil hnm))
theorem ajw(S:Nat→Prop)(es ps:Sl)(D:Db)(X:List EE)(r:aI)(d:Entry)(w:World)(h:gW S es ps D X w)(hS:∀k,S k→k<w.heap.size)(hk:lC S w (r,d))(hD:D.entries=X.map (·.2))(hg:gy (X.map (·.2)))(hn:X.length≤1000)(hs0:0≤D.ay)(hs1:D.ay<1000000) :
  Calls Tryz.prog 35 #[.agg (aj es ps D),.agg (ae r d)] w fun z w'=>∃(no:Int) (es':Sl) (D':Db) (X':List EE),z=.returned (.tuple #[.agg (aj es' ps D'),.int .i64 no])∧Below w.heap.size w w'∧gW S es' ps D' X' w'∧nG D X r d no D' X':=by
 have he:=hk.out
 have hX:=h.dR.out.rows
 have hm:=h.dR.out.each
 have hp:=h.eu.out
 have same:∀(no:Int),nG D X r d no D X→∀(z:Ending) (w':World),(z=.returned (.tuple #[.agg (aj es ps D),.int .i64 no])∧Below w.heap.size w w')→
   ∃(no:Int) (es':Sl) (D':Db) (X':List EE),z=.returned (.tuple #[.agg (aj es' ps D'),.int .i64 no])∧Below w.heap.size w w'∧gW S es' ps D' X' w'∧nG D X r d no D' X':=by
  rintro no hst z w' ⟨rfl,hb⟩
  exact⟨no,es,D,X,rfl,hb,h.later hb,hst⟩
 have out:∀(X':List EE),(∀x∈X',x=(r,d)∨x∈X)→nG D X r d 0 {D with entries:=X'.map (·.2),ay:=D.ay+1} X'→∀(z:Ending) (w':World),Ja ps D X' w z w'→
   ∃(no:Int) (es':Sl) (D':Db) (X':List EE),z=.returned (.tuple #[.agg (aj es' ps D'),.int .i64 no])∧Below w.heap.size w w'∧gW S es' ps D' X' w'∧nG D X r d no D' X':=by
  rintro X' hX' hst z w' ⟨s,rfl,hb,hd⟩
  refine⟨0,s,_,X',rfl,hb,⟨fun y hy=>⟨ja.ES hd hS y hy,fun x hx=>?_⟩,h.eu.later hb,h.cap⟩,hst⟩
  rcases hX' x hx with rfl|hx
  ·exact hk y ((But.of_below hb).trans hy)
  ·exact(h.dR y ((But.of_below hb).trans hy)).each x hx
 cases hv:bF d with
 |false=>exact(aiT es ps D r d w he hv).mono (same 2 (.bad (.inl hv)))
 |true=>
  by_cases hre:d.name.aG=D.aG
  ·by_cases hp0:l9 D.ax d
   ·have zl:d.aK=⟨#[]⟩∨(fG w ps.a D.ax∧¬d.aK=⟨#[]⟩∧∃jp:Nat,idxOf (fun z=>decide (z.name=d.aK)) D.ax=(jp:Int)):=by
     by_cases hpe:d.aK=⟨#[]⟩
     ·exact .inl hpe
     ·rcases BA D.ax d.aK with⟨-,ha'⟩|⟨jp,hjp,hi,hnm,-⟩
      ·rcases hp0 with h|h
       ·exact .inl h
       ·rw[h]at ha';cases ha'
      ·exact .inr ⟨hp,hpe,jp,hi⟩
    rcases ai9 hg hv with⟨at0,jb,hj,hat,hb,hpre,hna,hx⟩|⟨hat,hnb,hno,hx⟩|⟨i0,hi0,hat,hnb,hen,hx⟩
    ·exact Oy es ps D r d w he X hX hm hD hn hv hre zl at0 (by rw[hD];exact hat) hs0 hs1 _ (fun _ _ _ _=>same 11 (.busy hv hre hp0 hx)) (fun h=>absurd (h jb (by simpa using hj) (by simpa using hb)) hna)
    ·refine Oy es ps D r d w he X hX hm hD hn hv hre zl (-1) (by rw[hD];exact hat) hs0 hs1 _ (fun j h hb hne=>absurd (hnb j (by simpa using h) (by simpa using hb)) hne) (fun _ X5 h5=>?_)
     obtain rfl:X=X5:=by
      rcases h5 with h|⟨i,-,h,-⟩
      ·exact h.2.symm
      ·omega
     refine out _ (fun x hx'=>?_) (.put hv hre hp0 hx X (List.Sublist.refl _) (XO hno).symm)
     rcases List.mem_cons.1 ((xg dW (r,d) X).mem_iff.1 hx')with e|hx'
     all_goals first|exact .inl e|exact .inr hx'
    ·have hsub:=List.eraseIdx_sublist X i0
     refine Oy es ps D r d w he X hX hm hD hn hv hre zl i0 (by rw[hD];exact hat) hs0 hs1 _ (fun j h hb hne=>absurd (hnb j (by simpa using h) (by simpa using hb)) hne) (fun _ X5 h5=>?_)
     obtain rfl:X5=X.eraseIdx i0:=by
      rcases h5 with h|⟨i,-,h1,h2⟩
      ·omega
      ·rw[h2,show i=i0 by omega]
     refine out _ (fun x hx'=>?_) (.put hv hre hp0 hx (X.eraseIdx i0) hsub ?_)
     ·rcases List.mem_cons.1 ((xg dW (r,d) _).mem_iff.1 hx')with e|hx'
      all_goals first|exact .inl e|exact .inr (hsub.mem hx')
     ·have:=XU hg.nodup hi0
      rw[hen]at this
      rw[←this,Ye]
   ·rcases BA D.ax d.aK with⟨hi,ha⟩|⟨i,hil,hi,hnm,ha'⟩
    ·exact(aiV es ps D r d w he hv hre hp (fun h=>hp0 (.inl h)) hi).mono (same 9 (.vV hv hre (fun h=>hp0 (.inl h)) ha))
    ·exact absurd (.inr ha') hp0
  ·exact(aiU es ps D r d w he hv hre).mono (same 2 (.bad (.inr hre)))
end Go.Proofs.YtaghcadlgbnbdaaGreatDoor
namespace Go.WW
open Go.RowKit
def fU(p:aB):ByteArray:=if bD p=true then textOf p else⟨#[]⟩
theorem OL{p:aB}(h:bD p=true):fU p=textOf p:=if_pos h
theorem Yg{p:aB}(h:bD p=false):fU p=⟨#[]⟩:=if_neg (by rw[h];exact Bool.false_ne_true)
theorem ajx(p:aB):textOf p≠⟨#[]⟩:=by
 intro h
 have h1:(rC p).toArray=#[]:=congrArg ByteArray.data h
 have h2:rC p=[]:=by simpa using h1
 unfold rC at h2
 simp at h2
theorem OM{x q:aB}(hx:bD x=true):textOf x=fU q↔bn x q=true:=by
 constructor
 ·intro h
  cases hq:bD q with
  |true=>rw[OL hq]at h;exact(Nq (xB hx) (xB hq)).1 h
  |false=>rw[Yg hq]at h;exact absurd h (ajx x)
 ·intro h
  obtain rfl:=Bc.1 h
  exact(OL hx).symm
end Go.WW
namespace Go.Proofs.YtaghcadlgbnbdaaGreatDoor
open Go.RowKit Go.WW
theorem ajy(s:Sl)(p:aB)(w:World)(hp:bg w s p)(hok:bD p=false):Calls Tryz.prog 111 #[.agg (ak s p)] w fun e w'=>e=.returned (.tuple #[.string ⟨#[]⟩,.int .i64 2])∧Below w.heap.size w w':=by
 have hB0:Below w.heap.size w (w.alloc (.cells (ak s p) 25)):=(Below.refl _ w).alloc (Nat.le_refl _) _
 have hpL:=hp.later hB0
 go_enter Tryz.func111,Tryz.ntmps111
 go_wp2_with fail
 refine(Ed _ _ _ hpL).mono ?_
 rintro e w1 ⟨rfl,hb1⟩
 rw[hok]
 obtain⟨hcc,aU,hrr⟩:=bf hb1
 have hsz:w.heap.size<w1.heap.size:=by have:=hb1.size;simp at this;omega
 go_wp2_with fail
 go_ret2
 exact⟨rfl,ag hB0 hb1⟩
theorem rW(s:Sl)(p:aB)(w:World)(hp:bg w s p):Calls Tryz.prog 55 #[.agg (ak s p)] w fun e w'=>e=.returned (.string (fU p))∧Below w.heap.size w w':=by
 cases hok:bD p with
 |true=>rw[OL hok];exact rH s p w hp hok
 |false=>
  rw[Yg hok]
  have hB:Below w.heap.size w (w.alloc (.cells (ak s p) 25)):=(Below.refl _ _).alloc (Nat.le_refl _) _
  go_enter Tryz.func55,Tryz.ntmps55
  go_wp2_with fail
  refine(ajy _ _ _ (hp.later hB) hok).mono ?_
  rintro e w2 ⟨rfl,hb2⟩
  dsimp only
  go_wp2_with fail
  go_ret
  exact⟨rfl,ag hB hb2⟩
end Go.Proofs.YtaghcadlgbnbdaaGreatDoor
namespace Go.WW
open Go.RowKit
theorem Jj(at_:Int):∀(l:List ah) (k:Nat),(lF at_ k l).Sublist l
 | [],_=>List.Sublist.refl _
 |q::l,k=>by
  unfold lF
  split
  ·exact(Jj at_ l (k+1)).cons_cons q
  ·exact(Jj at_ l (k+1)).cons q
theorem Yh(p:ah)(at_:Int):∀(l:List ah) (k:Nat),dY p at_ k true l=lF at_ k l
 | [],_=>rfl
 |q::l,k=>by
  unfold dY lF
  simp only[Bool.not_true,Bool.false_and,Bool.true_or,Bool.false_eq_true,if_false,List.nil_append]
  rw[Yh p at_ l (k+1)]
theorem Yi{a b:ByteArray}(h:qw a b=true):a=b∨bQ a b<0:=by
 unfold qw at h
 rcases Bool.or_eq_true_iff.1 h with h|h
 ·right;rw[N7 h];omega
 ·left;exact toList_inj (by simpa using h)
theorem ajz{a b:ByteArray}(h:qw a b=false):bQ b a<0:=by
 unfold qw at h
 obtain⟨h1,h2⟩:=Bool.or_eq_false_iff.1 h
 have hne:¬a=b:=by rintro rfl;simp at h2
 have h3:=N8 h1 hne
 have:=oO.tX a b
 omega
theorem ajA{p:ah}{at_:Int}{l:List ah}{k:Nat}{dn:Bool}{x:ah}(h:x∈dY p at_ k dn l):x=p∨x∈l:=Ou p at_ l k dn x h
theorem OO(p:ah)(at_:Int):∀(l:List ah) (k:Nat),Sorted bQ (fun q:ah=>q.name) l→(∀i (h:i<l.length),l[i].name=p.name↔at_=((k+i:Nat):Int))→Sorted bQ (fun q:ah=>q.name) (dY p at_ k false l)
 | [],k,_,_=>by simp[dY,Sorted]
 |q::l,k,hs,hat=>by
  have hs':=List.pairwise_cons.1 hs
  have h0:=hat 0 (by simp)
  simp only[List.getElem_cons_zero,Nat.add_zero]at h0
  have hrest:∀i (h:i<l.length),l[i].name=p.name↔at_=((k+1+i:Nat):Int):=fun i h=>by
   have:=hat (i+1) (by simp;omega)
   simp only[List.getElem_cons_succ]at this
   rw[show k+1+i=k+(i+1) by omega];exact this
  unfold dY
  cases hle:qw p.name q.name with
  |true=>
   simp only[Bool.not_false,Bool.true_and,if_true,Bool.or_true]
   rw[Yh,List.singleton_append]
   have hsub:((if(k:Int) != at_ then [q]else [])++lF at_ (k+1) l).Sublist (q::l):=by
    have:=Jj at_ (q::l) k
    unfold lF at this
    exact this
   refine List.pairwise_cons.2 ⟨fun x hx=>?_,hs.sublist hsub⟩
   rcases List.mem_append.1 hx with hx|hx
   ·by_cases hk:(k:Int)=at_
    ·simp[hk]at hx
    ·have hx':x=q:=by simpa[hk]using hx
     subst hx'
     rcases Yi hle with e|e
     ·exact absurd (h0.1 e.symm).symm hk
     ·exact e
   ·have h1:=hs'.1 x ((Jj at_ l (k+1)).mem hx)
    rcases Yi hle with e|e
    ·show bQ p.name x.name<0
     rw[e];exact h1
    ·exact oO.trans _ _ _ e h1
  |false=>
   have hlt:=ajz hle
   have hk:¬(k:Int)=at_:=fun e=>by
    have e1:=h0.2 e.symm
    rw[e1,N9]at hlt;omega
   simp only[Bool.not_false,Bool.and_false,Bool.false_eq_true,if_false,List.nil_append,Bool.or_false]
   rw[if_pos (by simpa using hk)]
   refine List.pairwise_cons.2 ⟨fun x hx=>?_,OO p at_ l (k+1) hs'.2 hrest⟩
   rcases ajA hx with rfl|hx
   ·exact hlt
   ·exact hs'.1 x hx
theorem ajB{D D':Db}{q:ah}{no:Int}(h:ou D q no D')(hn:(D.ax.map (·.name)).Nodup)(hs:Sorted bQ (fun q:ah=>q.name) D.ax):Sorted bQ (fun q:ah=>q.name) D'.ax:=by
 cases h with
 |bad hv=>exact hs
 |new hv ha=>
  refine OO q (-1) D.ax 0 hs fun i hi=>⟨fun e=>?_,fun e=>by omega⟩
  have:=List.any_eq_false.1 ha _ (List.getElem_mem hi)
  simp[e]at this
 |old hv i hi hnm=>
  refine OO q (i:Int) D.ax 0 hs fun j hj=>⟨fun e=>?_,fun e=>?_⟩
  ·have:i=j:=Jc hn (i:=i) (j:=j) (by simpa using hi) (by simpa using hj) (by simpa using hnm.trans e.symm)
   omega
  ·obtain rfl:i=j:=by omega
   exact hnm
def ET(P:List ah)(k:ByteArray):List ah:=P.filter fun x=>decide (x.name≠k)
theorem ajC(P:List ah)(k:ByteArray):ku (P.map fun x=>(x.name,Value.agg (az x))) k=(ET P k).map fun x=>(x.name,Value.agg (az x)):=by
 unfold ku ET
 rw[List.filter_map]
 rfl
theorem lZ.del{P L:List ah}(h:lZ P L){i:Nat}(hi:i<L.length):lZ (ET P L[i].name) (L.eraseIdx i):=by
 have e:=Jf (fun q:ah=>q.name) h.nodup hi
 refine⟨?_,((List.eraseIdx_sublist L i).map _).nodup h.nodup,fun q hq=>h.ok q ((List.eraseIdx_sublist L i).mem hq)⟩
 rw[e]
 exact h.perm.filter _
inductive vW(D:Db)(X:List EE)(q:aB):Int→Db→List EE→Prop where
 |none (hn:∀x∈X,bn x.2.name q=false):vW D X q 9 D X
 |yes (i:Nat) (hi:i<X.length) (hn:bn X[i].2.name q=true):vW D X q 0 {D with entries:=(X.eraseIdx i).map (·.2),ay:=D.ay+1} (X.eraseIdx i)
theorem Yj{E:List Entry}(h:gy E){x:Entry}(hx:x∈E):bD x.name=true:=vU (h.ok x hx) _ (List.mem_cons_self ..)
theorem iG.Yk{D:Db}{X:List EE}{NL:List (ByteArray×ByteArray)}{E:List EE}{P:List ah}(h:iG D X NL E P){q:aB}(hn:∀x∈X,bn x.2.name q=false):∀x∈E,textOf x.2.name≠fU q:=by
 intro x hx e
 have hm:x.2∈E.map (·.2):=List.mem_map.2 ⟨x,hx,rfl⟩
 obtain⟨y,hy,ey⟩:=List.mem_map.1 (h.perm.mem_iff.1 hm)
 have h1:=(OM (Yj h.good hm)).1 e
 have h2:=hn y hy
 rw[ey,h1]at h2;cases h2
theorem iG.Yl{D:Db}{X:List EE}{NL:List (ByteArray×ByteArray)}{E:List EE}{P:List ah}(h:iG D X NL E P){q:aB}{i:Nat}(hi:i<X.length)(hn:bn X[i].2.name q=true) :
  ∃x0∈E,textOf x0.2.name=fU q∧iG {D with entries:=(X.eraseIdx i).map (·.2),ay:=D.ay+1} (X.eraseIdx i) (xN NL (iM x0.2)) (qm E (fU q)) P:=by
 have hXi:X[i].2∈X.map (·.2):=List.mem_map.2 ⟨X[i],List.getElem_mem hi,rfl⟩
 have hm:=h.perm.mem_iff.2 hXi
 obtain⟨x0,hx0,e0⟩:=List.mem_map.1 hm
 have hk:textOf x0.2.name=fU q:=(OM (Yj h.good (List.mem_map.2 ⟨x0,hx0,rfl⟩))).2 (by rw[e0];exact hn)
 have e1:(qm E (fU q)).map (·.2)=jK (E.map (·.2)) (fU q):=by
  unfold qm jK
  rw[List.filter_map];rfl
 have e2:(X.eraseIdx i).map (·.2)=jK (X.map (·.2)) (fU q):=by
  rw[Ye,XU h.BB.nodup (i:=i) (by simpa using hi)]
  congr 1
  rw[←hk,e0];simp
 have hsub:(jK (E.map (·.2)) (fU q)).Sublist (E.map (·.2)):=List.filter_sublist
 refine⟨x0,hx0,hk,rfl,?_,?_,?_,h.sorted.sublist (List.eraseIdx_sublist X i),h.eu,fun x hx=>h.has x ((List.eraseIdx_sublist X i).mem hx)⟩
 ·rw[e1,←hk]
  exact XP h.names h.good (List.mem_map.2 ⟨x0,hx0,rfl⟩)
 ·rw[e1]
  exact⟨fun x hx=>h.good.ok x (hsub.mem hx),(hsub.map _).nodup h.good.nodup,fun x hx y hy=>h.good.apart x (hsub.mem hx) y (hsub.mem hy)⟩
 ·rw[e1,e2]
  exact h.perm.filter _
inductive uG(D:Db)(k:ByteArray):Int→Db→Prop where
 |none (hn:D.ax.any (fun x=>decide (x.name=k))=false):uG D k 9 D
 |busy (i:Nat) (hi:i<D.ax.length) (hn:D.ax[i].name=k) (hb:∃x∈D.entries,x.aK=k):uG D k 11 D
 |yes (i:Nat) (hi:i<D.ax.length) (hn:D.ax[i].name=k) (hb:∀x∈D.entries,¬x.aK=k):uG D k 0 {D with ax:=D.ax.eraseIdx i,ay:=D.ay+1}
theorem iG.ajE{D:Db}{X:List EE}{NL:List (ByteArray×ByteArray)}{E:List EE}{P:List ah}(h:iG D X NL E P){i:Nat}(hi:i<D.ax.length)(hb:∀x∈D.entries,¬x.aK=D.ax[i].name) :
  iG {D with ax:=D.ax.eraseIdx i,ay:=D.ay+1} X NL E (ET P D.ax[i].name):=by
 refine⟨h.eq,h.names,h.good,h.perm,h.sorted,h.eu.del hi,fun x hx=>?_⟩
 rcases h.has x hx with h1|h1
 ·exact .inl h1
 ·obtain⟨y,hy,e⟩:=List.any_eq_true.1 h1
  have e':y.name=x.2.aK:=by simpa using e
  refine .inr (List.any_eq_true.2 ⟨y,?_,e⟩)
  show y∈D.ax.eraseIdx i
  rw[Jf (fun q:ah=>q.name) h.eu.nodup hi]
  refine List.mem_filter.2 ⟨hy,?_⟩
  have hn:¬y.name=D.ax[i].name:=fun e2=>hb x.2 (by rw[h.eq];exact List.mem_map.2 ⟨x,hx,rfl⟩) (e'.symm.trans e2)
  simpa using hn
theorem l9.congr{L:List ah}{d d':Entry}(e:d'.aK=d.aK)(h:l9 L d):l9 L d':=by
 unfold l9 at h ⊢
 rw[e];exact h
def jD(f a b:Int):Bool:=au f 0 65535&&au a 0 1099511627776&&au b 0 1099511627776
def touched(d:Entry)(f a b:Int):Entry:={d with fails:=f,iw:=a,jw:=b}
theorem ajF{d:Entry}{f a b:Int}(h:bF d=true)(ht:jD f a b=true):bF (touched d f a b)=true:=by
 simp only[jD,Bool.and_eq_true]at ht
 simp only[bF,jk,jT,touched,Bool.and_eq_true,decide_eq_true_eq]at h ⊢
 simp only[h,ht,and_self,decide_true]
def iO(k:ByteArray)(f a b:Int)(d:Entry):Entry:=if textOf d.name=k then touched d f a b else d
theorem vX(k:ByteArray)(f a b:Int)(d:Entry):(iO k f a b d).name=d.name:=by unfold iO;split<;>rfl
theorem ajG(k:ByteArray)(f a b:Int)(d:Entry):(iO k f a b d).aliases=d.aliases:=by unfold iO;split<;>rfl
theorem ajH(k:ByteArray)(f a b:Int)(d:Entry):(iO k f a b d).aK=d.aK:=by unfold iO;split<;>rfl
theorem Jk(k:ByteArray)(f a b:Int)(d:Entry):iM (iO k f a b d)=iM d:=by unfold iM;rw[vX,ajG]
theorem ajI{k:ByteArray}{f a b:Int}{d:Entry}(h:bF d=true)(ht:jD f a b=true):bF (iO k f a b d)=true:=by
 unfold iO;split
 ·exact ajF h ht
 ·exact h
def uH(k:ByteArray)(f a b:Int)(x:EE):EE:=(x.1,iO k f a b x.2)
theorem Jl(k:ByteArray)(f a b:Int)(X:List EE):(X.map (uH k f a b)).map (·.2)=(X.map (·.2)).map (iO k f a b):=by rw[List.map_map,List.map_map];rfl
theorem gy.touch{E:List Entry}(h:gy E)(k:ByteArray){f a b:Int}(ht:jD f a b=true):gy (E.map (iO k f a b)):=by
 refine⟨fun x hx=>?_,?_,fun x hx y hy=>?_⟩
 ·obtain⟨z,hz,rfl⟩:=List.mem_map.1 hx
  exact ajI (h.ok z hz) ht
 ·rw[List.map_map]
  have:(fun x:Entry=>textOf x.name)∘iO k f a b=fun x=>textOf x.name:=funext fun x=>by simp[vX]
  rw[this];exact h.nodup
 ·obtain⟨z,hz,rfl⟩:=List.mem_map.1 hx
  obtain⟨z',hz',rfl⟩:=List.mem_map.1 hy
  rw[Jk,Jk,vX,vX]
  exact h.apart z hz z' hz'
inductive uI(D:Db)(X:List EE)(q:aB)(f a b:Int):Int→Db→List EE→Prop where
 |bad (hv:jD f a b=false):uI D X q f a b 2 D X
 |none (hv:jD f a b=true) (hn:∀x∈X,bn x.2.name q=false):uI D X q f a b 9 D X
 |yes (hv:jD f a b=true) (i:Nat) (hi:i<X.length) (hn:bn X[i].2.name q=true):uI D X q f a b 0 {D with entries:=(X.map (uH (fU q) f a b)).map (·.2),ay:=D.ay+1} (X.map (uH (fU q) f a b))
theorem iG.touch{D:Db}{X:List EE}{NL:List (ByteArray×ByteArray)}{E:List EE}{P:List ah}(h:iG D X NL E P)(k:ByteArray){f a b:Int}(ht:jD f a b=true) :
  iG {D with entries:=(X.map (uH k f a b)).map (·.2),ay:=D.ay+1} (X.map (uH k f a b)) NL (E.map (uH k f a b)) P:=by
 refine⟨rfl,?_,?_,?_,?_,h.eu,fun x hx=>?_⟩
 ·intro j o
  rw[h.names j o,Jl]
  constructor
  ·rintro⟨x,hx,rfl,q,hq,e⟩
   exact⟨iO k f a b x,List.mem_map.2 ⟨x,hx,rfl⟩,by rw[vX],q,by rw[Jk];exact hq,e⟩
  ·rintro⟨x,hx,rfl,q,hq,e⟩
   obtain⟨z,hz,rfl⟩:=List.mem_map.1 hx
   rw[Jk]at hq
   exact⟨z,hz,by rw[vX],q,hq,e⟩
 ·rw[Jl];exact h.good.touch k ht
 ·rw[Jl,Jl];exact h.perm.map _
 ·refine List.pairwise_map.2 (h.sorted.imp fun{x y} hxy=>?_)
  show dV (iO k f a b x.2).name (iO k f a b y.2).name<0
  rw[vX,vX];exact hxy
 ·obtain⟨z,hz,rfl⟩:=List.mem_map.1 hx
  have:=h.has z hz
  exact l9.congr (ajH k f a b z.2) this
theorem ajJ{X:List EE}(hg:gy (X.map (·.2))){i:Nat}(hi:i<X.length){k:ByteArray}(hk:textOf X[i].2.name=k)(f a b:Int):X.map (uH k f a b)=X.set i (X[i].1,touched X[i].2 f a b):=by
 refine List.ext_getElem (by simp) fun j h1 h2=>?_
 have hj:j<X.length:=by simpa using h1
 rw[List.getElem_map,List.getElem_set]
 by_cases e:i=j
 ·subst e
  rw[if_pos rfl]
  show(X[i].1,iO k f a b X[i].2)=_
  unfold iO;rw[if_pos hk]
 ·rw[if_neg e]
  show(X[j].1,iO k f a b X[j].2)=_
  unfold iO
  rw[if_neg fun e2=>e (Bz hg (i:=i) (j:=j) (by simpa using hi) (by simpa using hj) (by simpa using hk.trans e2.symm))]
theorem Ym{E:List EE}(hg:gy (E.map (·.2))){x0:EE}(hx0:x0∈E){k:ByteArray}(hk:textOf x0.2.name=k)(f a b:Int) :
  nS (E.map fun x=>(textOf x.2.name,Value.agg (bC x))) k (.agg (bC (x0.1,touched x0.2 f a b)))=(E.map (uH k f a b)).map fun x=>(textOf x.2.name,Value.agg (bC x)):=by
 unfold nS
 rw[if_pos (by
  unfold hasK
  exact List.any_eq_true.2 ⟨_,List.mem_map.2 ⟨x0,hx0,rfl⟩,by simpa using hk⟩),List.map_map,List.map_map]
 refine List.map_congr_left fun x hx=>?_
 simp only[Function.comp]
 show(if textOf x.2.name=k then _ else _)=(textOf (iO k f a b x.2).name,Value.agg (bC (x.1,iO k f a b x.2)))
 rw[vX]
 unfold iO
 by_cases e:textOf x.2.name=k
 ·rw[if_pos e,if_pos e,e]
  have:x=x0:=by
   obtain⟨i,hi,rfl⟩:=List.mem_iff_getElem.1 hx
   obtain⟨j,hj,rfl⟩:=List.mem_iff_getElem.1 hx0
   obtain rfl:=Bz hg (i:=i) (j:=j) (by simpa using hi) (by simpa using hj) (by simpa using e.trans hk.symm)
   rfl
  rw[this]
 ·rw[if_neg e,if_neg e]
theorem ajK{X:List EE}(hg:gy (X.map (·.2))){A B:List EE}(hA:∀x∈A,x∈X)(hB:∀x∈B,x∈X)(h:A.map (·.2)=B.map (·.2)):A=B:=by
 have hl:A.length=B.length:=by have:=congrArg List.length h;simpa using this
 refine List.ext_getElem hl fun i h1 h2=>?_
 obtain⟨a,ha,ea⟩:=List.mem_iff_getElem.1 (hA _ (List.getElem_mem h1))
 obtain⟨b,hb,eb⟩:=List.mem_iff_getElem.1 (hB _ (List.getElem_mem h2))
 have e:A[i].2=B[i].2:=by
  have:=List.getElem_of_eq h (i:=i) (by simpa using h1)
  simpa using this
 have:a=b:=Bz hg (i:=a) (j:=b) (by simpa using ha) (by simpa using hb) (by simp only[List.getElem_map,ea,eb,e])
 subst this
 exact ea.symm.trans eb
theorem ajL(D:Db)(q:ah):∃no D',ou D q no D':=by
 cases hv:dN q with
 |false=>exact⟨2,D,.bad hv⟩
 |true=>
  rcases BA D.ax q.name with⟨hi,ha⟩|⟨i,hil,hi,hnm,-⟩
  ·exact⟨_,_,.new hv ha⟩
  ·exact⟨_,_,.old hv i hil hnm⟩
theorem ajM(D:Db){X:List EE}(_hg:gy (X.map (·.2)))(r:aI)(d:Entry):∃no D' X',nG D X r d no D' X':=by
 cases hv:bF d with
 |false=>exact⟨2,D,X,.bad (.inl hv)⟩
 |true=>
  by_cases hre:d.name.aG=D.aG
  ·by_cases hp:l9 D.ax d
   ·by_cases hx:∃x∈X.map (·.2),iF x d=true∧textOf x.name≠textOf d.name
    ·exact⟨_,_,_,.busy hv hre hp hx⟩
    ·have hx':∀x∈X.map (·.2),iF x d=true→textOf x.name=textOf d.name:=fun x jl hb=>Classical.byContradiction fun hn=>hx ⟨x,jl,hb,hn⟩
     refine⟨_,_,_,.put hv hre hp hx' (X.filter fun x=>decide (textOf x.2.name≠textOf d.name)) List.filter_sublist ?_⟩
     unfold jK
     rw[List.filter_map];rfl
   ·refine⟨9,D,X,.vV hv hre (fun e=>hp (.inl e)) ?_⟩
    cases ha:D.ax.any (fun x=>decide (x.name=d.aK))with
    |false=>rfl
    |true=>exact absurd (.inr ha) hp
  ·exact⟨2,D,X,.bad (.inr hre)⟩
theorem ajN(D:Db)(X:List EE)(q:aB):∃no D' X',vW D X q no D' X':=by
 by_cases h:∃i,∃hi:i<X.length,bn X[i].2.name q=true
 ·obtain⟨i,hi,hn⟩:=h
  exact⟨_,_,_,.yes i hi hn⟩
 ·refine⟨_,_,_,.none fun x hx=>?_⟩
  obtain⟨i,hi,rfl⟩:=List.mem_iff_getElem.1 hx
  cases hs:bn X[i].2.name q with
  |false=>rfl
  |true=>exact absurd ⟨i,hi,hs⟩ h
theorem ajO(D:Db)(X:List EE)(q:aB)(f a b:Int):∃no D' X',uI D X q f a b no D' X':=by
 cases hv:jD f a b with
 |false=>exact⟨_,_,_,.bad hv⟩
 |true=>
  by_cases h:∃i,∃hi:i<X.length,bn X[i].2.name q=true
  ·obtain⟨i,hi,hn⟩:=h
   exact⟨_,_,_,.yes hv i hi hn⟩
  ·refine⟨_,_,_,.none hv fun x hx=>?_⟩
   obtain⟨i,hi,rfl⟩:=List.mem_iff_getElem.1 hx
   cases hs:bn X[i].2.name q with
   |false=>rfl
   |true=>exact absurd ⟨i,hi,hs⟩ h
theorem ajP(D:Db)(k:ByteArray):∃no D',uG D k no D':=by
 rcases BA D.ax k with⟨hi,ha⟩|⟨i,hil,hi,hnm,-⟩
 ·exact⟨_,_,.none ha⟩
 ·by_cases hb:∃x∈D.entries,x.aK=k
  ·exact⟨_,_,.busy i hil hnm hb⟩
  ·exact⟨_,_,.yes i hil hnm fun x hx e=>hb ⟨x,hx,e⟩⟩
end Go.WW
namespace Go.Proofs.YtaghcadlgbnbdaaGreatDoor
open Go.RowKit Go.WW
attribute [local irreducible] aF
theorem ajQ(b n e p:Nat)(re:ByteArray)(s:Int)(N:List (ByteArray×Value))(E:List EE)(P:List ah)(t:Sl)(q:aB)(w:World)(h:bT w b n e p re s N E P)(hre:¬re=⟨#[]⟩)(hq:bg w t q)(hno:∀x∈E,textOf x.2.name≠fU q) :
  Calls Tryz.prog 22 #[.pointer (some ⟨b,0,none⟩),.agg (ak t q)] w fun z w'=>z=.returned (.int .i64 9)∧Below w.heap.size w w':=by
 have hB:Below w.heap.size w (w.alloc (.cells (ak t q) 25)):=(Below.refl _ _).alloc (Nat.le_refl _) _
 have hx3:(w.alloc (.cells (ak t q) 25)).heap[w.heap.size]?=some (.cells (ak t q) 25):=World.alloc_heap_new _ _
 have h':=h.later hB
 have hq':=hq.later hB
 go_enter Tryz.func22,Tryz.ntmps22
 go_wp2_with fail
 generalize (w.alloc (.cells (ak t q) 25))=W at *
 obtain⟨c0,c1,c2,c3,c4,f1,hl⟩:=fH h'.box
 have l0:w.heap.size<W.heap.size:=(Array.getElem?_eq_some_iff.1 hx3).1
 have jB:row? W w.heap.size 0 2=some (ak t q):=by rw[bV hx3];exact dH (by simp[go_sem])
 refine(lq _ _ _ c0 hre).mono ?_
 rintro x w' ⟨rfl,rfl⟩
 dsimp only
 have hlk:∀x:Later W,(Instr.lookup 86 (.map (some e)) (.string (fU q)) true).run Tryz.prog x.w=.ok (.tuple #[.agg (ae eX ed),.bool false]) x.w:=fun x=>IU (h'.em.at (x.b.block e h'.em.lt)) _ hno
 go_wp2_with fail
 refine EC 11 6 [0,1,2,3,4,5,11,6,7,8,9,10,12,13] (Below.refl _ W) (by kernel_rfl) (by kernel_rfl) (by rfl) ?_ ?_
 ·intro v1 hv1
  iterate 6 (refine aN (by kernel_rfl) (by kernel_rfl) (fun K hK=>?_);go_big_quiet_op;refine hK _ ?_;clear hK K)
  refine aS (by rfl) (by rfl) (fun K hK=>?_)
  go_wp2_with fail
  refine(rW _ _ v1 (hq'.later hv1)).mono ?_
  rintro z v2 ⟨rfl,hv2⟩
  dsimp only
  have dm:=ag hv1 hv2
  refine hK _ _ (dC dm) ?_
  clear hK K
  iterate 4 (refine aN (by kernel_rfl) (by kernel_rfl) (fun K hK=>?_);go_big_quiet_op;refine hK _ ?_;clear hK K)
  refine aS (by rfl) (by rfl) (fun K hK=>?_)
  go_wp2_with fail
  refine hK _ _ (dC (aC dm _)) ?_
  clear hK K
  refine aS (by rfl) (by rfl) (fun K hK=>?_)
  go_wp2_with fail
  refine hK _ _ (dC (aC dm (.cells (ae eX ed) 32))) ?_
  clear hK K
  iterate 1 (refine aN (by kernel_rfl) (by kernel_rfl) (fun K hK=>?_);go_big_quiet_op;refine hK _ ?_;clear hK K)
  refine bW ?_
  have fC:=aC dm (.cells (ae eX ed) 32)
  clear hlk hv1 hv2 dm
  generalize (v2.alloc (.cells (ae eX ed) 32))=V5 at *
  go_wp2_with fail
  go_ret
  exact⟨rfl,ag hB fC⟩
 ·intro v1 hv1
  simp only[pick,List.getElem?_cons_zero,List.getElem?_cons_succ]
  iterate 6 (refine aN (by kernel_rfl) (by kernel_rfl) (fun K hK=>?_);go_big_quiet_op;refine hK _ ?_;clear hK K)
  refine aS (by rfl) (by rfl) (fun K hK=>?_)
  go_wp2_with fail
  refine hK _ _ (dC (aC hv1 _)) ?_
  clear hK K
  rw[←Bh]
  have hz1:=World.alloc_heap_new v1 (.cells (ae eX ed) 32)
  have iL:=aC hv1 (.cells (ae eX ed) 32)
  generalize v1.alloc (.cells (ae eX ed) 32)=Z at *
  refine aS (by rfl) (by rfl) (fun K hK=>?_)
  go_wp2_with fail
  refine(rW _ _ _ (hq'.later iL)).mono ?_
  rintro z v2 ⟨rfl,hv2⟩
  dsimp only
  have dm:=ag iL hv2
  refine hK _ _ (dC dm) ?_
  clear hK K
  have hz2:=aA hv2 hz1
  have hcp:aJ v2 v1.heap.size 0 17=true:=nO hz2 (by simp[go_sem])
  have fC:=Go.WW.Below.putRow (o:=0) (cs:=ae eX ed) dm hv1.size
  iterate 4 (refine aN (by kernel_rfl) (by kernel_rfl) (fun K hK=>?_);go_big_quiet_op;refine hK _ ?_;clear hK K)
  refine aS (by rfl) (by rfl) (fun K hK=>?_)
  go_wp2_with fail
  refine hK _ _ (dC fC) ?_
  clear hK K
  iterate 1 (refine aN (by kernel_rfl) (by kernel_rfl) (fun K hK=>?_);go_big_quiet_op;refine hK _ ?_;clear hK K)
  refine bW ?_
  clear hlk hv2 dm hz1 hz2 hcp iL
  generalize (putRow v2 v1.heap.size 0 (ae eX ed))=V5 at *
  go_wp2_with fail
  go_ret
  exact⟨rfl,ag hB fC⟩
theorem ajR(b n e p:Nat)(re:ByteArray)(s:Int)(N:List (ByteArray×Value))(E:List EE)(P:List ah)(t:Sl)(q:aB)(w:World)(h:bT w b n e p re s N E P)(hre:¬re=⟨#[]⟩)(hq:bg w t q)(hE:∀x∈E,lC (aX b n e p) w x∧Bo x.2)(hs0:0≤s)(hs1:s<1000000)(x0:EE)(hx0:x0∈E)(BC:textOf x0.2.name=fU q) :
  Calls Tryz.prog 22 #[.pointer (some ⟨b,0,none⟩),.agg (ak t q)] w fun z w'=>z=.returned (.int .i64 0)∧But (aX b n e p) w w'∧bT w' b n e p re (s+1) (rO N (x0.2.name::x0.2.aliases)) (qm E (fU q)) P:=by
 have hR:uw N E (fU q) (rO N (x0.2.name::x0.2.aliases)) (qm E (fU q)):=.inl ⟨x0,hx0,BC,rfl,rfl⟩
 have hB:Below w.heap.size w (w.alloc (.cells (ak t q) 25)):=(Below.refl _ _).alloc (Nat.le_refl _) _
 have hx3:(w.alloc (.cells (ak t q) 25)).heap[w.heap.size]?=some (.cells (ak t q) 25):=World.alloc_heap_new _ _
 have h':=h.later hB
 have hq':=hq.later hB
 go_enter Tryz.func22,Tryz.ntmps22
 go_wp2_with fail
 generalize (w.alloc (.cells (ak t q) 25))=W at *
 obtain⟨c0,c1,c2,c3,c4,f1,hl⟩:=fH h'.box
 have l0:w.heap.size<W.heap.size:=(Array.getElem?_eq_some_iff.1 hx3).1
 have jB:row? W w.heap.size 0 2=some (ak t q):=by rw[bV hx3];exact dH (by simp[go_sem])
 refine(lq _ _ _ c0 hre).mono ?_
 rintro x w' ⟨rfl,rfl⟩
 dsimp only
 have hlk:∀x:Later W,(Instr.lookup 86 (.map (some e)) (.string (fU q)) true).run Tryz.prog x.w=.ok (.tuple #[.agg (ae x0.1 x0.2),.bool true]) x.w:=fun x=>BC▸IQ (h'.em.at (x.b.block e h'.em.lt)) x0 hx0
 go_wp2_with fail
 refine EC 11 6 [0,1,2,3,4,5,11,6,7,8,9,10,12,13] (Below.refl _ W) (by kernel_rfl) (by kernel_rfl) (by rfl) ?_ ?_
 intro v1 hv1
 iterate 6 (refine aN (by kernel_rfl) (by kernel_rfl) (fun K hK=>?_);go_big_quiet_op;refine hK _ ?_;clear hK K)
 refine aS (by rfl) (by rfl) (fun K hK=>?_)
 go_wp2_with fail
 refine(rW _ _ v1 (hq'.later hv1)).mono ?_
 rintro z v2 ⟨rfl,hv2⟩
 dsimp only
 have dm:=ag hv1 hv2
 refine hK _ _ (dC dm) ?_
 clear hK K
 iterate 4 (refine aN (by kernel_rfl) (by kernel_rfl) (fun K hK=>?_);go_big_quiet_op;refine hK _ ?_;clear hK K)
 refine aS (by rfl) (by rfl) (fun K hK=>?_)
 go_wp2_with fail
 refine hK _ _ (dC (aC dm _)) ?_
 clear hK K
 refine aS (by rfl) (by rfl) (fun K hK=>?_)
 go_wp2_with fail
 refine hK _ _ (dC (aC dm (.cells (ae x0.1 x0.2) 32))) ?_
 clear hK K
 iterate 1 (refine aN (by kernel_rfl) (by kernel_rfl) (fun K hK=>?_);go_big_quiet_op;refine hK _ ?_;clear hK K)
 refine bW ?_
 have fC:=aC dm (.cells (ae x0.1 x0.2) 32)
 clear hlk hv1 hv2 dm
 generalize (v2.alloc (.cells (ae x0.1 x0.2) 32))=V5 at *
 rotate_left
 intro v1 hv1
 simp only[pick,List.getElem?_cons_zero,List.getElem?_cons_succ]
 iterate 6 (refine aN (by kernel_rfl) (by kernel_rfl) (fun K hK=>?_);go_big_quiet_op;refine hK _ ?_;clear hK K)
 refine aS (by rfl) (by rfl) (fun K hK=>?_)
 go_wp2_with fail
 refine hK _ _ (dC (aC hv1 _)) ?_
 clear hK K
 rw[←Bh]
 have hz1:=World.alloc_heap_new v1 (.cells (ae eX ed) 32)
 have iL:=aC hv1 (.cells (ae eX ed) 32)
 generalize v1.alloc (.cells (ae eX ed) 32)=Z at *
 refine aS (by rfl) (by rfl) (fun K hK=>?_)
 go_wp2_with fail
 refine(rW _ _ _ (hq'.later iL)).mono ?_
 rintro z v2 ⟨rfl,hv2⟩
 dsimp only
 have dm:=ag iL hv2
 refine hK _ _ (dC dm) ?_
 clear hK K
 have hz2:=aA hv2 hz1
 have hcp:aJ v2 v1.heap.size 0 17=true:=nO hz2 (by simp[go_sem])
 have fC:=Go.WW.Below.putRow (o:=0) (cs:=ae x0.1 x0.2) dm hv1.size
 iterate 4 (refine aN (by kernel_rfl) (by kernel_rfl) (fun K hK=>?_);go_big_quiet_op;refine hK _ ?_;clear hK K)
 refine aS (by rfl) (by rfl) (fun K hK=>?_)
 go_wp2_with fail
 refine hK _ _ (dC fC) ?_
 clear hK K
 iterate 1 (refine aN (by kernel_rfl) (by kernel_rfl) (fun K hK=>?_);go_big_quiet_op;refine hK _ ?_;clear hK K)
 refine bW ?_
 clear hlk hv2 dm hz1 hz2 hcp iL
 generalize (putRow v2 v1.heap.size 0 (ae x0.1 x0.2))=V5 at *
 rotate_left
 all_goals
  have o9:=ag hB fC
  have h5:=h'.later fC
  have hx5:=aA fC hx3
  clear c0 c1 c2 c3 c4 f1 hl jB l0
  have l0:w.heap.size<V5.heap.size:=(Array.getElem?_eq_some_iff.1 hx5).1
  have jB:row? V5 w.heap.size 0 2=some (ak t q):=by rw[bV hx5];exact dH (by simp[go_sem])
  have n0:=qo h w.heap.size (Nat.le_refl _)
  go_wp2_with fail
  refine oP (aX b n e p) (But.refl _ V5) (by kernel_rfl) (by kernel_rfl) ?_
  iterate 4 (refine aN (by kernel_rfl) (by kernel_rfl) (fun K hK=>?_);go_big_quiet_op;refine hK _ ?_;clear hK K)
  refine aS (by rfl) (by rfl) (fun K hK=>?_)
  go_wp2_with fail
  refine(rW _ _ V5.drew ((hq'.later fC).later (Below.refl _ _).drew)).mono ?_
  rintro z V6 ⟨rfl,hb6⟩
  dsimp only
  have uA:Below V5.heap.size V5 V6:=(Below.refl _ V5).drew.trans hb6
  refine hK _ _ (bI (But.of_below uA)) ?_
  clear hK K
  refine aS (by rfl) (by rfl) (fun K hK=>?_)
  go_wp2_with fail
  have rU:=ag o9 uA
  refine(Xe b n e p re s N _ E _ P _ V6 (h.later rU) (fun x hx=>⟨(hE x hx).1.on (But.of_below rU),(hE x hx).2⟩) hR).mono ?_
  rintro z V7 ⟨rfl,hb7,h7⟩
  dsimp only
  have lY:But (aX b n e p) V5 V7:=(But.of_below uA).trans hb7
  refine hK _ _ (bI lY) ?_
  clear hK K
  refine bW ?_
  have oq:But (aX b n e p) w V7:=(But.of_below o9).trans lY
  obtain⟨c0,c1,c2,c3,c4,f1,hl⟩:=fH h7.box
  go_wp2_with fail
  refine(zg b s V7 c1 f1 hs0 hs1).mono ?_
  rintro z w' ⟨rfl,rfl⟩
  dsimp only
  have nz:=cZ (o:=1) (.int .i64 (s+1)) h7.box
  rw[zf]at nz
  have hoth:∀k,k≠b→(V7.setCell ⟨b,1,none⟩ (.int .i64 (s+1))).heap[k]?=V7.heap[k]?:=fun k hk=>Below.heap_setCell _ _ _ _ hk
  have EI:(V7.setCell ⟨b,1,none⟩ (.int .i64 (s+1))).heap.size=V7.heap.size:=by simp[World.setCell]
  have vS:But (aX b n e p) w (V7.setCell ⟨b,1,none⟩ (.int .i64 (s+1))):=⟨oq.os,oq.tape,oq.output,by rw[EI];exact oq.size,fun k hk hn'=>(hoth k (fun e'=>hn' (.inl e'))).trans (oq.block k hk hn')⟩
  have hnb:n≠b:=fun e'=>gu h7.box h7.nm e'.symm
  have heb:e≠b:=fun e'=>gu h7.box h7.em e'.symm
  have hpb:p≠b:=fun e'=>gu h7.box h7.pm e'.symm
  have h8:=bT.mk nz (h7.nm.at (hoth n hnb)) (h7.em.at (hoth e heb)) (h7.pm.at (hoth p hpb)) h.ne
  go_wp2_with fail
  go_ret
  exact⟨rfl,vS,h8⟩
end Go.Proofs.YtaghcadlgbnbdaaGreatDoor
namespace Go.WW
open Go.RowKit
theorem Yn(r:aI)(d:Entry)(f a b:Int):(((ae r d).setIfInBounds 11 (.int .i64 f)).setIfInBounds 12 (.int .i64 a)).setIfInBounds 13 (.int .i64 b)=ae r (touched d f a b):=by kernel_rfl
theorem rY{S:Nat→Prop}{W w:World}{b o:Nat}{v:Value}(h:But S W w)(hb:S b∨W.heap.size≤b):But S W (w.setCell ⟨b,o,none⟩ v):=
 ⟨h.os,h.tape,h.output,by have:=h.size;simpa[World.setCell]using this,fun k hk hn=>(Below.heap_setCell _ _ _ _ (show k≠b by rintro rfl;rcases hb with hb|hb;exact hn hb;omega)).trans (h.block k hk hn)⟩
end Go.WW
namespace Go.Proofs.YtaghcadlgbnbdaaGreatDoor
open Go.RowKit Go.WW
attribute [local irreducible] aF
theorem ajS(b n e p:Nat)(re:ByteArray)(s:Int)(N:List (ByteArray×Value))(E:List EE)(P:List ah)(t:Sl)(q:aB)(f la su:Int)(w:World)(h:bT w b n e p re s N E P)(hre:¬re=⟨#[]⟩)(hv:jD f la su=false) :
  Calls Tryz.prog 37 #[.pointer (some ⟨b,0,none⟩),.agg (ak t q),.int .i64 f,.int .i64 la,.int .i64 su] w fun z w'=>z=.returned (.int .i64 2)∧Below w.heap.size w w':=by
 have hB:Below w.heap.size w (w.alloc (.cells (ak t q) 25)):=(Below.refl _ _).alloc (Nat.le_refl _) _
 have hx3:(w.alloc (.cells (ak t q) 25)).heap[w.heap.size]?=some (.cells (ak t q) 25):=World.alloc_heap_new _ _
 have h':=h.later hB
 go_enter Tryz.func37,Tryz.ntmps37
 go_wp2_with fail
 generalize (w.alloc (.cells (ak t q) 25))=W at *
 obtain⟨c0,c1,c2,c3,c4,f1,hl⟩:=fH h'.box
 have l0:w.heap.size<W.heap.size:=(Array.getElem?_eq_some_iff.1 hx3).1
 have jB:row? W w.heap.size 0 2=some (ak t q):=by rw[bV hx3];exact dH (by simp[go_sem])
 refine(lq _ _ _ c0 hre).mono ?_
 rintro x w' ⟨rfl,rfl⟩
 dsimp only
 have hcs:f<0∨(¬f<0∧65535<f)∨(¬f<0∧¬65535<f∧la<0)∨(¬f<0∧¬65535<f∧¬la<0∧1099511627776<la)∨(¬f<0∧¬65535<f∧¬la<0∧¬1099511627776<la∧su<0)∨(¬f<0∧¬65535<f∧¬la<0∧¬1099511627776<la∧¬su<0∧1099511627776<su):=by
  simp only[jD,au,Bool.and_eq_false_iff,decide_eq_false_iff_not]at hv
  omega
 rcases hcs with h1|⟨h1,h2⟩|⟨h1,h2,h3⟩|⟨h1,h2,h3,h4⟩|⟨h1,h2,h3,h4,h5⟩|⟨h1,h2,h3,h4,h5,h6⟩
 all_goals (
  go_wp2_with fail
  go_ret
  exact⟨rfl,hB⟩)
theorem ajT(b n e p:Nat)(re:ByteArray)(s:Int)(N:List (ByteArray×Value))(E:List EE)(P:List ah)(t:Sl)(q:aB)(f la su:Int)(w:World)(h:bT w b n e p re s N E P)(hre:¬re=⟨#[]⟩)(hq:bg w t q)(hv:jD f la su=true)(hno:∀x∈E,textOf x.2.name≠fU q) :
  Calls Tryz.prog 37 #[.pointer (some ⟨b,0,none⟩),.agg (ak t q),.int .i64 f,.int .i64 la,.int .i64 su] w fun z w'=>z=.returned (.int .i64 9)∧Below w.heap.size w w':=by
 have hB:Below w.heap.size w (w.alloc (.cells (ak t q) 25)):=(Below.refl _ _).alloc (Nat.le_refl _) _
 have hx3:(w.alloc (.cells (ak t q) 25)).heap[w.heap.size]?=some (.cells (ak t q) 25):=World.alloc_heap_new _ _
 have h':=h.later hB
 have hq':=hq.later hB
 go_enter Tryz.func37,Tryz.ntmps37
 go_wp2_with fail
 generalize (w.alloc (.cells (ak t q) 25))=W at *
 obtain⟨c0,c1,c2,c3,c4,f1,hl⟩:=fH h'.box
 have l0:w.heap.size<W.heap.size:=(Array.getElem?_eq_some_iff.1 hx3).1
 have jB:row? W w.heap.size 0 2=some (ak t q):=by rw[bV hx3];exact dH (by simp[go_sem])
 refine(lq _ _ _ c0 hre).mono ?_
 rintro x w' ⟨rfl,rfl⟩
 dsimp only
 obtain⟨t1,t2,t3,t4,t5,t6⟩:¬f<0∧¬65535<f∧¬la<0∧¬1099511627776<la∧¬su<0∧¬1099511627776<su:=by
  simp only[jD,au,Bool.and_eq_true,decide_eq_true_eq]at hv
  omega
 have hlk:∀x:Later W,(Instr.lookup 86 (.map (some e)) (.string (fU q)) true).run Tryz.prog x.w=.ok (.tuple #[.agg (ae eX ed),.bool false]) x.w:=fun x=>IU (h'.em.at (x.b.block e h'.em.lt)) _ hno
 go_wp2_with fail
 refine EC 11 6 [0,1,2,3,4,5,11,6,7,8,9,10,12,13] (Below.refl _ W) (by kernel_rfl) (by kernel_rfl) (by rfl) ?_ ?_
 ·intro v1 hv1
  iterate 6 (refine aN (by kernel_rfl) (by kernel_rfl) (fun K hK=>?_);go_big_quiet_op;refine hK _ ?_;clear hK K)
  refine aS (by rfl) (by rfl) (fun K hK=>?_)
  go_wp2_with fail
  refine(rW _ _ v1 (hq'.later hv1)).mono ?_
  rintro z v2 ⟨rfl,hv2⟩
  dsimp only
  have dm:=ag hv1 hv2
  refine hK _ _ (dC dm) ?_
  clear hK K
  iterate 4 (refine aN (by kernel_rfl) (by kernel_rfl) (fun K hK=>?_);go_big_quiet_op;refine hK _ ?_;clear hK K)
  refine aS (by rfl) (by rfl) (fun K hK=>?_)
  go_wp2_with fail
  refine hK _ _ (dC (aC dm _)) ?_
  clear hK K
  refine aS (by rfl) (by rfl) (fun K hK=>?_)
  go_wp2_with fail
  refine hK _ _ (dC (aC dm (.cells (ae eX ed) 32))) ?_
  clear hK K
  iterate 1 (refine aN (by kernel_rfl) (by kernel_rfl) (fun K hK=>?_);go_big_quiet_op;refine hK _ ?_;clear hK K)
  refine bW ?_
  have fC:=aC dm (.cells (ae eX ed) 32)
  have hbx:=World.alloc_heap_new v2 (.cells (ae eX ed) 32)
  have rZ:W.heap.size≤v2.heap.size:=dm.size
  clear hlk hv1 hv2 dm
  generalize (v2.alloc (.cells (ae eX ed) 32))=V5 at *
  generalize v2.heap.size=bx at *
  go_wp2_with fail
  go_ret
  exact⟨rfl,ag hB fC⟩
 ·intro v1 hv1
  simp only[pick,List.getElem?_cons_zero,List.getElem?_cons_succ]
  iterate 6 (refine aN (by kernel_rfl) (by kernel_rfl) (fun K hK=>?_);go_big_quiet_op;refine hK _ ?_;clear hK K)
  refine aS (by rfl) (by rfl) (fun K hK=>?_)
  go_wp2_with fail
  refine hK _ _ (dC (aC hv1 _)) ?_
  clear hK K
  rw[←Bh]
  have hz1:=World.alloc_heap_new v1 (.cells (ae eX ed) 32)
  have iL:=aC hv1 (.cells (ae eX ed) 32)
  generalize v1.alloc (.cells (ae eX ed) 32)=Z at *
  refine aS (by rfl) (by rfl) (fun K hK=>?_)
  go_wp2_with fail
  refine(rW _ _ _ (hq'.later iL)).mono ?_
  rintro z v2 ⟨rfl,hv2⟩
  dsimp only
  have dm:=ag iL hv2
  refine hK _ _ (dC dm) ?_
  clear hK K
  have hz2:=aA hv2 hz1
  have hcp:aJ v2 v1.heap.size 0 17=true:=nO hz2 (by simp[go_sem])
  have fC:=Go.WW.Below.putRow (o:=0) (cs:=ae eX ed) dm hv1.size
  iterate 4 (refine aN (by kernel_rfl) (by kernel_rfl) (fun K hK=>?_);go_big_quiet_op;refine hK _ ?_;clear hK K)
  refine aS (by rfl) (by rfl) (fun K hK=>?_)
  go_wp2_with fail
  refine hK _ _ (dC fC) ?_
  clear hK K
  iterate 1 (refine aN (by kernel_rfl) (by kernel_rfl) (fun K hK=>?_);go_big_quiet_op;refine hK _ ?_;clear hK K)
  refine bW ?_
  have hbx:=pX (o:=0) (cs:=ae eX ed) hz2 (by simp[go_sem])
  rw[Az (by simp[go_sem])]at hbx
  have rZ:W.heap.size≤v1.heap.size:=hv1.size
  clear hlk hv2 dm hz1 hz2 hcp iL
  generalize (putRow v2 v1.heap.size 0 (ae eX ed))=V5 at *
  generalize v1.heap.size=bx at *
  go_wp2_with fail
  go_ret
  exact⟨rfl,ag hB fC⟩
theorem ajU(b n e p:Nat)(re:ByteArray)(s:Int)(N:List (ByteArray×Value))(E:List EE)(P:List ah)(t:Sl)(q:aB)(f la su:Int)(w:World)(h:bT w b n e p re s N E P)(hre:¬re=⟨#[]⟩)(hq:bg w t q)(hv:jD f la su=true)(hg:gy (E.map (·.2)))(hs0:0≤s)(hs1:s<1000000)(x0:EE)(hx0:x0∈E)(BC:textOf x0.2.name=fU q) :
  Calls Tryz.prog 37 #[.pointer (some ⟨b,0,none⟩),.agg (ak t q),.int .i64 f,.int .i64 la,.int .i64 su] w fun z w'=>z=.returned (.int .i64 0)∧But (aX b n e p) w w'∧bT w' b n e p re (s+1) N (E.map (uH (fU q) f la su)) P:=by
 have hB:Below w.heap.size w (w.alloc (.cells (ak t q) 25)):=(Below.refl _ _).alloc (Nat.le_refl _) _
 have hx3:(w.alloc (.cells (ak t q) 25)).heap[w.heap.size]?=some (.cells (ak t q) 25):=World.alloc_heap_new _ _
 have h':=h.later hB
 have hq':=hq.later hB
 go_enter Tryz.func37,Tryz.ntmps37
 go_wp2_with fail
 generalize (w.alloc (.cells (ak t q) 25))=W at *
 obtain⟨c0,c1,c2,c3,c4,f1,hl⟩:=fH h'.box
 have l0:w.heap.size<W.heap.size:=(Array.getElem?_eq_some_iff.1 hx3).1
 have jB:row? W w.heap.size 0 2=some (ak t q):=by rw[bV hx3];exact dH (by simp[go_sem])
 refine(lq _ _ _ c0 hre).mono ?_
 rintro x w' ⟨rfl,rfl⟩
 dsimp only
 obtain⟨t1,t2,t3,t4,t5,t6⟩:¬f<0∧¬65535<f∧¬la<0∧¬1099511627776<la∧¬su<0∧¬1099511627776<su:=by
  simp only[jD,au,Bool.and_eq_true,decide_eq_true_eq]at hv
  omega
 have hlk:∀x:Later W,(Instr.lookup 86 (.map (some e)) (.string (fU q)) true).run Tryz.prog x.w=.ok (.tuple #[.agg (ae x0.1 x0.2),.bool true]) x.w:=fun x=>BC▸IQ (h'.em.at (x.b.block e h'.em.lt)) x0 hx0
 go_wp2_with fail
 refine EC 11 6 [0,1,2,3,4,5,11,6,7,8,9,10,12,13] (Below.refl _ W) (by kernel_rfl) (by kernel_rfl) (by rfl) ?_ ?_
 ·intro v1 hv1
  iterate 6 (refine aN (by kernel_rfl) (by kernel_rfl) (fun K hK=>?_);go_big_quiet_op;refine hK _ ?_;clear hK K)
  refine aS (by rfl) (by rfl) (fun K hK=>?_)
  go_wp2_with fail
  refine(rW _ _ v1 (hq'.later hv1)).mono ?_
  rintro z v2 ⟨rfl,hv2⟩
  dsimp only
  have dm:=ag hv1 hv2
  refine hK _ _ (dC dm) ?_
  clear hK K
  iterate 4 (refine aN (by kernel_rfl) (by kernel_rfl) (fun K hK=>?_);go_big_quiet_op;refine hK _ ?_;clear hK K)
  refine aS (by rfl) (by rfl) (fun K hK=>?_)
  go_wp2_with fail
  refine hK _ _ (dC (aC dm _)) ?_
  clear hK K
  refine aS (by rfl) (by rfl) (fun K hK=>?_)
  go_wp2_with fail
  refine hK _ _ (dC (aC dm (.cells (ae x0.1 x0.2) 32))) ?_
  clear hK K
  iterate 1 (refine aN (by kernel_rfl) (by kernel_rfl) (fun K hK=>?_);go_big_quiet_op;refine hK _ ?_;clear hK K)
  refine bW ?_
  have fC:=aC dm (.cells (ae x0.1 x0.2) 32)
  have hbx:=World.alloc_heap_new v2 (.cells (ae x0.1 x0.2) 32)
  have rZ:W.heap.size≤v2.heap.size:=dm.size
  clear hlk hv1 hv2 dm
  generalize (v2.alloc (.cells (ae x0.1 x0.2) 32))=V5 at *
  generalize v2.heap.size=bx at *
  have o9:=ag hB fC
  have h5:=h'.later fC
  have hx5:=aA fC hx3
  clear c0 c1 c2 c3 c4 f1 hl jB l0
  have l0:w.heap.size<V5.heap.size:=(Array.getElem?_eq_some_iff.1 hx5).1
  have jB:row? V5 w.heap.size 0 2=some (ak t q):=by rw[bV hx5];exact dH (by simp[go_sem])
  have n0:=qo h w.heap.size (Nat.le_refl _)
  obtain⟨hc,hf,hr,hlt⟩:=ai hbx
  go_wp2_with fail
  have hs3:=cZ (o:=13) (.int .i64 su) (cZ (o:=12) (.int .i64 la) (cZ (o:=11) (.int .i64 f) hbx))
  rw[Yn]at hs3
  have hbw:w.heap.size≤bx:=Nat.le_trans hB.size rZ
  have hb3:Below W.heap.size W (((V5.setCell ⟨bx,11,none⟩ (.int .i64 f)).setCell ⟨bx,12,none⟩ (.int .i64 la)).setCell ⟨bx,13,none⟩ (.int .i64 su)):=((fC.setCell rZ _).setCell rZ _).setCell rZ _
  clear hc hf hr hlt hbx fC
  generalize (((V5.setCell ⟨bx,11,none⟩ (.int .i64 f)).setCell ⟨bx,12,none⟩ (.int .i64 la)).setCell ⟨bx,13,none⟩ (.int .i64 su))=V6 at *
  clear o9 h5 hx5 l0 jB
  have rU:=ag hB hb3
  have h6:=h.later rU
  have hx6:=aA hb3 hx3
  obtain⟨c0,c1,c2,c3,c4,f1,hl⟩:=fH h6.box
  have l0:w.heap.size<V6.heap.size:=(Array.getElem?_eq_some_iff.1 hx6).1
  have l1:bx<V6.heap.size:=(Array.getElem?_eq_some_iff.1 hs3).1
  have jB:row? V6 w.heap.size 0 2=some (ak t q):=by rw[bV hx6];exact dH (by simp[go_sem])
  have ajV:row? V6 bx 0 17=some (ae x0.1 (touched x0.2 f la su)):=by rw[bV hs3];exact dH (by simp[go_sem])
  have n1:=qo h bx hbw
  have e1:¬one e w.heap.size:=aT (fun e'=>n0 (.inr (.inr (.inl e'))))
  have e2:¬one e bx:=aT (fun e'=>n1 (.inr (.inr (.inl e'))))
  have e3:¬one e b:=aT (gu h.box h.em)
  go_wp2_with fail
  refine oP (one e) (But.refl _ V6) (by kernel_rfl) (by kernel_rfl) ?_
  repeat (first|(refine aP (by rfl) ?_)|(refine aN (by rfl) (by rfl) (fun K hK=>?_);go_big_quiet_op;refine hK _ ?_;clear hK K))
  refine aS (by rfl) (by rfl) (fun K hK=>?_)
  go_wp2_with fail
  refine(rW _ _ V6.drew ((hq'.later hb3).later (Below.refl _ _).drew)).mono ?_
  rintro z V7 ⟨rfl,hb7⟩
  dsimp only
  have lY:Below V6.heap.size V6 V7:=(Below.refl _ V6).drew.trans hb7
  refine hK _ _ (bI (But.of_below lY)) ?_
  clear hK K
  repeat (first|(refine aP (by rfl) ?_)|(refine aN (by rfl) (by rfl) (fun K hK=>?_);go_big_quiet_op;refine hK _ ?_;clear hK K))
  obtain⟨V8,hrun,EU,hb8,hs8⟩:=AL (P:=Tryz.prog) (k:=fU q) (v:=.agg (ae x0.1 (touched x0.2 f la su))) Tryz.underlying86 Tryz.underlying9 (h6.em.at (lY.block e h6.em.lt))
  rw[show Value.agg (ae x0.1 (touched x0.2 f la su))=Value.agg (bC (x0.1,touched x0.2 f la su)) from rfl,Ym hg hx0 BC]at EU
  have oz:But (one e) V6 V8:=(But.of_below lY).trans ⟨hb8.os,hb8.tape,hb8.output,hb8.size,hb8.block⟩
  refine aS (by rfl) (by rfl) (fun K hK=>?_)
  go_wp2_with fail
  refine hK _ _ (bI oz) ?_
  clear hK K
  repeat (first|(refine aP (by rfl) ?_)|(refine aN (by rfl) (by rfl) (fun K hK=>?_);go_big_quiet_op;refine hK _ ?_;clear hK K))
  refine bW ?_
  have jC:V8.heap[b]?=some (.cells (kJ re s n e p) 91):=(oz.block b hl e3).trans h6.box
  obtain⟨lu,vO,IM,IP⟩:=ai jC
  have hc91:=lu 1
  have vP:=vO 1
  go_wp2_with fail
  refine(zg b s V8 hc91 vP hs0 hs1).mono ?_
  rintro z w' ⟨rfl,rfl⟩
  dsimp only
  have vS:But (aX b n e p) w V8:=(But.of_below rU).trans (oz.mono fun k hk=>.inr (.inr (.inl hk)))
  have nz:=cZ (o:=1) (.int .i64 (s+1)) jC
  rw[zf]at nz
  have hoth:∀k,k≠b→(V8.setCell ⟨b,1,none⟩ (.int .i64 (s+1))).heap[k]?=V8.heap[k]?:=fun k hk=>Below.heap_setCell _ _ _ _ hk
  have hnb:n≠b:=fun e'=>gu h6.box h6.nm e'.symm
  have heb:e≠b:=fun e'=>gu h6.box h6.em e'.symm
  have hpb:p≠b:=fun e'=>gu h6.box h6.pm e'.symm
  have h8:=bT.mk nz (h6.nm.at ((hoth n hnb).trans (oz.block n h6.nm.lt (aT h.ne.1)))) (EU.at (hoth e heb)) (h6.pm.at ((hoth p hpb).trans (oz.block p h6.pm.lt (aT (Ne.symm h.ne.2.2))))) h.ne
  have EW:=rY (o:=1) (v:=.int .i64 (s+1)) vS (.inl (.inl rfl))
  go_wp2_with fail
  go_ret
  exact⟨rfl,EW,h8⟩
 ·intro v1 hv1
  simp only[pick,List.getElem?_cons_zero,List.getElem?_cons_succ]
  iterate 6 (refine aN (by kernel_rfl) (by kernel_rfl) (fun K hK=>?_);go_big_quiet_op;refine hK _ ?_;clear hK K)
  refine aS (by rfl) (by rfl) (fun K hK=>?_)
  go_wp2_with fail
  refine hK _ _ (dC (aC hv1 _)) ?_
  clear hK K
  rw[←Bh]
  have hz1:=World.alloc_heap_new v1 (.cells (ae eX ed) 32)
  have iL:=aC hv1 (.cells (ae eX ed) 32)
  generalize v1.alloc (.cells (ae eX ed) 32)=Z at *
  refine aS (by rfl) (by rfl) (fun K hK=>?_)
  go_wp2_with fail
  refine(rW _ _ _ (hq'.later iL)).mono ?_
  rintro z v2 ⟨rfl,hv2⟩
  dsimp only
  have dm:=ag iL hv2
  refine hK _ _ (dC dm) ?_
  clear hK K
  have hz2:=aA hv2 hz1
  have hcp:aJ v2 v1.heap.size 0 17=true:=nO hz2 (by simp[go_sem])
  have fC:=Go.WW.Below.putRow (o:=0) (cs:=ae x0.1 x0.2) dm hv1.size
  iterate 4 (refine aN (by kernel_rfl) (by kernel_rfl) (fun K hK=>?_);go_big_quiet_op;refine hK _ ?_;clear hK K)
  refine aS (by rfl) (by rfl) (fun K hK=>?_)
  go_wp2_with fail
  refine hK _ _ (dC fC) ?_
  clear hK K
  iterate 1 (refine aN (by kernel_rfl) (by kernel_rfl) (fun K hK=>?_);go_big_quiet_op;refine hK _ ?_;clear hK K)
  refine bW ?_
  have hbx:=pX (o:=0) (cs:=ae x0.1 x0.2) hz2 (by simp[go_sem])
  rw[Az (by simp[go_sem])]at hbx
  have rZ:W.heap.size≤v1.heap.size:=hv1.size
  clear hlk hv2 dm hz1 hz2 hcp iL
  generalize (putRow v2 v1.heap.size 0 (ae x0.1 x0.2))=V5 at *
  generalize v1.heap.size=bx at *
  have o9:=ag hB fC
  have h5:=h'.later fC
  have hx5:=aA fC hx3
  clear c0 c1 c2 c3 c4 f1 hl jB l0
  have l0:w.heap.size<V5.heap.size:=(Array.getElem?_eq_some_iff.1 hx5).1
  have jB:row? V5 w.heap.size 0 2=some (ak t q):=by rw[bV hx5];exact dH (by simp[go_sem])
  have n0:=qo h w.heap.size (Nat.le_refl _)
  obtain⟨hc,hf,hr,hlt⟩:=ai hbx
  go_wp2_with fail
  have hs3:=cZ (o:=13) (.int .i64 su) (cZ (o:=12) (.int .i64 la) (cZ (o:=11) (.int .i64 f) hbx))
  rw[Yn]at hs3
  have hbw:w.heap.size≤bx:=Nat.le_trans hB.size rZ
  have hb3:Below W.heap.size W (((V5.setCell ⟨bx,11,none⟩ (.int .i64 f)).setCell ⟨bx,12,none⟩ (.int .i64 la)).setCell ⟨bx,13,none⟩ (.int .i64 su)):=((fC.setCell rZ _).setCell rZ _).setCell rZ _
  clear hc hf hr hlt hbx fC
  generalize (((V5.setCell ⟨bx,11,none⟩ (.int .i64 f)).setCell ⟨bx,12,none⟩ (.int .i64 la)).setCell ⟨bx,13,none⟩ (.int .i64 su))=V6 at *
  clear o9 h5 hx5 l0 jB
  have rU:=ag hB hb3
  have h6:=h.later rU
  have hx6:=aA hb3 hx3
  obtain⟨c0,c1,c2,c3,c4,f1,hl⟩:=fH h6.box
  have l0:w.heap.size<V6.heap.size:=(Array.getElem?_eq_some_iff.1 hx6).1
  have l1:bx<V6.heap.size:=(Array.getElem?_eq_some_iff.1 hs3).1
  have jB:row? V6 w.heap.size 0 2=some (ak t q):=by rw[bV hx6];exact dH (by simp[go_sem])
  have ajV:row? V6 bx 0 17=some (ae x0.1 (touched x0.2 f la su)):=by rw[bV hs3];exact dH (by simp[go_sem])
  have n1:=qo h bx hbw
  have e1:¬one e w.heap.size:=aT (fun e'=>n0 (.inr (.inr (.inl e'))))
  have e2:¬one e bx:=aT (fun e'=>n1 (.inr (.inr (.inl e'))))
  have e3:¬one e b:=aT (gu h.box h.em)
  go_wp2_with fail
  refine oP (one e) (But.refl _ V6) (by kernel_rfl) (by kernel_rfl) ?_
  repeat (first|(refine aP (by rfl) ?_)|(refine aN (by rfl) (by rfl) (fun K hK=>?_);go_big_quiet_op;refine hK _ ?_;clear hK K))
  refine aS (by rfl) (by rfl) (fun K hK=>?_)
  go_wp2_with fail
  refine(rW _ _ V6.drew ((hq'.later hb3).later (Below.refl _ _).drew)).mono ?_
  rintro z V7 ⟨rfl,hb7⟩
  dsimp only
  have lY:Below V6.heap.size V6 V7:=(Below.refl _ V6).drew.trans hb7
  refine hK _ _ (bI (But.of_below lY)) ?_
  clear hK K
  repeat (first|(refine aP (by rfl) ?_)|(refine aN (by rfl) (by rfl) (fun K hK=>?_);go_big_quiet_op;refine hK _ ?_;clear hK K))
  obtain⟨V8,hrun,EU,hb8,hs8⟩:=AL (P:=Tryz.prog) (k:=fU q) (v:=.agg (ae x0.1 (touched x0.2 f la su))) Tryz.underlying86 Tryz.underlying9 (h6.em.at (lY.block e h6.em.lt))
  rw[show Value.agg (ae x0.1 (touched x0.2 f la su))=Value.agg (bC (x0.1,touched x0.2 f la su)) from rfl,Ym hg hx0 BC]at EU
  have oz:But (one e) V6 V8:=(But.of_below lY).trans ⟨hb8.os,hb8.tape,hb8.output,hb8.size,hb8.block⟩
  refine aS (by rfl) (by rfl) (fun K hK=>?_)
  go_wp2_with fail
  refine hK _ _ (bI oz) ?_
  clear hK K
  repeat (first|(refine aP (by rfl) ?_)|(refine aN (by rfl) (by rfl) (fun K hK=>?_);go_big_quiet_op;refine hK _ ?_;clear hK K))
  refine bW ?_
  have jC:V8.heap[b]?=some (.cells (kJ re s n e p) 91):=(oz.block b hl e3).trans h6.box
  obtain⟨lu,vO,IM,IP⟩:=ai jC
  have hc91:=lu 1
  have vP:=vO 1
  go_wp2_with fail
  refine(zg b s V8 hc91 vP hs0 hs1).mono ?_
  rintro z w' ⟨rfl,rfl⟩
  dsimp only
  have vS:But (aX b n e p) w V8:=(But.of_below rU).trans (oz.mono fun k hk=>.inr (.inr (.inl hk)))
  have nz:=cZ (o:=1) (.int .i64 (s+1)) jC
  rw[zf]at nz
  have hoth:∀k,k≠b→(V8.setCell ⟨b,1,none⟩ (.int .i64 (s+1))).heap[k]?=V8.heap[k]?:=fun k hk=>Below.heap_setCell _ _ _ _ hk
  have hnb:n≠b:=fun e'=>gu h6.box h6.nm e'.symm
  have heb:e≠b:=fun e'=>gu h6.box h6.em e'.symm
  have hpb:p≠b:=fun e'=>gu h6.box h6.pm e'.symm
  have h8:=bT.mk nz (h6.nm.at ((hoth n hnb).trans (oz.block n h6.nm.lt (aT h.ne.1)))) (EU.at (hoth e heb)) (h6.pm.at ((hoth p hpb).trans (oz.block p h6.pm.lt (aT (Ne.symm h.ne.2.2))))) h.ne
  have EW:=rY (o:=1) (v:=.int .i64 (s+1)) vS (.inl (.inl rfl))
  go_wp2_with fail
  go_ret
  exact⟨rfl,EW,h8⟩
end Go.Proofs.YtaghcadlgbnbdaaGreatDoor
namespace Go.WW
open Go.RowKit
def pg(w:World)(i:Nat):Nat:=
 match w.heap[i]? with
 |some (.mapIter (some b) _ seen _)=>(match w.heap[b]? with|some (.map es _)=>(leftOf es seen).size|_=>0)
 |_=>0
theorem kz.pg{w:World}{i b:Nat}{m left:List (ByteArray×Value)}(h:kz w i b m left):pg w i=left.length:=by
 obtain⟨es,clock,seen,c0,h1,h2,-,-,h5⟩:=h
 have hl:=congrArg List.length h5
 simp only[List.length_map,Array.length_toList]at hl
 unfold Go.WW.pg
 rw[h1]
 dsimp only
 rw[h2]
 exact hl
end Go.WW
namespace Go.Proofs.YtaghcadlgbnbdaaGreatDoor
open Go.RowKit Go.WW
theorem ajW(b n e p:Nat)(re:ByteArray)(s:Int)(N:List (ByteArray×Value))(E:List EE)(P:List ah)(k:ByteArray)(w:World)(h:bT w b n e p re s N E P)(hre:¬re=⟨#[]⟩)(hP:P.any (fun x=>decide (x.name=k))=false) :
  Calls Tryz.prog 25 #[.pointer (some ⟨b,0,none⟩),.string k] w fun z w'=>z=.returned (.int .i64 9)∧Below w.heap.size w w':=by
 obtain⟨c0,c1,c2,c3,c4,f1,hl⟩:=fH h.box
 have hlk:=IL h.pm k hP
 go_enter Tryz.func25,Tryz.ntmps25
 go_wp2_with fail
 refine(lq _ _ _ c0 hre).mono ?_
 rintro x w' ⟨rfl,rfl⟩
 dsimp only
 go_wp2_with fail
 go_ret
 exact⟨rfl,aC (Below.refl _ w) _⟩
theorem ajX(b n e p:Nat)(re:ByteArray)(s:Int)(N:List (ByteArray×Value))(E:List EE)(P:List ah)(q0:ah)(w:World)(h:bT w b n e p re s N E P)(hre:¬re=⟨#[]⟩)(hq:q0∈P)(hb:∃x∈E,x.2.aK=q0.name) :
  Calls Tryz.prog 25 #[.pointer (some ⟨b,0,none⟩),.string q0.name] w fun z w'=>z=.returned (.int .i64 11)∧Below w.heap.size w w':=by
 obtain⟨c0,c1,c2,c3,c4,f1,hl⟩:=fH h.box
 have hlk:=IK h.pm q0 hq
 have hB:Below w.heap.size w (w.alloc (.cells (az q0) 35)):=aC (Below.refl _ w) _
 obtain⟨w1,hrange,hit,hb1,hs1⟩:=Ho (P:=Tryz.prog) (w:=w.alloc (.cells (az q0) 35)) Tryz.underlying86 ((h.later hB).em)
 obtain⟨i,hi⟩:∃i,i=(w.alloc (.cells (az q0) 35)).heap.size:=⟨_,rfl⟩
 rw[←hi]at hrange hit hs1
 have hB1:=ag hB (by rw[←hi]at hb1;rw[←hi];exact hb1)
 have hiw:w.heap.size<i:=by rw[hi];simp
 clear hi hb1
 have HB:=Lib.hid hb
 clear hb
 go_enter Tryz.func25,Tryz.ntmps25
 go_wp2_with fail
 refine(lq _ _ _ c0 hre).mono ?_
 rintro x w' ⟨rfl,rfl⟩
 dsimp only
 go_wp2_with fail
 clear hrange hlk
 go_loopw [] (fun wr=>∃left:List EE,Hid (kz wr i e (kL E) (kL left))∧Hid (∃x∈left,x.2.aK=q0.name)∧Below w.heap.size w wr) (fun wr=>pg wr i)
 case atStart=>exact⟨E,hit,HB,hB1⟩
 case round=>
  obtain⟨left,hI,hp,hbr⟩:=hrel
  rcases Hq (P:=Tryz.prog) 0 hI.out with⟨hl0,hrun⟩|⟨l1,x,l2,w2,hl,hrun,hent,hI2,hb2,hs2⟩
  ·obtain rfl:left=[]:=by cases left<;>simp_all
   obtain⟨x,hx,-⟩:=hp.out
   cases hx
  ·obtain⟨L1,L',hL,e1,e2⟩:=List.map_eq_append_iff.1 hl
   obtain⟨y,L2,rfl,e3,e4⟩:=List.map_eq_cons_iff.1 e2
   subst e3 e1 e4 hL
   have hbw2:Below w.heap.size w w2:=zy hbr hb2 (fun j (hj:j=i)=>by omega)
   have hrun':(Instr.next (.pointer (some ⟨i,0,none⟩)) false 0).run Tryz.prog wr=.ok (.tuple #[.bool true,.string (textOf y.2.name),.agg (bC y)]) w2:=hrun
   have EP:(Instr.entry (.pointer (some ⟨i,0,none⟩))).run Tryz.prog w2=.ok (.tuple #[.string (textOf y.2.name),.agg (bC y)]) w2:=hent
   simp only[bC]at hrun' EP
   clear hrun hent
   by_cases hk:y.2.aK=q0.name
   ·have hse:=str_eq _ _ hk
    go_wp2_with fail
    go_ret
    exact⟨rfl,aC hbw2 _⟩
   ·have hse:=kD _ _ hk
    have hbn:=aC hbw2 (.cells (ae y.1 y.2) 32)
    have hsz:i<w2.heap.size:=hI2.lt
    have hel:e<w2.heap.size:=hI2.map.lt
    have zA:kz (w2.alloc (.cells (ae y.1 y.2) 32)) i e (kL E) (kL (L1++L2)):=by
     have:=hI2.at (w':=w2.alloc (.cells (ae y.1 y.2) 32)) (Below.heap_alloc _ _ _ hsz) (Below.heap_alloc _ _ _ hel)
     rw[show kL (L1++L2)=kL L1++kL L2 from List.map_append];exact this
    have hm1:=zA.pg
    have hm0:=hI.out.pg
    have HM:=Lib.hid (show pg (w2.alloc (.cells (ae y.1 y.2) 32)) i<pg wr i by rw[hm1,hm0];simp)
    have HI3:=Lib.hid zA
    clear hm1 hm0 zA
    go_wp2_with fail
    go_roundw
    case rel=>
     refine⟨L1++L2,HI3,?_,hbn⟩
     obtain⟨x,hx,ex⟩:=hp.out
     refine⟨x,?_,ex⟩
     rcases List.mem_append.1 hx with hx|hx
     ·exact List.mem_append.2 (.inl hx)
     ·rcases List.mem_cons.1 hx with rfl|hx
      ·exact absurd ex hk
      ·exact List.mem_append.2 (.inr hx)
    case measure=>exact HM.out
theorem ajY(b n e p:Nat)(re:ByteArray)(s:Int)(N:List (ByteArray×Value))(E:List EE)(P:List ah)(q0:ah)(w:World)(h:bT w b n e p re s N E P)(hre:¬re=⟨#[]⟩)(hq:q0∈P)(hb:∀x∈E,¬x.2.aK=q0.name)(hs0:0≤s)(hs1:s<1000000) :
  Calls Tryz.prog 25 #[.pointer (some ⟨b,0,none⟩),.string q0.name] w fun z w'=>z=.returned (.int .i64 0)∧But (aX b n e p) w w'∧bT w' b n e p re (s+1) N E (ET P q0.name):=by
 obtain⟨c0,c1,c2,c3,c4,f1,hl⟩:=fH h.box
 have hlk:=IK h.pm q0 hq
 have hB:Below w.heap.size w (w.alloc (.cells (az q0) 35)):=aC (Below.refl _ w) _
 obtain⟨w1,hrange,hit,hb1,hsw⟩:=Ho (P:=Tryz.prog) (w:=w.alloc (.cells (az q0) 35)) Tryz.underlying86 ((h.later hB).em)
 obtain⟨i,hi⟩:∃i,i=(w.alloc (.cells (az q0) 35)).heap.size:=⟨_,rfl⟩
 rw[←hi]at hrange hit hsw
 have hB1:=ag hB (by rw[←hi]at hb1;rw[←hi];exact hb1)
 have hiw:w.heap.size<i:=by rw[hi];simp
 clear hi hb1 hsw
 have HB:=Lib.hid hb
 clear hb
 go_enter Tryz.func25,Tryz.ntmps25
 go_wp2_with fail
 refine(lq _ _ _ c0 hre).mono ?_
 rintro x w' ⟨rfl,rfl⟩
 dsimp only
 go_wp2_with fail
 clear hrange hlk
 go_loopw [] (fun wr=>∃left:List EE,Hid (kz wr i e (kL E) (kL left))∧Hid (∀x∈left,x∈E)∧Below w.heap.size w wr) (fun wr=>pg wr i)
 case atStart=>exact⟨E,hit,Lib.hid (fun x hx=>hx),hB1⟩
 case round=>
  obtain⟨left,hI,hp,hbr⟩:=hrel
  rcases Hq (P:=Tryz.prog) 0 hI.out with⟨hl0,hrun⟩|⟨l1,x,l2,w2,hl,hrun,hent,hI2,hb2,hs2⟩
  ·obtain rfl:left=[]:=by cases left<;>simp_all
   have h4:=h.later hbr
   clear c0 c1 c2 c3 c4 f1 hl
   obtain⟨c0,c1,c2,c3,c4,f1,hl⟩:=fH h4.box
   obtain⟨w5,hdel,Yo,hb5,hs5⟩:=MI (P:=Tryz.prog) (k:=q0.name) (ty:=0) (tY:=#[87,9]) rfl Tryz.underlying87 Tryz.underlying9 h4.pm
   rw[ajC]at Yo
   have hbp:b≠p:=gu h4.box h4.pm
   have Yp:w5.heap[b]?=some (.cells (kJ re s n e p) 91):=(hb5.block b hl hbp).trans h4.box
   obtain⟨lu,vO,IM,IP⟩:=ai Yp
   have hc91:=lu 1
   have vP:=vO 1
   go_wp2_with fail
   refine(zg b s w5 hc91 vP hs0 hs1).mono ?_
   rintro z w' ⟨rfl,rfl⟩
   dsimp only
   have vS:But (aX b n e p) w w5:=(But.of_below hbr).trans (hb5.mono fun k hk=>.inr (.inr (.inr hk)))
   have nz:=cZ (o:=1) (.int .i64 (s+1)) Yp
   rw[zf]at nz
   have hoth:∀k,k≠b→(w5.setCell ⟨b,1,none⟩ (.int .i64 (s+1))).heap[k]?=w5.heap[k]?:=fun k hk=>Below.heap_setCell _ _ _ _ hk
   have hnb:n≠b:=fun e'=>gu h4.box h4.nm e'.symm
   have heb:e≠b:=fun e'=>gu h4.box h4.em e'.symm
   have h8:=bT.mk nz (h4.nm.at ((hoth n hnb).trans (hb5.block n h4.nm.lt h.ne.2.1))) (h4.em.at ((hoth e heb).trans (hb5.block e h4.em.lt h.ne.2.2))) (Yo.at (hoth p (Ne.symm hbp))) h.ne
   have EW:=rY (o:=1) (v:=.int .i64 (s+1)) vS (.inl (.inl rfl))
   go_wp2_with fail
   go_ret
   exact⟨rfl,EW,h8⟩
  ·obtain⟨L1,L',hL,e1,e2⟩:=List.map_eq_append_iff.1 hl
   obtain⟨y,L2,rfl,e3,e4⟩:=List.map_eq_cons_iff.1 e2
   subst e3 e1 e4 hL
   have hbw2:Below w.heap.size w w2:=zy hbr hb2 (fun j (hj:j=i)=>by omega)
   have hrun':(Instr.next (.pointer (some ⟨i,0,none⟩)) false 0).run Tryz.prog wr=.ok (.tuple #[.bool true,.string (textOf y.2.name),.agg (bC y)]) w2:=hrun
   have EP:(Instr.entry (.pointer (some ⟨i,0,none⟩))).run Tryz.prog w2=.ok (.tuple #[.string (textOf y.2.name),.agg (bC y)]) w2:=hent
   simp only[bC]at hrun' EP
   clear hrun hent
   have hk:¬y.2.aK=q0.name:=HB.out y (hp.out y (by simp))
   have hse:=kD _ _ hk
   have hbn:=aC hbw2 (.cells (ae y.1 y.2) 32)
   have hsz:i<w2.heap.size:=hI2.lt
   have hel:e<w2.heap.size:=hI2.map.lt
   have zA:kz (w2.alloc (.cells (ae y.1 y.2) 32)) i e (kL E) (kL (L1++L2)):=by
    have:=hI2.at (w':=w2.alloc (.cells (ae y.1 y.2) 32)) (Below.heap_alloc _ _ _ hsz) (Below.heap_alloc _ _ _ hel)
    rw[show kL (L1++L2)=kL L1++kL L2 from List.map_append];exact this
   have hm1:=zA.pg
   have hm0:=hI.out.pg
   have HM:=Lib.hid (show pg (w2.alloc (.cells (ae y.1 y.2) 32)) i<pg wr i by rw[hm1,hm0];simp)
   have HI3:=Lib.hid zA
   have ER:=Lib.hid (show ∀x∈L1++L2,x∈E from fun x hx=>hp.out x (by
    rcases List.mem_append.1 hx with hx|hx
    ·exact List.mem_append.2 (.inl hx)
    ·exact List.mem_append.2 (.inr (List.mem_cons.2 (.inr hx)))))
   clear hm1 hm0 zA
   go_wp2_with fail
   go_roundw
   case rel=>exact⟨L1++L2,HI3,ER,hbn⟩
   case measure=>exact HM.out
end Go.Proofs.YtaghcadlgbnbdaaGreatDoor
namespace Go.WW
open Go.RowKit
end Go.WW
namespace Go.Proofs.YtaghcadlgbnbdaaGreatDoor
open Go.RowKit Go.WW
structure KS(V:World)(E:Nat)(r:aI)(f l:Int):Prop where
 e:V.heap[E]?=some (.cells (ae r (vN f l)) 32)
 p:V.heap[E+1]?=some (.cells (az (Oe 3)) 35)
 d:aZ V (fun k=>k≠E∧k<V.heap.size) (fun x=>bz x r (vN f l))
theorem KS.later{V V':World}{E:Nat}{r:aI}{f l:Int}(h:KS V E r f l)(hb:Below V.heap.size V V'):KS V' E r f l:=
 ⟨aA hb h.e,aA hb h.p,h.d.to (fun k hk=>hb.block k hk.2) (fun _ hk=>⟨hk.1,Nat.lt_of_lt_of_le hk.2 hb.size⟩)⟩
theorem KS.put{V V':World}{E:Nat}{r r':aI}{f l f' l':Int}{o:Obj}(h:KS V E r f l)(hb:Below V.heap.size V V')(hd:aZ V' (fresh V.heap.size V') (fun x=>bz x r' (vN f' l'))):KS (putRow (V'.alloc o) E 0 (ae r' (vN f' l'))) E r' f' l':=by
 have hE:E<V.heap.size:=(Array.getElem?_eq_some_iff.1 h.e).1
 have hE1:E+1<V.heap.size:=(Array.getElem?_eq_some_iff.1 h.p).1
 have hs:=hb.size
 have e1:(V'.alloc o).heap[E]?=some (.cells (ae r (vN f l)) 32):=by rw[Below.heap_alloc _ _ _ (by omega)];exact aA hb h.e
 refine⟨?_,?_,?_⟩
 ·rw[pX e1 (by simp[go_sem]),Az (by simp[go_sem])]
 ·rw[jh (by omega),Below.heap_alloc _ _ _ (by omega)];exact aA hb h.p
 ·refine hd.to (fun k hk=>?_) (fun k hk=>⟨by have:=hk.1;omega,by rw[jS];have:=hk.2;simp;omega⟩)
  have h1:=hk.1
  have h2:=hk.2
  rw[jh (by omega),Below.heap_alloc _ _ _ h2]
theorem KS.EX{V:World}{E:Nat}{r:aI}{f l:Int}(h:KS V E r f l):bz V r (vN f l):=h.d.out
end Go.Proofs.YtaghcadlgbnbdaaGreatDoor
namespace Go.WW
open Go.RowKit
def arC(w:World)(e:Ending)(w':World):Prop:=∃b,e=.returned (.bool b)∧Below w.heap.size w w'
def RP(l:List aB)(w:World)(i:Nat)(cs:Array Value):Prop:=∃p s,l[i]?=some p∧cs=ak s p∧bg w s p
end Go.WW
namespace Go.Proofs.YtaghcadlgbnbdaaGreatDoor
open Go.RowKit Go.WW
end Go.Proofs.YtaghcadlgbnbdaaGreatDoor
namespace Go.WW
open Go.RowKit
def arD(L:List ah)(d:Entry):ah:=if d.aK=⟨#[]⟩then ni else(L.find? fun x=>decide (x.name=d.aK)).getD ni
def arE(PL:List ah)(X:List EE)(w:World)(z:Ending)(w':World):Prop:=Below w.heap.size w w'∧∃bl:Bool,z=.returned (.bool bl)∧(bl=true→PL.length≤4∧X.length≤6)
end Go.WW
namespace Go.Proofs.YtaghcadlgbnbdaaGreatDoor
open Go.RowKit Go.WW
theorem ajZ(w:World):(mW 35 #[]).run Tryz.prog w=.ok (.value (.agg (az ni))) w:=by kernel_rfl
attribute [go_sem] ajZ
end Go.Proofs.YtaghcadlgbnbdaaGreatDoor
namespace Go.WW
open Go.RowKit
theorem ja.wide{S S':Nat→Prop}{w w':World}{Φ:World→Prop}(h:ja S w Φ)(hb:Below w.heap.size w w')(hS:∀k,S' k→S k∨w.heap.size≤k):ja S' w' Φ:=
 fun y hy=>h y ⟨hy.os.trans hb.os,hy.tape.trans hb.tape,hy.output.trans hb.output,Nat.le_trans hb.size hy.size,fun k hk hn=>(hy.block k (Nat.lt_of_lt_of_le hk hb.size) fun hs=>by
  rcases hS k hs with h1|h1
  ·exact hn h1
  ·omega).trans (hb.block k hk)⟩
theorem gW.wide{S S':Nat→Prop}{es ps:Sl}{D:Db}{X:List EE}{w w':World}(h:gW S es ps D X w)(hb:Below w.heap.size w w')(hS:∀k,S' k→S k∨w.heap.size≤k):gW S' es ps D X w':=⟨h.dR.wide hb hS,h.eu.wide hb hS,h.cap⟩
theorem Yq{P:Program}{fn:Func}{a t c:Tmp}{T:TypeId}{d:TypeDesc}{n:Nat}(hf:fn.results=#[.tmp a,.cell t T,.tmp c])(hu:P.underlying T=some d)(hd:d.isRow=true)(hi:(P.info? T).map (·.size)=some n){tmps:Array Value}{w:World}{b o:Nat}{cs:Array Value}(ha:tmps.getD t undef=.pointer (some ⟨b,o,none⟩))(h:row? w b o n=some cs) :
  (results fn tmps).run P w=.ok (.tuple #[tmps.getD a undef,.agg cs,tmps.getD c undef]) w:=by
 have hl:=run_loadVar_row hu hd hi h
 have ha':(asAddr (tmps.getD t undef)).run P w=.ok ⟨b,o,none⟩ w:=by rw[ha];rfl
 rw[Array.getD_eq_getD_getElem?]at ha'
 unfold results
 rw[hf]
 simp[Sem.run_bind,ha',hl,Result.andThen]
abbrev fJ:ByteArray:=⟨#[82]⟩
theorem EY:¬fJ=⟨#[]⟩:=by intro h;have:=congrArg ByteArray.size h;simp[ByteArray.size]at this
theorem Jm:gZ fJ=true:=by decide +kernel
def iP:Db:=⟨⟨#[]⟩,0,[],[]⟩
def iH(re:ByteArray):Db:=⟨re,0,[],[]⟩
abbrev aQ:Sl:=⟨Option.none,0⟩
theorem Jn:aj aQ aQ iP=#[.string ⟨#[]⟩,.int .i64 0,.slice Option.none 0 0,.slice Option.none 0 0]:=rfl
theorem aj0:iG (iH fJ) [] [] [] []:=⟨rfl,fun k o=>by simp,gy.nil,List.Perm.refl _,List.Pairwise.nil,lZ.nil,by simp⟩
end Go.WW
namespace Go.Proofs.YtaghcadlgbnbdaaGreatDoor
open Go.RowKit Go.WW
theorem aj1(ρ:Operand→Value)(dst:Option Tmp)(x:Operand)(ty:TypeId)(pos:String)(after:Array Edge)(guard:Option (Nat×Bool)) :
  execOp ρ {dst,op:=.build 44 #[(0,x)],type:=ty,pos,after,guard}=mW 44 #[(0,ρ x)]:=by simp[execOp,mW]
theorem aj2(re:ByteArray)(w:World):(mW 44 #[(0,.string re)]).run Tryz.prog w=.ok (.value (.agg (aj aQ aQ (iH re)))) w:=by kernel_rfl
attribute [go_sem] aj2
attribute [go_sem ↓] aj1
theorem Yr(re:ByteArray)(w:World)(hs:re.size≤lim)(hok:gZ re=true):Calls Tryz.prog 26 #[.string re] w fun z w'=>z=.returned (.tuple #[.agg (aj aQ aQ (iH re)),.int .i64 0])∧Below w.heap.size w w':=by
 have hz3:aJ (w.alloc (.cells (aj aQ aQ iP) 44)) w.heap.size 0 4=true:=by simp[go_sem]
 have hB:Below w.heap.size w (w.alloc (.cells (aj aQ aQ iP) 44)):=aC (Below.refl _ _) _
 have hR:=Us re (w.alloc (.cells (aj aQ aQ iP) 44)) hs
 rw[hok]at hR
 rw[Jn]at hz3 hB hR
 have HR:=Lib.hid hR
 clear hok hs hR
 go_enter Tryz.func26,Tryz.ntmps26
 go_wp2_with fail
 refine HR.out.mono ?_
 rintro z w' ⟨rfl,rfl⟩
 dsimp only
 go_wp2_with fail
 have hrow:row? (w.alloc (.cells (aj aQ aQ (iH re)) 44)) w.heap.size 0 4=some (aj aQ aQ (iH re)):=by rw[G6 rfl];exact dH (iT _ _ _)
 exact bodyPost_ret (kX (by rfl) Tryz.underlying44 rfl (by kernel_rfl) rfl hrow) rfl ⟨rfl,aC (Below.refl _ _) _⟩
end Go.Proofs.YtaghcadlgbnbdaaGreatDoor
