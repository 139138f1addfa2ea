/- A part of the proof. -/
import Derived.Test.YtfieenjdcpjmgaaGreatDoorB05
import Derived.Test.YtfieenjdcpjmgaaGreatDoorB03
import Derived.Maps.AppendAt
import Derived.Deep.AppendLies
set_option maxRecDepth 100000
set_option maxHeartbeats 1000000
namespace Go.WW
def oQ(c:UInt8):Bool:=(c.toNat:Int) == 47 || (c.toNat:Int) == 64 || (c.toNat:Int) == 92
def lC(c:UInt8):List UInt8:=if oQ c then [92,c]else [c]
def esc(l:List UInt8):List UInt8:=l.flatMap lC
def lF(l:List ByteArray):List UInt8:=l.flatMap fun q=>47::esc q.data.toList
def iM:List ByteArray→List UInt8
 | []=>[]
 |p::ps=>esc p.data.toList++lF ps
def qZ(p:az):List UInt8:=iM p.parts++64::p.aG.data.toList
def textOf(p:az):ByteArray:=⟨(qZ p).toArray⟩
theorem JW:esc []=[]:=rfl
theorem Am(c:UInt8)(l:List UInt8):esc (c::l)=lC c++esc l:=rfl
theorem wQ(l:List UInt8)(c:UInt8):esc (l++[c])=esc l++lC c:=by simp[esc]
theorem ad5(l:List ByteArray)(q:ByteArray):iM (l++[q])=(if l.length=0 then []else iM l++[47])++esc q.data.toList:=by
 cases l with
 |nil=>simp[iM,lF]
 |cons p ps=>simp[iM,lF]
def FU:List UInt8→Prop
 | []=>False
 |c::_=>c=47∨c=64
theorem RU:oQ 47=true:=by decide
theorem RV:oQ 64=true:=by decide
theorem RX:oQ 92=true:=by decide
theorem FV:∀(p q x y:List UInt8),FU x→FU y→esc p++x=esc q++y→p=q∧x=y
 | [],[],x,y,_,_,h=>⟨rfl,by simpa[esc]using h⟩
 | [],d::q,x,y,hx,_,h=>by
  exfalso
  rw[JW,List.nil_append,Am]at h
  cases x with
  |nil=>exact hx
  |cons a x=>
   unfold lC at h
   split at h
   ·simp only[List.cons_append,List.cons.injEq]at h
    rcases hx with e|e<;>rw[e]at h<;>simp at h
   ·rename_i hs
    simp only[List.cons_append,List.cons.injEq]at h
    rcases hx with e|e<;>rw[←h.1,e]at hs
    ·exact hs RU
    ·exact hs RV
 |c::p,[],x,y,hx,hy,h=>by
  exfalso
  rw[JW,List.nil_append,Am]at h
  cases y with
  |nil=>exact hy
  |cons a y=>
   unfold lC at h
   split at h
   ·simp only[List.cons_append,List.cons.injEq]at h
    rcases hy with e|e<;>rw[e]at h<;>simp at h
   ·rename_i hs
    simp only[List.cons_append,List.cons.injEq]at h
    rcases hy with e|e<;>rw[h.1,e]at hs
    ·exact hs RU
    ·exact hs RV
 |c::p,d::q,x,y,hx,hy,h=>by
  rw[Am,Am]at h
  unfold lC at h
  split at h<;>split at h
  ·simp only[List.cons_append,List.cons.injEq,List.nil_append,true_and]at h
   obtain⟨rfl,h⟩:=h
   obtain⟨rfl,rfl⟩:=FV p q x y hx hy h
   exact⟨rfl,rfl⟩
  ·rename_i h1 h2
   simp only[List.cons_append,List.cons.injEq]at h
   rw[←h.1]at h2
   exact absurd RX h2
  ·rename_i h1 h2
   simp only[List.cons_append,List.cons.injEq]at h
   rw[h.1]at h1
   exact absurd RX h1
  ·simp only[List.cons_append,List.cons.injEq,List.nil_append]at h
   obtain⟨rfl,h⟩:=h
   obtain⟨rfl,rfl⟩:=FV p q x y hx hy h
   exact⟨rfl,rfl⟩
theorem FW(ps:List ByteArray)(r:List UInt8):FU (lF ps++64::r):=by
 cases ps<;>simp[lF,FU]
theorem JX{a b:ByteArray}(h:a.data.toList=b.data.toList):a=b:=by
 cases a;cases b;congr;exact Array.ext' h
theorem RY:∀(ps qs:List ByteArray) (r s:List UInt8),lF ps++64::r=lF qs++64::s→ps=qs∧r=s
 | [],[],r,s,h=>⟨rfl,by simpa[lF]using h⟩
 | [],q::qs,r,s,h=>by exfalso;simp[lF]at h
 |p::ps,[],r,s,h=>by exfalso;simp[lF]at h
 |p::ps,q::qs,r,s,h=>by
  have e:∀(p:ByteArray) ps r,lF (p::ps)++64::r=47::(esc p.data.toList++(lF ps++64::r)):=fun p ps r=>by simp[lF]
  rw[e,e]at h
  simp only[List.cons.injEq,true_and]at h
  obtain⟨h1,h2⟩:=FV _ _ _ _ (FW ps r) (FW qs s) h
  obtain⟨rfl,rfl⟩:=RY ps qs r s h2
  exact⟨by rw[JX h1],rfl⟩
theorem ad6{p q:az}(hp:p.parts≠[])(hq:q.parts≠[])(h:qZ p=qZ q):p.parts=q.parts∧p.aG=q.aG:=by
 obtain⟨pp,pr⟩:=p
 obtain⟨qp,qr⟩:=q
 cases pp with
 |nil=>exact absurd rfl hp
 |cons a ps=>
  cases qp with
  |nil=>exact absurd rfl hq
  |cons b qs=>
   simp only[qZ,iM,List.append_assoc]at h
   obtain⟨h1,h2⟩:=FV _ _ _ _ (FW ps _) (FW qs _) h
   obtain⟨rfl,h3⟩:=RY _ _ _ _ h2
   exact⟨by rw[JX h1],JX h3⟩
theorem JY{p q:az}(hp:p.parts≠[])(hq:q.parts≠[]):textOf p=textOf q↔aY p q=true:=by
 simp only[aY,Bool.and_eq_true,decide_eq_true_eq]
 constructor
 ·intro h
  have:qZ p=qZ q:=by
   have:=congrArg (fun b:ByteArray=>b.data.toList) h
   simpa[textOf]using this
  exact(ad6 hp hq this).symm
 ·rintro⟨h1,h2⟩
  unfold textOf qZ;rw[h1,h2]
theorem tu{p:az}(h:bG p=true):p.parts≠[]:=by
 rintro e
 simp[bG,e]at h
def Ap(acc:List ByteArray)(s:ByteArray):Bool:=acc.any fun x=>decide (x=s)
theorem FX(acc:List ByteArray)(s:ByteArray):Ap acc s=true↔s∈acc:=by simp[Ap]
def addKey(acc:List ByteArray)(s:ByteArray):List ByteArray:=if Ap acc s then acc else acc++[s]
def keysOf(l:List ByteArray):List ByteArray:=l.foldl addKey []
theorem ad7(l:List ByteArray)(s:ByteArray):keysOf (l++[s])=addKey (keysOf l) s:=by simp[keysOf]
theorem ad8(acc:List ByteArray)(s:ByteArray):(addKey acc s).length≤acc.length+1:=by unfold addKey;split<;>simp
theorem JZ:∀(l acc:List ByteArray),(l.foldl addKey acc).length≤acc.length+l.length
 | [],acc=>by simp
 |s::l,acc=>by
  rw[List.foldl_cons,List.length_cons]
  have:=JZ l (addKey acc s)
  have:=ad8 acc s
  omega
theorem RZ:∀(l acc:List ByteArray),acc.Nodup→((l.foldl addKey acc).length=acc.length+l.length↔(acc++l).Nodup)
 | [],acc,h=>by simp[h]
 |s::l,acc,h=>by
  rw[List.foldl_cons,List.length_cons]
  by_cases hs:s∈acc
  ·have e:addKey acc s=acc:=by rw[addKey,(FX acc s).2 hs];rfl
   rw[e]
   have:=JZ l acc
   constructor
   ·intro h';omega
   ·intro h'
    exfalso
    rw[List.nodup_append]at h'
    exact h'.2.2 s hs s (by simp) rfl
  ·have e:addKey acc s=acc++[s]:=by rw[addKey,if_neg (fun h'=>hs ((FX acc s).1 h'))]
   rw[e]
   have hn:(acc++[s]).Nodup:=by
    rw[List.nodup_append]
    refine⟨h,by simp,?_⟩
    intro a ha b hb
    simp at hb;subst hb
    rintro rfl;exact hs ha
   have ih:=RZ l (acc++[s]) hn
   rw[List.length_append,List.length_singleton,List.append_assoc,List.singleton_append]at ih
   rw[←ih]
   omega
theorem ad9(l:List ByteArray):(keysOf l).length≤l.length:=by have:=JZ l [];simpa[keysOf]using this
def uQ(l:List az):Bool:=decide (((keysOf (l.map textOf)).length:Int)=(l.length:Int))
theorem J3(l:List az):uQ l=true↔(l.map textOf).Nodup:=by
 have:=RZ (l.map textOf) [] List.nodup_nil
 simp only[List.length_nil,List.length_map,Nat.zero_add,List.nil_append]at this
 rw[←this,uQ,decide_eq_true_eq,keysOf]
 omega
theorem Aq{p q:az}:aY p q=true↔p=q:=by
 obtain⟨a,b⟩:=p;obtain⟨c,d⟩:=q
 simp only[aY,Bool.and_eq_true,decide_eq_true_eq,az.mk.injEq]
 exact And.comm
theorem FY{l:List az}(h:l.all bG=true):(l.map textOf).Nodup↔l.Nodup:=by
 induction l with
 |nil=>simp
 |cons p l ih=>
  simp only[List.all_cons,Bool.and_eq_true]at h
  rw[List.map_cons,List.nodup_cons,List.nodup_cons,ih h.2]
  have:textOf p∈l.map textOf↔p∈l:=by
   rw[List.mem_map]
   constructor
   ·rintro⟨q,hq,e⟩
    have hq':bG q=true:=List.all_eq_true.1 h.2 q hq
    rw[←Aq.1 ((JY (tu hq') (tu h.1)).1 e)];exact hq
   ·intro hp;exact⟨p,hp,rfl⟩
  rw[this]
theorem Si(l:List az):yl l=true↔l.all bG=true∧l.Nodup:=by
 simp only[yl,List.all_eq_true,List.mem_range]
 constructor
 ·intro h
  refine⟨fun p hp=>?_,?_⟩
  ·obtain⟨i,hi,rfl⟩:=List.mem_iff_getElem.1 hp
   have:=h i hi
   simp only[nY,List.getElem?_eq_getElem hi,Bool.and_eq_true]at this
   exact this.1
  ·rw[List.nodup_iff_pairwise_ne,List.pairwise_iff_getElem]
   intro i j hi hj hij e
   have:=h j hj
   simp only[nY,List.getElem?_eq_getElem hj,Bool.and_eq_true,List.all_eq_true]at this
   have h2:=this.2 l[i] (by rw[List.mem_iff_getElem];exact⟨i,by simp;omega,by simp⟩)
   rw[Aq.2 e]at h2
   simp at h2
 ·rintro⟨h1,h2⟩ i hi
  simp only[nY,List.getElem?_eq_getElem hi,Bool.and_eq_true,List.all_eq_true]
  refine⟨h1 _ (List.getElem_mem hi),fun q hq=>?_⟩
  obtain⟨k,hk,rfl⟩:=List.mem_iff_getElem.1 hq
  rw[List.nodup_iff_pairwise_ne,List.pairwise_iff_getElem]at h2
  simp only[List.length_take]at hk
  have hne:=h2 k i (by omega) hi (by omega)
  rw[List.getElem_take]
  cases hs:aY l[k] l[i]with
  |false=>rfl
  |true=>exact absurd (Aq.1 hs) hne
theorem aea(l:List az):(decide ((l.length:Int)≤16)&&l.all bG&&uQ l)=different l:=by
 rw[Bool.eq_iff_iff]
 simp only[different,Bool.and_eq_true]
 rw[Si]
 constructor
 ·rintro⟨⟨h1,h2⟩,h3⟩
  exact⟨⟨h2,(FY h2).1 ((J3 l).1 h3)⟩,h1⟩
 ·rintro⟨⟨h2,h3⟩,h1⟩
  exact⟨⟨h1,h2⟩,(J3 l).2 ((FY h2).2 h3)⟩
def rf(n a:az):Bool:=bG a&&decide (a.aG=n.aG)
def rq(d:Entry):Bool:=bG d.name&&(decide ((d.aliases.length:Int)≤16)&&d.aliases.all (rf d.name))&&uQ (d.name::d.aliases)
theorem aeb(d:Entry):rq d=(bG d.name&&different d.aliases&&d.aliases.all (qY d.name)):=by
 rw[Bool.eq_iff_iff]
 simp only[rq,different,Bool.and_eq_true]
 rw[Si,J3]
 have hfit:d.aliases.all (rf d.name)=true↔d.aliases.all bG=true∧∀a∈d.aliases,a.aG=d.name.aG:=by
  simp only[List.all_eq_true,rf,Bool.and_eq_true,decide_eq_true_eq]
  exact⟨fun h=>⟨fun a ha=>(h a ha).1,fun a ha=>(h a ha).2⟩,fun h a ha=>⟨h.1 a ha,h.2 a ha⟩⟩
 have hal:d.aliases.all (qY d.name)=true↔(∀a∈d.aliases,a.aG=d.name.aG)∧d.name∉d.aliases:=by
  simp only[List.all_eq_true,qY,Bool.and_eq_true,decide_eq_true_eq,Bool.not_eq_true']
  constructor
  ·intro h
   refine⟨fun a ha=>(h a ha).1,fun hm=>?_⟩
   have:=(h _ hm).2
   rw[Aq.2 rfl]at this;cases this
  ·rintro⟨h1,h2⟩ a ha
   refine⟨h1 a ha,?_⟩
   cases hs:aY a d.name with
   |false=>rfl
   |true=>rw[Aq.1 hs]at ha;exact absurd ha h2
 rw[hfit,hal]
 constructor
 ·rintro⟨⟨h1,h2,h3,h4⟩,h5⟩
  have h6:=(FY (l:=d.name::d.aliases) (by simp only[List.all_cons,h1,h3,Bool.and_true])).1 h5
  rw[List.nodup_cons]at h6
  exact⟨⟨h1,⟨h3,h6.2⟩,h2⟩,h4,h6.1⟩
 ·rintro⟨⟨h1,⟨h3,h7⟩,h2⟩,h4,h6⟩
  exact⟨⟨h1,h2,h3,h4⟩,(FY (l:=d.name::d.aliases) (by simp only[List.all_cons,h1,h3,Bool.and_true])).2 (List.nodup_cons.2 ⟨h6,h7⟩)⟩
end Go.WW
namespace Go.WW
open Go.RowKit
def flat(rows:List (Array Value)):List Value:=rows.flatMap (·.toList)
theorem J4(r:Array Value)(rows:List (Array Value)):flat (r::rows)=r.toList++flat rows:=rfl
theorem aec(a b:List (Array Value)):flat (a++b)=flat a++flat b:=by simp[flat]
theorem flat_length{k:Nat}:∀{rows:List (Array Value)},(∀r∈rows,r.size=k)→(flat rows).length=rows.length*k
 | [],_=>by simp[flat]
 |r::rows,h=>by
  rw[J4,List.length_append,flat_length (fun x hx=>h x (by simp[hx])),List.length_cons,Nat.succ_mul]
  have:=h r (by simp)
  simp[this];omega
theorem flat_get{k:Nat}:∀{rows:List (Array Value)} (_:∀r∈rows,r.size=k) (i j:Nat) (hi:i<rows.length) (_:j<k),(flat rows)[i*k+j]?=rows[i][j]?
 | [],_,i,j,hi,_=>by simp at hi
 |r::rows,h,0,j,_,hj=>by
  have:=h r (by simp)
  rw[J4,Nat.zero_mul,Nat.zero_add,List.getElem?_append_left (by simp;omega)]
  simp
 |r::rows,h,i+1,j,hi,hj=>by
  have hr:=h r (by simp)
  rw[J4,List.getElem?_append_right (by simp[Nat.succ_mul];omega)]
  have e:(i+1)*k+j-r.toList.length=i*k+j:=by simp[Nat.succ_mul];omega
  rw[e,flat_get (fun x hx=>h x (by simp[hx])) i j (by simpa using hi) hj]
  simp
structure Own(w:World)(base:Nat)(e:TypeId)(k:Nat)(s:Sl)(rows:List (Array Value)):Prop where
 own:w.ownsRow base e k (.slice s.a rows.length s.cap) rows.length (flat rows)
 size:∀r∈rows,r.size=k
def Sl.blk(s:Sl):Option Nat:=s.a.map (·.block)
theorem yt(s:Sl)(n:Nat):Value.ownBlock (.slice s.a n s.cap)=s.blk:=by
 unfold Sl.blk Value.ownBlock;cases s.a<;>rfl
theorem Own.nil(w:World)(base:Nat)(e:TypeId)(k:Nat):Own w base e k ⟨none,0⟩ []:=⟨World.ownsRow_nil w base e k,by simp⟩
theorem Own.base{w:World}{base:Nat}{e:TypeId}{k:Nat}{s:Sl}{rows:List (Array Value)}(h:Own w base e k s rows){g:Nat}(hg:s.blk=some g):base≤g∧g<w.heap.size:=
 h.own.lt g (by rw[yt];exact hg)
theorem Own.kept{w w':World}{base:Nat}{e:TypeId}{k:Nat}{s:Sl}{rows:List (Array Value)}(h:Own w base e k s rows)(hb:∀g,s.blk=some g→w'.heap[g]?=w.heap[g]?):Own w' base e k s rows:=by
 refine⟨⟨h.own.1,?_⟩,h.size⟩
 rcases h.own.2 with hn|⟨g,cap,cur,hv,h1,hg,rest⟩
 ·exact .inl hn
 ·refine .inr ⟨g,cap,cur,hv,h1,?_,rest⟩
  have ha:s.a=some ⟨g,0,none⟩:=by injection hv
  rw[hb g (by simp[Sl.blk,ha])];exact hg
theorem Own.row{w:World}{base:Nat}{e:TypeId}{k:Nat}{s:Sl}{rows:List (Array Value)}(h:Own w base e k s rows)(i:Nat)(hi:i<rows.length) :
  ∃g,s.a=some ⟨g,0,none⟩∧s.blk=some g∧row? w g (0+i*k) k=some rows[i]:=by
 rcases h.own.2 with⟨_,hn⟩|⟨g,cap,cur,hv,h1,hg,hle,_,hsz,htake⟩
 ·omega
 ·have ha:s.a=some ⟨g,0,none⟩:=by injection hv
  refine⟨g,ha,by simp[Sl.blk,ha],?_⟩
  unfold row?
  rw[hg,Nat.zero_add]
  have h2:i*k+k≤rows.length*k:=by rw[←Nat.succ_mul];exact Nat.mul_le_mul_right _ hi
  have h3:rows.length*k≤cur.size:=by rw[hsz];exact Nat.mul_le_mul_right _ hle
  show(if i*k+k≤cur.size then _ else _)=_
  rw[if_pos (by omega)]
  congr 1
  have hrs:=h.size rows[i] (List.getElem_mem hi)
  apply Array.ext_getElem?
  intro j
  by_cases hj:j<k
  ·rw[Array.getElem?_extract]
   have e1:j<min (i*k+k) cur.size-i*k:=by omega
   rw[if_pos e1,←flat_get h.size i j hi hj,←htake,List.getElem?_take,if_pos (by omega)]
   simp
  ·rw[Array.getElem?_eq_none (by simp;omega),Array.getElem?_eq_none (by omega)]
structure cZ(w:World)(k:Nat)(A:Option Addr)(rows:List (Array Value)):Prop where
 size:∀r∈rows,r.size=k
 one:∀r∈rows,dJ r=true
 at_:∀i (hi:i<rows.length),∃b o,A=some ⟨b,o,none⟩∧row? w b (o+i*k) k=some rows[i]
theorem cZ.cells{w:World}{k:Nat}{A:Option Addr}{rows:List (Array Value)}(h:cZ w k A rows)(hk:0<k)(hn:0<rows.length) :
  ∃b o,A=some ⟨b,o,none⟩∧∀j u,(flat rows)[j]?=some u→w.cell? ((⟨b,o,none⟩:Addr).add j)=some u:=by
 obtain⟨b,o,ha,_⟩:=h.at_ 0 hn
 refine⟨b,o,ha,fun j u hu=>?_⟩
 have hj:j<rows.length*k:=by have:=(List.getElem?_eq_some_iff.1 hu).1;rwa[flat_length h.size]at this
 have hi:j / k<rows.length:=by rw[Nat.div_lt_iff_lt_mul hk];exact hj
 have hr:j % k<k:=Nat.mod_lt _ hk
 have e:j / k*k+j % k=j:=Nat.div_add_mod' j k
 obtain⟨b',o',ha',hrow⟩:=h.at_ (j / k) hi
 rw[ha]at ha';cases ha'
 have hg:=flat_get h.size (j / k) (j % k) hi hr
 rw[e,hu]at hg
 have hc:=gX hrow (j % k) hr
 rw[Nat.add_assoc,e]at hc
 have hadd:(⟨b,o,none⟩:Addr).add j=⟨b,o+j,none⟩:=by unfold Addr.add;split<;>simp_all
 rw[hadd,hc,←hg]
theorem cZ.vals{w:World}{k:Nat}{A:Option Addr}{rows:List (Array Value)}(h:cZ w k A rows):∀u∈flat rows,u.oneCell'=true:=by
 intro u hu
 obtain⟨r,hr,hur⟩:=List.mem_flatMap.1 hu
 have:=h.one r hr
 unfold dJ at this
 rw[Array.all_eq_true']at this
 exact this u (by simpa using hur)
theorem cZ.new(w:World)(cs:Array Value)(t:TypeId)(k:Nat)(hs:cs.size=k)(h1:dJ cs=true):cZ (w.alloc (.cells cs t)) k (some ⟨w.heap.size,0,none⟩) [cs]:=
 ⟨by simpa using hs,by simpa using h1,fun i hi=>⟨_,_,rfl,by
  obtain rfl:i=0:=by simp at hi;exact hi
  rw[Fj rfl,Nat.zero_add,Nat.zero_mul,df hs];rfl⟩⟩
structure gp(P:Program)(t e:TypeId)(k bytes:Nat):Prop where
 und:P.underlying t=some (.slice e)
 info:∃i z,P.info? e=some i∧i.zero=some z∧i.size=k∧i.bytes=bytes∧z.cells.size=k
 pos:0<k
def Sj(x:Option (Option Nat×Nat×Nat))(k bytes:Nat):Bool:=match x with|some (some a,b,c)=>a == k&&b == k&&c == bytes&&decide (0<k)|_=>false
theorem gp.of{P:Program}{t e:TypeId}{k bytes:Nat}(hu:P.underlying t=some (.slice e))(h:Sj ((P.info? e).map fun i=>(i.zero.map (·.cells.size),i.size,i.bytes)) k bytes=true):gp P t e k bytes:=by
 unfold Sj at h
 cases hi:P.info? e with
 |none=>rw[hi]at h;cases h
 |some i=>
  rw[hi]at h
  simp only[Option.map_some]at h
  cases hz:i.zero with
  |none=>rw[hz]at h;cases h
  |some z=>
   rw[hz]at h
   simp only[Option.map_some,Bool.and_eq_true,beq_iff_eq,decide_eq_true_eq]at h
   exact⟨hu,⟨i,z,hi,hz,h.1.1.2,h.1.2,h.1.1.1⟩,h.2⟩
theorem run_append_nil{P:Program}{t ty e:TypeId}{k bytes:Nat}(he:gp P t e k bytes)(w:World){base:Nat}{s:Sl}{rows:List (Array Value)}(h:Own w base e k s rows)(c:Nat) :
  (Builtin.append_ #[t,t] ty #[.slice s.a rows.length s.cap,.slice none 0 c]).run P w=.ok (.slice s.a rows.length s.cap) w:=by
 obtain⟨i,z,hi,hz,h1,h2,h3⟩:=he.info
 rcases h.own.2 with⟨hv,hn⟩|⟨g,cap,cur,hv,_,_,hnc,_⟩
 ·rw[hv];simp[Builtin.append_,run_underlying he.und,sizeOf,typeInfo,hi,Builtin.lenOf,Builtin.firstCells]
 ·rw[hv];simp[Builtin.append_,run_underlying he.und,sizeOf,typeInfo,hi,Builtin.lenOf,Builtin.firstCells,hnc,storeCells]
theorem Sm{P:Program}{t ty e:TypeId}{k bytes:Nat}(he:gp P t e k bytes)(w:World){base:Nat}{s:Sl}{rows:List (Array Value)}(h:Own w base e k s rows){A:Option Addr}{news:List (Array Value)}(c:Nat)
  (hs:cZ w k A news) (hlen:(rows.length+news.length)*(bytes+1)≤140737488355328) (hbase:base≤w.heap.size) :
  ∃s' w',(Builtin.append_ #[t,t] ty #[.slice s.a rows.length s.cap,.slice A news.length c]).run P w=.ok (.slice s'.a (rows.length+news.length) s'.cap) w'∧Own w' base e k s' (rows++news)∧w.grownBy w' s.blk∧(s'.blk=s.blk∨s'.blk=some w.heap.size):=by
 have hl1:rows.length+news.length≤maxLen:=by
  have:rows.length+news.length≤(rows.length+news.length)*(bytes+1):=Nat.le_mul_of_pos_right _ (by omega)
  unfold maxLen;omega
 have hl2:(rows.length+news.length)*bytes≤140737488355328:=Nat.le_trans (Nat.mul_le_mul_left _ (by omega)) hlen
 have main:∀b o,A=some ⟨b,o,none⟩→(∀j u,(flat news)[j]?=some u→w.cell? ((⟨b,o,none⟩:Addr).add j)=some u)→
   ∃s' w',(Builtin.append_ #[t,t] ty #[.slice s.a rows.length s.cap,.slice A news.length c]).run P w=.ok (.slice s'.a (rows.length+news.length) s'.cap) w'∧Own w' base e k s' (rows++news)∧w.grownBy w' s.blk∧(s'.blk=s.blk∨s'.blk=some w.heap.size):=by
  intro b o hA hcells
  obtain⟨i,z,hi,hz,h1,h2,h3⟩:=he.info
  obtain⟨v',w',hrun,hown,hg,_,hb⟩:=run_append_own_at (P:=P) w base t ty e i z k bytes he.und hi hz h1 h2 h3 he.pos (.slice s.a rows.length s.cap) rows.length (flat rows) h.own ⟨b,o,none⟩ news.length c (flat news) (flat_length hs.size) hcells hs.vals hl1 hl2 hbase
  rw[yt]at hg hb
  have hform:∃s':Sl,v'=.slice s'.a (rows.length+news.length) s'.cap:=by
   rcases hown.2 with⟨hv,hn⟩|⟨g,cap,cur,hv,_⟩
   ·exact⟨⟨none,0⟩,by rw[hv,hn]⟩
   ·exact⟨⟨some ⟨g,0,none⟩,cap⟩,hv⟩
  obtain⟨s',rfl⟩:=hform
  rw[yt]at hb
  refine⟨s',w',by rw[hA];exact hrun,⟨by rw[List.length_append,aec];exact hown,fun r hr=>?_⟩,hg,hb⟩
  rcases List.mem_append.1 hr with hr|hr
  ·exact h.size r hr
  ·exact hs.size r hr
 rcases Nat.eq_zero_or_pos news.length with hn|hn
 ·obtain rfl:news=[]:=List.eq_nil_of_length_eq_zero hn
  cases A with
  |none=>
   refine⟨s,w,?_,by simpa using h,World.grownBy.refl w _,.inl rfl⟩
   exact run_append_nil he w h c
  |some a=>
   obtain⟨i,z,hi,hz,h1,h2,h3⟩:=he.info
   obtain⟨v',w',hrun,hown,hg,_,hb⟩:=run_append_own_at (P:=P) w base t ty e i z k bytes he.und hi hz h1 h2 h3 he.pos (.slice s.a rows.length s.cap) rows.length (flat rows) h.own a 0 c [] (by simp) (by simp) (by simp) hl1 hl2 hbase
   rw[yt]at hg hb
   have hform:∃s':Sl,v'=.slice s'.a (rows.length+0) s'.cap:=by
    rcases hown.2 with⟨hv,hn⟩|⟨g,cap,cur,hv,_⟩
    ·exact⟨⟨none,0⟩,by rw[hv,hn]⟩
    ·exact⟨⟨some ⟨g,0,none⟩,cap⟩,hv⟩
   obtain⟨s',rfl⟩:=hform
   rw[yt]at hb
   exact⟨s',w',hrun,⟨by simpa using hown,by simpa using h.size⟩,hg,hb⟩
 ·obtain⟨b,o,hA,hc⟩:=hs.cells he.pos hn
  exact main b o hA hc
theorem J5{P:Program}{o:Oper}{a:Act}{w:World}{K:Act→World→Prop}{Q:Exit→Act→World→Prop}(x y:Operand)(t:TypeId)(ho:o.op=.call {callee:=.builtin .append,args:=#[x,y],argTypes:=#[t,t]})
  {e:TypeId} {k bytes:Nat} (he:gp P t e k bytes) {base:Nat} {s:Sl} {rows:List (Array Value)} (hx:a.eval x=.slice s.a rows.length s.cap) (h:Own w base e k s rows) {A:Option Addr} {news:List (Array Value)} {m c:Nat}
  (hy:a.eval y=.slice A m c) (hm:m=news.length) (hs:cZ w k A news) (hlen:(rows.length+news.length)*(bytes+1)≤140737488355328) (hbase:base≤w.heap.size)
  (hK:∀(s':Sl) w',Own w' base e k s' (rows++news)→w.grownBy w' s.blk→(s'.blk=s.blk∨s'.blk=some w.heap.size)→K (a.put o.dst (.slice s'.a (rows.length+news.length) s'.cap)) w'):o.wp P a w K Q:=by
 subst hm
 obtain⟨s',w',hrun,h2,h3,h4⟩:=Sm (ty:=o.type) he w h c hs hlen hbase
 unfold Oper.wp execOp
 simp only[ho,resolve,invoke,builtin,Sem.run_bind,Sem.run_pure,Result.andThen_ok,List.map_toArray,List.map_cons,List.map_nil,hx,hy,hrun]
 exact hK s' w' h2 h3 h4
theorem aed{P:Program}{ops:Array Oper}{rest:List Oper}{o:Oper}{a:Act}{w:World}{Q:Exit→Act→World→Prop}(hgd:o.guard=none)(x y:Operand)(t:TypeId)(ho:o.op=.call {callee:=.builtin .append,args:=#[x,y],argTypes:=#[t,t]})
  {e:TypeId} {k bytes:Nat} (he:gp P t e k bytes) {base:Nat} {s:Sl} {rows:List (Array Value)} (hx:a.eval x=.slice s.a rows.length s.cap) (h:Own w base e k s rows) {A:Option Addr} {news:List (Array Value)} {m c:Nat}
  (hy:a.eval y=.slice A m c) (hm:m=news.length) (hs:cZ w k A news) (hlen:(rows.length+news.length)*(bytes+1)≤140737488355328) (hbase:base≤w.heap.size)
  (hK:∀(s':Sl) w',Own w' base e k s' (rows++news)→w.grownBy w' s.blk→(s'.blk=s.blk∨s'.blk=some w.heap.size)→wpList P ops Q rest (a.put o.dst (.slice s'.a (rows.length+news.length) s'.cap)) w'):wpList P ops Q (o::rest) a w:=
 wpList_plain hgd fun _ hK'=>J5 x y t ho he hx h hy hm hs hlen hbase fun s' w' h2 h3 h4=>hK' _ _ (hK s' w' h2 h3 h4)
def bH(w:World)(S:Nat→Prop)(Φ:World→Prop):Prop:=∀w':World,(∀k,S k→w'.heap[k]?=w.heap[k]?)→Φ w'
theorem bH.out{w:World}{S:Nat→Prop}{Φ:World→Prop}(h:bH w S Φ):Φ w:=h w fun _ _=>rfl
theorem bH.to{w w1:World}{S S1:Nat→Prop}{Φ:World→Prop}(h:bH w S Φ)(hw:∀k,S k→w1.heap[k]?=w.heap[k]?)(hS:∀k,S k→S1 k):bH w1 S1 Φ:=
 fun w' hw'=>h w' fun k hk=>(hw' k (hS k hk)).trans (hw k hk)
def fresh(base:Nat)(w:World):Nat→Prop:=fun k=>base≤k∧k<w.heap.size
def aee(base:Nat)(w:World)(g:Option Nat):Nat→Prop:=fun k=>base≤k∧k<w.heap.size∧some k≠g
theorem CO{α:Type}{q:α→Bool}{l:List α}{most:Int}(h:decide (most<(l.length:Int))=true):(decide ((l.length:Int)≤most)&&l.all q)=false:=by
 rw[decide_eq_true_eq]at h
 rw[decide_eq_false (by omega)];rfl
theorem CP{α:Type}{q:α→Bool}{l:List α}{most:Int}(h:decide (most<(l.length:Int))=false):(decide ((l.length:Int)≤most)&&l.all q)=l.all q:=by
 rw[decide_eq_false_iff_not]at h
 rw[decide_eq_true (p:=(l.length:Int)≤most) (by omega)];rfl
end Go.WW
namespace Go.Proofs.YtfieenjdcpjmgaaGreatDoor
open Go.RowKit Go.WW
structure Enters(f:FuncId):Prop where
 run:∀(args:Array Value) (w:World),(callFunc f args).run Tryz.prog w=.ok (.enter f args) w
theorem aef(a:Option Addr)(cap f:Nat)(most:Int)(w:World):Calls Tryz.prog 198 #[.slice a 0 cap,.int .i64 most,.func (.func f) #[] #[]] w fun e w'=>e=.returned (.bool (decide ((0:Int)≤most)))∧Below w.heap.size w w':=by
 go_enter Tryz.func198,Tryz.ntmps198
 cases hm:decide (most<(0:Int))
 ·have HN:=Lib.hid (show decide ((0:Int)≤most)=true by simp at hm ⊢;omega)
  go_wp2_with fail
  refine wp_loop_rounds 1 ?_
  rw[rounds_succ]
  go_wp2_with fail
  go_ret
  exact⟨by rw[HN.out];rfl,Below.refl _ _⟩
 ·have HN:=Lib.hid (show decide ((0:Int)≤most)=false by simp at hm ⊢;omega)
  go_wp2_with fail
  go_ret
  exact⟨by rw[HN.out];rfl,Below.refl _ _⟩
theorem aeg(a:Option Addr)(cap f:Nat)(most:Int)(l:List az)(q:az→Bool)(w:World)(hcf:Enters f)(hl:fJ w a l)
  (hf:∀(x:Later w) (s:Sl) (p:az),p∈l→bn x.w s p→Calls Tryz.prog f #[.agg (ah s p)] x.w fun e w'=>e=.returned (.bool (q p))∧Below x.w.heap.size x.w w') :
  Calls Tryz.prog 198 #[.slice a l.length cap,.int .i64 most,.func (.func f) #[] #[]] w fun e w'=>e=.returned (.bool (decide ((l.length:Int)≤most)&&l.all q))∧Below w.heap.size w w':=by
 have hn:l.length≤4294967000:=hl.1
 rcases aX.addr hl with h0|⟨b,o,rfl,hb⟩
 ·obtain rfl:l=[]:=List.eq_nil_of_length_eq_zero h0
  have:=aef a cap f most w
  simpa using this
 have HF:=Lib.hid hf
 have FZ:=hcf.run
 clear hf hcf
 go_enter Tryz.func198,Tryz.ntmps198
 cases hm:decide (most<(l.length:Int))
 ·have HM:=Lib.hid (CP (q:=q) hm)
  go_wp2_with fail
  go_loopw [15] (fun i wr=>Below w.heap.size w wr∧∃k:Nat,k≤l.length∧i=.int .i64 k∧Hid ((l.take k).all q=true)) (fun i _=>l.length-(intOf i).toNat)
  case atStart=>exact⟨Below.refl _ _,0,Nat.zero_le _,rfl,by simp[Hid]⟩
  case round=>
   obtain⟨hbr,k,hk,rfl,hall⟩:=hrel
   by_cases hlt:k<l.length
   ·obtain⟨t,hc,hp⟩:=hl.at k hlt
    obtain⟨hcc,aT,hrr⟩:=bg hbr
    go_wp2_with fail
    have hb1:=aj hbr (.cells (ah t l[k]) 40)
    have HB:=Lib.hid hb1
    clear hb1
    refine(HF.out ⟨_,HB.out⟩ t l[k] (List.getElem_mem hlt) (hp.later HB.out)).mono ?_
    rintro e w1 ⟨rfl,hb2⟩
    have hb3:=ag HB.out hb2
    clear hcc aT hrr
    cases hv:q l[k]
    ·have HN:=Lib.hid (qR l k hlt hv)
     go_wp2_with fail
     go_ret
     exact⟨by rw[HM.out,HN.out];rfl,hb3⟩
    ·have HN:=Lib.hid (kW l k hlt hall.out hv)
     go_wp2_with fail
     go_roundw
     case rel=>exact⟨hb3,k+1,by omega,by go_num,HN.out⟩
     case measure=>simp[intOf];omega
   ·have HN:=Lib.hid (qU l k (by omega) hall.out)
    go_wp2_with fail
    go_ret
    exact⟨by rw[HM.out,HN.out];rfl,hbr⟩
 ·have HM:=Lib.hid (CO (q:=q) hm)
  go_wp2_with fail
  go_ret
  exact⟨by rw[HM.out];rfl,Below.refl _ _⟩
theorem aeh(a:Option Addr)(cap f:Nat)(most:Int)(B0:Nat)(w:World):Calls Tryz.prog 198 #[.slice a 0 cap,.int .i64 most,.func (.func f) #[] #[.pointer (some ⟨B0,0,none⟩)]] w fun e w'=>e=.returned (.bool (decide ((0:Int)≤most)))∧Below w.heap.size w w':=by
 go_enter Tryz.func198,Tryz.ntmps198
 cases hm:decide (most<(0:Int))
 ·have HN:=Lib.hid (show decide ((0:Int)≤most)=true by simp at hm ⊢;omega)
  go_wp2_with fail
  refine wp_loop_rounds 1 ?_
  rw[rounds_succ]
  go_wp2_with fail
  go_ret
  exact⟨by rw[HN.out];rfl,Below.refl _ _⟩
 ·have HN:=Lib.hid (show decide ((0:Int)≤most)=false by simp at hm ⊢;omega)
  go_wp2_with fail
  go_ret
  exact⟨by rw[HN.out];rfl,Below.refl _ _⟩
theorem aei(a:Option Addr)(cap f:Nat)(most:Int)(l:List az)(B0:Nat)(q:az→Bool)(w:World)(hcf:Enters f)(hl:fJ w a l)
  (hf:∀(x:Later w) (s:Sl) (p:az),p∈l→bn x.w s p→Calls Tryz.prog f #[.agg (ah s p),.pointer (some ⟨B0,0,none⟩)] x.w fun e w'=>e=.returned (.bool (q p))∧Below x.w.heap.size x.w w') :
  Calls Tryz.prog 198 #[.slice a l.length cap,.int .i64 most,.func (.func f) #[] #[.pointer (some ⟨B0,0,none⟩)]] w fun e w'=>e=.returned (.bool (decide ((l.length:Int)≤most)&&l.all q))∧Below w.heap.size w w':=by
 have hn:l.length≤4294967000:=hl.1
 rcases aX.addr hl with h0|⟨b,o,rfl,hb⟩
 ·obtain rfl:l=[]:=List.eq_nil_of_length_eq_zero h0
  have:=aeh a cap f most B0 w
  simpa using this
 have HF:=Lib.hid hf
 have FZ:=hcf.run
 clear hf hcf
 go_enter Tryz.func198,Tryz.ntmps198
 cases hm:decide (most<(l.length:Int))
 ·have HM:=Lib.hid (CP (q:=q) hm)
  go_wp2_with fail
  go_loopw [15] (fun i wr=>Below w.heap.size w wr∧∃k:Nat,k≤l.length∧i=.int .i64 k∧Hid ((l.take k).all q=true)) (fun i _=>l.length-(intOf i).toNat)
  case atStart=>exact⟨Below.refl _ _,0,Nat.zero_le _,rfl,by simp[Hid]⟩
  case round=>
   obtain⟨hbr,k,hk,rfl,hall⟩:=hrel
   by_cases hlt:k<l.length
   ·obtain⟨t,hc,hp⟩:=hl.at k hlt
    obtain⟨hcc,aT,hrr⟩:=bg hbr
    go_wp2_with fail
    have hb1:=aj hbr (.cells (ah t l[k]) 40)
    have HB:=Lib.hid hb1
    clear hb1
    refine(HF.out ⟨_,HB.out⟩ t l[k] (List.getElem_mem hlt) (hp.later HB.out)).mono ?_
    rintro e w1 ⟨rfl,hb2⟩
    have hb3:=ag HB.out hb2
    clear hcc aT hrr
    cases hv:q l[k]
    ·have HN:=Lib.hid (qR l k hlt hv)
     go_wp2_with fail
     go_ret
     exact⟨by rw[HM.out,HN.out];rfl,hb3⟩
    ·have HN:=Lib.hid (kW l k hlt hall.out hv)
     go_wp2_with fail
     go_roundw
     case rel=>exact⟨hb3,k+1,by omega,by go_num,HN.out⟩
     case measure=>simp[intOf];omega
   ·have HN:=Lib.hid (qU l k (by omega) hall.out)
    go_wp2_with fail
    go_ret
    exact⟨by rw[HM.out,HN.out];rfl,hbr⟩
 ·have HM:=Lib.hid (CO (q:=q) hm)
  go_wp2_with fail
  go_ret
  exact⟨by rw[HM.out];rfl,Below.refl _ _⟩
theorem aej(a:Option Addr)(cap f:Nat)(most:Int)(B0:Nat)(w:World):Calls Tryz.prog 200 #[.slice a 0 cap,.int .i64 most,.func (.func f) #[] #[.pointer (some ⟨B0,0,none⟩)]] w fun e w'=>e=.returned (.bool (decide ((0:Int)≤most)))∧Below w.heap.size w w':=by
 go_enter Tryz.func200,Tryz.ntmps200
 cases hm:decide (most<(0:Int))
 ·have HN:=Lib.hid (show decide ((0:Int)≤most)=true by simp at hm ⊢;omega)
  go_wp2_with fail
  refine wp_loop_rounds 1 ?_
  rw[rounds_succ]
  go_wp2_with fail
  go_ret
  exact⟨by rw[HN.out];rfl,Below.refl _ _⟩
 ·have HN:=Lib.hid (show decide ((0:Int)≤most)=false by simp at hm ⊢;omega)
  go_wp2_with fail
  go_ret
  exact⟨by rw[HN.out];rfl,Below.refl _ _⟩
theorem aek(a:Option Addr)(cap f:Nat)(most:Int)(l:List bC)(B0:Nat)(q:bC→Bool)(w:World)(hcf:Enters f)(hl:mO w a l)
  (hf:∀(x:Later w) (s:Sl) (p:bC),p∈l→jA x.w s p→Calls Tryz.prog f #[.agg (bz s p),.pointer (some ⟨B0,0,none⟩)] x.w fun e w'=>e=.returned (.bool (q p))∧Below x.w.heap.size x.w w') :
  Calls Tryz.prog 200 #[.slice a l.length cap,.int .i64 most,.func (.func f) #[] #[.pointer (some ⟨B0,0,none⟩)]] w fun e w'=>e=.returned (.bool (decide ((l.length:Int)≤most)&&l.all q))∧Below w.heap.size w w':=by
 have hn:l.length≤4294967000:=hl.1
 rcases aX.addr hl with h0|⟨b,o,rfl,hb⟩
 ·obtain rfl:l=[]:=List.eq_nil_of_length_eq_zero h0
  have:=aej a cap f most B0 w
  simpa using this
 have HF:=Lib.hid hf
 have FZ:=hcf.run
 clear hf hcf
 go_enter Tryz.func200,Tryz.ntmps200
 cases hm:decide (most<(l.length:Int))
 ·have HM:=Lib.hid (CP (q:=q) hm)
  go_wp2_with fail
  go_loopw [15] (fun i wr=>Below w.heap.size w wr∧∃k:Nat,k≤l.length∧i=.int .i64 k∧Hid ((l.take k).all q=true)) (fun i _=>l.length-(intOf i).toNat)
  case atStart=>exact⟨Below.refl _ _,0,Nat.zero_le _,rfl,by simp[Hid]⟩
  case round=>
   obtain⟨hbr,k,hk,rfl,hall⟩:=hrel
   by_cases hlt:k<l.length
   ·obtain⟨t,hc,hp⟩:=hl.at k hlt
    obtain⟨hcc,aT,hrr⟩:=bg hbr
    go_wp2_with fail
    have hb1:=aj hbr (.cells (bz t l[k]) 67)
    have HB:=Lib.hid hb1
    clear hb1
    refine(HF.out ⟨_,HB.out⟩ t l[k] (List.getElem_mem hlt) (hp.later HB.out)).mono ?_
    rintro e w1 ⟨rfl,hb2⟩
    have hb3:=ag HB.out hb2
    clear hcc aT hrr
    cases hv:q l[k]
    ·have HN:=Lib.hid (qR l k hlt hv)
     go_wp2_with fail
     go_ret
     exact⟨by rw[HM.out,HN.out];rfl,hb3⟩
    ·have HN:=Lib.hid (kW l k hlt hall.out hv)
     go_wp2_with fail
     go_roundw
     case rel=>exact⟨hb3,k+1,by omega,by go_num,HN.out⟩
     case measure=>simp[intOf];omega
   ·have HN:=Lib.hid (qU l k (by omega) hall.out)
    go_wp2_with fail
    go_ret
    exact⟨by rw[HM.out,HN.out];rfl,hbr⟩
 ·have HM:=Lib.hid (CO (q:=q) hm)
  go_wp2_with fail
  go_ret
  exact⟨by rw[HM.out];rfl,Below.refl _ _⟩
theorem ael(a:Option Addr)(cap f:Nat)(most:Int)(B0:Nat)(B1:Nat)(w:World):Calls Tryz.prog 281 #[.slice a 0 cap,.int .i64 most,.func (.func f) #[] #[.pointer (some ⟨B0,0,none⟩),.pointer (some ⟨B1,0,none⟩)]] w fun e w'=>e=.returned (.bool (decide ((0:Int)≤most)))∧Below w.heap.size w w':=by
 go_enter Tryz.func281,Tryz.ntmps281
 cases hm:decide (most<(0:Int))
 ·have HN:=Lib.hid (show decide ((0:Int)≤most)=true by simp at hm ⊢;omega)
  go_wp2_with fail
  refine wp_loop_rounds 1 ?_
  rw[rounds_succ]
  go_wp2_with fail
  go_ret
  exact⟨by rw[HN.out];rfl,Below.refl _ _⟩
 ·have HN:=Lib.hid (show decide ((0:Int)≤most)=false by simp at hm ⊢;omega)
  go_wp2_with fail
  go_ret
  exact⟨by rw[HN.out];rfl,Below.refl _ _⟩
theorem aem(a:Option Addr)(cap f:Nat)(most:Int)(l:List Key)(B0:Nat)(B1:Nat)(q:Key→Bool)(w:World)(hcf:Enters f)(hl:kV w a l)
  (hf:∀(x:Later w) (s:Sl) (p:Key),p∈l→kJ x.w s p→Calls Tryz.prog f #[.agg (bZ s p),.pointer (some ⟨B0,0,none⟩),.pointer (some ⟨B1,0,none⟩)] x.w fun e w'=>e=.returned (.bool (q p))∧Below x.w.heap.size x.w w') :
  Calls Tryz.prog 281 #[.slice a l.length cap,.int .i64 most,.func (.func f) #[] #[.pointer (some ⟨B0,0,none⟩),.pointer (some ⟨B1,0,none⟩)]] w fun e w'=>e=.returned (.bool (decide ((l.length:Int)≤most)&&l.all q))∧Below w.heap.size w w':=by
 have hn:l.length≤4294967000:=hl.1
 rcases aX.addr hl with h0|⟨b,o,rfl,hb⟩
 ·obtain rfl:l=[]:=List.eq_nil_of_length_eq_zero h0
  have:=ael a cap f most B0 B1 w
  simpa using this
 have HF:=Lib.hid hf
 have FZ:=hcf.run
 clear hf hcf
 go_enter Tryz.func281,Tryz.ntmps281
 cases hm:decide (most<(l.length:Int))
 ·have HM:=Lib.hid (CP (q:=q) hm)
  go_wp2_with fail
  go_loopw [15] (fun i wr=>Below w.heap.size w wr∧∃k:Nat,k≤l.length∧i=.int .i64 k∧Hid ((l.take k).all q=true)) (fun i _=>l.length-(intOf i).toNat)
  case atStart=>exact⟨Below.refl _ _,0,Nat.zero_le _,rfl,by simp[Hid]⟩
  case round=>
   obtain⟨hbr,k,hk,rfl,hall⟩:=hrel
   by_cases hlt:k<l.length
   ·obtain⟨t,hc,hp⟩:=hl.at k hlt
    obtain⟨hcc,aT,hrr⟩:=bg hbr
    go_wp2_with fail
    have hb1:=aj hbr (.cells (bZ t l[k]) 69)
    have HB:=Lib.hid hb1
    clear hb1
    refine(HF.out ⟨_,HB.out⟩ t l[k] (List.getElem_mem hlt) (hp.later HB.out)).mono ?_
    rintro e w1 ⟨rfl,hb2⟩
    have hb3:=ag HB.out hb2
    clear hcc aT hrr
    cases hv:q l[k]
    ·have HN:=Lib.hid (qR l k hlt hv)
     go_wp2_with fail
     go_ret
     exact⟨by rw[HM.out,HN.out];rfl,hb3⟩
    ·have HN:=Lib.hid (kW l k hlt hall.out hv)
     go_wp2_with fail
     go_roundw
     case rel=>exact⟨hb3,k+1,by omega,by go_num,HN.out⟩
     case measure=>simp[intOf];omega
   ·have HN:=Lib.hid (qU l k (by omega) hall.out)
    go_wp2_with fail
    go_ret
    exact⟨by rw[HM.out,HN.out];rfl,hbr⟩
 ·have HM:=Lib.hid (CO (q:=q) hm)
  go_wp2_with fail
  go_ret
  exact⟨by rw[HM.out];rfl,Below.refl _ _⟩
theorem aen(a:Option Addr)(cap f:Nat)(most:Int)(w:World):Calls Tryz.prog 123 #[.slice a 0 cap,.int .i64 most,.func (.func f) #[] #[]] w fun e w'=>e=.returned (.bool (decide ((0:Int)≤most)))∧Below w.heap.size w w':=by
 go_enter Tryz.func123,Tryz.ntmps123
 cases hm:decide (most<(0:Int))
 ·have HN:=Lib.hid (show decide ((0:Int)≤most)=true by simp at hm ⊢;omega)
  go_wp2_with fail
  refine wp_loop_rounds 1 ?_
  rw[rounds_succ]
  go_wp2_with fail
  go_ret
  exact⟨by rw[HN.out];rfl,Below.refl _ _⟩
 ·have HN:=Lib.hid (show decide ((0:Int)≤most)=false by simp at hm ⊢;omega)
  go_wp2_with fail
  go_ret
  exact⟨by rw[HN.out];rfl,Below.refl _ _⟩
theorem aeo(a:Option Addr)(cap f:Nat)(most:Int)(l:List (List UInt8))(q:(List UInt8)→Bool)(w:World)(hcf:Enters f)(hl:fK w a l)
  (hf:∀(x:Later w) (s:Sl) (p:(List UInt8)),p∈l→(fun w (s:Sl) p=>BytesAt w s.a p) x.w s p→Calls Tryz.prog f #[.slice s.a p.length s.cap] x.w fun e w'=>e=.returned (.bool (q p))∧Below x.w.heap.size x.w w') :
  Calls Tryz.prog 123 #[.slice a l.length cap,.int .i64 most,.func (.func f) #[] #[]] w fun e w'=>e=.returned (.bool (decide ((l.length:Int)≤most)&&l.all q))∧Below w.heap.size w w':=by
 have hn:l.length≤4294967000:=hl.1
 rcases dY.addr hl with h0|⟨b,o,rfl,hb⟩
 ·obtain rfl:l=[]:=List.eq_nil_of_length_eq_zero h0
  have:=aen a cap f most w
  simpa using this
 have HF:=Lib.hid hf
 have FZ:=hcf.run
 clear hf hcf
 go_enter Tryz.func123,Tryz.ntmps123
 cases hm:decide (most<(l.length:Int))
 ·have HM:=Lib.hid (CP (q:=q) hm)
  go_wp2_with fail
  go_loopw [15] (fun i wr=>Below w.heap.size w wr∧∃k:Nat,k≤l.length∧i=.int .i64 k∧Hid ((l.take k).all q=true)) (fun i _=>l.length-(intOf i).toNat)
  case atStart=>exact⟨Below.refl _ _,0,Nat.zero_le _,rfl,by simp[Hid]⟩
  case round=>
   obtain⟨hbr,k,hk,rfl,hall⟩:=hrel
   by_cases hlt:k<l.length
   ·obtain⟨t,hc,hp⟩:=hl.at k hlt
    obtain⟨hcc,aT,hrr⟩:=bg hbr
    go_wp2_with fail
    have hb1:=hbr
    have HB:=Lib.hid hb1
    clear hb1
    refine(HF.out ⟨_,HB.out⟩ t l[k] (List.getElem_mem hlt) (hp.later HB.out)).mono ?_
    rintro e w1 ⟨rfl,hb2⟩
    have hb3:=ag HB.out hb2
    clear hcc aT hrr
    cases hv:q l[k]
    ·have HN:=Lib.hid (qR l k hlt hv)
     go_wp2_with fail
     go_ret
     exact⟨by rw[HM.out,HN.out];rfl,hb3⟩
    ·have HN:=Lib.hid (kW l k hlt hall.out hv)
     go_wp2_with fail
     go_roundw
     case rel=>exact⟨hb3,k+1,by omega,by go_num,HN.out⟩
     case measure=>simp[intOf];omega
   ·have HN:=Lib.hid (qU l k (by omega) hall.out)
    go_wp2_with fail
    go_ret
    exact⟨by rw[HM.out,HN.out];rfl,hbr⟩
 ·have HM:=Lib.hid (CO (q:=q) hm)
  go_wp2_with fail
  go_ret
  exact⟨by rw[HM.out];rfl,Below.refl _ _⟩
end Go.Proofs.YtfieenjdcpjmgaaGreatDoor
namespace Go.WW
theorem Sr{α:Type}{r:α→α→Bool}{l:List α}(j:Nat)(h:j+1<l.length)(hr:r l[j] l[j+1]=false):ordered r l=false:=by
 refine CB _ (j+1) h ?_
 simp[jB,h,show j<l.length by omega,hr]
theorem Su{α:Type}{r:α→α→Bool}{l:List α}(j:Nat)(h:j+1<l.length)(hall:(List.range (j+1)).all (jB r l)=true)(hr:r l[j] l[j+1]=true):(List.range (j+1+1)).all (jB r l)=true:=by
 refine FM (j+1) hall ?_
 simp[jB,h,show j<l.length by omega,hr]
theorem Sv{α:Type}{r:α→α→Bool}{l:List α}(j:Nat)(h:¬j+1<l.length)(hall:(List.range (j+1)).all (jB r l)=true):ordered r l=true:=by
 rw[ordered,List.all_eq_true]
 rw[List.all_eq_true]at hall
 intro i hi
 exact hall i (by simp at hi ⊢;omega)
theorem Sz{α:Type}(r:α→α→Bool)(l:List α):(List.range (0+1)).all (jB r l)=true:=by simp[jB]
theorem aep{a b:bC}(h:decide (b.version<a.version)=false):kK a b=false:=by rw[kK,h];rfl
theorem aeq{a b:bC}(h:decide (b.version<a.version)=true):kK a b=decide (b.created≤a.created):=by rw[kK,h];rfl
end Go.WW
namespace Go.Proofs.YtfieenjdcpjmgaaGreatDoor
open Go.RowKit Go.WW
theorem SC(s t:Sl)(a b:Key)(w:World):Calls Tryz.prog 283 #[.agg (bZ s a),.agg (bZ t b)] w fun e w'=>e=.returned (.bool (mQ a b))∧Below w.heap.size w w':=by
 go_enter Tryz.func283,Tryz.ntmps283
 go_wp2_with fail
 go_ret
 exact⟨by rfl,((Below.refl _ _).alloc (Nat.le_refl _) _).alloc (by simp) _⟩
theorem SE(s t:Sl)(a b:bC)(w:World):Calls Tryz.prog 204 #[.agg (bz s a),.agg (bz t b)] w fun e w'=>e=.returned (.bool (kK a b))∧Below w.heap.size w w':=by
 go_enter Tryz.func204,Tryz.ntmps204
 cases h:decide (b.version<a.version)
 ·have HN:=Lib.hid (aep h)
  go_wp2_with fail
  go_ret
  exact⟨by rw[HN.out];rfl,((Below.refl _ _).alloc (Nat.le_refl _) _).alloc (by simp) _⟩
 ·have HN:=Lib.hid (aeq h)
  go_wp2_with fail
  go_ret
  exact⟨by rw[HN.out];rfl,((Below.refl _ _).alloc (Nat.le_refl _) _).alloc (by simp) _⟩
theorem aer(a:Option Addr)(cap:Nat)(w:World):Calls Tryz.prog 282 #[.slice a 0 cap,.func (.func 283) #[] #[]] w fun e w'=>e=.returned (.bool true)∧Below w.heap.size w w':=by
 go_enter Tryz.func282,Tryz.ntmps282
 go_wp2_with fail
 refine wp_loop_rounds 1 ?_
 rw[rounds_succ]
 go_wp2_with fail
 go_ret
 exact⟨rfl,Below.refl _ _⟩
theorem aes(a:Option Addr)(cap:Nat)(l:List Key)(w:World)(hl:kV w a l) :
  Calls Tryz.prog 282 #[.slice a l.length cap,.func (.func 283) #[] #[]] w fun e w'=>e=.returned (.bool (ordered mQ l))∧Below w.heap.size w w':=by
 have hn:l.length≤4294967000:=hl.1
 rcases aX.addr hl with h0|⟨b,o,rfl,hb⟩
 ·obtain rfl:l=[]:=List.eq_nil_of_length_eq_zero h0
  exact aer a cap w
 go_enter Tryz.func282,Tryz.ntmps282
 go_wp2_with fail
 go_loopw [5] (fun i wr=>Below w.heap.size w wr∧∃j:Nat,j≤l.length∧i=.int .i64 ((j:Int)+1)∧Hid ((List.range (j+1)).all (jB mQ l)=true)) (fun i _=>l.length+1-(intOf i).toNat)
 case atStart=>exact⟨Below.refl _ _,0,Nat.zero_le _,rfl,Sz _ _⟩
 case round=>
  obtain⟨hbr,j,hj,rfl,hall⟩:=hrel
  by_cases hlt:j+1<l.length
  ·obtain⟨s,hc,hp⟩:=hl.at j (by omega)
   obtain⟨t,hc',hp'⟩:=hl.at (j+1) hlt
   have hlt':((j:Int)+1<(l.length:Int)):=by omega
   have hjj:(j:Int)+1-1=(j:Int):=by omega
   have ht1:((j:Int)+1).toNat=j+1:=by omega
   have h00:(0:Int)≤(j:Int)+1:=by omega
   have hw1:IntKind.i64.wrap ((j:Int)+1-1)=(j:Int):=by rw[hjj];exact IntWalk.i64_in _ (by omega)
   have hjl:j<l.length:=by omega
   cases hv:mQ l[j] l[j+1]
   ·have HN:=Lib.hid (Sr j hlt hv)
    go_wp2_with fail
    refine dM hbr (by kernel_rfl) (by kernel_rfl) ?_
    repeat (go_big_quiet_step ((go_at_call 283;exact Calls.gz (SC _ _ _ _ _))))
    refine wpQuiet_nil ?_
    intro w2 hb2
    rw[hv]
    go_wp2_with fail
    go_ret
    exact⟨by rw[HN.out];rfl,hb2⟩
   ·have HN:=Lib.hid (Su j hlt hall.out hv)
    go_wp2_with fail
    refine dM hbr (by kernel_rfl) (by kernel_rfl) ?_
    repeat (go_big_quiet_step ((go_at_call 283;exact Calls.gz (SC _ _ _ _ _))))
    refine wpQuiet_nil ?_
    intro w2 hb2
    rw[hv]
    go_wp2_with fail
    clear hjj ht1 h00 hw1
    go_roundw
    case rel=>exact⟨hb2,j+1,by omega,by go_num,HN.out⟩
    case measure=>simp[intOf];omega
  ·have HN:=Lib.hid (Sv j hlt hall.out)
   have hlt':¬((j:Int)+1<(l.length:Int)):=by omega
   go_wp2_with fail
   go_ret
   exact⟨by rw[HN.out];rfl,hbr⟩
theorem aet(a:Option Addr)(cap:Nat)(w:World):Calls Tryz.prog 203 #[.slice a 0 cap,.func (.func 204) #[] #[]] w fun e w'=>e=.returned (.bool true)∧Below w.heap.size w w':=by
 go_enter Tryz.func203,Tryz.ntmps203
 go_wp2_with fail
 refine wp_loop_rounds 1 ?_
 rw[rounds_succ]
 go_wp2_with fail
 go_ret
 exact⟨rfl,Below.refl _ _⟩
theorem aeu(a:Option Addr)(cap:Nat)(l:List bC)(w:World)(hl:mO w a l) :
  Calls Tryz.prog 203 #[.slice a l.length cap,.func (.func 204) #[] #[]] w fun e w'=>e=.returned (.bool (ordered kK l))∧Below w.heap.size w w':=by
 have hn:l.length≤4294967000:=hl.1
 rcases aX.addr hl with h0|⟨b,o,rfl,hb⟩
 ·obtain rfl:l=[]:=List.eq_nil_of_length_eq_zero h0
  exact aet a cap w
 go_enter Tryz.func203,Tryz.ntmps203
 go_wp2_with fail
 go_loopw [5] (fun i wr=>Below w.heap.size w wr∧∃j:Nat,j≤l.length∧i=.int .i64 ((j:Int)+1)∧Hid ((List.range (j+1)).all (jB kK l)=true)) (fun i _=>l.length+1-(intOf i).toNat)
 case atStart=>exact⟨Below.refl _ _,0,Nat.zero_le _,rfl,Sz _ _⟩
 case round=>
  obtain⟨hbr,j,hj,rfl,hall⟩:=hrel
  by_cases hlt:j+1<l.length
  ·obtain⟨s,hc,hp⟩:=hl.at j (by omega)
   obtain⟨t,hc',hp'⟩:=hl.at (j+1) hlt
   have hlt':((j:Int)+1<(l.length:Int)):=by omega
   have hjj:(j:Int)+1-1=(j:Int):=by omega
   have ht1:((j:Int)+1).toNat=j+1:=by omega
   have h00:(0:Int)≤(j:Int)+1:=by omega
   have hw1:IntKind.i64.wrap ((j:Int)+1-1)=(j:Int):=by rw[hjj];exact IntWalk.i64_in _ (by omega)
   have hjl:j<l.length:=by omega
   cases hv:kK l[j] l[j+1]
   ·have HN:=Lib.hid (Sr j hlt hv)
    go_wp2_with fail
    refine dM hbr (by kernel_rfl) (by kernel_rfl) ?_
    repeat (go_big_quiet_step ((go_at_call 204;exact Calls.gz (SE _ _ _ _ _))))
    refine wpQuiet_nil ?_
    intro w2 hb2
    rw[hv]
    go_wp2_with fail
    go_ret
    exact⟨by rw[HN.out];rfl,hb2⟩
   ·have HN:=Lib.hid (Su j hlt hall.out hv)
    go_wp2_with fail
    refine dM hbr (by kernel_rfl) (by kernel_rfl) ?_
    repeat (go_big_quiet_step ((go_at_call 204;exact Calls.gz (SE _ _ _ _ _))))
    refine wpQuiet_nil ?_
    intro w2 hb2
    rw[hv]
    go_wp2_with fail
    clear hjj ht1 h00 hw1
    go_roundw
    case rel=>exact⟨hb2,j+1,by omega,by go_num,HN.out⟩
    case measure=>simp[intOf];omega
  ·have HN:=Lib.hid (Sv j hlt hall.out)
   have hlt':¬((j:Int)+1<(l.length:Int)):=by omega
   go_wp2_with fail
   go_ret
   exact⟨by rw[HN.out];rfl,hbr⟩
end Go.Proofs.YtfieenjdcpjmgaaGreatDoor
