/- A part of the proof. -/
import Derived.Test.YtfieenjdcpjmgaaGreatDoorB02
import Derived.Test.YtfieenjdcpjmgaaGreatDoorB05
import Derived.Test.YtfieenjdcpjmgaaGreatDoorB10
import Derived.Laws.MakeOwn
import Derived.Laws.IdiomStrings
set_option maxRecDepth 100000
set_option maxHeartbeats 2000000
namespace Go.WW
open Go.RowKit
def bM(v:Nat):Nat→List UInt8
 |0=>[]
 |n+1=>bM (v / 256) n++[UInt8.ofNat v]
theorem iy:∀(n v:Nat),(bM v n).length=n
 |0,_=>rfl
 |n+1,v=>by rw[bM,List.length_append,iy n];rfl
theorem Em:∀(n v j:Nat),j<n→(bM v n)[j]?=some (UInt8.ofNat (v / 256 ^ (n-1-j)))
 |0,_,_,h=>absurd h (Nat.not_lt_zero _)
 |n+1,v,j,h=>by
  rw[bM]
  by_cases hj:j<n
  ·rw[List.getElem?_append_left (by rw[iy];exact hj),Em n (v / 256) j hj,Nat.div_div_eq_div_mul,←Nat.pow_succ',show n+1-1-j=(n-1-j)+1 by omega]
  ·rw[List.getElem?_append_right (by rw[iy];omega),iy,show j-n=0 by omega,show n+1-1-j=0 by omega]
   simp
def ny(v:Nat):Nat:=if h:v<128 then 1 else ny (v / 256)+1
termination_by v
decreasing_by omega
theorem En{v:Nat}(h:v<128):ny v=1:=by unfold ny;rw[dif_pos h]
theorem II{v:Nat}(h:¬v<128):ny v=ny (v / 256)+1:=by
 conv=>
  lhs
  unfold ny
 rw[dif_neg h]
def uA(v:Nat):List UInt8:=bM v (ny v)
def pI(v:Nat):List UInt8:=if _h:v<256 then [UInt8.ofNat v]else pI (v / 256)++[UInt8.ofNat v]
termination_by v
decreasing_by omega
theorem xK{v:Nat}(h:v<256):pI v=[UInt8.ofNat v]:=by unfold pI;rw[dif_pos h]
theorem IJ{v:Nat}(h:¬v<256):pI v=pI (v / 256)++[UInt8.ofNat v]:=by
 conv=>
  lhs
  unfold pI
 rw[dif_neg h]
theorem Yy(v:Nat):pI v≠[]:=by
 by_cases h:v<256
 ·rw[xK h];simp
 ·rw[IJ h];simp
def lead:List UInt8→List UInt8
 | []=>[]
 |a::l=>if 128≤a.toNat then 0::a::l else a::l
theorem ame{l:List UInt8}(h:l≠[])(c:UInt8):lead (l++[c])=lead l++[c]:=by
 cases l with
 |nil=>exact absurd rfl h
 |cons a l=>
  simp only[List.cons_append,lead]
  by_cases h1:128≤a.toNat
  ·rw[if_pos h1,if_pos h1];rfl
  ·rw[if_neg h1,if_neg h1];rfl
theorem amf(v:Nat):uA v=lead (pI v):=by
 induction v using Nat.strongRecOn with
 |_ v ih=>
  by_cases h1:v<128
  ·rw[uA,En h1,xK (by omega),lead,if_neg (by simp;omega)]
   rfl
  ·have hs:uA v=uA (v / 256)++[UInt8.ofNat v]:=by rw[uA,II h1,bM];rfl
   rw[hs,ih (v / 256) (by omega)]
   by_cases h2:v<256
   ·rw[show v / 256=0 by omega,xK h2,xK (by omega),lead,lead,if_neg (by decide),if_pos (by simp;omega)]
    rfl
   ·rw[IJ h2,ame (Yy _)]
theorem Oo:∀(k v:Nat),0<k→v<2 ^ (8*k-1)→ny v≤k
 |0,_,h,_=>absurd h (Nat.lt_irrefl 0)
 |1,v,_,h=>by rw[En (by simpa using h)];exact Nat.le_refl _
 |k+2,v,_,h=>by
  by_cases h1:v<128
  ·rw[En h1];omega
  ·rw[II h1]
   have:=Oo (k+1) (v / 256) (by omega) (by
    rw[Nat.div_lt_iff_lt_mul (by decide)]
    have e:2 ^ (8*(k+1)-1)*256=2 ^ (8*(k+2)-1):=by rw[show(256:Nat)=2 ^ 8 from rfl,←Nat.pow_add];congr 1
    rw[e];exact h)
   omega
def amg:Nat:=16777215
def oI(n:Nat):List UInt8:=
 if n<128 then [.ofNat n]else if n<256 then [0x81,.ofNat n]else if n<65536 then [0x82,.ofNat (n / 256),.ofNat n]else [0x83,.ofNat (n / 65536),.ofNat (n / 256),.ofNat n]
theorem Oq(n:Nat):(oI n).length≤4:=by unfold oI;split<;>(try split)<;>(try split)<;>simp
def tlv(t:Nat)(c:List UInt8):List UInt8:=UInt8.ofNat t::(oI c.length++c)
def aqV(t:Nat)(c:List UInt8):List UInt8:=if c.length≤amg then tlv t c else []
theorem oJ(t:Nat)(c:List UInt8):c.length<(tlv t c).length∧(tlv t c).length≤c.length+5:=by
 have:=Oq c.length
 simp[tlv];omega
def bT(n:Nat)(c:List UInt8):List UInt8:=if c.length=0 then []else tlv (160+n) c
def dR(l:List (List UInt8)):List UInt8:=tlv 48 l.flatten
def fB(v:Nat):List UInt8:=tlv 2 (uA v)
def lQ(v:Nat):List UInt8:=tlv 24 (bM v 6)
def uB(v:Nat):List UInt8:=tlv 3 (0::bM v 4)
def gy(b:List UInt8):List UInt8:=tlv 4 b
def fC(s:ByteArray):List UInt8:=tlv 27 s.data.toList
def dX:Nat→List (List UInt8)→List (List UInt8)
 |_,[]=>[]
 |n,x::l=>bT n x::dX (n+1) l
def mJ(l:List (List UInt8)):List UInt8:=dR (dX 0 l)
def dm(l:List (List UInt8)):List UInt8:=if l.length=0 then []else dR l
def fZ(v:Nat):List UInt8:=if v=0 then []else fB v
def jh(v:Nat):List UInt8:=if v=0 then []else lQ v
def jR(s:ByteArray):List UInt8:=if s.size=0 then []else fC s
theorem rY{n m:Nat}{c:List UInt8}(h:c.length≤m):(bT n c).length≤m+5:=by
 unfold bT;split
 ·simp
 ·have:=(oJ (160+n) c).2;omega
theorem Eo:∀(l:List (List UInt8)) (n:Nat),(dX n l).length=l.length
 | [],_=>rfl
 |x::l,n=>by rw[dX,List.length_cons,List.length_cons,Eo l]
theorem IK{m:Nat}:∀(l:List (List UInt8)),(∀x∈l,x.length≤m)→l.flatten.length≤l.length*m
 | [],_=>by simp
 |x::l,h=>by
  have h1:=IK l (fun y hy=>h y (by simp[hy]))
  have h2:=h x (by simp)
  rw[List.flatten_cons,List.length_append,List.length_cons,Nat.succ_mul];omega
theorem uC(l:List (List UInt8)):(dR l).length≤l.flatten.length+5:=(oJ 48 l.flatten).2
theorem amh{m:Nat}{l:List (List UInt8)}(h:∀x∈l,x.length≤m):(dm l).length≤l.length*m+5:=by
 unfold dm;split
 ·simp
 ·have:=uC l;have:=IK l h;omega
theorem rZ{v k:Nat}(hk:0<k)(h:v<2 ^ (8*k-1)):(fB v).length≤k+5:=by
 have h1:=(oJ 2 (uA v)).2
 have h2:=Oo k v hk h
 have h3:(uA v).length=ny v:=iy _ _
 unfold fB;omega
theorem zx{v k:Nat}(hk:0<k)(h:v<2 ^ (8*k-1)):(fZ v).length≤k+5:=by
 unfold fZ;split
 ·simp
 ·exact rZ hk h
theorem IL(v:Nat):(lQ v).length≤11:=by
 have h1:=(oJ 24 (bM v 6)).2
 rw[iy]at h1;exact h1
theorem ami(v:Nat):(jh v).length≤11:=by
 unfold jh;split
 ·simp
 ·exact IL v
theorem amj(v:Nat):(uB v).length≤10:=by
 have h1:=(oJ 3 (0::bM v 4)).2
 rw[List.length_cons,iy]at h1;exact h1
theorem Bq(b:List UInt8):(gy b).length≤b.length+5:=(oJ 4 b).2
theorem Ep(s:ByteArray):(fC s).length≤s.size+5:=by
 have h1:=(oJ 27 s.data.toList).2
 have h2:s.data.toList.length=s.size:=by simp
 unfold fC;omega
theorem IM(s:ByteArray):(jR s).length≤s.size+5:=by
 unfold jR;split
 ·simp
 ·exact Ep s
def fG(p:az):List UInt8:=mJ [dR (p.parts.map fC),fC p.aG]
def iG(k:Key):List UInt8:=mJ [fB k.profile.toNat,fB k.version.toNat,gy k.bytes]
def ji(s:bC):List UInt8:=mJ [fB s.version.toNat,dm (s.keys.map iG),jR s.di,fZ s.dK.toNat,lQ s.created.toNat]
theorem map_le{α:Type}{f:α→List UInt8}{m n:Nat}{l:List α}(h:∀x∈l,(f x).length≤m)(hn:l.length≤n):(l.map f).flatten.length≤n*m:=by
 have h1:=IK (l.map f) (m:=m) (by simpa using h)
 rw[List.length_map]at h1
 exact Nat.le_trans h1 (Nat.mul_le_mul_right _ hn)
theorem Bv{α:Type}{f:α→List UInt8}{m n:Nat}{l:List α}(h:∀x∈l,(f x).length≤m)(hn:l.length≤n):(dm (l.map f)).length≤n*m+5:=by
 have h1:=amh (l:=l.map f) (m:=m) (by simpa using h)
 rw[List.length_map]at h1
 have:=Nat.mul_le_mul_right m hn
 omega
theorem Es{p:az}(h:bG p=true):p.parts.length≤4∧(∀x∈p.parts,x.size≤32)∧p.aG.size≤32:=by
 simp only[bG,Bool.and_eq_true,List.all_eq_true,decide_eq_true_eq,gU,jF,sized]at h
 refine⟨by omega,fun x hx=>?_,by omega⟩
 have:=h.1.1.1 x hx
 omega
theorem Ot{p:az}(h:bG p=true):(p.parts.map fC).flatten.length≤148:=
 map_le (m:=37) (n:=4) (fun x hx=>by have:=Ep x;have:=(Es h).2.1 x hx;omega) (Es h).1
theorem Ou{p:az}(h:bG p=true):(dX 0 [dR (p.parts.map fC),fC p.aG]).flatten.length≤200:=by
 have h1:=uC (p.parts.map fC)
 have h2:=Ot h
 have h3:=Ep p.aG
 have h4:=(Es h).2.2
 have h5:=rY (n:=0) (m:=153) (c:=dR (p.parts.map fC)) (by omega)
 have h6:=rY (n:=0+1) (m:=37) (c:=fC p.aG) (by omega)
 simp only[dX,List.flatten_cons,List.flatten_nil,List.append_nil,List.length_append]
 omega
theorem IP{p:az}(h:bG p=true):(fG p).length≤205:=by
 have h1:=uC (dX 0 [dR (p.parts.map fC),fC p.aG])
 have h2:=Ou h
 unfold fG mJ;omega
def zy(k:Key):Prop:=(0≤k.profile∧k.profile≤2)∧(0≤k.version∧k.version≤65535)∧k.bytes.length≤256
theorem amk(p:Int):dV p≠0→p=1∨p=2:=by
 unfold dV;intro h
 by_cases h1:p=1
 ·exact .inl h1
 ·by_cases h2:p=2
  ·exact .inr h2
  ·simp[h1,h2]at h
theorem aml{m v:Int}{k:Key}(h:iL m v k=true)(hv:0≤v∧v≤65535):zy k:=by
 unfold iL at h
 simp only[Bool.and_eq_true,Bool.not_eq_true',beq_eq_false_iff_ne,bne_eq_false_iff_eq]at h
 obtain⟨⟨h1,h2⟩,h3⟩:=h
 have hp:=amk k.profile h1
 refine⟨by omega,by omega,?_⟩
 split at h3
 ·simp only[nH,Bool.and_eq_true,beq_iff_eq]at h3
  have h4:=h3.1.2
  have:dV k.profile≤32:=by rcases hp with e|e<;>rw[e]<;>decide
  omega
 ·have:=FC.1 h3;omega
theorem Ov{k:Key}(h:zy k):(dX 0 [fB k.profile.toNat,fB k.version.toNat,gy k.bytes]).flatten.length≤290:=by
 obtain⟨h1,h2,h3⟩:=h
 have e1:=rZ (v:=k.profile.toNat) (k:=1) (by decide) (by simp;omega)
 have e2:=rZ (v:=k.version.toNat) (k:=3) (by decide) (by simp;omega)
 have e3:=Bq k.bytes
 have f1:=rY (n:=0) e1
 have f2:=rY (n:=0+1) e2
 have f3:=rY (n:=0+1+1) (m:=261) (c:=gy k.bytes) (by omega)
 simp only[dX,List.flatten_cons,List.flatten_nil,List.append_nil,List.length_append]
 omega
theorem Et{k:Key}(h:zy k):(iG k).length≤295:=by
 have h1:=uC (dX 0 [fB k.profile.toNat,fB k.version.toNat,gy k.bytes])
 have h2:=Ov h
 unfold iG mJ;omega
structure zA(s:bC):Prop where
 version:0≤s.version∧s.version≤65535
 keys:∀k∈s.keys,zy k
 few:1≤s.keys.length∧s.keys.length≤4
 di:s.di.size≤256
 dK:0≤s.dK∧s.dK≤65536
 created:0≤s.created∧s.created≤1099511627776
theorem amm{m:Int}{s:bC}(h:iw m s=true):zA s:=by
 simp only[iw,jc,Bool.and_eq_true,List.all_eq_true,FC,decide_eq_true_eq]at h
 obtain⟨⟨h1,-⟩,⟨⟨⟨⟨h2,h3⟩,h4⟩,h5⟩,-⟩,h6⟩:=h
 exact⟨by omega,fun k hk=>aml (h1 k hk) (by omega),by omega,by omega,by omega,by omega⟩
theorem Ox{s:bC}(h:zA s):(dX 0 [fB s.version.toNat,dm (s.keys.map iG),jR s.di,fZ s.dK.toNat,lQ s.created.toNat]).flatten.length≤1600:=by
 have e1:=rZ (v:=s.version.toNat) (k:=3) (by decide) (by have:=h.version;simp;omega)
 have e2:=Bv (f:=iG) (m:=295) (n:=4) (l:=s.keys) (fun k hk=>Et (h.keys k hk)) h.few.2
 have e3:=IM s.di
 have e4:=zx (v:=s.dK.toNat) (k:=3) (by decide) (by have:=h.dK;simp;omega)
 have e5:=IL s.created.toNat
 have e6:=h.di
 have f1:=rY (n:=0) e1
 have f2:=rY (n:=0+1) e2
 have f3:=rY (n:=0+1+1) (m:=261) (c:=jR s.di) (by omega)
 have f4:=rY (n:=0+1+1+1) e4
 have f5:=rY (n:=0+1+1+1+1) e5
 simp only[dX,List.flatten_cons,List.flatten_nil,List.append_nil,List.length_append]
 omega
theorem Oy{s:bC}(h:zA s):(ji s).length≤1605:=by
 have h1:=uC (dX 0 [fB s.version.toNat,dm (s.keys.map iG),jR s.di,fZ s.dK.toNat,lQ s.created.toNat])
 have h2:=Ox h
 unfold ji mJ;omega
structure zB(d:Entry):Prop where
 name:bG d.name=true
 aliases:(∀p∈d.aliases,bG p=true)∧d.aliases.length≤16
 attrs:0≤d.attrs∧d.attrs≤1023
 dS:0≤d.dS∧d.dS≤65535
 keys:(∀s∈d.keys,zA s)∧d.keys.length≤16
 aO:d.aO.size≤32
 iE:0≤d.iE∧d.iE≤1099511627776
 iF:0≤d.iF∧d.iF≤1099511627776
 ig:0≤d.ig∧d.ig≤2147483648
 ik:0≤d.ik∧d.ik≤2147483648
 fails:0≤d.fails∧d.fails≤65535
 fD:0≤d.fD∧d.fD≤1099511627776
 gQ:0≤d.gQ∧d.gQ≤1099511627776
 targets:(∀p∈d.targets,bG p=true)∧d.targets.length≤16
 bD:(∀p∈d.bD,bG p=true)∧d.bD.length≤16
 history:(∀b∈d.history,b.length=16)∧d.history.length≤16
theorem Oz{l:List az}(h:(∀p∈l,bG p=true)∧l.length≤16):(dm (l.map fG)).length≤3285:=Bv (m:=205) (n:=16) (fun p hp=>IP (h.1 p hp)) h.2
def oK(d:Entry):List (List UInt8):=
 [fG d.name,dm (d.aliases.map fG),uB d.attrs.toNat,fZ d.dS.toNat,dm (d.keys.map ji),jR d.aO,jh d.iE.toNat,jh d.iF.toNat,fZ d.ig.toNat,fZ d.ik.toNat,fZ d.fails.toNat,
  jh d.fD.toNat,jh d.gQ.toNat,dm (d.targets.map fG),dm (d.bD.map fG),dm (d.history.map gy)]
def pJ(d:Entry):List UInt8:=mJ (oK d)
theorem amn(d:Entry):(oK d).length=16:=rfl
theorem OA{d:Entry}(h:zB d):∀x∈oK d,x.length≤26000:=by
 have e1:=IP h.name
 have e2:=Oz h.aliases
 have e3:=amj d.attrs.toNat
 have e4:=zx (v:=d.dS.toNat) (k:=3) (by decide) (by have:=h.dS;simp;omega)
 have e5:=Bv (f:=ji) (m:=1605) (n:=16) (l:=d.keys) (fun k hk=>Oy (h.keys.1 k hk)) h.keys.2
 have e6:=IM d.aO
 have e7:=h.aO
 have e9:=zx (v:=d.ig.toNat) (k:=5) (by decide) (by have:=h.ig;simp;omega)
 have e10:=zx (v:=d.ik.toNat) (k:=5) (by decide) (by have:=h.ik;simp;omega)
 have e11:=zx (v:=d.fails.toNat) (k:=3) (by decide) (by have:=h.fails;simp;omega)
 have e14:=Oz h.targets
 have e15:=Oz h.bD
 have e16:=Bv (f:=gy) (m:=21) (n:=16) (l:=d.history) (fun b hb=>by have:=Bq b;have:=h.history.1 b hb;omega) h.history.2
 have i:=ami
 intro x hx
 simp only[oK,List.mem_cons,List.not_mem_nil,or_false]at hx
 rcases hx with rfl|rfl|rfl|rfl|rfl|rfl|rfl|rfl|rfl|rfl|rfl|rfl|rfl|rfl|rfl|rfl<;>first|omega|(have:=i d.iE.toNat;omega)|(have:=i d.iF.toNat;omega)|(have:=i d.fD.toNat;omega)|(have:=i d.gQ.toNat;omega)
theorem Yz{m:Nat}:∀(l:List (List UInt8)) (n:Nat),(∀x∈l,x.length≤m)→∀x∈dX n l,x.length≤m+5
 | [],_,_,x,hx=>by cases hx
 |y::l,n,h,x,hx=>by
  rw[dX]at hx
  rcases List.mem_cons.1 hx with rfl|hx
  ·exact rY (h y (by simp))
  ·exact Yz l (n+1) (fun z hz=>h z (by simp[hz])) x hx
theorem OB{d:Entry}(h:zB d):(dX 0 (oK d)).flatten.length≤416080:=by
 have h1:=IK (dX 0 (oK d)) (Yz (oK d) 0 (OA h))
 rw[Eo,amn]at h1
 omega
theorem OC{d:Entry}(h:zB d):(pJ d).length≤416085:=by
 have h1:=uC (dX 0 (oK d))
 have h2:=OB h
 unfold pJ mJ;omega
theorem OD{l:List az}(h:different l=true):(∀p∈l,bG p=true)∧l.length≤16:=by
 simp only[different,yl,Bool.and_eq_true,List.all_eq_true,List.mem_range,decide_eq_true_eq]at h
 refine⟨fun p hp=>?_,by omega⟩
 obtain⟨i,hi,rfl⟩:=List.mem_iff_getElem.1 hp
 have:=h.1 i hi
 unfold nY at this
 rw[List.getElem?_eq_getElem hi]at this
 simp only[Bool.and_eq_true]at this
 exact this.1
theorem OE{d:Entry}(h:bW d=true)(ha:0≤d.attrs):zB d:=by
 simp only[bW,kL,jG,Bool.and_eq_true,List.all_eq_true,FC,decide_eq_true_eq,beq_iff_eq]at h
 obtain⟨⟨⟨⟨⟨⟨⟨⟨⟨h1,h2⟩,h3⟩,h4⟩,-⟩,h6⟩,-⟩,h8⟩,⟨⟨⟨⟨⟨h9,h10⟩,h11⟩,h12⟩,-⟩,h13⟩⟩,⟨⟨⟨⟨⟨h14,h15⟩,h16⟩,h17⟩,h18⟩,h19⟩,h20⟩:=h
 exact⟨h1,OD h2,⟨ha,by simpa[wP]using h9⟩,h10,⟨fun s hs=>amm (h6 s hs),by omega⟩,by omega,h14,h15,h16,h17,h18,h19,h20,OD h3,OD h4,⟨fun b hb=>by have:=h8 b hb;omega,by omega⟩⟩
structure dF(T:TypeId)(W wr:World)(sb:Sl)(l:List UInt8):Prop where
 b:Below W.heap.size W wr
 own:Own wr W.heap.size T 1 sb (dZ l)
theorem dF.none(T:TypeId){W wr:World}(h:Below W.heap.size W wr):dF T W wr ⟨Option.none,0⟩ []:=⟨h,Own.nil _ _ _ _⟩
theorem dF.later{T:TypeId}{W wr w':World}{sb:Sl}{l:List UInt8}(h:dF T W wr sb l)(hb:Below wr.heap.size wr w'):dF T W w' sb l:=
 ⟨ag h.b hb,h.own.kept fun _ hg=>hb.block _ (h.own.base hg).2⟩
theorem dF.made{P:Program}{t T:TypeId}{n b:Nat}(he:gp P t T 1 b){W w:World}(hW:Below W.heap.size W w)(hn:n≤100000000)(hb:b≤8){ni:Int}(hni:ni=n) :
  ∃V,(Instr.makeSlice t (.int .i64 0) (.int .i64 ni)).run P w=.ok (.slice (some ⟨w.heap.size,0,Option.none⟩) 0 n) V∧dF T W V ⟨some ⟨w.heap.size,0,Option.none⟩,n⟩ []:=by
 subst hni
 obtain⟨i,z,hi,hz,h1,h2,-⟩:=he.info
 obtain⟨V,hr,ho,hg⟩:=run_make_own (P:=P) w W.heap.size t T i z 1 he.und hi hz h1 .i64 .i64 n (by rw[h2];have:=Nat.mul_le_mul hb hn;omega) (by unfold maxLen;omega) hW.size
 exact⟨V,hr,hW.grown hg hW.size (fun k e=>by cases e),⟨ho,by simp[dZ]⟩⟩
theorem BytesAt.src{w:World}{A:Option Addr}{l:List UInt8}(h:BytesAt w A l):cZ w 1 A (dZ l):=by
 obtain⟨rows,h1,h2,h3⟩:=dY.src h Gw
 have:rows=dZ l:=by
  refine List.ext_getElem (by rw[h1,fP]) fun i hi hj=>?_
  obtain⟨v,hv,c,hc,rfl⟩:=h3 i hi
  have hi':i<l.length:=by rw[←h1];exact hi
  rw[List.getElem?_eq_getElem hi']at hc
  cases hc
  simp[hv,dZ]
 exact this▸h2
theorem amq(a b:List UInt8):dZ (a++b)=dZ a++dZ b:=by simp[dZ]
theorem dF.app{T:TypeId}{W wr w':World}{sb s':Sl}{l news:List UInt8}(h:dF T W wr sb l)(ho:Own w' W.heap.size T 1 s' (dZ l++dZ news))(hg:wr.grownBy w' sb.blk):dF T W w' s' (l++news):=
 ⟨h.b.grown hg h.b.size (fun _ e=>(h.own.base e).1),by rw[amq];exact ho⟩
theorem iU{P:Program}{ops:Array Oper}{rest:List Oper}{o:Oper}{a:Act}{w:World}{Q:Exit→Act→World→Prop}(hgd:o.guard=Option.none)(x y:Operand)(t:TypeId)(ho:o.op=.call {callee:=.builtin .append,args:=#[x,y],argTypes:=#[t,t]})
  {T:TypeId} {b:Nat} (he:gp P t T 1 b) (hb:b≤8) {W:World} {s:Sl} {l L:List UInt8} (h:dF T W w s l) {n:Nat} (hx:a.eval x=.slice s.a n s.cap) (hn:n=l.length) {A:Option Addr} {news:List UInt8} {m c:Nat}
  (hy:a.eval y=.slice A m c) (hm:m=news.length) (hs:BytesAt w A news) (hL:L=l++news) (hlen:L.length≤100000000)
  (hK:∀(s':Sl) w',dF T W w' s' L→wpList P ops Q rest (a.put o.dst (.slice s'.a L.length s'.cap)) w'):wpList P ops Q (o::rest) a w:=by
 subst hn hm hL
 rw[List.length_append]at hlen hK
 have hl:((dZ l).length+(dZ news).length)*(b+1)≤140737488355328:=by
  rw[fP,fP]
  have:=Nat.mul_le_mul hlen (show b+1≤9 by omega)
  omega
 refine gI hgd x y t ho he hx (fP l).symm h.own hy (fP news).symm hs.src hl h.b.size fun s' w' h1 h2 _=>hK s' w' (h.app h1 h2)
theorem BytesAt.lit(w:World){k:Nat}(l:List UInt8){cs:Array Value}{t:TypeId}(hk:k=w.heap.size)(h:cs=(l.map fun c=>Value.int .u8 c.toNat).toArray)(hl:l.length≤lim):BytesAt (w.alloc (.cells cs t)) (some ⟨k,0,Option.none⟩) l:=by
 subst h hk
 refine⟨hl,fun i hi=>⟨w.heap.size,0,_,rfl,?_,l[i],List.getElem?_eq_getElem hi,rfl⟩⟩
 rw[cell_of_row _ _ _ _ _ _ (World.alloc_heap_new _ _)]
 simp[hi]
theorem dF.done{T:TypeId}{w w':World}{s:Sl}{l:List UInt8}(h:dF T w w' s l)(hl:l.length≤lim):Df w l (.returned (.slice s.a l.length s.cap)) w':=
 Ua h.own (fP l) hl h.b fun i hi=>by
  have hi':i<l.length:=by simpa[dZ]using hi
  exact⟨.int .u8 l[i].toNat,by simp[dZ],l[i],List.getElem?_eq_getElem hi',rfl⟩
theorem xM{l:List (List UInt8)}{k:Nat}(h:k<l.length):(l.take (k+1)).flatten=(l.take k).flatten++l[k]:=by
 rw[List.take_succ_eq_append_getElem h,List.flatten_append,List.flatten_cons,List.flatten_nil,List.append_nil]
theorem zC(l:List (List UInt8))(k:Nat):(l.take k).flatten.length≤l.flatten.length:=by
 conv=>
  rhs
  rw[←List.take_append_drop k l]
 rw[List.flatten_append,List.length_append];omega
theorem fK.one{w:World}(s:Sl){l:List UInt8}{t:TypeId}(h:BytesAt w s.a l):fK (w.alloc (.cells #[.slice s.a l.length s.cap] t)) (some ⟨w.heap.size,0,Option.none⟩) [l]:=by
 refine⟨by simp[lim],fun i hi=>⟨w.heap.size,0,_,rfl,?_,l,s,?_,rfl,h.later (aj (Below.refl _ _) _)⟩⟩
 ·obtain rfl:i=0:=by simp at hi;exact hi
  rw[cell_of_row _ _ _ _ _ _ (World.alloc_heap_new _ _)];rfl
 ·obtain rfl:i=0:=by simp at hi;exact hi
  rfl
end Go.WW
namespace Go.Proofs.YtfieenjdcpjmgaaGreatDoor
open Go.RowKit Go.WW
theorem b8:1≤8:=by decide
theorem zD(ti:Int)(t:Nat)(a:Option Addr)(cap:Nat)(parts:List (List UInt8))(w:World)(ht:ti=(UInt8.ofNat t).toNat)(h:fK w a parts)(h0:0<parts.length)(hn:parts.flatten.length≤1000000) :
  Calls Tryz.prog 260 #[.int .u8 ti,.slice a parts.length cap] w (Df w (tlv t parts.flatten)):=by
 obtain⟨tc,htc⟩:∃c,c=UInt8.ofNat t:=⟨_,rfl⟩
 rw[←htc]at ht
 have HT:=Lib.hid htc
 clear htc
 subst ht
 have hpl:parts.length≤4294967000:=h.1
 obtain⟨b,o,s0,rfl,-,-⟩:=h.get 0 h0
 have hT:∀k,(parts.take k).flatten.length≤1000000:=fun k=>Nat.le_trans (zC _ _) hn
 go_enter Tryz.func260,Tryz.ntmps260
 go_wp2_with fail
 go_loopw [5,13] (fun nv i wr=>∃k:Nat,k≤parts.length∧i=.int .i64 k∧nv=.int .i64 ((parts.take k).flatten.length:Nat)∧wr=w) (fun _ i _=>parts.length-(intOf i).toNat)
 case atStart=>exact⟨0,Nat.zero_le _,rfl,rfl,rfl⟩
 case round=>
  obtain⟨k,hk,rfl,rfl,rfl⟩:=hrel
  by_cases hlt:k<parts.length
  ·obtain⟨s,hc,hb⟩:=h.at k hlt
   have hT1:=hT (k+1)
   have hT0:=hT k
   rw[xM hlt,List.length_append]at hT1
   generalize hL:(parts.take k).flatten.length=L at *
   go_wp2_with fail
   go_roundw
   case rel=>exact⟨k+1,by omega,by go_num,by rw[xM hlt,List.length_append,hL];go_num,trivial⟩
   case measure=>simp[intOf];omega
  ·obtain rfl:k=parts.length:=by omega
   rw[List.take_length]at *
   obtain⟨L,hL⟩:∃L,L=parts.flatten:=⟨_,rfl⟩
   rw[←hL]at hn ⊢
   have HL:=Lib.hid hL
   have hTL:∀k,(parts.take k).flatten.length≤L.length:=fun k=>by rw[hL];exact zC _ _
   have HTL:=Lib.hid hTL
   clear hL hT hTL
   obtain⟨V0,hmk,hR0⟩:=dF.made (ni:=(L.length:Int)+5) (n:=L.length+5) eF (Below.refl _ wr) (by omega) b8 (by omega)
   have hlen:(L.length<128)∨(¬L.length<128∧L.length<256)∨(¬L.length<256∧L.length<65536)∨¬L.length<65536:=by omega
   obtain⟨N,hN⟩:∃N,N=tc::oI L.length:=⟨_,rfl⟩
   have hNl:N.length≤5:=by have:=Oq L.length;rw[hN];simp;omega
   have HN:=Lib.hid hN
   clear hN
   rcases hlen with hl|hl|hl|hl
   all_goals first
    |(have E:=Lib.hid (show N=[tc]++[UInt8.ofNat L.length] by(rw[HN.out];unfold oI;rw[if_pos hl];rfl));have g1:(L.length:Int)<128:=(by omega);clear hl;go_wp2_with (first|(at_builtin;refine iU (L:=N) rfl _ _ _ rfl eF b8 (hR1.later (aj (Below.refl _ _) _)) (n:=1) rfl rfl rfl (m:=1) rfl (BytesAt.lit _ [UInt8.ofNat L.length] (by simp) (by simp;try omega) (by simp[lim])) E.out (by omega) ?_;intro s2 w2 hR2)|(at_builtin;refine iU rfl _ _ _ rfl eF b8 (hR0.later (aj (Below.refl _ _) _)) (n:=0) rfl rfl rfl (m:=1) rfl (BytesAt.lit _ [tc] (by simp) rfl (by simp[lim])) rfl (by simp) ?_;intro s1 w1 hR1)))
    |(have E:=Lib.hid (show N=[tc]++[129,UInt8.ofNat L.length] by(rw[HN.out];unfold oI;rw[if_neg hl.1,if_pos hl.2];rfl));have g1:¬(L.length:Int)<128:=(by omega);have g2:(L.length:Int)<256:=(by omega);clear hl;go_wp2_with (first|(at_builtin;refine iU (L:=N) rfl _ _ _ rfl eF b8 (hR1.later (aj (Below.refl _ _) _)) (n:=1) rfl rfl rfl (m:=2) rfl (BytesAt.lit _ [129,UInt8.ofNat L.length] (by simp) (by simp;try omega) (by simp[lim])) E.out (by omega) ?_;intro s2 w2 hR2)|(at_builtin;refine iU rfl _ _ _ rfl eF b8 (hR0.later (aj (Below.refl _ _) _)) (n:=0) rfl rfl rfl (m:=1) rfl (BytesAt.lit _ [tc] (by simp) rfl (by simp[lim])) rfl (by simp) ?_;intro s1 w1 hR1)))
    |(have E:=Lib.hid (show N=[tc]++[130,UInt8.ofNat (L.length / 256),UInt8.ofNat L.length] by(rw[HN.out];unfold oI;rw[if_neg (by omega),if_neg hl.1,if_pos hl.2];rfl));have g1:¬(L.length:Int)<128:=(by omega);have g2:¬(L.length:Int)<256:=(by omega);have g3:(L.length:Int)<65536:=(by omega);clear hl;go_wp2_with (first|(at_builtin;refine iU (L:=N) rfl _ _ _ rfl eF b8 (hR1.later (aj (Below.refl _ _) _)) (n:=1) rfl rfl rfl (m:=3) rfl (BytesAt.lit _ [130,UInt8.ofNat (L.length / 256),UInt8.ofNat L.length] (by simp) (by simp;try omega) (by simp[lim])) E.out (by omega) ?_;intro s2 w2 hR2)|(at_builtin;refine iU rfl _ _ _ rfl eF b8 (hR0.later (aj (Below.refl _ _) _)) (n:=0) rfl rfl rfl (m:=1) rfl (BytesAt.lit _ [tc] (by simp) rfl (by simp[lim])) rfl (by simp) ?_;intro s1 w1 hR1)))
    |(have E:=Lib.hid (show N=[tc]++[131,UInt8.ofNat (L.length / 65536),UInt8.ofNat (L.length / 256),UInt8.ofNat L.length] by(rw[HN.out];unfold oI;rw[if_neg (by omega),if_neg (by omega),if_neg hl];rfl));have g1:¬(L.length:Int)<128:=(by omega);have g2:¬(L.length:Int)<256:=(by omega);have g3:¬(L.length:Int)<65536:=(by omega);clear hl;go_wp2_with (first|(at_builtin;refine iU (L:=N) rfl _ _ _ rfl eF b8 (hR1.later (aj (Below.refl _ _) _)) (n:=1) rfl rfl rfl (m:=4) rfl (BytesAt.lit _ [131,UInt8.ofNat (L.length / 65536),UInt8.ofNat (L.length / 256),UInt8.ofNat L.length] (by simp) (by simp;try omega) (by simp[lim])) E.out (by omega) ?_;intro s2 w2 hR2)|(at_builtin;refine iU rfl _ _ _ rfl eF b8 (hR0.later (aj (Below.refl _ _) _)) (n:=0) rfl rfl rfl (m:=1) rfl (BytesAt.lit _ [tc] (by simp) rfl (by simp[lim])) rfl (by simp) ?_;intro s1 w1 hR1)))
   all_goals
    clear E hR0 hR1 hmk
    go_loopw [8,74] (fun bv i wx=>∃(k:Nat) (sb:Sl),k≤parts.length∧i=.int .i64 k∧bv=.slice sb.a (N++(parts.take k).flatten).length sb.cap∧dF 5 wr wx sb (N++(parts.take k).flatten)) (fun _ i _=>parts.length-(intOf i).toNat)
    case atStart=>exact⟨0,s2,Nat.zero_le _,rfl,by simp,by simpa using hR2⟩
    case round=>
     clear hR2
     obtain⟨k,sb,hk,rfl,hbv,hR⟩:=hrel
     obtain⟨M,hM⟩:∃M,M=N++(parts.take k).flatten:=⟨_,rfl⟩
     rw[←hM]at hR hbv
     subst hbv
     by_cases hlt:k<parts.length
     ·obtain⟨s,hc,hb⟩:=(h.later hR.b).at k hlt
      obtain⟨M',hM'⟩:∃M',M'=N++(parts.take (k+1)).flatten:=⟨_,rfl⟩
      have hlk:=HTL.out (k+1)
      have Bz:M'.length≤100000000:=by rw[hM',List.length_append];omega
      have uD:=Lib.hid hM'
      have HA:=Lib.hid (show M'=M++parts[k] by rw[hM',hM,xM hlt,List.append_assoc])
      clear hM hM' hlk
      go_wp2_with (at_builtin;refine iU (L:=M') rfl _ _ _ rfl eF b8 hR rfl rfl rfl rfl hb HA.out Bz ?_;intro s3 w3 dh)
      go_roundw
      case rel=>exact⟨k+1,s3,by omega,by go_num,by rw[uD.out],by rw[←uD.out];exact dh⟩
      case measure=>simp[intOf];omega
     ·obtain rfl:k=parts.length:=by omega
      have HE:=Lib.hid (show M=tlv t parts.flatten by rw[hM,List.take_length,HN.out,HL.out,HT.out];rfl)
      have hle:=(oJ t parts.flatten).2
      have Mc:=Lib.hid (show M.length≤lim by rw[HE.out,←HL.out]at *;unfold lim;omega)
      clear hM hle
      go_wp2_with fail
      go_ret
      rw[←HE.out]
      exact hR.done Mc.out
end Go.Proofs.YtfieenjdcpjmgaaGreatDoor
namespace Go.WW
open Go.RowKit
theorem dF.lit{T:TypeId}{W w:World}(hW:Below W.heap.size W w)(l:List UInt8){cs:Array Value}(h:cs=(l.map fun c=>Value.int .u8 c.toNat).toArray)(hl:l.length≤100000000):dF T W (w.alloc (.cells cs T)) ⟨some ⟨w.heap.size,0,Option.none⟩,l.length⟩ l:=by
 have hf:flat (dZ l)=l.map fun c=>Value.int .u8 c.toNat:=by
  clear h hl
  unfold flat dZ
  induction l with
  |nil=>rfl
  |cons a l ih=>rw[List.map_cons,List.flatMap_cons,ih,List.map_cons];rfl
 refine⟨aj hW _,⟨⟨by rw[flat_length (k:=1) (by simp[dZ])],.inr ⟨w.heap.size,l.length,cs,by rw[fP],hW.size,World.alloc_heap_new _ _,by rw[fP];exact Nat.le_refl _,by unfold maxLen;omega,by rw[h];simp,?_⟩⟩,by simp[dZ]⟩⟩
 rw[hf,h,fP,Nat.mul_one]
 exact List.take_of_length_le (by simp)
abbrev bI:=Df
theorem dF.Eu{T:TypeId}{w w':World}{s:Sl}{l:List UInt8}(h:dF T w w' s l)(hl:l.length≤lim):bI w l (.returned (.slice s.a l.length s.cap)) w':=h.done hl
theorem bI.from{W w w':World}{l:List UInt8}{e:Ending}(h:bI w l e w')(hW:Below W.heap.size W w):bI W l e w':=by
 obtain⟨s,h1,h2,h3⟩:=h
 exact⟨s,h1,ag hW h2,h3.to (fun _ _=>rfl) (fun _ hk=>⟨Nat.le_trans hW.size hk.1,hk.2⟩)⟩
theorem pK{w w':World}(h:Below w.heap.size w w'):bI w [] (.returned (.slice Option.none 0 0)) w':=⟨⟨Option.none,0⟩,rfl,h,fun _ _=>⟨by simp[lim],fun i hi=>by simp at hi⟩⟩
theorem ams(t:Nat)(L:List UInt8):tlv t L=[UInt8.ofNat t]++oI L.length++L:=by simp[tlv]
theorem YA(j:Nat):(2:Int) ^ (8*j)=((256 ^ j:Nat):Int):=by
 rw[Int.pow_mul,Int.natCast_pow];rfl
theorem YB(v j:Nat):(v:Int) / 2 ^ (8*j) % 256=((UInt8.ofNat (v / 256 ^ j)).toNat:Int):=by
 rw[YA,←Int.natCast_ediv];simp
theorem YC(v j:Nat):((v:Int) / 2 ^ (8*j)).tmod 256 % 256=((UInt8.ofNat (v / 256 ^ j)).toNat:Int):=by
 rw[YA,Int.tmod_eq_emod_of_nonneg (Int.ediv_nonneg (Int.natCast_nonneg _) (Int.natCast_nonneg _)),←Int.natCast_ediv];simp
theorem dF.bytes{T:TypeId}{W w:World}{s:Sl}{l:List UInt8}(h:dF T W w s l)(hl:l.length≤lim):BytesAt w s.a l:=by
 obtain⟨rows,h1⟩:∃rows,rows=dZ l:=⟨_,rfl⟩
 exact dY.eG h.own (fP l) hl fun i hi=>by
  have hi':i<l.length:=by simpa[dZ]using hi
  exact⟨.int .u8 l[i].toNat,by simp[dZ],l[i],List.getElem?_eq_getElem hi',rfl⟩
def zF(m:Nat):List UInt8:=if m=0 then []else pI m
theorem YD{m:Nat}(h:0<m):zF m=zF (m / 256)++[UInt8.ofNat m]:=by
 unfold zF
 rw[if_neg (by omega)]
 by_cases h1:m<256
 ·rw[if_pos (by omega),xK h1];rfl
 ·rw[if_neg (by omega),IJ h1]
theorem amu(v:Nat):pI v=zF (v / 256)++[UInt8.ofNat v]:=by
 by_cases h:v=0
 ·subst h;rw[xK (by decide)];rfl
 ·rw[←YD (by omega),zF,if_neg h]
theorem YE:∀(k v:Nat),0<k→v<256 ^ k→(pI v).length≤k
 |0,_,h,_=>absurd h (Nat.lt_irrefl 0)
 |1,v,_,h=>by rw[xK (by simpa using h)];simp
 |k+2,v,_,h=>by
  by_cases h1:v<256
  ·rw[xK h1];simp
  ·rw[IJ h1,List.length_append]
   have:=YE (k+1) (v / 256) (by omega) (by rw[Nat.div_lt_iff_lt_mul (by decide),←Nat.pow_succ];exact h)
   simp;omega
theorem YF(m:Nat):(m:Int).tdiv 256=((m / 256:Nat):Int):=by
 rw[Int.tdiv_eq_ediv_of_nonneg (Int.natCast_nonneg _)];rfl
theorem amv{l:List UInt8}(h:0<l.length)(h1:128≤l[0].toNat):lead l=[0]++l:=by
 cases l with
 |nil=>exact absurd h (Nat.lt_irrefl 0)
 |cons a l=>exact if_pos h1
theorem amw{l:List UInt8}(h:0<l.length)(h1:¬128≤l[0].toNat):lead l=l:=by
 cases l with
 |nil=>exact absurd h (Nat.lt_irrefl 0)
 |cons a l=>exact if_neg h1
end Go.WW
namespace Go.Proofs.YtfieenjdcpjmgaaGreatDoor
open Go.RowKit Go.WW
theorem vO(ti:Int)(t:Nat)(a:Option Addr)(cap:Nat)(L:List UInt8)(w:World)(ht:ti=t)(h:BytesAt w a L)(hn:L.length≤1000000) :
  Calls Tryz.prog 150 #[.int .i64 ti,.slice a L.length cap] w (bI w (tlv t L)):=by
 subst ht
 obtain⟨tc,htc⟩:∃c,c=UInt8.ofNat t:=⟨_,rfl⟩
 have HT:=Lib.hid htc
 obtain⟨N,hN⟩:∃N,N=[tc]++oI L.length:=⟨_,rfl⟩
 have hNl:N.length≤5:=by have:=Oq L.length;rw[hN];simp;omega
 obtain⟨M,hM⟩:∃M,M=N++L:=⟨_,rfl⟩
 have Bz:M.length≤1000005:=by rw[hM,List.length_append];omega
 have HE:=Lib.hid (show tlv t L=M by rw[hM,hN,htc,ams])
 have HM:=Lib.hid hM
 have HN:=Lib.hid hN
 have hc:(t:Int) % 256=tc.toNat:=by rw[htc];simp
 have hR0:=dF.lit (T:=5) (Below.refl _ w) [tc] (cs:=#[.int .u8 tc.toNat]) rfl (by simp)
 clear htc hN hM
 rw[HE.out]
 have hlen:(L.length<128)∨(¬L.length<128∧L.length<256)∨(¬L.length<256∧L.length<65536)∨¬L.length<65536:=by omega
 go_enter Tryz.func150,Tryz.ntmps150
 rcases hlen with hl|hl|hl|hl
 all_goals first
  |(have E:=Lib.hid (show N=[tc]++[UInt8.ofNat L.length] by(rw[HN.out];unfold oI;rw[if_pos hl]));have g1:(L.length:Int)<128:=(by omega);clear hl;go_wp2_with (first|(at_builtin;refine iU (L:=M) rfl _ _ _ rfl eF b8 hR2 rfl rfl rfl rfl (h.later hR2.b) HM.out (by omega) ?_;intro s3 w3 dh)|(at_builtin;refine iU (L:=N) rfl _ _ _ rfl eF b8 (hR0.later (aj (Below.refl _ _) _)) (n:=1) rfl rfl rfl (m:=1) rfl (BytesAt.lit _ [UInt8.ofNat L.length] (by simp) (by simp;try omega) (by simp[lim])) E.out (by omega) ?_;intro s2 w2 hR2)))
  |(have E:=Lib.hid (show N=[tc]++[129,UInt8.ofNat L.length] by(rw[HN.out];unfold oI;rw[if_neg hl.1,if_pos hl.2]));have g1:¬(L.length:Int)<128:=(by omega);have g2:(L.length:Int)<256:=(by omega);clear hl;go_wp2_with (first|(at_builtin;refine iU (L:=M) rfl _ _ _ rfl eF b8 hR2 rfl rfl rfl rfl (h.later hR2.b) HM.out (by omega) ?_;intro s3 w3 dh)|(at_builtin;refine iU (L:=N) rfl _ _ _ rfl eF b8 (hR0.later (aj (Below.refl _ _) _)) (n:=1) rfl rfl rfl (m:=2) rfl (BytesAt.lit _ [129,UInt8.ofNat L.length] (by simp) (by simp;try omega) (by simp[lim])) E.out (by omega) ?_;intro s2 w2 hR2)))
  |(have E:=Lib.hid (show N=[tc]++[130,UInt8.ofNat (L.length / 256),UInt8.ofNat L.length] by(rw[HN.out];unfold oI;rw[if_neg (by omega),if_neg hl.1,if_pos hl.2]));have g1:¬(L.length:Int)<128:=(by omega);have g2:¬(L.length:Int)<256:=(by omega);have g3:(L.length:Int)<65536:=(by omega);clear hl;go_wp2_with (first|(at_builtin;refine iU (L:=M) rfl _ _ _ rfl eF b8 hR2 rfl rfl rfl rfl (h.later hR2.b) HM.out (by omega) ?_;intro s3 w3 dh)|(at_builtin;refine iU (L:=N) rfl _ _ _ rfl eF b8 (hR0.later (aj (Below.refl _ _) _)) (n:=1) rfl rfl rfl (m:=3) rfl (BytesAt.lit _ [130,UInt8.ofNat (L.length / 256),UInt8.ofNat L.length] (by simp) (by simp;try omega) (by simp[lim])) E.out (by omega) ?_;intro s2 w2 hR2)))
  |(have E:=Lib.hid (show N=[tc]++[131,UInt8.ofNat (L.length / 65536),UInt8.ofNat (L.length / 256),UInt8.ofNat L.length] by(rw[HN.out];unfold oI;rw[if_neg (by omega),if_neg (by omega),if_neg hl]));have g1:¬(L.length:Int)<128:=(by omega);have g2:¬(L.length:Int)<256:=(by omega);have g3:¬(L.length:Int)<65536:=(by omega);clear hl;go_wp2_with (first|(at_builtin;refine iU (L:=M) rfl _ _ _ rfl eF b8 hR2 rfl rfl rfl rfl (h.later hR2.b) HM.out (by omega) ?_;intro s3 w3 dh)|(at_builtin;refine iU (L:=N) rfl _ _ _ rfl eF b8 (hR0.later (aj (Below.refl _ _) _)) (n:=1) rfl rfl rfl (m:=4) rfl (BytesAt.lit _ [131,UInt8.ofNat (L.length / 65536),UInt8.ofNat (L.length / 256),UInt8.ofNat L.length] (by simp) (by simp;try omega) (by simp[lim])) E.out (by omega) ?_;intro s2 w2 hR2)))
 all_goals
  go_ret
  exact dh.Eu (by unfold lim;omega)
theorem YG(v n:Nat)(w:World)(hn:n≤8):Calls Tryz.prog 151 #[.int .i64 v,.int .i64 n] w (bI w (bM v n)):=by
 have hlen:=iy n v
 go_enter Tryz.func151,Tryz.ntmps151
 go_wp2_with fail
 go_loopw [5,6] (fun bv iv wr=>∃(k:Nat) (sb:Sl),k≤n∧iv=.int .i64 ((n:Int)-1-k)∧bv=.slice sb.a k sb.cap∧dF 5 w wr sb ((bM v n).take k)) (fun _ i _=>(intOf i+1).toNat)
 case atStart=>exact⟨0,⟨none,0⟩,Nat.zero_le _,by simp,rfl,dF.none _ (Below.refl _ _)⟩
 case round=>
  obtain⟨k,sb,hk,rfl,rfl,hR⟩:=hrel
  obtain⟨M,hM⟩:∃M,M=(bM v n).take k:=⟨_,rfl⟩
  have lS:=Lib.hid (show k=M.length by rw[hM,List.length_take];omega)
  rw[←hM]at hR
  by_cases hlt:k<n
  ·obtain⟨M',hM'⟩:∃M',M'=(bM v n).take (k+1):=⟨_,rfl⟩
   obtain⟨c,hc⟩:∃c,c=UInt8.ofNat (v / 256 ^ (n-1-k)):=⟨_,rfl⟩
   obtain⟨j,hj⟩:∃j:Nat,j=n-1-k:=⟨_,rfl⟩
   have hij:(n:Int)-1-k=j:=by omega
   have HA:=Lib.hid (show M'=M++[c] by rw[hM',hM,hc,List.take_add_one,Em _ _ _ hlt];rfl)
   have xN:=Lib.hid (show M'.length=k+1 by rw[hM',List.length_take];omega)
   have uD:=Lib.hid hM'
   rw[hij]
   rw[←hj]at hc
   have HJ:=Lib.hid hj
   have YH:j<8:=by omega
   clear hM hM' hj hij
   go_wp2_with (at_builtin;refine iU (L:=M') rfl _ _ _ rfl eF b8 (hR.later (aj (Below.refl _ _) _)) rfl lS.out (m:=1) rfl rfl (BytesAt.lit _ [c] (by simp) (by rw[YC,hc];rfl) (by simp[lim])) HA.out (by rw[xN.out];omega) ?_;intro s3 w3 dh)
   go_roundw
   case rel=>exact⟨k+1,s3,by omega,by have:=HJ.out;go_num,by rw[xN.out],by rw[←uD.out];exact dh⟩
   case measure=>simp[intOf]
  ·obtain rfl:k=n:=by omega
   have HE:=Lib.hid (show M=bM v k by rw[hM,List.take_of_length_le (by omega)])
   have HL:=Lib.hid (show(bM v k).length=k from hlen)
   clear hM hlen
   go_wp2_with fail
   go_ret
   rw[←HE.out]
   have:=hR.Eu (by rw[←lS.out];unfold lim;omega)
   rw[←lS.out]at this
   exact this
theorem amx(v:Nat)(w:World)(hv:v<4611686018427387904):Calls Tryz.prog 148 #[.int .i64 v] w (bI w (fB v)):=by
 have hlen:=YE 8 v (by decide) (by omega)
 have hq:=YF v
 have HI:=Lib.hid (show fB v=tlv 2 (lead (pI v)) by rw[←amf];rfl)
 have HD:=Lib.hid (amu v)
 have HN:=Lib.hid (Yy v)
 obtain⟨D,hD⟩:∃D,D=pI v:=⟨_,rfl⟩
 rw[←hD]at HI HD HN hlen
 clear hD
 rw[HI.out]
 go_enter Tryz.func148,Tryz.ntmps148
 go_wp2_with fail
 go_loopw [0,3] (fun vv bv wr=>∃(m:Nat) (sb:Sl) (M:List UInt8),m≤v∧vv=.int .i64 m∧bv=.slice sb.a M.length sb.cap∧dF 5 w wr sb M∧Hid (D=zF m++M)) (fun vv _ _=>(intOf vv).toNat)
 case atStart=>exact⟨v / 256,_,[UInt8.ofNat v],by omega,rfl,rfl,dF.lit (Below.refl _ _) [UInt8.ofNat v] (by simp) (by simp),HD.out⟩
 case round=>
  clear hq
  obtain⟨m,sb,M,hm,rfl,rfl,hR,hH⟩:=hrel
  have Bz:M.length≤8:=by have:=congrArg List.length hH.out;rw[List.length_append]at this;omega
  have vP:=hR.bytes (by unfold lim;omega)
  by_cases h0:0<m
  ·have hq:=YF m
   obtain⟨M',hM'⟩:∃M',M'=[UInt8.ofNat m]++M:=⟨_,rfl⟩
   have HA:=Lib.hid hM'
   have amy:M'.length≤9:=by rw[hM'];simp;omega
   have HH:=Lib.hid (show D=zF (m / 256)++M' by rw[hH.out,YD h0,hM',List.append_assoc])
   clear hM' hH
   have hR0:=dF.lit (T:=5) hR.b [UInt8.ofNat m] (cs:=#[.int .u8 ((m:Int) % 256)]) (by simp) (by simp)
   go_wp2_with (at_builtin;refine iU (L:=M') rfl _ _ _ rfl eF b8 hR0 (n:=1) rfl rfl rfl rfl (vP.later (aj (Below.refl _ _) _)) HA.out (by omega) ?_;intro s3 w3 dh)
   go_roundw
   case rel=>exact⟨m / 256,s3,M',by omega,by first|rfl|go_num,rfl,dh,HH.out⟩
   case measure=>simp[intOf];omega
  ·obtain rfl:m=0:=by omega
   have HE:=Lib.hid (show D=M by rw[hH.out];rfl)
   obtain rfl:=HE.out
   clear HE hH
   have hD0:0<D.length:=List.length_pos_iff.2 HN.out
   obtain⟨b,o,ha,hc⟩:=vP.get 0 hD0
   obtain⟨sa,sc⟩:=sb
   dsimp only at ha
   subst ha
   simp only[Nat.add_zero]at hc
   by_cases hbig:128≤D[0].toNat
   ·obtain⟨M',hM'⟩:∃M',M'=[0]++D:=⟨_,rfl⟩
    have HL:=Lib.hid (show lead D=M' by rw[amv hD0 hbig,hM'])
    have amy:M'.length≤9:=by rw[hM'];simp;omega
    have HA:=Lib.hid hM'
    clear hM'
    rw[HL.out]
    have hR0:=dF.lit (T:=5) hR.b [0] (cs:=#[.int .u8 0]) rfl (by simp)
    have hbi:(128:Int)≤(D[0].toNat:Int):=by omega
    go_wp2_with (at_builtin;refine iU (L:=M') rfl _ _ _ rfl eF b8 hR0 (n:=1) rfl rfl rfl rfl (vP.later (aj (Below.refl _ _) _)) HA.out (by omega) ?_;intro s3 w3 dh)
    refine(vO 2 2 _ _ M' _ rfl (dh.bytes (by unfold lim;omega)) (by omega)).mono ?_
    intro e w4 h4
    obtain⟨s4,rfl,hb4,hB4⟩:=bI.from h4 dh.b
    clear hR hR0 dh vP hc
    go_wp2_with fail
    go_ret
    rw[HL.out]
    exact⟨s4,rfl,hb4,hB4⟩
   ·have HL:=Lib.hid (show lead D=D from amw hD0 hbig)
    have hbi:¬(128:Int)≤(D[0].toNat:Int):=by omega
    go_wp2_with fail
    refine(vO 2 2 _ _ D _ rfl vP (by omega)).mono ?_
    intro e w4 h4
    obtain⟨s4,rfl,hb4,hB4⟩:=bI.from h4 hR.b
    clear hR vP hc
    go_wp2_with fail
    go_ret
    rw[HL.out]
    exact⟨s4,rfl,hb4,hB4⟩
theorem amz(v:Nat)(w:World):Calls Tryz.prog 149 #[.int .i64 v] w (bI w (lQ v)):=by
 have hl:=iy 6 v
 have HT:=Lib.hid (show lQ v=tlv 24 (bM v 6) from rfl)
 rw[HT.out]
 go_enter Tryz.func149,Tryz.ntmps149
 go_wp2_with fail
 refine(YG v 6 _ (by decide)).mono ?_
 rintro e w1 ⟨s1,rfl,hb1,hB1⟩
 go_wp2_with fail
 refine(vO 24 24 _ _ (bM v 6) _ rfl hB1.out (by omega)).mono ?_
 intro e w4 h4
 obtain⟨s4,rfl,hb4,hB4⟩:=bI.from h4 hb1
 go_wp2_with fail
 go_ret
 exact⟨s4,rfl,hb4,hB4⟩
theorem YI(a:Option Addr)(cap:Nat)(L:List UInt8)(w:World)(h:BytesAt w a L)(hn:L.length≤1000000):Calls Tryz.prog 85 #[.slice a L.length cap] w (bI w (gy L)):=by
 go_enter Tryz.func85,Tryz.ntmps85
 go_wp2_with fail
 refine(vO 4 4 _ _ L _ rfl h hn).mono ?_
 rintro e w4 ⟨s4,rfl,hb4,hB4⟩
 go_wp2_with fail
 go_ret
 exact⟨s4,rfl,hb4,hB4⟩
theorem YJ(w:World)(s:ByteArray)(hs:s.size≤lim):∃cap w',(convert 9 61 (.string s)).run Tryz.prog w=.ok (.slice (some ⟨w.heap.size,0,none⟩) s.data.toList.length cap) w'∧Below w.heap.size w w'∧BytesAt w' (some ⟨w.heap.size,0,none⟩) s.data.toList:=by
 have hl:s.data.toList.length=s.size:=by simp
 refine⟨_,_,by rw[hl];exact run_bytes_of_string w 9 61 5 s Tryz.underlying9 Tryz.underlying61 Tryz.underlying5,aj (Below.refl _ _).drew _,by rw[hl];exact hs,fun i hi=>?_⟩
 refine⟨_,_,_,rfl,?_,s.data.toList[i],List.getElem?_eq_getElem hi,rfl⟩
 rw[show(w.drew.alloc _).cell? ⟨w.heap.size,0+i,none⟩=_ from cell_of_row (w.drew.alloc _) w.drew.heap.size (0+i) _ _ _ (World.alloc_heap_new w.drew _),Nat.zero_add,bytesRow_at s _ i (by omega)]
 simp
theorem IQ(s:ByteArray)(w:World)(hs:s.size≤1000000):Calls Tryz.prog 93 #[.string s] w (bI w (fC s)):=by
 have hl:s.data.toList.length=s.size:=by simp
 obtain⟨cap,w1,hcv,hb1,hB1⟩:=YJ w s (by unfold lim;omega)
 have HT:=Lib.hid (show fC s=tlv 27 s.data.toList from rfl)
 rw[HT.out]
 obtain⟨L,hL⟩:∃L,L=s.data.toList:=⟨_,rfl⟩
 rw[←hL]at hl hcv hB1 ⊢
 have hl':L.length≤1000000:=by omega
 clear hL hl
 go_enter Tryz.func93,Tryz.ntmps93
 go_wp2_with fail
 refine(vO 27 27 _ _ L _ rfl hB1 hl').mono ?_
 intro e w4 h4
 obtain⟨s4,rfl,hb4,hB4⟩:=bI.from h4 hb1
 go_wp2_with fail
 go_ret
 exact⟨s4,rfl,hb4,hB4⟩
theorem jk(ni:Int)(n:Nat)(a:Option Addr)(cap:Nat)(L:List UInt8)(w:World)(hni:ni=n)(hn:n≤30)(h:BytesAt w a L)(hl:L.length≤1000000):Calls Tryz.prog 87 #[.int .i64 ni,.slice a L.length cap] w (bI w (bT n L)):=by
 subst hni
 by_cases h0:L.length=0
 ·have HT:=Lib.hid (show bT n L=[] by unfold bT;rw[if_pos h0])
  rw[HT.out]
  go_enter Tryz.func87,Tryz.ntmps87
  go_wp2_with fail
  go_ret
  exact pK (Below.refl _ _)
 ·have HT:=Lib.hid (show bT n L=tlv (160+n) L by unfold bT;rw[if_neg h0])
  rw[HT.out]
  go_enter Tryz.func87,Tryz.ntmps87
  go_wp2_with fail
  refine(vO _ (160+n) _ _ L _ (by simp) h hl).mono ?_
  rintro e w4 ⟨s4,rfl,hb4,hB4⟩
  go_wp2_with fail
  go_ret
  exact⟨s4,rfl,hb4,hB4⟩
theorem amA(c:Bool)(v:Value)(w:World):Calls Tryz.prog 92 #[.bool c,v] w fun e w'=>e=.returned (match c with|true=>.slice none 0 0|false=>v)∧w=w':=by
 cases c<;>
 ·go_enter Tryz.func92,Tryz.ntmps92
  go_wp2_with fail
  go_ret
  exact⟨rfl,rfl⟩
end Go.Proofs.YtfieenjdcpjmgaaGreatDoor
