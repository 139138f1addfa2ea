/- A part of the proof. -/
import Derived.Test.YtfieenjdcpjmgaaGreatDoorA02
import Derived.Test.YtfieenjdcpjmgaaGreatDoorA05
import Derived.Test.YtfieenjdcpjmgaaGreatDoorA10
import Derived.Laws.MakeOwn
import Derived.Laws.IdiomStrings
set_option maxRecDepth 100000
set_option maxHeartbeats 2000000
namespace Go.WW
open Go.RowKit
def bK(v:Nat):Nat→List UInt8
 |0=>[]
 |n+1=>bK (v / 256) n++[UInt8.ofNat v]
theorem gX:∀(n v:Nat),(bK v n).length=n
 |0,_=>rfl
 |n+1,v=>by rw[bK,List.length_append,gX n];rfl
theorem Eb:∀(n v j:Nat),j<n→(bK v n)[j]?=some (UInt8.ofNat (v / 256 ^ (n-1-j)))
 |0,_,_,h=>absurd h (Nat.not_lt_zero _)
 |n+1,v,j,h=>by
  rw[bK]
  by_cases hj:j<n
  ·rw[List.getElem?_append_left (by rw[gX];exact hj),Eb n (v / 256) j hj,Nat.div_div_eq_div_mul,←Nat.pow_succ',show n+1-1-j=(n-1-j)+1 by omega]
  ·rw[List.getElem?_append_right (by rw[gX];omega),gX,show j-n=0 by omega,show n+1-1-j=0 by omega]
   simp
def mY(v:Nat):Nat:=if h:v<128 then 1 else mY (v / 256)+1
termination_by v
decreasing_by omega
theorem Ec{v:Nat}(h:v<128):mY v=1:=by unfold mY;rw[dif_pos h]
theorem Ip{v:Nat}(h:¬v<128):mY v=mY (v / 256)+1:=by
 conv=>
  lhs
  unfold mY
 rw[dif_neg h]
def uy(v:Nat):List UInt8:=bK v (mY v)
def pz(v:Nat):List UInt8:=if _h:v<256 then [UInt8.ofNat v]else pz (v / 256)++[UInt8.ofNat v]
termination_by v
decreasing_by omega
theorem xB{v:Nat}(h:v<256):pz v=[UInt8.ofNat v]:=by unfold pz;rw[dif_pos h]
theorem Iq{v:Nat}(h:¬v<256):pz v=pz (v / 256)++[UInt8.ofNat v]:=by
 conv=>
  lhs
  unfold pz
 rw[dif_neg h]
theorem XO(v:Nat):pz v≠[]:=by
 by_cases h:v<256
 ·rw[xB h];simp
 ·rw[Iq h];simp
def lead:List UInt8→List UInt8
 | []=>[]
 |a::l=>if 128≤a.toNat then 0::a::l else a::l
theorem aln{l:List UInt8}(h:l≠[])(c:UInt8):lead (l++[c])=lead l++[c]:=by
 cases l with
 |nil=>exact absurd rfl h
 |cons a l=>
  simp only[List.cons_append,lead]
  by_cases h1:128≤a.toNat
  ·rw[if_pos h1,if_pos h1];rfl
  ·rw[if_neg h1,if_neg h1];rfl
theorem alo(v:Nat):uy v=lead (pz v):=by
 induction v using Nat.strongRecOn with
 |_ v ih=>
  by_cases h1:v<128
  ·rw[uy,Ec h1,xB (by omega),lead,if_neg (by simp;omega)]
   rfl
  ·have hs:uy v=uy (v / 256)++[UInt8.ofNat v]:=by rw[uy,Ip h1,bK];rfl
   rw[hs,ih (v / 256) (by omega)]
   by_cases h2:v<256
   ·rw[show v / 256=0 by omega,xB h2,xB (by omega),lead,lead,if_neg (by decide),if_pos (by simp;omega)]
    rfl
   ·rw[Iq h2,aln (XO _)]
theorem NK:∀(k v:Nat),0<k→v<2 ^ (8*k-1)→mY v≤k
 |0,_,h,_=>absurd h (Nat.lt_irrefl 0)
 |1,v,_,h=>by rw[Ec (by simpa using h)];exact Nat.le_refl _
 |k+2,v,_,h=>by
  by_cases h1:v<128
  ·rw[Ec h1];omega
  ·rw[Ip h1]
   have:=NK (k+1) (v / 256) (by omega) (by
    rw[Nat.div_lt_iff_lt_mul (by decide)]
    have e:2 ^ (8*(k+1)-1)*256=2 ^ (8*(k+2)-1):=by rw[show(256:Nat)=2 ^ 8 from rfl,←Nat.pow_add];congr 1
    rw[e];exact h)
   omega
def alp:Nat:=16777215
def oC(n:Nat):List UInt8:=
 if n<128 then [.ofNat n]else if n<256 then [0x81,.ofNat n]else if n<65536 then [0x82,.ofNat (n / 256),.ofNat n]else [0x83,.ofNat (n / 65536),.ofNat (n / 256),.ofNat n]
theorem NM(n:Nat):(oC n).length≤4:=by unfold oC;split<;>(try split)<;>(try split)<;>simp
def tlv(t:Nat)(c:List UInt8):List UInt8:=UInt8.ofNat t::(oC c.length++c)
def aqs(t:Nat)(c:List UInt8):List UInt8:=if c.length≤alp then tlv t c else []
theorem oD(t:Nat)(c:List UInt8):c.length<(tlv t c).length∧(tlv t c).length≤c.length+5:=by
 have:=NM c.length
 simp[tlv];omega
def bM(n:Nat)(c:List UInt8):List UInt8:=if c.length=0 then []else tlv (160+n) c
def dN(l:List (List UInt8)):List UInt8:=tlv 48 l.flatten
def eQ(v:Nat):List UInt8:=tlv 2 (uy v)
def lH(v:Nat):List UInt8:=tlv 24 (bK v 6)
def uz(v:Nat):List UInt8:=tlv 3 (0::bK v 4)
def fZ(b:List UInt8):List UInt8:=tlv 4 b
def eU(s:ByteArray):List UInt8:=tlv 27 s.data.toList
def dS:Nat→List (List UInt8)→List (List UInt8)
 |_,[]=>[]
 |n,x::l=>bM n x::dS (n+1) l
def lZ(l:List (List UInt8)):List UInt8:=dN (dS 0 l)
def di(l:List (List UInt8)):List UInt8:=if l.length=0 then []else dN l
def fP(v:Nat):List UInt8:=if v=0 then []else eQ v
def iZ(v:Nat):List UInt8:=if v=0 then []else lH v
def jL(s:ByteArray):List UInt8:=if s.size=0 then []else eU s
theorem rV{n m:Nat}{c:List UInt8}(h:c.length≤m):(bM n c).length≤m+5:=by
 unfold bM;split
 ·simp
 ·have:=(oD (160+n) c).2;omega
theorem Ed:∀(l:List (List UInt8)) (n:Nat),(dS n l).length=l.length
 | [],_=>rfl
 |x::l,n=>by rw[dS,List.length_cons,List.length_cons,Ed l]
theorem Ir{m:Nat}:∀(l:List (List UInt8)),(∀x∈l,x.length≤m)→l.flatten.length≤l.length*m
 | [],_=>by simp
 |x::l,h=>by
  have h1:=Ir l (fun y hy=>h y (by simp[hy]))
  have h2:=h x (by simp)
  rw[List.flatten_cons,List.length_append,List.length_cons,Nat.succ_mul];omega
theorem uA(l:List (List UInt8)):(dN l).length≤l.flatten.length+5:=(oD 48 l.flatten).2
theorem alq{m:Nat}{l:List (List UInt8)}(h:∀x∈l,x.length≤m):(di l).length≤l.length*m+5:=by
 unfold di;split
 ·simp
 ·have:=uA l;have:=Ir l h;omega
theorem rW{v k:Nat}(hk:0<k)(h:v<2 ^ (8*k-1)):(eQ v).length≤k+5:=by
 have h1:=(oD 2 (uy v)).2
 have h2:=NK k v hk h
 have h3:(uy v).length=mY v:=gX _ _
 unfold eQ;omega
theorem zh{v k:Nat}(hk:0<k)(h:v<2 ^ (8*k-1)):(fP v).length≤k+5:=by
 unfold fP;split
 ·simp
 ·exact rW hk h
theorem Iu(v:Nat):(lH v).length≤11:=by
 have h1:=(oD 24 (bK v 6)).2
 rw[gX]at h1;exact h1
theorem alr(v:Nat):(iZ v).length≤11:=by
 unfold iZ;split
 ·simp
 ·exact Iu v
theorem als(v:Nat):(uz v).length≤10:=by
 have h1:=(oD 3 (0::bK v 4)).2
 rw[List.length_cons,gX]at h1;exact h1
theorem Bg(b:List UInt8):(fZ b).length≤b.length+5:=(oD 4 b).2
theorem Ee(s:ByteArray):(eU s).length≤s.size+5:=by
 have h1:=(oD 27 s.data.toList).2
 have h2:s.data.toList.length=s.size:=by simp
 unfold eU;omega
theorem Iw(s:ByteArray):(jL s).length≤s.size+5:=by
 unfold jL;split
 ·simp
 ·exact Ee s
def fD(p:az):List UInt8:=lZ [dN (p.parts.map eU),eU p.aF]
def iw(k:Key):List UInt8:=lZ [eQ k.profile.toNat,eQ k.version.toNat,fZ k.bytes]
def ja(s:bn):List UInt8:=lZ [eQ s.version.toNat,di (s.keys.map iw),jL s.df,fP s.dH.toNat,lH s.created.toNat]
theorem map_le{α:Type}{f:α→List UInt8}{m n:Nat}{l:List α}(h:∀x∈l,(f x).length≤m)(hn:l.length≤n):(l.map f).flatten.length≤n*m:=by
 have h1:=Ir (l.map f) (m:=m) (by simpa using h)
 rw[List.length_map]at h1
 exact Nat.le_trans h1 (Nat.mul_le_mul_right _ hn)
theorem Bh{α:Type}{f:α→List UInt8}{m n:Nat}{l:List α}(h:∀x∈l,(f x).length≤m)(hn:l.length≤n):(di (l.map f)).length≤n*m+5:=by
 have h1:=alq (l:=l.map f) (m:=m) (by simpa using h)
 rw[List.length_map]at h1
 have:=Nat.mul_le_mul_right m hn
 omega
theorem Ef{p:az}(h:bC p=true):p.parts.length≤4∧(∀x∈p.parts,x.size≤32)∧p.aF.size≤32:=by
 simp only[bC,Bool.and_eq_true,List.all_eq_true,decide_eq_true_eq,iC,jC,sized]at h
 refine⟨by omega,fun x hx=>?_,by omega⟩
 have:=h.1.1.1 x hx
 omega
theorem NP{p:az}(h:bC p=true):(p.parts.map eU).flatten.length≤148:=
 map_le (m:=37) (n:=4) (fun x hx=>by have:=Ee x;have:=(Ef h).2.1 x hx;omega) (Ef h).1
theorem NQ{p:az}(h:bC p=true):(dS 0 [dN (p.parts.map eU),eU p.aF]).flatten.length≤200:=by
 have h1:=uA (p.parts.map eU)
 have h2:=NP h
 have h3:=Ee p.aF
 have h4:=(Ef h).2.2
 have h5:=rV (n:=0) (m:=153) (c:=dN (p.parts.map eU)) (by omega)
 have h6:=rV (n:=0+1) (m:=37) (c:=eU p.aF) (by omega)
 simp only[dS,List.flatten_cons,List.flatten_nil,List.append_nil,List.length_append]
 omega
theorem Iy{p:az}(h:bC p=true):(fD p).length≤205:=by
 have h1:=uA (dS 0 [dN (p.parts.map eU),eU p.aF])
 have h2:=NQ h
 unfold fD lZ;omega
def zi(k:Key):Prop:=(0≤k.profile∧k.profile≤2)∧(0≤k.version∧k.version≤65535)∧k.bytes.length≤256
theorem alu(p:Int):dR p≠0→p=1∨p=2:=by
 unfold dR;intro h
 by_cases h1:p=1
 ·exact .inl h1
 ·by_cases h2:p=2
  ·exact .inr h2
  ·simp[h1,h2]at h
theorem alv{m v:Int}{k:Key}(h:iF m v k=true)(hv:0≤v∧v≤65535):zi k:=by
 unfold iF at h
 simp only[Bool.and_eq_true,Bool.not_eq_true',beq_eq_false_iff_ne,bne_eq_false_iff_eq]at h
 obtain⟨⟨h1,h2⟩,h3⟩:=h
 have hp:=alu k.profile h1
 refine⟨by omega,by omega,?_⟩
 split at h3
 ·simp only[nz,Bool.and_eq_true,beq_iff_eq]at h3
  have h4:=h3.1.2
  have:dR k.profile≤32:=by rcases hp with e|e<;>rw[e]<;>decide
  omega
 ·have:=Fh.1 h3;omega
theorem NR{k:Key}(h:zi k):(dS 0 [eQ k.profile.toNat,eQ k.version.toNat,fZ k.bytes]).flatten.length≤290:=by
 obtain⟨h1,h2,h3⟩:=h
 have e1:=rW (v:=k.profile.toNat) (k:=1) (by decide) (by simp;omega)
 have e2:=rW (v:=k.version.toNat) (k:=3) (by decide) (by simp;omega)
 have e3:=Bg k.bytes
 have f1:=rV (n:=0) e1
 have f2:=rV (n:=0+1) e2
 have f3:=rV (n:=0+1+1) (m:=261) (c:=fZ k.bytes) (by omega)
 simp only[dS,List.flatten_cons,List.flatten_nil,List.append_nil,List.length_append]
 omega
theorem Eg{k:Key}(h:zi k):(iw k).length≤295:=by
 have h1:=uA (dS 0 [eQ k.profile.toNat,eQ k.version.toNat,fZ k.bytes])
 have h2:=NR h
 unfold iw lZ;omega
structure zk(s:bn):Prop where
 version:0≤s.version∧s.version≤65535
 keys:∀k∈s.keys,zi k
 few:1≤s.keys.length∧s.keys.length≤4
 df:s.df.size≤256
 dH:0≤s.dH∧s.dH≤65536
 created:0≤s.created∧s.created≤1099511627776
theorem alx{m:Int}{s:bn}(h:gV m s=true):zk s:=by
 simp only[gV,iR,Bool.and_eq_true,List.all_eq_true,Fh,decide_eq_true_eq]at h
 obtain⟨⟨h1,-⟩,⟨⟨⟨⟨h2,h3⟩,h4⟩,h5⟩,-⟩,h6⟩:=h
 exact⟨by omega,fun k hk=>alv (h1 k hk) (by omega),by omega,by omega,by omega,by omega⟩
theorem NS{s:bn}(h:zk s):(dS 0 [eQ s.version.toNat,di (s.keys.map iw),jL s.df,fP s.dH.toNat,lH s.created.toNat]).flatten.length≤1600:=by
 have e1:=rW (v:=s.version.toNat) (k:=3) (by decide) (by have:=h.version;simp;omega)
 have e2:=Bh (f:=iw) (m:=295) (n:=4) (l:=s.keys) (fun k hk=>Eg (h.keys k hk)) h.few.2
 have e3:=Iw s.df
 have e4:=zh (v:=s.dH.toNat) (k:=3) (by decide) (by have:=h.dH;simp;omega)
 have e5:=Iu s.created.toNat
 have e6:=h.df
 have f1:=rV (n:=0) e1
 have f2:=rV (n:=0+1) e2
 have f3:=rV (n:=0+1+1) (m:=261) (c:=jL s.df) (by omega)
 have f4:=rV (n:=0+1+1+1) e4
 have f5:=rV (n:=0+1+1+1+1) e5
 simp only[dS,List.flatten_cons,List.flatten_nil,List.append_nil,List.length_append]
 omega
theorem NT{s:bn}(h:zk s):(ja s).length≤1605:=by
 have h1:=uA (dS 0 [eQ s.version.toNat,di (s.keys.map iw),jL s.df,fP s.dH.toNat,lH s.created.toNat])
 have h2:=NS h
 unfold ja lZ;omega
structure zl(d:Entry):Prop where
 name:bC d.name=true
 aliases:(∀p∈d.aliases,bC p=true)∧d.aliases.length≤16
 attrs:0≤d.attrs∧d.attrs≤1023
 dP:0≤d.dP∧d.dP≤65535
 keys:(∀s∈d.keys,zk s)∧d.keys.length≤16
 aO:d.aO.size≤32
 ik:0≤d.ik∧d.ik≤1099511627776
 iq:0≤d.iq∧d.iq≤1099511627776
 gQ:0≤d.gQ∧d.gQ≤2147483648
 gU:0≤d.gU∧d.gU≤2147483648
 fails:0≤d.fails∧d.fails≤65535
 eY:0≤d.eY∧d.eY≤1099511627776
 gy:0≤d.gy∧d.gy≤1099511627776
 targets:(∀p∈d.targets,bC p=true)∧d.targets.length≤16
 bu:(∀p∈d.bu,bC p=true)∧d.bu.length≤16
 history:(∀b∈d.history,b.length=16)∧d.history.length≤16
theorem NU{l:List az}(h:(∀p∈l,bC p=true)∧l.length≤16):(di (l.map fD)).length≤3285:=Bh (m:=205) (n:=16) (fun p hp=>Iy (h.1 p hp)) h.2
def oG(d:Entry):List (List UInt8):=
 [fD d.name,di (d.aliases.map fD),uz d.attrs.toNat,fP d.dP.toNat,di (d.keys.map ja),jL d.aO,iZ d.ik.toNat,iZ d.iq.toNat,fP d.gQ.toNat,fP d.gU.toNat,fP d.fails.toNat,
  iZ d.eY.toNat,iZ d.gy.toNat,di (d.targets.map fD),di (d.bu.map fD),di (d.history.map fZ)]
def pF(d:Entry):List UInt8:=lZ (oG d)
theorem aly(d:Entry):(oG d).length=16:=rfl
theorem NV{d:Entry}(h:zl d):∀x∈oG d,x.length≤26000:=by
 have e1:=Iy h.name
 have e2:=NU h.aliases
 have e3:=als d.attrs.toNat
 have e4:=zh (v:=d.dP.toNat) (k:=3) (by decide) (by have:=h.dP;simp;omega)
 have e5:=Bh (f:=ja) (m:=1605) (n:=16) (l:=d.keys) (fun k hk=>NT (h.keys.1 k hk)) h.keys.2
 have e6:=Iw d.aO
 have e7:=h.aO
 have e9:=zh (v:=d.gQ.toNat) (k:=5) (by decide) (by have:=h.gQ;simp;omega)
 have e10:=zh (v:=d.gU.toNat) (k:=5) (by decide) (by have:=h.gU;simp;omega)
 have e11:=zh (v:=d.fails.toNat) (k:=3) (by decide) (by have:=h.fails;simp;omega)
 have e14:=NU h.targets
 have e15:=NU h.bu
 have e16:=Bh (f:=fZ) (m:=21) (n:=16) (l:=d.history) (fun b hb=>by have:=Bg b;have:=h.history.1 b hb;omega) h.history.2
 have i:=alr
 intro x hx
 simp only[oG,List.mem_cons,List.not_mem_nil,or_false]at hx
 rcases hx with rfl|rfl|rfl|rfl|rfl|rfl|rfl|rfl|rfl|rfl|rfl|rfl|rfl|rfl|rfl|rfl<;>first|omega|(have:=i d.ik.toNat;omega)|(have:=i d.iq.toNat;omega)|(have:=i d.eY.toNat;omega)|(have:=i d.gy.toNat;omega)
theorem XP{m:Nat}:∀(l:List (List UInt8)) (n:Nat),(∀x∈l,x.length≤m)→∀x∈dS n l,x.length≤m+5
 | [],_,_,x,hx=>by cases hx
 |y::l,n,h,x,hx=>by
  rw[dS]at hx
  rcases List.mem_cons.1 hx with rfl|hx
  ·exact rV (h y (by simp))
  ·exact XP l (n+1) (fun z hz=>h z (by simp[hz])) x hx
theorem NW{d:Entry}(h:zl d):(dS 0 (oG d)).flatten.length≤416080:=by
 have h1:=Ir (dS 0 (oG d)) (XP (oG d) 0 (NV h))
 rw[Ed,aly]at h1
 omega
theorem NY{d:Entry}(h:zl d):(pF d).length≤416085:=by
 have h1:=uA (dS 0 (oG d))
 have h2:=NW h
 unfold pF lZ;omega
theorem NZ{l:List az}(h:different l=true):(∀p∈l,bC p=true)∧l.length≤16:=by
 simp only[different,x9,Bool.and_eq_true,List.all_eq_true,List.mem_range,decide_eq_true_eq]at h
 refine⟨fun p hp=>?_,by omega⟩
 obtain⟨i,hi,rfl⟩:=List.mem_iff_getElem.1 hp
 have:=h.1 i hi
 unfold nR at this
 rw[List.getElem?_eq_getElem hi]at this
 simp only[Bool.and_eq_true]at this
 exact this.1
theorem N7{d:Entry}(h:bT d=true)(ha:0≤d.attrs):zl d:=by
 simp only[bT,kF,jD,Bool.and_eq_true,List.all_eq_true,Fh,decide_eq_true_eq,beq_iff_eq]at h
 obtain⟨⟨⟨⟨⟨⟨⟨⟨⟨h1,h2⟩,h3⟩,h4⟩,-⟩,h6⟩,-⟩,h8⟩,⟨⟨⟨⟨⟨h9,h10⟩,h11⟩,h12⟩,-⟩,h13⟩⟩,⟨⟨⟨⟨⟨h14,h15⟩,h16⟩,h17⟩,h18⟩,h19⟩,h20⟩:=h
 exact⟨h1,NZ h2,⟨ha,by simpa[wG]using h9⟩,h10,⟨fun s hs=>alx (h6 s hs),by omega⟩,by omega,h14,h15,h16,h17,h18,h19,h20,NZ h3,NZ h4,⟨fun b hb=>by have:=h8 b hb;omega,by omega⟩⟩
structure dE(T:TypeId)(W wr:World)(sb:Sl)(l:List UInt8):Prop where
 b:Below W.heap.size W wr
 own:Own wr W.heap.size T 1 sb (dV l)
theorem dE.none(T:TypeId){W wr:World}(h:Below W.heap.size W wr):dE T W wr ⟨Option.none,0⟩ []:=⟨h,Own.nil _ _ _ _⟩
theorem dE.later{T:TypeId}{W wr w':World}{sb:Sl}{l:List UInt8}(h:dE T W wr sb l)(hb:Below wr.heap.size wr w'):dE T W w' sb l:=
 ⟨ag h.b hb,h.own.kept fun _ hg=>hb.block _ (h.own.base hg).2⟩
theorem dE.made{P:Program}{t T:TypeId}{n b:Nat}(he:fQ P t T 1 b){W w:World}(hW:Below W.heap.size W w)(hn:n≤100000000)(hb:b≤8){ni:Int}(hni:ni=n) :
  ∃V,(Instr.makeSlice t (.int .i64 0) (.int .i64 ni)).run P w=.ok (.slice (some ⟨w.heap.size,0,Option.none⟩) 0 n) V∧dE T W V ⟨some ⟨w.heap.size,0,Option.none⟩,n⟩ []:=by
 subst hni
 obtain⟨i,z,hi,hz,h1,h2,-⟩:=he.info
 obtain⟨V,hr,ho,hg⟩:=run_make_own (P:=P) w W.heap.size t T i z 1 he.und hi hz h1 .i64 .i64 n (by rw[h2];have:=Nat.mul_le_mul hb hn;omega) (by unfold maxLen;omega) hW.size
 exact⟨V,hr,hW.grown hg hW.size (fun k e=>by cases e),⟨ho,by simp[dV]⟩⟩
theorem BytesAt.src{w:World}{A:Option Addr}{l:List UInt8}(h:BytesAt w A l):cO w 1 A (dV l):=by
 obtain⟨rows,h1,h2,h3⟩:=dU.src h Gl
 have:rows=dV l:=by
  refine List.ext_getElem (by rw[h1,fM]) fun i hi hj=>?_
  obtain⟨v,hv,c,hc,rfl⟩:=h3 i hi
  have hi':i<l.length:=by rw[←h1];exact hi
  rw[List.getElem?_eq_getElem hi']at hc
  cases hc
  simp[hv,dV]
 exact this▸h2
theorem alA(a b:List UInt8):dV (a++b)=dV a++dV b:=by simp[dV]
theorem dE.app{T:TypeId}{W wr w':World}{sb s':Sl}{l news:List UInt8}(h:dE T W wr sb l)(ho:Own w' W.heap.size T 1 s' (dV l++dV news))(hg:wr.grownBy w' sb.blk):dE T W w' s' (l++news):=
 ⟨h.b.grown hg h.b.size (fun _ e=>(h.own.base e).1),by rw[alA];exact ho⟩
theorem iK{P:Program}{ops:Array Oper}{rest:List Oper}{o:Oper}{a:Act}{w:World}{Q:Exit→Act→World→Prop}(hgd:o.guard=Option.none)(x y:Operand)(t:TypeId)(ho:o.op=.call {callee:=.builtin .append,args:=#[x,y],argTypes:=#[t,t]})
  {T:TypeId} {b:Nat} (he:fQ P t T 1 b) (hb:b≤8) {W:World} {s:Sl} {l L:List UInt8} (h:dE T W w s l) {n:Nat} (hx:a.eval x=.slice s.a n s.cap) (hn:n=l.length) {A:Option Addr} {news:List UInt8} {m c:Nat}
  (hy:a.eval y=.slice A m c) (hm:m=news.length) (hs:BytesAt w A news) (hL:L=l++news) (hlen:L.length≤100000000)
  (hK:∀(s':Sl) w',dE T W w' s' L→wpList P ops Q rest (a.put o.dst (.slice s'.a L.length s'.cap)) w'):wpList P ops Q (o::rest) a w:=by
 subst hn hm hL
 rw[List.length_append]at hlen hK
 have hl:((dV l).length+(dV news).length)*(b+1)≤140737488355328:=by
  rw[fM,fM]
  have:=Nat.mul_le_mul hlen (show b+1≤9 by omega)
  omega
 refine gp hgd x y t ho he hx (fM l).symm h.own hy (fM news).symm hs.src hl h.b.size fun s' w' h1 h2 _=>hK s' w' (h.app h1 h2)
theorem BytesAt.lit(w:World){k:Nat}(l:List UInt8){cs:Array Value}{t:TypeId}(hk:k=w.heap.size)(h:cs=(l.map fun c=>Value.int .u8 c.toNat).toArray)(hl:l.length≤lim):BytesAt (w.alloc (.cells cs t)) (some ⟨k,0,Option.none⟩) l:=by
 subst h hk
 refine⟨hl,fun i hi=>⟨w.heap.size,0,_,rfl,?_,l[i],List.getElem?_eq_getElem hi,rfl⟩⟩
 rw[cell_of_row _ _ _ _ _ _ (World.alloc_heap_new _ _)]
 simp[hi]
theorem dE.done{T:TypeId}{w w':World}{s:Sl}{l:List UInt8}(h:dE T w w' s l)(hl:l.length≤lim):C9 w l (.returned (.slice s.a l.length s.cap)) w':=
 TM h.own (fM l) hl h.b fun i hi=>by
  have hi':i<l.length:=by simpa[dV]using hi
  exact⟨.int .u8 l[i].toNat,by simp[dV],l[i],List.getElem?_eq_getElem hi',rfl⟩
theorem xC{l:List (List UInt8)}{k:Nat}(h:k<l.length):(l.take (k+1)).flatten=(l.take k).flatten++l[k]:=by
 rw[List.take_succ_eq_append_getElem h,List.flatten_append,List.flatten_cons,List.flatten_nil,List.append_nil]
theorem zn(l:List (List UInt8))(k:Nat):(l.take k).flatten.length≤l.flatten.length:=by
 conv=>
  rhs
  rw[←List.take_append_drop k l]
 rw[List.flatten_append,List.length_append];omega
theorem fG.one{w:World}(s:Sl){l:List UInt8}{t:TypeId}(h:BytesAt w s.a l):fG (w.alloc (.cells #[.slice s.a l.length s.cap] t)) (some ⟨w.heap.size,0,Option.none⟩) [l]:=by
 refine⟨by simp[lim],fun i hi=>⟨w.heap.size,0,_,rfl,?_,l,s,?_,rfl,h.later (aj (Below.refl _ _) _)⟩⟩
 ·obtain rfl:i=0:=by simp at hi;exact hi
  rw[cell_of_row _ _ _ _ _ _ (World.alloc_heap_new _ _)];rfl
 ·obtain rfl:i=0:=by simp at hi;exact hi
  rfl
end Go.WW
namespace Go.Proofs.YtfieenjdcpjmgaaGreatDoor
open Go.RowKit Go.WW
theorem b8:1≤8:=by decide
theorem zo(ti:Int)(t:Nat)(a:Option Addr)(cap:Nat)(parts:List (List UInt8))(w:World)(ht:ti=(UInt8.ofNat t).toNat)(h:fG w a parts)(h0:0<parts.length)(hn:parts.flatten.length≤1000000) :
  Calls Tryz.prog 260 #[.int .u8 ti,.slice a parts.length cap] w (C9 w (tlv t parts.flatten)):=by
 obtain⟨tc,htc⟩:∃c,c=UInt8.ofNat t:=⟨_,rfl⟩
 rw[←htc]at ht
 have HT:=Lib.hid htc
 clear htc
 subst ht
 have hpl:parts.length≤4294967000:=h.1
 obtain⟨b,o,s0,rfl,-,-⟩:=h.get 0 h0
 have hT:∀k,(parts.take k).flatten.length≤1000000:=fun k=>Nat.le_trans (zn _ _) hn
 go_enter Tryz.func260,Tryz.ntmps260
 go_wp2_with fail
 go_loopw [5,13] (fun nv i wr=>∃k:Nat,k≤parts.length∧i=.int .i64 k∧nv=.int .i64 ((parts.take k).flatten.length:Nat)∧wr=w) (fun _ i _=>parts.length-(intOf i).toNat)
 case atStart=>exact⟨0,Nat.zero_le _,rfl,rfl,rfl⟩
 case round=>
  obtain⟨k,hk,rfl,rfl,rfl⟩:=hrel
  by_cases hlt:k<parts.length
  ·obtain⟨s,hc,hb⟩:=h.at k hlt
   have hT1:=hT (k+1)
   have hT0:=hT k
   rw[xC hlt,List.length_append]at hT1
   generalize hL:(parts.take k).flatten.length=L at *
   go_wp2_with fail
   go_roundw
   case rel=>exact⟨k+1,by omega,by go_num,by rw[xC hlt,List.length_append,hL];go_num,trivial⟩
   case measure=>simp[intOf];omega
  ·obtain rfl:k=parts.length:=by omega
   rw[List.take_length]at *
   obtain⟨L,hL⟩:∃L,L=parts.flatten:=⟨_,rfl⟩
   rw[←hL]at hn ⊢
   have HL:=Lib.hid hL
   have hTL:∀k,(parts.take k).flatten.length≤L.length:=fun k=>by rw[hL];exact zn _ _
   have HTL:=Lib.hid hTL
   clear hL hT hTL
   obtain⟨V0,hmk,hR0⟩:=dE.made (ni:=(L.length:Int)+5) (n:=L.length+5) dZ (Below.refl _ wr) (by omega) b8 (by omega)
   have hlen:(L.length<128)∨(¬L.length<128∧L.length<256)∨(¬L.length<256∧L.length<65536)∨¬L.length<65536:=by omega
   obtain⟨N,hN⟩:∃N,N=tc::oC L.length:=⟨_,rfl⟩
   have hNl:N.length≤5:=by have:=NM L.length;rw[hN];simp;omega
   have HN:=Lib.hid hN
   clear hN
   rcases hlen with hl|hl|hl|hl
   all_goals first
    |(have E:=Lib.hid (show N=[tc]++[UInt8.ofNat L.length] by(rw[HN.out];unfold oC;rw[if_pos hl];rfl));have g1:(L.length:Int)<128:=(by omega);clear hl;go_wp2_with (first|(at_builtin;refine iK (L:=N) rfl _ _ _ rfl dZ b8 (hR1.later (aj (Below.refl _ _) _)) (n:=1) rfl rfl rfl (m:=1) rfl (BytesAt.lit _ [UInt8.ofNat L.length] (by simp) (by simp;try omega) (by simp[lim])) E.out (by omega) ?_;intro s2 w2 hR2)|(at_builtin;refine iK rfl _ _ _ rfl dZ b8 (hR0.later (aj (Below.refl _ _) _)) (n:=0) rfl rfl rfl (m:=1) rfl (BytesAt.lit _ [tc] (by simp) rfl (by simp[lim])) rfl (by simp) ?_;intro s1 w1 hR1)))
    |(have E:=Lib.hid (show N=[tc]++[129,UInt8.ofNat L.length] by(rw[HN.out];unfold oC;rw[if_neg hl.1,if_pos hl.2];rfl));have g1:¬(L.length:Int)<128:=(by omega);have g2:(L.length:Int)<256:=(by omega);clear hl;go_wp2_with (first|(at_builtin;refine iK (L:=N) rfl _ _ _ rfl dZ b8 (hR1.later (aj (Below.refl _ _) _)) (n:=1) rfl rfl rfl (m:=2) rfl (BytesAt.lit _ [129,UInt8.ofNat L.length] (by simp) (by simp;try omega) (by simp[lim])) E.out (by omega) ?_;intro s2 w2 hR2)|(at_builtin;refine iK rfl _ _ _ rfl dZ b8 (hR0.later (aj (Below.refl _ _) _)) (n:=0) rfl rfl rfl (m:=1) rfl (BytesAt.lit _ [tc] (by simp) rfl (by simp[lim])) rfl (by simp) ?_;intro s1 w1 hR1)))
    |(have E:=Lib.hid (show N=[tc]++[130,UInt8.ofNat (L.length / 256),UInt8.ofNat L.length] by(rw[HN.out];unfold oC;rw[if_neg (by omega),if_neg hl.1,if_pos hl.2];rfl));have g1:¬(L.length:Int)<128:=(by omega);have g2:¬(L.length:Int)<256:=(by omega);have g3:(L.length:Int)<65536:=(by omega);clear hl;go_wp2_with (first|(at_builtin;refine iK (L:=N) rfl _ _ _ rfl dZ b8 (hR1.later (aj (Below.refl _ _) _)) (n:=1) rfl rfl rfl (m:=3) rfl (BytesAt.lit _ [130,UInt8.ofNat (L.length / 256),UInt8.ofNat L.length] (by simp) (by simp;try omega) (by simp[lim])) E.out (by omega) ?_;intro s2 w2 hR2)|(at_builtin;refine iK rfl _ _ _ rfl dZ b8 (hR0.later (aj (Below.refl _ _) _)) (n:=0) rfl rfl rfl (m:=1) rfl (BytesAt.lit _ [tc] (by simp) rfl (by simp[lim])) rfl (by simp) ?_;intro s1 w1 hR1)))
    |(have E:=Lib.hid (show N=[tc]++[131,UInt8.ofNat (L.length / 65536),UInt8.ofNat (L.length / 256),UInt8.ofNat L.length] by(rw[HN.out];unfold oC;rw[if_neg (by omega),if_neg (by omega),if_neg hl];rfl));have g1:¬(L.length:Int)<128:=(by omega);have g2:¬(L.length:Int)<256:=(by omega);have g3:¬(L.length:Int)<65536:=(by omega);clear hl;go_wp2_with (first|(at_builtin;refine iK (L:=N) rfl _ _ _ rfl dZ b8 (hR1.later (aj (Below.refl _ _) _)) (n:=1) rfl rfl rfl (m:=4) rfl (BytesAt.lit _ [131,UInt8.ofNat (L.length / 65536),UInt8.ofNat (L.length / 256),UInt8.ofNat L.length] (by simp) (by simp;try omega) (by simp[lim])) E.out (by omega) ?_;intro s2 w2 hR2)|(at_builtin;refine iK rfl _ _ _ rfl dZ b8 (hR0.later (aj (Below.refl _ _) _)) (n:=0) rfl rfl rfl (m:=1) rfl (BytesAt.lit _ [tc] (by simp) rfl (by simp[lim])) rfl (by simp) ?_;intro s1 w1 hR1)))
   all_goals
    clear E hR0 hR1 hmk
    go_loopw [8,74] (fun bv i wx=>∃(k:Nat) (sb:Sl),k≤parts.length∧i=.int .i64 k∧bv=.slice sb.a (N++(parts.take k).flatten).length sb.cap∧dE 5 wr wx sb (N++(parts.take k).flatten)) (fun _ i _=>parts.length-(intOf i).toNat)
    case atStart=>exact⟨0,s2,Nat.zero_le _,rfl,by simp,by simpa using hR2⟩
    case round=>
     clear hR2
     obtain⟨k,sb,hk,rfl,hbv,hR⟩:=hrel
     obtain⟨M,hM⟩:∃M,M=N++(parts.take k).flatten:=⟨_,rfl⟩
     rw[←hM]at hR hbv
     subst hbv
     by_cases hlt:k<parts.length
     ·obtain⟨s,hc,hb⟩:=(h.later hR.b).at k hlt
      obtain⟨M',hM'⟩:∃M',M'=N++(parts.take (k+1)).flatten:=⟨_,rfl⟩
      have hlk:=HTL.out (k+1)
      have Bi:M'.length≤100000000:=by rw[hM',List.length_append];omega
      have uB:=Lib.hid hM'
      have HA:=Lib.hid (show M'=M++parts[k] by rw[hM',hM,xC hlt,List.append_assoc])
      clear hM hM' hlk
      go_wp2_with (at_builtin;refine iK (L:=M') rfl _ _ _ rfl dZ b8 hR rfl rfl rfl rfl hb HA.out Bi ?_;intro s3 w3 cZ)
      go_roundw
      case rel=>exact⟨k+1,s3,by omega,by go_num,by rw[uB.out],by rw[←uB.out];exact cZ⟩
      case measure=>simp[intOf];omega
     ·obtain rfl:k=parts.length:=by omega
      have HE:=Lib.hid (show M=tlv t parts.flatten by rw[hM,List.take_length,HN.out,HL.out,HT.out];rfl)
      have hle:=(oD t parts.flatten).2
      have Lr:=Lib.hid (show M.length≤lim by rw[HE.out,←HL.out]at *;unfold lim;omega)
      clear hM hle
      go_wp2_with fail
      go_ret
      rw[←HE.out]
      exact hR.done Lr.out
end Go.Proofs.YtfieenjdcpjmgaaGreatDoor
namespace Go.WW
open Go.RowKit
theorem dE.lit{T:TypeId}{W w:World}(hW:Below W.heap.size W w)(l:List UInt8){cs:Array Value}(h:cs=(l.map fun c=>Value.int .u8 c.toNat).toArray)(hl:l.length≤100000000):dE T W (w.alloc (.cells cs T)) ⟨some ⟨w.heap.size,0,Option.none⟩,l.length⟩ l:=by
 have hf:flat (dV l)=l.map fun c=>Value.int .u8 c.toNat:=by
  clear h hl
  unfold flat dV
  induction l with
  |nil=>rfl
  |cons a l ih=>rw[List.map_cons,List.flatMap_cons,ih,List.map_cons];rfl
 refine⟨aj hW _,⟨⟨by rw[flat_length (k:=1) (by simp[dV])],.inr ⟨w.heap.size,l.length,cs,by rw[fM],hW.size,World.alloc_heap_new _ _,by rw[fM];exact Nat.le_refl _,by unfold maxLen;omega,by rw[h];simp,?_⟩⟩,by simp[dV]⟩⟩
 rw[hf,h,fM,Nat.mul_one]
 exact List.take_of_length_le (by simp)
abbrev bG:=C9
theorem dE.Eh{T:TypeId}{w w':World}{s:Sl}{l:List UInt8}(h:dE T w w' s l)(hl:l.length≤lim):bG w l (.returned (.slice s.a l.length s.cap)) w':=h.done hl
theorem bG.from{W w w':World}{l:List UInt8}{e:Ending}(h:bG w l e w')(hW:Below W.heap.size W w):bG W l e w':=by
 obtain⟨s,h1,h2,h3⟩:=h
 exact⟨s,h1,ag hW h2,h3.to (fun _ _=>rfl) (fun _ hk=>⟨Nat.le_trans hW.size hk.1,hk.2⟩)⟩
theorem pG{w w':World}(h:Below w.heap.size w w'):bG w [] (.returned (.slice Option.none 0 0)) w':=⟨⟨Option.none,0⟩,rfl,h,fun _ _=>⟨by simp[lim],fun i hi=>by simp at hi⟩⟩
theorem alC(t:Nat)(L:List UInt8):tlv t L=[UInt8.ofNat t]++oC L.length++L:=by simp[tlv]
theorem XQ(j:Nat):(2:Int) ^ (8*j)=((256 ^ j:Nat):Int):=by
 rw[Int.pow_mul,Int.natCast_pow];rfl
theorem XR(v j:Nat):(v:Int) / 2 ^ (8*j) % 256=((UInt8.ofNat (v / 256 ^ j)).toNat:Int):=by
 rw[XQ,←Int.natCast_ediv];simp
theorem XT(v j:Nat):((v:Int) / 2 ^ (8*j)).tmod 256 % 256=((UInt8.ofNat (v / 256 ^ j)).toNat:Int):=by
 rw[XQ,Int.tmod_eq_emod_of_nonneg (Int.ediv_nonneg (Int.natCast_nonneg _) (Int.natCast_nonneg _)),←Int.natCast_ediv];simp
theorem dE.bytes{T:TypeId}{W w:World}{s:Sl}{l:List UInt8}(h:dE T W w s l)(hl:l.length≤lim):BytesAt w s.a l:=by
 obtain⟨rows,h1⟩:∃rows,rows=dV l:=⟨_,rfl⟩
 exact dU.ed h.own (fM l) hl fun i hi=>by
  have hi':i<l.length:=by simpa[dV]using hi
  exact⟨.int .u8 l[i].toNat,by simp[dV],l[i],List.getElem?_eq_getElem hi',rfl⟩
def zq(m:Nat):List UInt8:=if m=0 then []else pz m
theorem XU{m:Nat}(h:0<m):zq m=zq (m / 256)++[UInt8.ofNat m]:=by
 unfold zq
 rw[if_neg (by omega)]
 by_cases h1:m<256
 ·rw[if_pos (by omega),xB h1];rfl
 ·rw[if_neg (by omega),Iq h1]
theorem alD(v:Nat):pz v=zq (v / 256)++[UInt8.ofNat v]:=by
 by_cases h:v=0
 ·subst h;rw[xB (by decide)];rfl
 ·rw[←XU (by omega),zq,if_neg h]
theorem XV:∀(k v:Nat),0<k→v<256 ^ k→(pz v).length≤k
 |0,_,h,_=>absurd h (Nat.lt_irrefl 0)
 |1,v,_,h=>by rw[xB (by simpa using h)];simp
 |k+2,v,_,h=>by
  by_cases h1:v<256
  ·rw[xB h1];simp
  ·rw[Iq h1,List.length_append]
   have:=XV (k+1) (v / 256) (by omega) (by rw[Nat.div_lt_iff_lt_mul (by decide),←Nat.pow_succ];exact h)
   simp;omega
theorem XW(m:Nat):(m:Int).tdiv 256=((m / 256:Nat):Int):=by
 rw[Int.tdiv_eq_ediv_of_nonneg (Int.natCast_nonneg _)];rfl
theorem alE{l:List UInt8}(h:0<l.length)(h1:128≤l[0].toNat):lead l=[0]++l:=by
 cases l with
 |nil=>exact absurd h (Nat.lt_irrefl 0)
 |cons a l=>exact if_pos h1
theorem alF{l:List UInt8}(h:0<l.length)(h1:¬128≤l[0].toNat):lead l=l:=by
 cases l with
 |nil=>exact absurd h (Nat.lt_irrefl 0)
 |cons a l=>exact if_neg h1
end Go.WW
namespace Go.Proofs.YtfieenjdcpjmgaaGreatDoor
open Go.RowKit Go.WW
theorem vJ(ti:Int)(t:Nat)(a:Option Addr)(cap:Nat)(L:List UInt8)(w:World)(ht:ti=t)(h:BytesAt w a L)(hn:L.length≤1000000) :
  Calls Tryz.prog 150 #[.int .i64 ti,.slice a L.length cap] w (bG w (tlv t L)):=by
 subst ht
 obtain⟨tc,htc⟩:∃c,c=UInt8.ofNat t:=⟨_,rfl⟩
 have HT:=Lib.hid htc
 obtain⟨N,hN⟩:∃N,N=[tc]++oC L.length:=⟨_,rfl⟩
 have hNl:N.length≤5:=by have:=NM L.length;rw[hN];simp;omega
 obtain⟨M,hM⟩:∃M,M=N++L:=⟨_,rfl⟩
 have Bi:M.length≤1000005:=by rw[hM,List.length_append];omega
 have HE:=Lib.hid (show tlv t L=M by rw[hM,hN,htc,alC])
 have HM:=Lib.hid hM
 have HN:=Lib.hid hN
 have hc:(t:Int) % 256=tc.toNat:=by rw[htc];simp
 have hR0:=dE.lit (T:=5) (Below.refl _ w) [tc] (cs:=#[.int .u8 tc.toNat]) rfl (by simp)
 clear htc hN hM
 rw[HE.out]
 have hlen:(L.length<128)∨(¬L.length<128∧L.length<256)∨(¬L.length<256∧L.length<65536)∨¬L.length<65536:=by omega
 go_enter Tryz.func150,Tryz.ntmps150
 rcases hlen with hl|hl|hl|hl
 all_goals first
  |(have E:=Lib.hid (show N=[tc]++[UInt8.ofNat L.length] by(rw[HN.out];unfold oC;rw[if_pos hl]));have g1:(L.length:Int)<128:=(by omega);clear hl;go_wp2_with (first|(at_builtin;refine iK (L:=M) rfl _ _ _ rfl dZ b8 hR2 rfl rfl rfl rfl (h.later hR2.b) HM.out (by omega) ?_;intro s3 w3 cZ)|(at_builtin;refine iK (L:=N) rfl _ _ _ rfl dZ b8 (hR0.later (aj (Below.refl _ _) _)) (n:=1) rfl rfl rfl (m:=1) rfl (BytesAt.lit _ [UInt8.ofNat L.length] (by simp) (by simp;try omega) (by simp[lim])) E.out (by omega) ?_;intro s2 w2 hR2)))
  |(have E:=Lib.hid (show N=[tc]++[129,UInt8.ofNat L.length] by(rw[HN.out];unfold oC;rw[if_neg hl.1,if_pos hl.2]));have g1:¬(L.length:Int)<128:=(by omega);have g2:(L.length:Int)<256:=(by omega);clear hl;go_wp2_with (first|(at_builtin;refine iK (L:=M) rfl _ _ _ rfl dZ b8 hR2 rfl rfl rfl rfl (h.later hR2.b) HM.out (by omega) ?_;intro s3 w3 cZ)|(at_builtin;refine iK (L:=N) rfl _ _ _ rfl dZ b8 (hR0.later (aj (Below.refl _ _) _)) (n:=1) rfl rfl rfl (m:=2) rfl (BytesAt.lit _ [129,UInt8.ofNat L.length] (by simp) (by simp;try omega) (by simp[lim])) E.out (by omega) ?_;intro s2 w2 hR2)))
  |(have E:=Lib.hid (show N=[tc]++[130,UInt8.ofNat (L.length / 256),UInt8.ofNat L.length] by(rw[HN.out];unfold oC;rw[if_neg (by omega),if_neg hl.1,if_pos hl.2]));have g1:¬(L.length:Int)<128:=(by omega);have g2:¬(L.length:Int)<256:=(by omega);have g3:(L.length:Int)<65536:=(by omega);clear hl;go_wp2_with (first|(at_builtin;refine iK (L:=M) rfl _ _ _ rfl dZ b8 hR2 rfl rfl rfl rfl (h.later hR2.b) HM.out (by omega) ?_;intro s3 w3 cZ)|(at_builtin;refine iK (L:=N) rfl _ _ _ rfl dZ b8 (hR0.later (aj (Below.refl _ _) _)) (n:=1) rfl rfl rfl (m:=3) rfl (BytesAt.lit _ [130,UInt8.ofNat (L.length / 256),UInt8.ofNat L.length] (by simp) (by simp;try omega) (by simp[lim])) E.out (by omega) ?_;intro s2 w2 hR2)))
  |(have E:=Lib.hid (show N=[tc]++[131,UInt8.ofNat (L.length / 65536),UInt8.ofNat (L.length / 256),UInt8.ofNat L.length] by(rw[HN.out];unfold oC;rw[if_neg (by omega),if_neg (by omega),if_neg hl]));have g1:¬(L.length:Int)<128:=(by omega);have g2:¬(L.length:Int)<256:=(by omega);have g3:¬(L.length:Int)<65536:=(by omega);clear hl;go_wp2_with (first|(at_builtin;refine iK (L:=M) rfl _ _ _ rfl dZ b8 hR2 rfl rfl rfl rfl (h.later hR2.b) HM.out (by omega) ?_;intro s3 w3 cZ)|(at_builtin;refine iK (L:=N) rfl _ _ _ rfl dZ b8 (hR0.later (aj (Below.refl _ _) _)) (n:=1) rfl rfl rfl (m:=4) rfl (BytesAt.lit _ [131,UInt8.ofNat (L.length / 65536),UInt8.ofNat (L.length / 256),UInt8.ofNat L.length] (by simp) (by simp;try omega) (by simp[lim])) E.out (by omega) ?_;intro s2 w2 hR2)))
 all_goals
  go_ret
  exact cZ.Eh (by unfold lim;omega)
theorem XX(v n:Nat)(w:World)(hn:n≤8):Calls Tryz.prog 151 #[.int .i64 v,.int .i64 n] w (bG w (bK v n)):=by
 have hlen:=gX n v
 go_enter Tryz.func151,Tryz.ntmps151
 go_wp2_with fail
 go_loopw [5,6] (fun bv iv wr=>∃(k:Nat) (sb:Sl),k≤n∧iv=.int .i64 ((n:Int)-1-k)∧bv=.slice sb.a k sb.cap∧dE 5 w wr sb ((bK v n).take k)) (fun _ i _=>(intOf i+1).toNat)
 case atStart=>exact⟨0,⟨none,0⟩,Nat.zero_le _,by simp,rfl,dE.none _ (Below.refl _ _)⟩
 case round=>
  obtain⟨k,sb,hk,rfl,rfl,hR⟩:=hrel
  obtain⟨M,hM⟩:∃M,M=(bK v n).take k:=⟨_,rfl⟩
  have lI:=Lib.hid (show k=M.length by rw[hM,List.length_take];omega)
  rw[←hM]at hR
  by_cases hlt:k<n
  ·obtain⟨M',hM'⟩:∃M',M'=(bK v n).take (k+1):=⟨_,rfl⟩
   obtain⟨c,hc⟩:∃c,c=UInt8.ofNat (v / 256 ^ (n-1-k)):=⟨_,rfl⟩
   obtain⟨j,hj⟩:∃j:Nat,j=n-1-k:=⟨_,rfl⟩
   have hij:(n:Int)-1-k=j:=by omega
   have HA:=Lib.hid (show M'=M++[c] by rw[hM',hM,hc,List.take_add_one,Eb _ _ _ hlt];rfl)
   have xE:=Lib.hid (show M'.length=k+1 by rw[hM',List.length_take];omega)
   have uB:=Lib.hid hM'
   rw[hij]
   rw[←hj]at hc
   have HJ:=Lib.hid hj
   have XY:j<8:=by omega
   clear hM hM' hj hij
   go_wp2_with (at_builtin;refine iK (L:=M') rfl _ _ _ rfl dZ b8 (hR.later (aj (Below.refl _ _) _)) rfl lI.out (m:=1) rfl rfl (BytesAt.lit _ [c] (by simp) (by rw[XT,hc];rfl) (by simp[lim])) HA.out (by rw[xE.out];omega) ?_;intro s3 w3 cZ)
   go_roundw
   case rel=>exact⟨k+1,s3,by omega,by have:=HJ.out;go_num,by rw[xE.out],by rw[←uB.out];exact cZ⟩
   case measure=>simp[intOf]
  ·obtain rfl:k=n:=by omega
   have HE:=Lib.hid (show M=bK v k by rw[hM,List.take_of_length_le (by omega)])
   have HL:=Lib.hid (show(bK v k).length=k from hlen)
   clear hM hlen
   go_wp2_with fail
   go_ret
   rw[←HE.out]
   have:=hR.Eh (by rw[←lI.out];unfold lim;omega)
   rw[←lI.out]at this
   exact this
theorem alG(v:Nat)(w:World)(hv:v<4611686018427387904):Calls Tryz.prog 148 #[.int .i64 v] w (bG w (eQ v)):=by
 have hlen:=XV 8 v (by decide) (by omega)
 have hq:=XW v
 have HI:=Lib.hid (show eQ v=tlv 2 (lead (pz v)) by rw[←alo];rfl)
 have HD:=Lib.hid (alD v)
 have HN:=Lib.hid (XO v)
 obtain⟨D,hD⟩:∃D,D=pz v:=⟨_,rfl⟩
 rw[←hD]at HI HD HN hlen
 clear hD
 rw[HI.out]
 go_enter Tryz.func148,Tryz.ntmps148
 go_wp2_with fail
 go_loopw [0,3] (fun vv bv wr=>∃(m:Nat) (sb:Sl) (M:List UInt8),m≤v∧vv=.int .i64 m∧bv=.slice sb.a M.length sb.cap∧dE 5 w wr sb M∧Hid (D=zq m++M)) (fun vv _ _=>(intOf vv).toNat)
 case atStart=>exact⟨v / 256,_,[UInt8.ofNat v],by omega,rfl,rfl,dE.lit (Below.refl _ _) [UInt8.ofNat v] (by simp) (by simp),HD.out⟩
 case round=>
  clear hq
  obtain⟨m,sb,M,hm,rfl,rfl,hR,hH⟩:=hrel
  have Bi:M.length≤8:=by have:=congrArg List.length hH.out;rw[List.length_append]at this;omega
  have vK:=hR.bytes (by unfold lim;omega)
  by_cases h0:0<m
  ·have hq:=XW m
   obtain⟨M',hM'⟩:∃M',M'=[UInt8.ofNat m]++M:=⟨_,rfl⟩
   have HA:=Lib.hid hM'
   have alH:M'.length≤9:=by rw[hM'];simp;omega
   have HH:=Lib.hid (show D=zq (m / 256)++M' by rw[hH.out,XU h0,hM',List.append_assoc])
   clear hM' hH
   have hR0:=dE.lit (T:=5) hR.b [UInt8.ofNat m] (cs:=#[.int .u8 ((m:Int) % 256)]) (by simp) (by simp)
   go_wp2_with (at_builtin;refine iK (L:=M') rfl _ _ _ rfl dZ b8 hR0 (n:=1) rfl rfl rfl rfl (vK.later (aj (Below.refl _ _) _)) HA.out (by omega) ?_;intro s3 w3 cZ)
   go_roundw
   case rel=>exact⟨m / 256,s3,M',by omega,by first|rfl|go_num,rfl,cZ,HH.out⟩
   case measure=>simp[intOf];omega
  ·obtain rfl:m=0:=by omega
   have HE:=Lib.hid (show D=M by rw[hH.out];rfl)
   obtain rfl:=HE.out
   clear HE hH
   have hD0:0<D.length:=List.length_pos_iff.2 HN.out
   obtain⟨b,o,ha,hc⟩:=vK.get 0 hD0
   obtain⟨sa,sc⟩:=sb
   dsimp only at ha
   subst ha
   simp only[Nat.add_zero]at hc
   by_cases hbig:128≤D[0].toNat
   ·obtain⟨M',hM'⟩:∃M',M'=[0]++D:=⟨_,rfl⟩
    have HL:=Lib.hid (show lead D=M' by rw[alE hD0 hbig,hM'])
    have alH:M'.length≤9:=by rw[hM'];simp;omega
    have HA:=Lib.hid hM'
    clear hM'
    rw[HL.out]
    have hR0:=dE.lit (T:=5) hR.b [0] (cs:=#[.int .u8 0]) rfl (by simp)
    have hbi:(128:Int)≤(D[0].toNat:Int):=by omega
    go_wp2_with (at_builtin;refine iK (L:=M') rfl _ _ _ rfl dZ b8 hR0 (n:=1) rfl rfl rfl rfl (vK.later (aj (Below.refl _ _) _)) HA.out (by omega) ?_;intro s3 w3 cZ)
    refine(vJ 2 2 _ _ M' _ rfl (cZ.bytes (by unfold lim;omega)) (by omega)).mono ?_
    intro e w4 h4
    obtain⟨s4,rfl,hb4,hB4⟩:=bG.from h4 cZ.b
    clear hR hR0 cZ vK hc
    go_wp2_with fail
    go_ret
    rw[HL.out]
    exact⟨s4,rfl,hb4,hB4⟩
   ·have HL:=Lib.hid (show lead D=D from alF hD0 hbig)
    have hbi:¬(128:Int)≤(D[0].toNat:Int):=by omega
    go_wp2_with fail
    refine(vJ 2 2 _ _ D _ rfl vK (by omega)).mono ?_
    intro e w4 h4
    obtain⟨s4,rfl,hb4,hB4⟩:=bG.from h4 hR.b
    clear hR vK hc
    go_wp2_with fail
    go_ret
    rw[HL.out]
    exact⟨s4,rfl,hb4,hB4⟩
theorem alI(v:Nat)(w:World):Calls Tryz.prog 149 #[.int .i64 v] w (bG w (lH v)):=by
 have hl:=gX 6 v
 have HT:=Lib.hid (show lH v=tlv 24 (bK v 6) from rfl)
 rw[HT.out]
 go_enter Tryz.func149,Tryz.ntmps149
 go_wp2_with fail
 refine(XX v 6 _ (by decide)).mono ?_
 rintro e w1 ⟨s1,rfl,hb1,hB1⟩
 go_wp2_with fail
 refine(vJ 24 24 _ _ (bK v 6) _ rfl hB1.out (by omega)).mono ?_
 intro e w4 h4
 obtain⟨s4,rfl,hb4,hB4⟩:=bG.from h4 hb1
 go_wp2_with fail
 go_ret
 exact⟨s4,rfl,hb4,hB4⟩
theorem XZ(a:Option Addr)(cap:Nat)(L:List UInt8)(w:World)(h:BytesAt w a L)(hn:L.length≤1000000):Calls Tryz.prog 85 #[.slice a L.length cap] w (bG w (fZ L)):=by
 go_enter Tryz.func85,Tryz.ntmps85
 go_wp2_with fail
 refine(vJ 4 4 _ _ L _ rfl h hn).mono ?_
 rintro e w4 ⟨s4,rfl,hb4,hB4⟩
 go_wp2_with fail
 go_ret
 exact⟨s4,rfl,hb4,hB4⟩
theorem X0(w:World)(s:ByteArray)(hs:s.size≤lim):∃cap w',(convert 9 61 (.string s)).run Tryz.prog w=.ok (.slice (some ⟨w.heap.size,0,none⟩) s.data.toList.length cap) w'∧Below w.heap.size w w'∧BytesAt w' (some ⟨w.heap.size,0,none⟩) s.data.toList:=by
 have hl:s.data.toList.length=s.size:=by simp
 refine⟨_,_,by rw[hl];exact run_bytes_of_string w 9 61 5 s Tryz.underlying9 Tryz.underlying61 Tryz.underlying5,aj (Below.refl _ _).drew _,by rw[hl];exact hs,fun i hi=>?_⟩
 refine⟨_,_,_,rfl,?_,s.data.toList[i],List.getElem?_eq_getElem hi,rfl⟩
 rw[show(w.drew.alloc _).cell? ⟨w.heap.size,0+i,none⟩=_ from cell_of_row (w.drew.alloc _) w.drew.heap.size (0+i) _ _ _ (World.alloc_heap_new w.drew _),Nat.zero_add,bytesRow_at s _ i (by omega)]
 simp
theorem Iz(s:ByteArray)(w:World)(hs:s.size≤1000000):Calls Tryz.prog 93 #[.string s] w (bG w (eU s)):=by
 have hl:s.data.toList.length=s.size:=by simp
 obtain⟨cap,w1,hcv,hb1,hB1⟩:=X0 w s (by unfold lim;omega)
 have HT:=Lib.hid (show eU s=tlv 27 s.data.toList from rfl)
 rw[HT.out]
 obtain⟨L,hL⟩:∃L,L=s.data.toList:=⟨_,rfl⟩
 rw[←hL]at hl hcv hB1 ⊢
 have hl':L.length≤1000000:=by omega
 clear hL hl
 go_enter Tryz.func93,Tryz.ntmps93
 go_wp2_with fail
 refine(vJ 27 27 _ _ L _ rfl hB1 hl').mono ?_
 intro e w4 h4
 obtain⟨s4,rfl,hb4,hB4⟩:=bG.from h4 hb1
 go_wp2_with fail
 go_ret
 exact⟨s4,rfl,hb4,hB4⟩
theorem jc(ni:Int)(n:Nat)(a:Option Addr)(cap:Nat)(L:List UInt8)(w:World)(hni:ni=n)(hn:n≤30)(h:BytesAt w a L)(hl:L.length≤1000000):Calls Tryz.prog 87 #[.int .i64 ni,.slice a L.length cap] w (bG w (bM n L)):=by
 subst hni
 by_cases h0:L.length=0
 ·have HT:=Lib.hid (show bM n L=[] by unfold bM;rw[if_pos h0])
  rw[HT.out]
  go_enter Tryz.func87,Tryz.ntmps87
  go_wp2_with fail
  go_ret
  exact pG (Below.refl _ _)
 ·have HT:=Lib.hid (show bM n L=tlv (160+n) L by unfold bM;rw[if_neg h0])
  rw[HT.out]
  go_enter Tryz.func87,Tryz.ntmps87
  go_wp2_with fail
  refine(vJ _ (160+n) _ _ L _ (by simp) h hl).mono ?_
  rintro e w4 ⟨s4,rfl,hb4,hB4⟩
  go_wp2_with fail
  go_ret
  exact⟨s4,rfl,hb4,hB4⟩
theorem alJ(c:Bool)(v:Value)(w:World):Calls Tryz.prog 92 #[.bool c,v] w fun e w'=>e=.returned (match c with|true=>.slice none 0 0|false=>v)∧w=w':=by
 cases c<;>
 ·go_enter Tryz.func92,Tryz.ntmps92
  go_wp2_with fail
  go_ret
  exact⟨rfl,rfl⟩
end Go.Proofs.YtfieenjdcpjmgaaGreatDoor
