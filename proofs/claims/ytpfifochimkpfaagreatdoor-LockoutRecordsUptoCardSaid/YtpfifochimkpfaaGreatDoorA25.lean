/- A part of the proof. -/
import Derived.Test.YtpfifochimkpfaaGreatDoorA02
import Derived.Test.YtpfifochimkpfaaGreatDoorA07
import Derived.Test.YtpfifochimkpfaaGreatDoorA10
import Derived.Laws.MakeOwn
import Derived.Laws.IdiomStrings
set_option maxRecDepth 100000
set_option maxHeartbeats 2000000
namespace Go.WW
open Go.RowKit
def bM(v:Nat):Nat→List UInt8
 |0=>[]
 |n+1=>bM (v / 256) n++[UInt8.ofNat v]
theorem gZ:∀(n v:Nat),(bM v n).length=n
 |0,_=>rfl
 |n+1,v=>by rw[bM,List.length_append,gZ n];rfl
theorem DV:∀(n v j:Nat),j<n→(bM v n)[j]?=some (UInt8.ofNat (v / 256 ^ (n-1-j)))
 |0,_,_,h=>absurd h (Nat.not_lt_zero _)
 |n+1,v,j,h=>by
  rw[bM]
  by_cases hj:j<n
  ·rw[List.getElem?_append_left (by rw[gZ];exact hj),DV n (v / 256) j hj,Nat.div_div_eq_div_mul,←Nat.pow_succ',show n+1-1-j=(n-1-j)+1 by omega]
  ·rw[List.getElem?_append_right (by rw[gZ];omega),gZ,show j-n=0 by omega,show n+1-1-j=0 by omega]
   simp
def mX(v:Nat):Nat:=if h:v<128 then 1 else mX (v / 256)+1
termination_by v
decreasing_by omega
theorem DW{v:Nat}(h:v<128):mX v=1:=by unfold mX;rw[dif_pos h]
theorem Iu{v:Nat}(h:¬v<128):mX v=mX (v / 256)+1:=by
 conv=>
  lhs
  unfold mX
 rw[dif_neg h]
def uB(v:Nat):List UInt8:=bM v (mX v)
def pG(v:Nat):List UInt8:=if _h:v<256 then [UInt8.ofNat v]else pG (v / 256)++[UInt8.ofNat v]
termination_by v
decreasing_by omega
theorem xM{v:Nat}(h:v<256):pG v=[UInt8.ofNat v]:=by unfold pG;rw[dif_pos h]
theorem Iw{v:Nat}(h:¬v<256):pG v=pG (v / 256)++[UInt8.ofNat v]:=by
 conv=>
  lhs
  unfold pG
 rw[dif_neg h]
theorem Wh(v:Nat):pG v≠[]:=by
 by_cases h:v<256
 ·rw[xM h];simp
 ·rw[Iw h];simp
def lead:List UInt8→List UInt8
 | []=>[]
 |a::l=>if 128≤a.toNat then 0::a::l else a::l
theorem aji{l:List UInt8}(h:l≠[])(c:UInt8):lead (l++[c])=lead l++[c]:=by
 cases l with
 |nil=>exact absurd rfl h
 |cons a l=>
  simp only[List.cons_append,lead]
  by_cases h1:128≤a.toNat
  ·rw[if_pos h1,if_pos h1];rfl
  ·rw[if_neg h1,if_neg h1];rfl
theorem ajj(v:Nat):uB v=lead (pG v):=by
 induction v using Nat.strongRecOn with
 |_ v ih=>
  by_cases h1:v<128
  ·rw[uB,DW h1,xM (by omega),lead,if_neg (by simp;omega)]
   rfl
  ·have hs:uB v=uB (v / 256)++[UInt8.ofNat v]:=by rw[uB,Iu h1,bM];rfl
   rw[hs,ih (v / 256) (by omega)]
   by_cases h2:v<256
   ·rw[show v / 256=0 by omega,xM h2,xM (by omega),lead,lead,if_neg (by decide),if_pos (by simp;omega)]
    rfl
   ·rw[Iw h2,aji (Wh _)]
theorem Nv:∀(k v:Nat),0<k→v<2 ^ (8*k-1)→mX v≤k
 |0,_,h,_=>absurd h (Nat.lt_irrefl 0)
 |1,v,_,h=>by rw[DW (by simpa using h)];exact Nat.le_refl _
 |k+2,v,_,h=>by
  by_cases h1:v<128
  ·rw[DW h1];omega
  ·rw[Iu h1]
   have:=Nv (k+1) (v / 256) (by omega) (by
    rw[Nat.div_lt_iff_lt_mul (by decide)]
    have e:2 ^ (8*(k+1)-1)*256=2 ^ (8*(k+2)-1):=by rw[show(256:Nat)=2 ^ 8 from rfl,←Nat.pow_add];congr 1
    rw[e];exact h)
   omega
def ajk:Nat:=16777215
def oK(n:Nat):List UInt8:=
 if n<128 then [.ofNat n]else if n<256 then [0x81,.ofNat n]else if n<65536 then [0x82,.ofNat (n / 256),.ofNat n]else [0x83,.ofNat (n / 65536),.ofNat (n / 256),.ofNat n]
theorem Nw(n:Nat):(oK n).length≤4:=by unfold oK;split<;>(try split)<;>(try split)<;>simp
def tlv(t:Nat)(c:List UInt8):List UInt8:=UInt8.ofNat t::(oK c.length++c)
def an7(t:Nat)(c:List UInt8):List UInt8:=if c.length≤ajk then tlv t c else []
theorem oL(t:Nat)(c:List UInt8):c.length<(tlv t c).length∧(tlv t c).length≤c.length+5:=by
 have:=Nw c.length
 simp[tlv];omega
def bQ(n:Nat)(c:List UInt8):List UInt8:=if c.length=0 then []else tlv (160+n) c
def dM(l:List (List UInt8)):List UInt8:=tlv 48 l.flatten
def eU(v:Nat):List UInt8:=tlv 2 (uB v)
def lI(v:Nat):List UInt8:=tlv 24 (bM v 6)
def uC(v:Nat):List UInt8:=tlv 3 (0::bM v 4)
def gp(b:List UInt8):List UInt8:=tlv 4 b
def eY(s:ByteArray):List UInt8:=tlv 27 s.data.toList
def dR:Nat→List (List UInt8)→List (List UInt8)
 |_,[]=>[]
 |n,x::l=>bQ n x::dR (n+1) l
def lZ(l:List (List UInt8)):List UInt8:=dM (dR 0 l)
def dm(l:List (List UInt8)):List UInt8:=if l.length=0 then []else dM l
def fP(v:Nat):List UInt8:=if v=0 then []else eU v
def jf(v:Nat):List UInt8:=if v=0 then []else lI v
def jO(s:ByteArray):List UInt8:=if s.size=0 then []else eY s
theorem rW{n m:Nat}{c:List UInt8}(h:c.length≤m):(bQ n c).length≤m+5:=by
 unfold bQ;split
 ·simp
 ·have:=(oL (160+n) c).2;omega
theorem DX:∀(l:List (List UInt8)) (n:Nat),(dR n l).length=l.length
 | [],_=>rfl
 |x::l,n=>by rw[dR,List.length_cons,List.length_cons,DX l]
theorem Iy{m:Nat}:∀(l:List (List UInt8)),(∀x∈l,x.length≤m)→l.flatten.length≤l.length*m
 | [],_=>by simp
 |x::l,h=>by
  have h1:=Iy l (fun y hy=>h y (by simp[hy]))
  have h2:=h x (by simp)
  rw[List.flatten_cons,List.length_append,List.length_cons,Nat.succ_mul];omega
theorem uD(l:List (List UInt8)):(dM l).length≤l.flatten.length+5:=(oL 48 l.flatten).2
theorem ajl{m:Nat}{l:List (List UInt8)}(h:∀x∈l,x.length≤m):(dm l).length≤l.length*m+5:=by
 unfold dm;split
 ·simp
 ·have:=uD l;have:=Iy l h;omega
theorem rX{v k:Nat}(hk:0<k)(h:v<2 ^ (8*k-1)):(eU v).length≤k+5:=by
 have h1:=(oL 2 (uB v)).2
 have h2:=Nv k v hk h
 have h3:(uB v).length=mX v:=gZ _ _
 unfold eU;omega
theorem zJ{v k:Nat}(hk:0<k)(h:v<2 ^ (8*k-1)):(fP v).length≤k+5:=by
 unfold fP;split
 ·simp
 ·exact rX hk h
theorem Iz(v:Nat):(lI v).length≤11:=by
 have h1:=(oL 24 (bM v 6)).2
 rw[gZ]at h1;exact h1
theorem ajm(v:Nat):(jf v).length≤11:=by
 unfold jf;split
 ·simp
 ·exact Iz v
theorem ajn(v:Nat):(uC v).length≤10:=by
 have h1:=(oL 3 (0::bM v 4)).2
 rw[List.length_cons,gZ]at h1;exact h1
theorem Bz(b:List UInt8):(gp b).length≤b.length+5:=(oL 4 b).2
theorem DY(s:ByteArray):(eY s).length≤s.size+5:=by
 have h1:=(oL 27 s.data.toList).2
 have h2:s.data.toList.length=s.size:=by simp
 unfold eY;omega
theorem IA(s:ByteArray):(jO s).length≤s.size+5:=by
 unfold jO;split
 ·simp
 ·exact DY s
def fF(p:aH):List UInt8:=lZ [dM (p.parts.map eY),eY p.aJ]
def iH(k:Key):List UInt8:=lZ [eU k.profile.toNat,eU k.version.toNat,gp k.bytes]
def jg(s:bP):List UInt8:=lZ [eU s.version.toNat,dm (s.keys.map iH),jO s.dK,fP s.dX.toNat,lI s.created.toNat]
theorem map_le{α:Type}{f:α→List UInt8}{m n:Nat}{l:List α}(h:∀x∈l,(f x).length≤m)(hn:l.length≤n):(l.map f).flatten.length≤n*m:=by
 have h1:=Iy (l.map f) (m:=m) (by simpa using h)
 rw[List.length_map]at h1
 exact Nat.le_trans h1 (Nat.mul_le_mul_right _ hn)
theorem BA{α:Type}{f:α→List UInt8}{m n:Nat}{l:List α}(h:∀x∈l,(f x).length≤m)(hn:l.length≤n):(dm (l.map f)).length≤n*m+5:=by
 have h1:=ajl (l:=l.map f) (m:=m) (by simpa using h)
 rw[List.length_map]at h1
 have:=Nat.mul_le_mul_right m hn
 omega
theorem DZ{p:aH}(h:aZ p=true):p.parts.length≤4∧(∀x∈p.parts,x.size≤32)∧p.aJ.size≤32:=by
 simp only[aZ,Bool.and_eq_true,List.all_eq_true,decide_eq_true_eq,iK,jI,sized]at h
 refine⟨by omega,fun x hx=>?_,by omega⟩
 have:=h.1.1.1 x hx
 omega
theorem Ny{p:aH}(h:aZ p=true):(p.parts.map eY).flatten.length≤148:=
 map_le (m:=37) (n:=4) (fun x hx=>by have:=DY x;have:=(DZ h).2.1 x hx;omega) (DZ h).1
theorem Nz{p:aH}(h:aZ p=true):(dR 0 [dM (p.parts.map eY),eY p.aJ]).flatten.length≤200:=by
 have h1:=uD (p.parts.map eY)
 have h2:=Ny h
 have h3:=DY p.aJ
 have h4:=(DZ h).2.2
 have h5:=rW (n:=0) (m:=153) (c:=dM (p.parts.map eY)) (by omega)
 have h6:=rW (n:=0+1) (m:=37) (c:=eY p.aJ) (by omega)
 simp only[dR,List.flatten_cons,List.flatten_nil,List.append_nil,List.length_append]
 omega
theorem IB{p:aH}(h:aZ p=true):(fF p).length≤205:=by
 have h1:=uD (dR 0 [dM (p.parts.map eY),eY p.aJ])
 have h2:=Nz h
 unfold fF lZ;omega
def zK(k:Key):Prop:=(0≤k.profile∧k.profile≤2)∧(0≤k.version∧k.version≤65535)∧k.bytes.length≤256
theorem ajo(p:Int):dP p≠0→p=1∨p=2:=by
 unfold dP;intro h
 by_cases h1:p=1
 ·exact .inl h1
 ·by_cases h2:p=2
  ·exact .inr h2
  ·simp[h1,h2]at h
theorem ajp{m v:Int}{k:Key}(h:iO m v k=true)(hv:0≤v∧v≤65535):zK k:=by
 unfold iO at h
 simp only[Bool.and_eq_true,Bool.not_eq_true',beq_eq_false_iff_ne,bne_eq_false_iff_eq]at h
 obtain⟨⟨h1,h2⟩,h3⟩:=h
 have hp:=ajo k.profile h1
 refine⟨by omega,by omega,?_⟩
 split at h3
 ·simp only[nG,Bool.and_eq_true,beq_iff_eq]at h3
  have h4:=h3.1.2
  have:dP k.profile≤32:=by rcases hp with e|e<;>rw[e]<;>decide
  omega
 ·have:=EX.1 h3;omega
theorem NC{k:Key}(h:zK k):(dR 0 [eU k.profile.toNat,eU k.version.toNat,gp k.bytes]).flatten.length≤290:=by
 obtain⟨h1,h2,h3⟩:=h
 have e1:=rX (v:=k.profile.toNat) (k:=1) (by decide) (by simp;omega)
 have e2:=rX (v:=k.version.toNat) (k:=3) (by decide) (by simp;omega)
 have e3:=Bz k.bytes
 have f1:=rW (n:=0) e1
 have f2:=rW (n:=0+1) e2
 have f3:=rW (n:=0+1+1) (m:=261) (c:=gp k.bytes) (by omega)
 simp only[dR,List.flatten_cons,List.flatten_nil,List.append_nil,List.length_append]
 omega
theorem D5{k:Key}(h:zK k):(iH k).length≤295:=by
 have h1:=uD (dR 0 [eU k.profile.toNat,eU k.version.toNat,gp k.bytes])
 have h2:=NC h
 unfold iH lZ;omega
structure zL(s:bP):Prop where
 version:0≤s.version∧s.version≤65535
 keys:∀k∈s.keys,zK k
 few:1≤s.keys.length∧s.keys.length≤4
 dK:s.dK.size≤256
 dX:0≤s.dX∧s.dX≤65536
 created:0≤s.created∧s.created≤1099511627776
theorem ajq{m:Int}{s:bP}(h:gX m s=true):zL s:=by
 simp only[gX,jd,Bool.and_eq_true,List.all_eq_true,EX,decide_eq_true_eq]at h
 obtain⟨⟨h1,-⟩,⟨⟨⟨⟨h2,h3⟩,h4⟩,h5⟩,-⟩,h6⟩:=h
 exact⟨by omega,fun k hk=>ajp (h1 k hk) (by omega),by omega,by omega,by omega,by omega⟩
theorem ND{s:bP}(h:zL s):(dR 0 [eU s.version.toNat,dm (s.keys.map iH),jO s.dK,fP s.dX.toNat,lI s.created.toNat]).flatten.length≤1600:=by
 have e1:=rX (v:=s.version.toNat) (k:=3) (by decide) (by have:=h.version;simp;omega)
 have e2:=BA (f:=iH) (m:=295) (n:=4) (l:=s.keys) (fun k hk=>D5 (h.keys k hk)) h.few.2
 have e3:=IA s.dK
 have e4:=zJ (v:=s.dX.toNat) (k:=3) (by decide) (by have:=h.dX;simp;omega)
 have e5:=Iz s.created.toNat
 have e6:=h.dK
 have f1:=rW (n:=0) e1
 have f2:=rW (n:=0+1) e2
 have f3:=rW (n:=0+1+1) (m:=261) (c:=jO s.dK) (by omega)
 have f4:=rW (n:=0+1+1+1) e4
 have f5:=rW (n:=0+1+1+1+1) e5
 simp only[dR,List.flatten_cons,List.flatten_nil,List.append_nil,List.length_append]
 omega
theorem NF{s:bP}(h:zL s):(jg s).length≤1605:=by
 have h1:=uD (dR 0 [eU s.version.toNat,dm (s.keys.map iH),jO s.dK,fP s.dX.toNat,lI s.created.toNat])
 have h2:=ND h
 unfold jg lZ;omega
structure zM(d:Entry):Prop where
 name:aZ d.name=true
 aliases:(∀p∈d.aliases,aZ p=true)∧d.aliases.length≤16
 attrs:0≤d.attrs∧d.attrs≤1023
 fH:0≤d.fH∧d.fH≤65535
 keys:(∀s∈d.keys,zL s)∧d.keys.length≤16
 aP:d.aP.size≤32
 jS:0≤d.jS∧d.jS≤1099511627776
 jT:0≤d.jT∧d.jT≤1099511627776
 jF:0≤d.jF∧d.jF≤2147483648
 jG:0≤d.jG∧d.jG≤2147483648
 fails:0≤d.fails∧d.fails≤65535
 dw:0≤d.dw∧d.dw≤1099511627776
 iw:0≤d.iw∧d.iw≤1099511627776
 targets:(∀p∈d.targets,aZ p=true)∧d.targets.length≤16
 bW:(∀p∈d.bW,aZ p=true)∧d.bW.length≤16
 history:(∀b∈d.history,b.length=16)∧d.history.length≤16
theorem NG{l:List aH}(h:(∀p∈l,aZ p=true)∧l.length≤16):(dm (l.map fF)).length≤3285:=BA (m:=205) (n:=16) (fun p hp=>IB (h.1 p hp)) h.2
def oM(d:Entry):List (List UInt8):=
 [fF d.name,dm (d.aliases.map fF),uC d.attrs.toNat,fP d.fH.toNat,dm (d.keys.map jg),jO d.aP,jf d.jS.toNat,jf d.jT.toNat,fP d.jF.toNat,fP d.jG.toNat,fP d.fails.toNat,
  jf d.dw.toNat,jf d.iw.toNat,dm (d.targets.map fF),dm (d.bW.map fF),dm (d.history.map gp)]
def pI(d:Entry):List UInt8:=lZ (oM d)
theorem ajr(d:Entry):(oM d).length=16:=rfl
theorem NH{d:Entry}(h:zM d):∀x∈oM d,x.length≤26000:=by
 have e1:=IB h.name
 have e2:=NG h.aliases
 have e3:=ajn d.attrs.toNat
 have e4:=zJ (v:=d.fH.toNat) (k:=3) (by decide) (by have:=h.fH;simp;omega)
 have e5:=BA (f:=jg) (m:=1605) (n:=16) (l:=d.keys) (fun k hk=>NF (h.keys.1 k hk)) h.keys.2
 have e6:=IA d.aP
 have e7:=h.aP
 have e9:=zJ (v:=d.jF.toNat) (k:=5) (by decide) (by have:=h.jF;simp;omega)
 have e10:=zJ (v:=d.jG.toNat) (k:=5) (by decide) (by have:=h.jG;simp;omega)
 have e11:=zJ (v:=d.fails.toNat) (k:=3) (by decide) (by have:=h.fails;simp;omega)
 have e14:=NG h.targets
 have e15:=NG h.bW
 have e16:=BA (f:=gp) (m:=21) (n:=16) (l:=d.history) (fun b hb=>by have:=Bz b;have:=h.history.1 b hb;omega) h.history.2
 have i:=ajm
 intro x hx
 simp only[oM,List.mem_cons,List.not_mem_nil,or_false]at hx
 rcases hx with rfl|rfl|rfl|rfl|rfl|rfl|rfl|rfl|rfl|rfl|rfl|rfl|rfl|rfl|rfl|rfl<;>first|omega|(have:=i d.jS.toNat;omega)|(have:=i d.jT.toNat;omega)|(have:=i d.dw.toNat;omega)|(have:=i d.iw.toNat;omega)
theorem Wi{m:Nat}:∀(l:List (List UInt8)) (n:Nat),(∀x∈l,x.length≤m)→∀x∈dR n l,x.length≤m+5
 | [],_,_,x,hx=>by cases hx
 |y::l,n,h,x,hx=>by
  rw[dR]at hx
  rcases List.mem_cons.1 hx with rfl|hx
  ·exact rW (h y (by simp))
  ·exact Wi l (n+1) (fun z hz=>h z (by simp[hz])) x hx
theorem NI{d:Entry}(h:zM d):(dR 0 (oM d)).flatten.length≤416080:=by
 have h1:=Iy (dR 0 (oM d)) (Wi (oM d) 0 (NH h))
 rw[DX,ajr]at h1
 omega
theorem NJ{d:Entry}(h:zM d):(pI d).length≤416085:=by
 have h1:=uD (dR 0 (oM d))
 have h2:=NI h
 unfold pI lZ;omega
theorem NK{l:List aH}(h:different l=true):(∀p∈l,aZ p=true)∧l.length≤16:=by
 simp only[different,yz,Bool.and_eq_true,List.all_eq_true,List.mem_range,decide_eq_true_eq]at h
 refine⟨fun p hp=>?_,by omega⟩
 obtain⟨i,hi,rfl⟩:=List.mem_iff_getElem.1 hp
 have:=h.1 i hi
 unfold oD at this
 rw[List.getElem?_eq_getElem hi]at this
 simp only[Bool.and_eq_true]at this
 exact this.1
theorem NM{d:Entry}(h:bI d=true)(ha:0≤d.attrs):zM d:=by
 simp only[bI,kL,jl,Bool.and_eq_true,List.all_eq_true,EX,decide_eq_true_eq,beq_iff_eq]at h
 obtain⟨⟨⟨⟨⟨⟨⟨⟨⟨h1,h2⟩,h3⟩,h4⟩,-⟩,h6⟩,-⟩,h8⟩,⟨⟨⟨⟨⟨h9,h10⟩,h11⟩,h12⟩,-⟩,h13⟩⟩,⟨⟨⟨⟨⟨h14,h15⟩,h16⟩,h17⟩,h18⟩,h19⟩,h20⟩:=h
 exact⟨h1,NK h2,⟨ha,by simpa[wW]using h9⟩,h10,⟨fun s hs=>ajq (h6 s hs),by omega⟩,by omega,h14,h15,h16,h17,h18,h19,h20,NK h3,NK h4,⟨fun b hb=>by have:=h8 b hb;omega,by omega⟩⟩
structure dC(T:TypeId)(W wr:World)(sb:Sl)(l:List UInt8):Prop where
 b:Below W.heap.size W wr
 own:Own wr W.heap.size T 1 sb (dU l)
theorem dC.none(T:TypeId){W wr:World}(h:Below W.heap.size W wr):dC T W wr ⟨Option.none,0⟩ []:=⟨h,Own.nil _ _ _ _⟩
theorem dC.later{T:TypeId}{W wr w':World}{sb:Sl}{l:List UInt8}(h:dC T W wr sb l)(hb:Below wr.heap.size wr w'):dC T W w' sb l:=
 ⟨ag h.b hb,h.own.kept fun _ hg=>hb.block _ (h.own.base hg).2⟩
theorem dC.made{P:Program}{t T:TypeId}{n b:Nat}(he:fV P t T 1 b){W w:World}(hW:Below W.heap.size W w)(hn:n≤100000000)(hb:b≤8){ni:Int}(hni:ni=n) :
  ∃V,(Instr.makeSlice t (.int .i64 0) (.int .i64 ni)).run P w=.ok (.slice (some ⟨w.heap.size,0,Option.none⟩) 0 n) V∧dC T W V ⟨some ⟨w.heap.size,0,Option.none⟩,n⟩ []:=by
 subst hni
 obtain⟨i,z,hi,hz,h1,h2,-⟩:=he.info
 obtain⟨V,hr,ho,hg⟩:=run_make_own (P:=P) w W.heap.size t T i z 1 he.und hi hz h1 .i64 .i64 n (by rw[h2];have:=Nat.mul_le_mul hb hn;omega) (by unfold maxLen;omega) hW.size
 exact⟨V,hr,hW.grown hg hW.size (fun k e=>by cases e),⟨ho,by simp[dU]⟩⟩
theorem BytesAt.src{w:World}{A:Option Addr}{l:List UInt8}(h:BytesAt w A l):cO w 1 A (dU l):=by
 obtain⟨rows,h1,h2,h3⟩:=dO.src h J9
 have:rows=dU l:=by
  refine List.ext_getElem (by rw[h1,fM]) fun i hi hj=>?_
  obtain⟨v,hv,c,hc,rfl⟩:=h3 i hi
  have hi':i<l.length:=by rw[←h1];exact hi
  rw[List.getElem?_eq_getElem hi']at hc
  cases hc
  simp[hv,dU]
 exact this▸h2
theorem ajt(a b:List UInt8):dU (a++b)=dU a++dU b:=by simp[dU]
theorem dC.app{T:TypeId}{W wr w':World}{sb s':Sl}{l news:List UInt8}(h:dC T W wr sb l)(ho:Own w' W.heap.size T 1 s' (dU l++dU news))(hg:wr.grownBy w' sb.blk):dC T W w' s' (l++news):=
 ⟨h.b.grown hg h.b.size (fun _ e=>(h.own.base e).1),by rw[ajt];exact ho⟩
theorem iT{P:Program}{ops:Array Oper}{rest:List Oper}{o:Oper}{a:Act}{w:World}{Q:Exit→Act→World→Prop}(hgd:o.guard=Option.none)(x y:Operand)(t:TypeId)(ho:o.op=.call {callee:=.builtin .append,args:=#[x,y],argTypes:=#[t,t]})
  {T:TypeId} {b:Nat} (he:fV P t T 1 b) (hb:b≤8) {W:World} {s:Sl} {l L:List UInt8} (h:dC T W w s l) {n:Nat} (hx:a.eval x=.slice s.a n s.cap) (hn:n=l.length) {A:Option Addr} {news:List UInt8} {m c:Nat}
  (hy:a.eval y=.slice A m c) (hm:m=news.length) (hs:BytesAt w A news) (hL:L=l++news) (hlen:L.length≤100000000)
  (hK:∀(s':Sl) w',dC T W w' s' L→wpList P ops Q rest (a.put o.dst (.slice s'.a L.length s'.cap)) w'):wpList P ops Q (o::rest) a w:=by
 subst hn hm hL
 rw[List.length_append]at hlen hK
 have hl:((dU l).length+(dU news).length)*(b+1)≤140737488355328:=by
  rw[fM,fM]
  have:=Nat.mul_le_mul hlen (show b+1≤9 by omega)
  omega
 refine gW hgd x y t ho he hx (fM l).symm h.own hy (fM news).symm hs.src hl h.b.size fun s' w' h1 h2 _=>hK s' w' (h.app h1 h2)
theorem BytesAt.lit(w:World){k:Nat}(l:List UInt8){cs:Array Value}{t:TypeId}(hk:k=w.heap.size)(h:cs=(l.map fun c=>Value.int .u8 c.toNat).toArray)(hl:l.length≤lim):BytesAt (w.alloc (.cells cs t)) (some ⟨k,0,Option.none⟩) l:=by
 subst h hk
 refine⟨hl,fun i hi=>⟨w.heap.size,0,_,rfl,?_,l[i],List.getElem?_eq_getElem hi,rfl⟩⟩
 rw[cell_of_row _ _ _ _ _ _ (World.alloc_heap_new _ _)]
 simp[hi]
theorem dC.done{T:TypeId}{w w':World}{s:Sl}{l:List UInt8}(h:dC T w w' s l)(hl:l.length≤lim):CU w l (.returned (.slice s.a l.length s.cap)) w':=
 Sr h.own (fM l) hl h.b fun i hi=>by
  have hi':i<l.length:=by simpa[dU]using hi
  exact⟨.int .u8 l[i].toNat,by simp[dU],l[i],List.getElem?_eq_getElem hi',rfl⟩
theorem xN{l:List (List UInt8)}{k:Nat}(h:k<l.length):(l.take (k+1)).flatten=(l.take k).flatten++l[k]:=by
 rw[List.take_succ_eq_append_getElem h,List.flatten_append,List.flatten_cons,List.flatten_nil,List.append_nil]
theorem zN(l:List (List UInt8))(k:Nat):(l.take k).flatten.length≤l.flatten.length:=by
 conv=>
  rhs
  rw[←List.take_append_drop k l]
 rw[List.flatten_append,List.length_append];omega
theorem dY.one{w:World}(s:Sl){l:List UInt8}{t:TypeId}(h:BytesAt w s.a l):dY (w.alloc (.cells #[.slice s.a l.length s.cap] t)) (some ⟨w.heap.size,0,Option.none⟩) [l]:=by
 refine⟨by simp[lim],fun i hi=>⟨w.heap.size,0,_,rfl,?_,l,s,?_,rfl,h.later (ay (Below.refl _ _) _)⟩⟩
 ·obtain rfl:i=0:=by simp at hi;exact hi
  rw[cell_of_row _ _ _ _ _ _ (World.alloc_heap_new _ _)];rfl
 ·obtain rfl:i=0:=by simp at hi;exact hi
  rfl
end Go.WW
namespace Go.Proofs.YtpfifochimkpfaaGreatDoor
open Go.RowKit Go.WW
theorem b8:1≤8:=by decide
theorem zO(ti:Int)(t:Nat)(a:Option Addr)(cap:Nat)(parts:List (List UInt8))(w:World)(ht:ti=(UInt8.ofNat t).toNat)(h:dY w a parts)(h0:0<parts.length)(hn:parts.flatten.length≤1000000) :
  Calls Tryz.prog 192 #[.int .u8 ti,.slice a parts.length cap] w (CU w (tlv t parts.flatten)):=by
 obtain⟨tc,htc⟩:∃c,c=UInt8.ofNat t:=⟨_,rfl⟩
 rw[←htc]at ht
 have HT:=Lib.hid htc
 clear htc
 subst ht
 have hpl:parts.length≤4294967000:=h.1
 obtain⟨b,o,s0,rfl,-,-⟩:=h.get 0 h0
 have hT:∀k,(parts.take k).flatten.length≤1000000:=fun k=>Nat.le_trans (zN _ _) hn
 go_enter Tryz.func192,Tryz.ntmps192
 go_wp2_with fail
 go_loopw [5,13] (fun nv i wr=>∃k:Nat,k≤parts.length∧i=.int .i64 k∧nv=.int .i64 ((parts.take k).flatten.length:Nat)∧wr=w) (fun _ i _=>parts.length-(intOf i).toNat)
 case atStart=>exact⟨0,Nat.zero_le _,rfl,rfl,rfl⟩
 case round=>
  obtain⟨k,hk,rfl,rfl,rfl⟩:=hrel
  by_cases hlt:k<parts.length
  ·obtain⟨s,hc,hb⟩:=h.at k hlt
   have hT1:=hT (k+1)
   have hT0:=hT k
   rw[xN hlt,List.length_append]at hT1
   generalize hL:(parts.take k).flatten.length=L at *
   go_wp2_with fail
   go_roundw
   case rel=>exact⟨k+1,by omega,by go_num,by rw[xN hlt,List.length_append,hL];go_num,trivial⟩
   case measure=>simp[intOf];omega
  ·obtain rfl:k=parts.length:=by omega
   rw[List.take_length]at *
   obtain⟨L,hL⟩:∃L,L=parts.flatten:=⟨_,rfl⟩
   rw[←hL]at hn ⊢
   have HL:=Lib.hid hL
   have hTL:∀k,(parts.take k).flatten.length≤L.length:=fun k=>by rw[hL];exact zN _ _
   have IC:=Lib.hid hTL
   clear hL hT hTL
   obtain⟨V0,hmk,hR0⟩:=dC.made (ni:=(L.length:Int)+5) (n:=L.length+5) eP (Below.refl _ wr) (by omega) b8 (by omega)
   have hlen:(L.length<128)∨(¬L.length<128∧L.length<256)∨(¬L.length<256∧L.length<65536)∨¬L.length<65536:=by omega
   obtain⟨N,hN⟩:∃N,N=tc::oK L.length:=⟨_,rfl⟩
   have hNl:N.length≤5:=by have:=Nw L.length;rw[hN];simp;omega
   have HN:=Lib.hid hN
   clear hN
   rcases hlen with hl|hl|hl|hl
   all_goals first
    |(have E:=Lib.hid (show N=[tc]++[UInt8.ofNat L.length] by(rw[HN.out];unfold oK;rw[if_pos hl];rfl));have g1:(L.length:Int)<128:=(by omega);clear hl;go_wp2_with (first|(at_builtin;refine iT (L:=N) rfl _ _ _ rfl eP b8 (hR1.later (ay (Below.refl _ _) _)) (n:=1) rfl rfl rfl (m:=1) rfl (BytesAt.lit _ [UInt8.ofNat L.length] (by simp) (by simp;try omega) (by simp[lim])) E.out (by omega) ?_;intro s2 w2 hR2)|(at_builtin;refine iT rfl _ _ _ rfl eP b8 (hR0.later (ay (Below.refl _ _) _)) (n:=0) rfl rfl rfl (m:=1) rfl (BytesAt.lit _ [tc] (by simp) rfl (by simp[lim])) rfl (by simp) ?_;intro s1 w1 hR1)))
    |(have E:=Lib.hid (show N=[tc]++[129,UInt8.ofNat L.length] by(rw[HN.out];unfold oK;rw[if_neg hl.1,if_pos hl.2];rfl));have g1:¬(L.length:Int)<128:=(by omega);have g2:(L.length:Int)<256:=(by omega);clear hl;go_wp2_with (first|(at_builtin;refine iT (L:=N) rfl _ _ _ rfl eP b8 (hR1.later (ay (Below.refl _ _) _)) (n:=1) rfl rfl rfl (m:=2) rfl (BytesAt.lit _ [129,UInt8.ofNat L.length] (by simp) (by simp;try omega) (by simp[lim])) E.out (by omega) ?_;intro s2 w2 hR2)|(at_builtin;refine iT rfl _ _ _ rfl eP b8 (hR0.later (ay (Below.refl _ _) _)) (n:=0) rfl rfl rfl (m:=1) rfl (BytesAt.lit _ [tc] (by simp) rfl (by simp[lim])) rfl (by simp) ?_;intro s1 w1 hR1)))
    |(have E:=Lib.hid (show N=[tc]++[130,UInt8.ofNat (L.length / 256),UInt8.ofNat L.length] by(rw[HN.out];unfold oK;rw[if_neg (by omega),if_neg hl.1,if_pos hl.2];rfl));have g1:¬(L.length:Int)<128:=(by omega);have g2:¬(L.length:Int)<256:=(by omega);have g3:(L.length:Int)<65536:=(by omega);clear hl;go_wp2_with (first|(at_builtin;refine iT (L:=N) rfl _ _ _ rfl eP b8 (hR1.later (ay (Below.refl _ _) _)) (n:=1) rfl rfl rfl (m:=3) rfl (BytesAt.lit _ [130,UInt8.ofNat (L.length / 256),UInt8.ofNat L.length] (by simp) (by simp;try omega) (by simp[lim])) E.out (by omega) ?_;intro s2 w2 hR2)|(at_builtin;refine iT rfl _ _ _ rfl eP b8 (hR0.later (ay (Below.refl _ _) _)) (n:=0) rfl rfl rfl (m:=1) rfl (BytesAt.lit _ [tc] (by simp) rfl (by simp[lim])) rfl (by simp) ?_;intro s1 w1 hR1)))
    |(have E:=Lib.hid (show N=[tc]++[131,UInt8.ofNat (L.length / 65536),UInt8.ofNat (L.length / 256),UInt8.ofNat L.length] by(rw[HN.out];unfold oK;rw[if_neg (by omega),if_neg (by omega),if_neg hl];rfl));have g1:¬(L.length:Int)<128:=(by omega);have g2:¬(L.length:Int)<256:=(by omega);have g3:¬(L.length:Int)<65536:=(by omega);clear hl;go_wp2_with (first|(at_builtin;refine iT (L:=N) rfl _ _ _ rfl eP b8 (hR1.later (ay (Below.refl _ _) _)) (n:=1) rfl rfl rfl (m:=4) rfl (BytesAt.lit _ [131,UInt8.ofNat (L.length / 65536),UInt8.ofNat (L.length / 256),UInt8.ofNat L.length] (by simp) (by simp;try omega) (by simp[lim])) E.out (by omega) ?_;intro s2 w2 hR2)|(at_builtin;refine iT rfl _ _ _ rfl eP b8 (hR0.later (ay (Below.refl _ _) _)) (n:=0) rfl rfl rfl (m:=1) rfl (BytesAt.lit _ [tc] (by simp) rfl (by simp[lim])) rfl (by simp) ?_;intro s1 w1 hR1)))
   all_goals
    clear E hR0 hR1 hmk
    go_loopw [8,74] (fun bv i wx=>∃(k:Nat) (sb:Sl),k≤parts.length∧i=.int .i64 k∧bv=.slice sb.a (N++(parts.take k).flatten).length sb.cap∧dC 5 wr wx sb (N++(parts.take k).flatten)) (fun _ i _=>parts.length-(intOf i).toNat)
    case atStart=>exact⟨0,s2,Nat.zero_le _,rfl,by simp,by simpa using hR2⟩
    case round=>
     clear hR2
     obtain⟨k,sb,hk,rfl,hbv,hR⟩:=hrel
     obtain⟨M,hM⟩:∃M,M=N++(parts.take k).flatten:=⟨_,rfl⟩
     rw[←hM]at hR hbv
     subst hbv
     by_cases hlt:k<parts.length
     ·obtain⟨s,hc,hb⟩:=(h.later hR.b).at k hlt
      obtain⟨M',hM'⟩:∃M',M'=N++(parts.take (k+1)).flatten:=⟨_,rfl⟩
      have hlk:=IC.out (k+1)
      have BB:M'.length≤100000000:=by rw[hM',List.length_append];omega
      have uF:=Lib.hid hM'
      have HA:=Lib.hid (show M'=M++parts[k] by rw[hM',hM,xN hlt,List.append_assoc])
      clear hM hM' hlk
      go_wp2_with (at_builtin;refine iT (L:=M') rfl _ _ _ rfl eP b8 hR rfl rfl rfl rfl hb HA.out BB ?_;intro s3 w3 dV)
      go_roundw
      case rel=>exact⟨k+1,s3,by omega,by go_num,by rw[uF.out],by rw[←uF.out];exact dV⟩
      case measure=>simp[intOf];omega
     ·obtain rfl:k=parts.length:=by omega
      have HE:=Lib.hid (show M=tlv t parts.flatten by rw[hM,List.take_length,HN.out,HL.out,HT.out];rfl)
      have hle:=(oL t parts.flatten).2
      have Lr:=Lib.hid (show M.length≤lim by rw[HE.out,←HL.out]at *;unfold lim;omega)
      clear hM hle
      go_wp2_with fail
      go_ret
      rw[←HE.out]
      exact hR.done Lr.out
end Go.Proofs.YtpfifochimkpfaaGreatDoor
namespace Go.WW
open Go.RowKit
theorem dC.lit{T:TypeId}{W w:World}(hW:Below W.heap.size W w)(l:List UInt8){cs:Array Value}(h:cs=(l.map fun c=>Value.int .u8 c.toNat).toArray)(hl:l.length≤100000000):dC T W (w.alloc (.cells cs T)) ⟨some ⟨w.heap.size,0,Option.none⟩,l.length⟩ l:=by
 have hf:flat (dU l)=l.map fun c=>Value.int .u8 c.toNat:=by
  clear h hl
  unfold flat dU
  induction l with
  |nil=>rfl
  |cons a l ih=>rw[List.map_cons,List.flatMap_cons,ih,List.map_cons];rfl
 refine⟨ay hW _,⟨⟨by rw[flat_length (k:=1) (by simp[dU])],.inr ⟨w.heap.size,l.length,cs,by rw[fM],hW.size,World.alloc_heap_new _ _,by rw[fM];exact Nat.le_refl _,by unfold maxLen;omega,by rw[h];simp,?_⟩⟩,by simp[dU]⟩⟩
 rw[hf,h,fM,Nat.mul_one]
 exact List.take_of_length_le (by simp)
abbrev bG:=CU
theorem dC.D6{T:TypeId}{w w':World}{s:Sl}{l:List UInt8}(h:dC T w w' s l)(hl:l.length≤lim):bG w l (.returned (.slice s.a l.length s.cap)) w':=h.done hl
theorem bG.from{W w w':World}{l:List UInt8}{e:Ending}(h:bG w l e w')(hW:Below W.heap.size W w):bG W l e w':=by
 obtain⟨s,h1,h2,h3⟩:=h
 exact⟨s,h1,ag hW h2,h3.to (fun _ _=>rfl) (fun _ hk=>⟨Nat.le_trans hW.size hk.1,hk.2⟩)⟩
theorem pJ{w w':World}(h:Below w.heap.size w w'):bG w [] (.returned (.slice Option.none 0 0)) w':=⟨⟨Option.none,0⟩,rfl,h,fun _ _=>⟨by simp[lim],fun i hi=>by simp at hi⟩⟩
theorem aju(t:Nat)(L:List UInt8):tlv t L=[UInt8.ofNat t]++oK L.length++L:=by simp[tlv]
theorem Wj(j:Nat):(2:Int) ^ (8*j)=((256 ^ j:Nat):Int):=by
 rw[Int.pow_mul,Int.natCast_pow];rfl
theorem Wl(v j:Nat):(v:Int) / 2 ^ (8*j) % 256=((UInt8.ofNat (v / 256 ^ j)).toNat:Int):=by
 rw[Wj,←Int.natCast_ediv];simp
theorem Wn(v j:Nat):((v:Int) / 2 ^ (8*j)).tmod 256 % 256=((UInt8.ofNat (v / 256 ^ j)).toNat:Int):=by
 rw[Wj,Int.tmod_eq_emod_of_nonneg (Int.ediv_nonneg (Int.natCast_nonneg _) (Int.natCast_nonneg _)),←Int.natCast_ediv];simp
theorem dC.bytes{T:TypeId}{W w:World}{s:Sl}{l:List UInt8}(h:dC T W w s l)(hl:l.length≤lim):BytesAt w s.a l:=by
 obtain⟨rows,h1⟩:∃rows,rows=dU l:=⟨_,rfl⟩
 exact dO.iM h.own (fM l) hl fun i hi=>by
  have hi':i<l.length:=by simpa[dU]using hi
  exact⟨.int .u8 l[i].toNat,by simp[dU],l[i],List.getElem?_eq_getElem hi',rfl⟩
def zQ(m:Nat):List UInt8:=if m=0 then []else pG m
theorem Wp{m:Nat}(h:0<m):zQ m=zQ (m / 256)++[UInt8.ofNat m]:=by
 unfold zQ
 rw[if_neg (by omega)]
 by_cases h1:m<256
 ·rw[if_pos (by omega),xM h1];rfl
 ·rw[if_neg (by omega),Iw h1]
theorem ajv(v:Nat):pG v=zQ (v / 256)++[UInt8.ofNat v]:=by
 by_cases h:v=0
 ·subst h;rw[xM (by decide)];rfl
 ·rw[←Wp (by omega),zQ,if_neg h]
theorem Wq:∀(k v:Nat),0<k→v<256 ^ k→(pG v).length≤k
 |0,_,h,_=>absurd h (Nat.lt_irrefl 0)
 |1,v,_,h=>by rw[xM (by simpa using h)];simp
 |k+2,v,_,h=>by
  by_cases h1:v<256
  ·rw[xM h1];simp
  ·rw[Iw h1,List.length_append]
   have:=Wq (k+1) (v / 256) (by omega) (by rw[Nat.div_lt_iff_lt_mul (by decide),←Nat.pow_succ];exact h)
   simp;omega
theorem Ws(m:Nat):(m:Int).tdiv 256=((m / 256:Nat):Int):=by
 rw[Int.tdiv_eq_ediv_of_nonneg (Int.natCast_nonneg _)];rfl
theorem ajw{l:List UInt8}(h:0<l.length)(h1:128≤l[0].toNat):lead l=[0]++l:=by
 cases l with
 |nil=>exact absurd h (Nat.lt_irrefl 0)
 |cons a l=>exact if_pos h1
theorem ajx{l:List UInt8}(h:0<l.length)(h1:¬128≤l[0].toNat):lead l=l:=by
 cases l with
 |nil=>exact absurd h (Nat.lt_irrefl 0)
 |cons a l=>exact if_neg h1
end Go.WW
namespace Go.Proofs.YtpfifochimkpfaaGreatDoor
open Go.RowKit Go.WW
theorem vV(ti:Int)(t:Nat)(a:Option Addr)(cap:Nat)(L:List UInt8)(w:World)(ht:ti=t)(h:BytesAt w a L)(hn:L.length≤1000000) :
  Calls Tryz.prog 160 #[.int .i64 ti,.slice a L.length cap] w (bG w (tlv t L)):=by
 subst ht
 obtain⟨tc,htc⟩:∃c,c=UInt8.ofNat t:=⟨_,rfl⟩
 have HT:=Lib.hid htc
 obtain⟨N,hN⟩:∃N,N=[tc]++oK L.length:=⟨_,rfl⟩
 have hNl:N.length≤5:=by have:=Nw L.length;rw[hN];simp;omega
 obtain⟨M,hM⟩:∃M,M=N++L:=⟨_,rfl⟩
 have BB:M.length≤1000005:=by rw[hM,List.length_append];omega
 have HE:=Lib.hid (show tlv t L=M by rw[hM,hN,htc,aju])
 have HM:=Lib.hid hM
 have HN:=Lib.hid hN
 have hc:(t:Int) % 256=tc.toNat:=by rw[htc];simp
 have hR0:=dC.lit (T:=5) (Below.refl _ w) [tc] (cs:=#[.int .u8 tc.toNat]) rfl (by simp)
 clear htc hN hM
 rw[HE.out]
 have hlen:(L.length<128)∨(¬L.length<128∧L.length<256)∨(¬L.length<256∧L.length<65536)∨¬L.length<65536:=by omega
 go_enter Tryz.func160,Tryz.ntmps160
 rcases hlen with hl|hl|hl|hl
 all_goals first
  |(have E:=Lib.hid (show N=[tc]++[UInt8.ofNat L.length] by(rw[HN.out];unfold oK;rw[if_pos hl]));have g1:(L.length:Int)<128:=(by omega);clear hl;go_wp2_with (first|(at_builtin;refine iT (L:=M) rfl _ _ _ rfl eP b8 hR2 rfl rfl rfl rfl (h.later hR2.b) HM.out (by omega) ?_;intro s3 w3 dV)|(at_builtin;refine iT (L:=N) rfl _ _ _ rfl eP b8 (hR0.later (ay (Below.refl _ _) _)) (n:=1) rfl rfl rfl (m:=1) rfl (BytesAt.lit _ [UInt8.ofNat L.length] (by simp) (by simp;try omega) (by simp[lim])) E.out (by omega) ?_;intro s2 w2 hR2)))
  |(have E:=Lib.hid (show N=[tc]++[129,UInt8.ofNat L.length] by(rw[HN.out];unfold oK;rw[if_neg hl.1,if_pos hl.2]));have g1:¬(L.length:Int)<128:=(by omega);have g2:(L.length:Int)<256:=(by omega);clear hl;go_wp2_with (first|(at_builtin;refine iT (L:=M) rfl _ _ _ rfl eP b8 hR2 rfl rfl rfl rfl (h.later hR2.b) HM.out (by omega) ?_;intro s3 w3 dV)|(at_builtin;refine iT (L:=N) rfl _ _ _ rfl eP b8 (hR0.later (ay (Below.refl _ _) _)) (n:=1) rfl rfl rfl (m:=2) rfl (BytesAt.lit _ [129,UInt8.ofNat L.length] (by simp) (by simp;try omega) (by simp[lim])) E.out (by omega) ?_;intro s2 w2 hR2)))
  |(have E:=Lib.hid (show N=[tc]++[130,UInt8.ofNat (L.length / 256),UInt8.ofNat L.length] by(rw[HN.out];unfold oK;rw[if_neg (by omega),if_neg hl.1,if_pos hl.2]));have g1:¬(L.length:Int)<128:=(by omega);have g2:¬(L.length:Int)<256:=(by omega);have g3:(L.length:Int)<65536:=(by omega);clear hl;go_wp2_with (first|(at_builtin;refine iT (L:=M) rfl _ _ _ rfl eP b8 hR2 rfl rfl rfl rfl (h.later hR2.b) HM.out (by omega) ?_;intro s3 w3 dV)|(at_builtin;refine iT (L:=N) rfl _ _ _ rfl eP b8 (hR0.later (ay (Below.refl _ _) _)) (n:=1) rfl rfl rfl (m:=3) rfl (BytesAt.lit _ [130,UInt8.ofNat (L.length / 256),UInt8.ofNat L.length] (by simp) (by simp;try omega) (by simp[lim])) E.out (by omega) ?_;intro s2 w2 hR2)))
  |(have E:=Lib.hid (show N=[tc]++[131,UInt8.ofNat (L.length / 65536),UInt8.ofNat (L.length / 256),UInt8.ofNat L.length] by(rw[HN.out];unfold oK;rw[if_neg (by omega),if_neg (by omega),if_neg hl]));have g1:¬(L.length:Int)<128:=(by omega);have g2:¬(L.length:Int)<256:=(by omega);have g3:¬(L.length:Int)<65536:=(by omega);clear hl;go_wp2_with (first|(at_builtin;refine iT (L:=M) rfl _ _ _ rfl eP b8 hR2 rfl rfl rfl rfl (h.later hR2.b) HM.out (by omega) ?_;intro s3 w3 dV)|(at_builtin;refine iT (L:=N) rfl _ _ _ rfl eP b8 (hR0.later (ay (Below.refl _ _) _)) (n:=1) rfl rfl rfl (m:=4) rfl (BytesAt.lit _ [131,UInt8.ofNat (L.length / 65536),UInt8.ofNat (L.length / 256),UInt8.ofNat L.length] (by simp) (by simp;try omega) (by simp[lim])) E.out (by omega) ?_;intro s2 w2 hR2)))
 all_goals
  go_ret
  exact dV.D6 (by unfold lim;omega)
theorem Wu(v n:Nat)(w:World)(hn:n≤8):Calls Tryz.prog 161 #[.int .i64 v,.int .i64 n] w (bG w (bM v n)):=by
 have hlen:=gZ n v
 go_enter Tryz.func161,Tryz.ntmps161
 go_wp2_with fail
 go_loopw [5,6] (fun bv iv wr=>∃(k:Nat) (sb:Sl),k≤n∧iv=.int .i64 ((n:Int)-1-k)∧bv=.slice sb.a k sb.cap∧dC 5 w wr sb ((bM v n).take k)) (fun _ i _=>(intOf i+1).toNat)
 case atStart=>exact⟨0,⟨none,0⟩,Nat.zero_le _,by simp,rfl,dC.none _ (Below.refl _ _)⟩
 case round=>
  obtain⟨k,sb,hk,rfl,rfl,hR⟩:=hrel
  obtain⟨M,hM⟩:∃M,M=(bM v n).take k:=⟨_,rfl⟩
  have lJ:=Lib.hid (show k=M.length by rw[hM,List.length_take];omega)
  rw[←hM]at hR
  by_cases hlt:k<n
  ·obtain⟨M',hM'⟩:∃M',M'=(bM v n).take (k+1):=⟨_,rfl⟩
   obtain⟨c,hc⟩:∃c,c=UInt8.ofNat (v / 256 ^ (n-1-k)):=⟨_,rfl⟩
   obtain⟨j,hj⟩:∃j:Nat,j=n-1-k:=⟨_,rfl⟩
   have hij:(n:Int)-1-k=j:=by omega
   have HA:=Lib.hid (show M'=M++[c] by rw[hM',hM,hc,List.take_add_one,DV _ _ _ hlt];rfl)
   have xO:=Lib.hid (show M'.length=k+1 by rw[hM',List.length_take];omega)
   have uF:=Lib.hid hM'
   rw[hij]
   rw[←hj]at hc
   have HJ:=Lib.hid hj
   have Wv:j<8:=by omega
   clear hM hM' hj hij
   go_wp2_with (at_builtin;refine iT (L:=M') rfl _ _ _ rfl eP b8 (hR.later (ay (Below.refl _ _) _)) rfl lJ.out (m:=1) rfl rfl (BytesAt.lit _ [c] (by simp) (by rw[Wn,hc];rfl) (by simp[lim])) HA.out (by rw[xO.out];omega) ?_;intro s3 w3 dV)
   go_roundw
   case rel=>exact⟨k+1,s3,by omega,by have:=HJ.out;go_num,by rw[xO.out],by rw[←uF.out];exact dV⟩
   case measure=>simp[intOf]
  ·obtain rfl:k=n:=by omega
   have HE:=Lib.hid (show M=bM v k by rw[hM,List.take_of_length_le (by omega)])
   have HL:=Lib.hid (show(bM v k).length=k from hlen)
   clear hM hlen
   go_wp2_with fail
   go_ret
   rw[←HE.out]
   have:=hR.D6 (by rw[←lJ.out];unfold lim;omega)
   rw[←lJ.out]at this
   exact this
theorem ajy(v:Nat)(w:World)(hv:v<4611686018427387904):Calls Tryz.prog 158 #[.int .i64 v] w (bG w (eU v)):=by
 have hlen:=Wq 8 v (by decide) (by omega)
 have hq:=Ws v
 have HI:=Lib.hid (show eU v=tlv 2 (lead (pG v)) by rw[←ajj];rfl)
 have HD:=Lib.hid (ajv v)
 have HN:=Lib.hid (Wh v)
 obtain⟨D,hD⟩:∃D,D=pG v:=⟨_,rfl⟩
 rw[←hD]at HI HD HN hlen
 clear hD
 rw[HI.out]
 go_enter Tryz.func158,Tryz.ntmps158
 go_wp2_with fail
 go_loopw [0,3] (fun vv bv wr=>∃(m:Nat) (sb:Sl) (M:List UInt8),m≤v∧vv=.int .i64 m∧bv=.slice sb.a M.length sb.cap∧dC 5 w wr sb M∧Hid (D=zQ m++M)) (fun vv _ _=>(intOf vv).toNat)
 case atStart=>exact⟨v / 256,_,[UInt8.ofNat v],by omega,rfl,rfl,dC.lit (Below.refl _ _) [UInt8.ofNat v] (by simp) (by simp),HD.out⟩
 case round=>
  clear hq
  obtain⟨m,sb,M,hm,rfl,rfl,hR,hH⟩:=hrel
  have BB:M.length≤8:=by have:=congrArg List.length hH.out;rw[List.length_append]at this;omega
  have vW:=hR.bytes (by unfold lim;omega)
  by_cases h0:0<m
  ·have hq:=Ws m
   obtain⟨M',hM'⟩:∃M',M'=[UInt8.ofNat m]++M:=⟨_,rfl⟩
   have HA:=Lib.hid hM'
   have ajz:M'.length≤9:=by rw[hM'];simp;omega
   have HH:=Lib.hid (show D=zQ (m / 256)++M' by rw[hH.out,Wp h0,hM',List.append_assoc])
   clear hM' hH
   have hR0:=dC.lit (T:=5) hR.b [UInt8.ofNat m] (cs:=#[.int .u8 ((m:Int) % 256)]) (by simp) (by simp)
   go_wp2_with (at_builtin;refine iT (L:=M') rfl _ _ _ rfl eP b8 hR0 (n:=1) rfl rfl rfl rfl (vW.later (ay (Below.refl _ _) _)) HA.out (by omega) ?_;intro s3 w3 dV)
   go_roundw
   case rel=>exact⟨m / 256,s3,M',by omega,by first|rfl|go_num,rfl,dV,HH.out⟩
   case measure=>simp[intOf];omega
  ·obtain rfl:m=0:=by omega
   have HE:=Lib.hid (show D=M by rw[hH.out];rfl)
   obtain rfl:=HE.out
   clear HE hH
   have hD0:0<D.length:=List.length_pos_iff.2 HN.out
   obtain⟨b,o,ha,hc⟩:=vW.get 0 hD0
   obtain⟨sa,sc⟩:=sb
   dsimp only at ha
   subst ha
   simp only[Nat.add_zero]at hc
   by_cases hbig:128≤D[0].toNat
   ·obtain⟨M',hM'⟩:∃M',M'=[0]++D:=⟨_,rfl⟩
    have HL:=Lib.hid (show lead D=M' by rw[ajw hD0 hbig,hM'])
    have ajz:M'.length≤9:=by rw[hM'];simp;omega
    have HA:=Lib.hid hM'
    clear hM'
    rw[HL.out]
    have hR0:=dC.lit (T:=5) hR.b [0] (cs:=#[.int .u8 0]) rfl (by simp)
    have hbi:(128:Int)≤(D[0].toNat:Int):=by omega
    go_wp2_with (at_builtin;refine iT (L:=M') rfl _ _ _ rfl eP b8 hR0 (n:=1) rfl rfl rfl rfl (vW.later (ay (Below.refl _ _) _)) HA.out (by omega) ?_;intro s3 w3 dV)
    refine(vV 2 2 _ _ M' _ rfl (dV.bytes (by unfold lim;omega)) (by omega)).mono ?_
    intro e w4 h4
    obtain⟨s4,rfl,hb4,hB4⟩:=bG.from h4 dV.b
    clear hR hR0 dV vW hc
    go_wp2_with fail
    go_ret
    rw[HL.out]
    exact⟨s4,rfl,hb4,hB4⟩
   ·have HL:=Lib.hid (show lead D=D from ajx hD0 hbig)
    have hbi:¬(128:Int)≤(D[0].toNat:Int):=by omega
    go_wp2_with fail
    refine(vV 2 2 _ _ D _ rfl vW (by omega)).mono ?_
    intro e w4 h4
    obtain⟨s4,rfl,hb4,hB4⟩:=bG.from h4 hR.b
    clear hR vW hc
    go_wp2_with fail
    go_ret
    rw[HL.out]
    exact⟨s4,rfl,hb4,hB4⟩
theorem ajA(v:Nat)(w:World):Calls Tryz.prog 159 #[.int .i64 v] w (bG w (lI v)):=by
 have hl:=gZ 6 v
 have HT:=Lib.hid (show lI v=tlv 24 (bM v 6) from rfl)
 rw[HT.out]
 go_enter Tryz.func159,Tryz.ntmps159
 go_wp2_with fail
 refine(Wu v 6 _ (by decide)).mono ?_
 rintro e w1 ⟨s1,rfl,hb1,hB1⟩
 go_wp2_with fail
 refine(vV 24 24 _ _ (bM v 6) _ rfl hB1.out (by omega)).mono ?_
 intro e w4 h4
 obtain⟨s4,rfl,hb4,hB4⟩:=bG.from h4 hb1
 go_wp2_with fail
 go_ret
 exact⟨s4,rfl,hb4,hB4⟩
theorem Wx(a:Option Addr)(cap:Nat)(L:List UInt8)(w:World)(h:BytesAt w a L)(hn:L.length≤1000000):Calls Tryz.prog 93 #[.slice a L.length cap] w (bG w (gp L)):=by
 go_enter Tryz.func93,Tryz.ntmps93
 go_wp2_with fail
 refine(vV 4 4 _ _ L _ rfl h hn).mono ?_
 rintro e w4 ⟨s4,rfl,hb4,hB4⟩
 go_wp2_with fail
 go_ret
 exact⟨s4,rfl,hb4,hB4⟩
theorem Wy(w:World)(s:ByteArray)(hs:s.size≤lim):∃cap w',(convert 9 58 (.string s)).run Tryz.prog w=.ok (.slice (some ⟨w.heap.size,0,none⟩) s.data.toList.length cap) w'∧Below w.heap.size w w'∧BytesAt w' (some ⟨w.heap.size,0,none⟩) s.data.toList:=by
 have hl:s.data.toList.length=s.size:=by simp
 refine⟨_,_,by rw[hl];exact run_bytes_of_string w 9 58 5 s Tryz.underlying9 Tryz.underlying58 Tryz.underlying5,ay (Below.refl _ _).drew _,by rw[hl];exact hs,fun i hi=>?_⟩
 refine⟨_,_,_,rfl,?_,s.data.toList[i],List.getElem?_eq_getElem hi,rfl⟩
 rw[show(w.drew.alloc _).cell? ⟨w.heap.size,0+i,none⟩=_ from cell_of_row (w.drew.alloc _) w.drew.heap.size (0+i) _ _ _ (World.alloc_heap_new w.drew _),Nat.zero_add,bytesRow_at s _ i (by omega)]
 simp
theorem IE(s:ByteArray)(w:World)(hs:s.size≤1000000):Calls Tryz.prog 101 #[.string s] w (bG w (eY s)):=by
 have hl:s.data.toList.length=s.size:=by simp
 obtain⟨cap,w1,hcv,hb1,hB1⟩:=Wy w s (by unfold lim;omega)
 have HT:=Lib.hid (show eY s=tlv 27 s.data.toList from rfl)
 rw[HT.out]
 obtain⟨L,hL⟩:∃L,L=s.data.toList:=⟨_,rfl⟩
 rw[←hL]at hl hcv hB1 ⊢
 have hl':L.length≤1000000:=by omega
 clear hL hl
 go_enter Tryz.func101,Tryz.ntmps101
 go_wp2_with fail
 refine(vV 27 27 _ _ L _ rfl hB1 hl').mono ?_
 intro e w4 h4
 obtain⟨s4,rfl,hb4,hB4⟩:=bG.from h4 hb1
 go_wp2_with fail
 go_ret
 exact⟨s4,rfl,hb4,hB4⟩
theorem jh(ni:Int)(n:Nat)(a:Option Addr)(cap:Nat)(L:List UInt8)(w:World)(hni:ni=n)(hn:n≤30)(h:BytesAt w a L)(hl:L.length≤1000000):Calls Tryz.prog 95 #[.int .i64 ni,.slice a L.length cap] w (bG w (bQ n L)):=by
 subst hni
 by_cases h0:L.length=0
 ·have HT:=Lib.hid (show bQ n L=[] by unfold bQ;rw[if_pos h0])
  rw[HT.out]
  go_enter Tryz.func95,Tryz.ntmps95
  go_wp2_with fail
  go_ret
  exact pJ (Below.refl _ _)
 ·have HT:=Lib.hid (show bQ n L=tlv (160+n) L by unfold bQ;rw[if_neg h0])
  rw[HT.out]
  go_enter Tryz.func95,Tryz.ntmps95
  go_wp2_with fail
  refine(vV _ (160+n) _ _ L _ (by simp) h hl).mono ?_
  rintro e w4 ⟨s4,rfl,hb4,hB4⟩
  go_wp2_with fail
  go_ret
  exact⟨s4,rfl,hb4,hB4⟩
theorem ajB(c:Bool)(v:Value)(w:World):Calls Tryz.prog 100 #[.bool c,v] w fun e w'=>e=.returned (match c with|true=>.slice none 0 0|false=>v)∧w=w':=by
 cases c<;>
 ·go_enter Tryz.func100,Tryz.ntmps100
  go_wp2_with fail
  go_ret
  exact⟨rfl,rfl⟩
end Go.Proofs.YtpfifochimkpfaaGreatDoor
