/- A part of the proof. -/
import Derived.Test.YtibhckkjciflaaaGreatDoorA09
import Derived.Lib.Bytealg
namespace Go.aI
theorem akE(b:Nat)(l:List Nat)(c i:Nat):Ce (b::l) c i=Bool.rec (Ce l c (i+1)) (.ofNat i) (Nat.beq b c):=rfl
theorem akF{b c:Nat}(hb:b<256)(hc:c<256)(h:UInt8.ofNat b=(UInt8.ofNat c)):b=c:=by
 have:=congrArg UInt8.toNat h
 simp only[UInt8.toNat_ofNat',Nat.reducePow]at this
 omega
theorem idx_eq(c:Nat)(hc:c<256):∀(l:List Nat),(∀b∈l,b<256)→∀i,Ce l c i=if Lib.indexByte (l.map UInt8.ofNat) (UInt8.ofNat c)=-1 then -1 else Lib.indexByte (l.map UInt8.ofNat) (UInt8.ofNat c)+i:=by
 intro l
 induction l with
 |nil=>intro _ i;rfl
 |cons b l ih=>
  intro hl i
  rw[akE,List.map_cons]
  have ihl:=ih (fun x hx=>hl x (by simp[hx])) (i+1)
  simp only[Lib.indexByte]
  cases hb:Nat.beq b c with
  |true=>
   have e:b=c:=Nat.eq_of_beq_eq_true hb
   subst e
   simp
  |false=>
   have hne:¬UInt8.ofNat b=(UInt8.ofNat c):=fun e=>by
    have:=akF (hl b (by simp)) hc e
    subst this
    rw[Nat.beq_refl]at hb;cases hb
   simp only[beq_iff_eq,hne,if_false]
   show Ce l c (i+1)=_
   rw[ihl]
   split
   ·simp
   ·rename_i h1
    have h0:(-1:Int)≤Lib.indexByte (l.map UInt8.ofNat) (UInt8.ofNat c):=by
     generalize l.map UInt8.ofNat=q
     induction q with
     |nil=>simp[Lib.indexByte]
     |cons x q ihq=>
       simp only[Lib.indexByte];repeat' split
       all_goals first|omega|simp_all
    rw[if_neg (by omega)]
    push_cast
    omega
end Go.aI
