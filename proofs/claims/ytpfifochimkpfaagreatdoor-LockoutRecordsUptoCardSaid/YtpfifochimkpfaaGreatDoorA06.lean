/- A part of the proof. -/
import Derived.Test.YtpfifochimkpfaaGreatDoorA05
set_option maxRecDepth 100000
set_option maxHeartbeats 8000000
namespace Go.WW
def pW(c:Int):Int:=if 97≤c∧c≤122 then 1 else if 65≤c∧c≤90 then 2 else if 48≤c∧c≤57 then 3 else 0
def yw(c:Int):Int:=if 97≤c∧c≤122 then 1 else if 65≤c∧c≤90 then 2 else if 48≤c∧c≤57 then 3 else if 32≤c∧c≤126 then 4 else 5
theorem Qy(c:Int):3<yw c↔pW c=0:=by
 unfold yw pW
 (repeat' split)<;>omega
def qN(c:UInt8):Bool:=!(pW c.toNat == 0) || (c.toNat:Int) == 45 || (c.toNat:Int) == 95 || (c.toNat:Int) == 46
def oC(s:ByteArray):Bool:=s.data.toList.all qN&&aC s.size 1 32
def dA(p:ah):Bool:=oC p.name&&aC p.length 1 64&&aC p.classes 1 5&&aC p.distinct 0 p.length&&aC p.history 0 16&&aC p.iU 0 1099511627776&&aC p.eG 0 1099511627776&&(p.eG == 0 || decide (p.iU≤p.eG))&&aC p.fails 0 1000&&aC p.window 0 1099511627776&&aC p.lock 0 1099511627776
theorem Qz(p:ah)(h:¬oC p.name=true):dA p=false:=by
 have hb:(oC p.name)=false:=by first|exact h|(simpa using h)|(simp;omega)
 simp only[dA,hb,Bool.false_and]
theorem QB(p:ah)(h:¬aC p.length 1 64=true):dA p=false:=by
 have hb:(aC p.length 1 64)=false:=by first|exact h|(simpa using h)|(simp;omega)
 simp only[dA,hb,Bool.false_and,Bool.and_false]
theorem QC(p:ah)(h:¬aC p.classes 1 5=true):dA p=false:=by
 have hb:(aC p.classes 1 5)=false:=by first|exact h|(simpa using h)|(simp;omega)
 simp only[dA,hb,Bool.false_and,Bool.and_false]
theorem QE(p:ah)(h:¬aC p.distinct 0 p.length=true):dA p=false:=by
 have hb:(aC p.distinct 0 p.length)=false:=by first|exact h|(simpa using h)|(simp;omega)
 simp only[dA,hb,Bool.false_and,Bool.and_false]
theorem QF(p:ah)(h:¬aC p.history 0 16=true):dA p=false:=by
 have hb:(aC p.history 0 16)=false:=by first|exact h|(simpa using h)|(simp;omega)
 simp only[dA,hb,Bool.false_and,Bool.and_false]
theorem QG(p:ah)(h:¬aC p.iU 0 1099511627776=true):dA p=false:=by
 have hb:(aC p.iU 0 1099511627776)=false:=by first|exact h|(simpa using h)|(simp;omega)
 simp only[dA,hb,Bool.false_and,Bool.and_false]
theorem QH(p:ah)(h:¬aC p.eG 0 1099511627776=true):dA p=false:=by
 have hb:(aC p.eG 0 1099511627776)=false:=by first|exact h|(simpa using h)|(simp;omega)
 simp only[dA,hb,Bool.false_and,Bool.and_false]
theorem QI(p:ah)(h:¬((p.eG == 0)=true∨p.iU≤p.eG)):dA p=false:=by
 have hb:(p.eG == 0 || decide (p.iU≤p.eG))=false:=by first|exact h|(simpa using h)|(simp;omega)
 simp only[dA,hb,Bool.false_and,Bool.and_false]
theorem JL(p:ah)(h:¬aC p.fails 0 1000=true):dA p=false:=by
 have hb:(aC p.fails 0 1000)=false:=by first|exact h|(simpa using h)|(simp;omega)
 simp only[dA,hb,Bool.false_and,Bool.and_false]
theorem JM(p:ah)(h:¬aC p.window 0 1099511627776=true):dA p=false:=by
 have hb:(aC p.window 0 1099511627776)=false:=by first|exact h|(simpa using h)|(simp;omega)
 simp only[dA,hb,Bool.false_and,Bool.and_false]
theorem abC(p:ah)(h:¬aC p.lock 0 1099511627776=true):dA p=false:=by
 have hb:(aC p.lock 0 1099511627776)=false:=by first|exact h|(simpa using h)|(simp;omega)
 simp only[dA,hb,Bool.and_false]
theorem Fq(p:ah)(h1:oC p.name=true)(h2:aC p.length 1 64=true)(h3:aC p.classes 1 5=true)(h4:aC p.distinct 0 p.length=true)(h5:aC p.history 0 16=true)(h6:aC p.iU 0 1099511627776=true)(h7:aC p.eG 0 1099511627776=true)(h8:(p.eG == 0)=true∨p.iU≤p.eG)(h9:aC p.fails 0 1000=true)(h10:aC p.window 0 1099511627776=true):dA p=(aC p.lock 0 1099511627776):=by
 have e1:(oC p.name)=true:=by first|exact h1|(simpa using h1)|(simp;omega)
 have e2:(aC p.length 1 64)=true:=by first|exact h2|(simpa using h2)|(simp;omega)
 have e3:(aC p.classes 1 5)=true:=by first|exact h3|(simpa using h3)|(simp;omega)
 have e4:(aC p.distinct 0 p.length)=true:=by first|exact h4|(simpa using h4)|(simp;omega)
 have e5:(aC p.history 0 16)=true:=by first|exact h5|(simpa using h5)|(simp;omega)
 have e6:(aC p.iU 0 1099511627776)=true:=by first|exact h6|(simpa using h6)|(simp;omega)
 have e7:(aC p.eG 0 1099511627776)=true:=by first|exact h7|(simpa using h7)|(simp;omega)
 have e8:(p.eG == 0 || decide (p.iU≤p.eG))=true:=by first|exact h8|(simpa using h8)|(simp;omega)
 have e9:(aC p.fails 0 1000)=true:=by first|exact h9|(simpa using h9)|(simp;omega)
 have e10:(aC p.window 0 1099511627776)=true:=by first|exact h10|(simpa using h10)|(simp;omega)
 simp only[dA,e1,e2,e3,e4,e5,e6,e7,e8,e9,e10,Bool.true_and]
theorem QJ(p:ah)(h1:oC p.name=true)(h2:aC p.length 1 64=true)(h3:aC p.classes 1 5=true)(h4:aC p.distinct 0 p.length=true)(h5:aC p.history 0 16=true)(h6:aC p.iU 0 1099511627776=true)(h7:aC p.eG 0 1099511627776=true)(h8:p.eG=0∨p.iU≤p.eG)(h9:aC p.fails 0 1000=true)(h10:aC p.window 0 1099511627776=true):dA p=aC p.lock 0 1099511627776:=
 Fq p h1 h2 h3 h4 h5 h6 h7 (h8.imp (fun h=>by simpa using h) id) h9 h10
theorem QK(p:ah)(h:¬p.eG=0)(h':p.eG<p.iU):dA p=false:=QI p (by simp only[beq_iff_eq];omega)
theorem QL{c:UInt8}(h:pW c.toNat=0)(h1:¬(c.toNat:Int)=45)(h2:¬(c.toNat:Int)=95)(h3:¬(c.toNat:Int)=46):qN c=false:=by simp[qN,h];omega
theorem QM{c:UInt8}(h:¬pW c.toNat=0):qN c=true:=by simp[qN,h]
theorem Aq{c:UInt8}(h:(c.toNat:Int)=45∨(c.toNat:Int)=95∨(c.toNat:Int)=46):qN c=true:=by simp[qN];omega
theorem QN{s:ByteArray}(k:Nat)(hk:k<s.size)(h:qN s[k]=false):oC s=false:=by rw[oC,BX s k hk h];rfl
theorem QO{s:ByteArray}(k:Nat)(hk:s.size≤k)(h:(s.data.toList.take k).all qN=true):oC s=aC s.size 1 32:=by rw[oC,BZ s k hk h];rfl
end Go.WW
namespace Go.Proofs.YtpfifochimkpfaaGreatDoor
open Go.RowKit Go.WW
theorem letter_c(c:Int)(w:World):Calls Tryz.prog 174 #[.int .u8 c] w fun e w'=>e=.returned (.int .i64 (pW c))∧w=w':=by
 rcases(show(97≤c∧c≤122)∨(65≤c∧c≤90)∨(48≤c∧c≤57)∨c<48∨(57<c∧c<65)∨(90<c∧c<97)∨122<c by omega)with⟨h1,h2⟩|⟨h1,h2⟩|⟨h1,h2⟩|h1|⟨h1,h2⟩|⟨h1,h2⟩|h1
 all_goals
  obtain⟨n,hn⟩:∃n,pW c=n:=⟨_,rfl⟩
  have hn':=hn
  unfold pW at hn'
  repeat (first|rw[if_pos (by omega)]at hn'|rw[if_neg (by omega)]at hn')
  subst hn'
  have HN:=Lib.hid hn
  clear hn
  go_enter Tryz.func174,Tryz.ntmps174
  go_wp2
  go_ret
  exact⟨by rw[HN.out];rfl,rfl⟩
theorem Ci(c:Int)(w:World):Calls Tryz.prog 175 #[.int .u8 c] w fun e w'=>e=.returned (.int .i64 (yw c))∧w=w':=by
 rcases(show(97≤c∧c≤122)∨(65≤c∧c≤90)∨(48≤c∧c≤57)∨c<32∨(32≤c∧c<48)∨(57<c∧c<65)∨(90<c∧c<97)∨(122<c∧c≤126)∨126<c by omega)with⟨h1,h2⟩|⟨h1,h2⟩|⟨h1,h2⟩|h1|⟨h1,h2⟩|⟨h1,h2⟩|⟨h1,h2⟩|⟨h1,h2⟩|h1
 all_goals
  obtain⟨n,hn⟩:∃n,yw c=n:=⟨_,rfl⟩
  have hn':=hn
  unfold yw at hn'
  repeat (first|rw[if_pos (by omega)]at hn'|rw[if_neg (by omega)]at hn')
  subst hn'
  have HN:=Lib.hid hn
  clear hn
  go_enter Tryz.func175,Tryz.ntmps175
  go_wp2
  go_ret
  exact⟨by rw[HN.out];rfl,rfl⟩
theorem abD(s:ByteArray)(w:World)(hs:s.size≤lim):Calls Tryz.prog 125 #[.string s] w fun e w'=>e=.returned (.bool (oC s))∧w=w':=by
 have hs':s.size≤4294967000:=hs
 go_enter Tryz.func125,Tryz.ntmps125
 go_wp2
 go_loop [3] (fun i=>∃k:Nat,k≤s.size∧i=.int .i64 k∧Hid ((s.data.toList.take k).all qN=true)) (fun i=>s.size-(intOf i).toNat)
 case atStart=>exact⟨0,Nat.zero_le _,rfl,by simp[Hid]⟩
 case round=>
  obtain⟨k,hk,rfl,hall⟩:=hrel
  by_cases hlt:k<s.size
  ·by_cases hz:pW s[k].toNat=0
   ·have hz':(pW s[k].toNat == 0)=true:=by simp[hz]
    by_cases c1:(s[k].toNat:Int)=45
    ·have b1:((s[k].toNat:Int) != 45)=false:=by simp[c1]
     have HS:=Lib.hid (oW s k hlt hall.out (Aq (.inl c1)))
     clear c1 hz
     go_wp2_with (go_at_call 174;refine(letter_c _ _).mono ?_;rintro e w' ⟨rfl,rfl⟩)
     go_round
     case rel=>exact⟨k+1,by omega,by go_num,HS.out⟩
     case measure=>simp[intOf];omega
    ·have b1:((s[k].toNat:Int) != 45)=true:=by simp[c1]
     by_cases c2:(s[k].toNat:Int)=95
     ·have b2:((s[k].toNat:Int) != 95)=false:=by simp[c2]
      have HS:=Lib.hid (oW s k hlt hall.out (Aq (.inr (.inl c2))))
      clear c1 c2 hz
      go_wp2_with (go_at_call 174;refine(letter_c _ _).mono ?_;rintro e w' ⟨rfl,rfl⟩)
      go_round
      case rel=>exact⟨k+1,by omega,by go_num,HS.out⟩
      case measure=>simp[intOf];omega
     ·have b2:((s[k].toNat:Int) != 95)=true:=by simp[c2]
      by_cases c3:(s[k].toNat:Int)=46
      ·have b3:((s[k].toNat:Int) != 46)=false:=by simp[c3]
       have HS:=Lib.hid (oW s k hlt hall.out (Aq (.inr (.inr c3))))
       clear c1 c2 c3 hz
       go_wp2_with (go_at_call 174;refine(letter_c _ _).mono ?_;rintro e w' ⟨rfl,rfl⟩)
       go_round
       case rel=>exact⟨k+1,by omega,by go_num,HS.out⟩
       case measure=>simp[intOf];omega
      ·have b3:((s[k].toNat:Int) != 46)=true:=by simp[c3]
       have HS:=Lib.hid (QN k hlt (QL hz c1 c2 c3))
       clear c1 c2 c3 hz
       go_wp2_with (go_at_call 174;refine(letter_c _ _).mono ?_;rintro e w' ⟨rfl,rfl⟩)
       go_ret
       exact⟨by rw[HS.out];rfl,rfl⟩
   ·have HS:=Lib.hid (oW s k hlt hall.out (QM hz))
    have hz':(pW s[k].toNat == 0)=false:=by simp[hz]
    clear hz
    go_wp2_with (go_at_call 174;refine(letter_c _ _).mono ?_;rintro e w' ⟨rfl,rfl⟩)
    go_round
    case rel=>exact⟨k+1,by omega,by go_num,HS.out⟩
    case measure=>simp[intOf];omega
  ·have HE:=Lib.hid (QO k (by omega) hall.out)
   go_wp2_with (go_at_call 126;refine(P8 _ _ _ _).mono ?_;rintro e w' ⟨rfl,rfl⟩)
   go_ret
   exact⟨by rw[HE.out];rfl,rfl⟩
theorem abE(s:ByteArray)(w:World)(hs:s.size≤lim):Calls Tryz.prog 129 #[.string s] w fun e w'=>e=.returned (.bool (oC s))∧w=w':=by
 have hs':s.size≤4294967000:=hs
 go_enter Tryz.func129,Tryz.ntmps129
 go_wp2
 go_loop [7] (fun i=>∃k:Nat,k≤s.size∧i=.int .i64 k∧Hid ((s.data.toList.take k).all qN=true)) (fun i=>s.size-(intOf i).toNat)
 case atStart=>exact⟨0,Nat.zero_le _,rfl,by simp[Hid]⟩
 case round=>
  obtain⟨k,hk,rfl,hall⟩:=hrel
  by_cases hlt:k<s.size
  ·by_cases hz:pW s[k].toNat=0
   ·have hz':decide (3<yw s[k].toNat)=true:=by simpa using(Qy _).2 hz
    by_cases c1:(s[k].toNat:Int)=45
    ·have b1:((s[k].toNat:Int) != 45)=false:=by simp[c1]
     have HS:=Lib.hid (oW s k hlt hall.out (Aq (.inl c1)))
     clear c1 hz
     go_wp2_with (go_at_call 175;refine(Ci _ _).mono ?_;rintro e w' ⟨rfl,rfl⟩)
     go_round
     case rel=>exact⟨k+1,by omega,by go_num,HS.out⟩
     case measure=>simp[intOf];omega
    ·have b1:((s[k].toNat:Int) != 45)=true:=by simp[c1]
     by_cases c2:(s[k].toNat:Int)=95
     ·have b2:((s[k].toNat:Int) != 95)=false:=by simp[c2]
      have HS:=Lib.hid (oW s k hlt hall.out (Aq (.inr (.inl c2))))
      clear c1 c2 hz
      go_wp2_with (go_at_call 175;refine(Ci _ _).mono ?_;rintro e w' ⟨rfl,rfl⟩)
      go_round
      case rel=>exact⟨k+1,by omega,by go_num,HS.out⟩
      case measure=>simp[intOf];omega
     ·have b2:((s[k].toNat:Int) != 95)=true:=by simp[c2]
      by_cases c3:(s[k].toNat:Int)=46
      ·have b3:((s[k].toNat:Int) != 46)=false:=by simp[c3]
       have HS:=Lib.hid (oW s k hlt hall.out (Aq (.inr (.inr c3))))
       clear c1 c2 c3 hz
       go_wp2_with (go_at_call 175;refine(Ci _ _).mono ?_;rintro e w' ⟨rfl,rfl⟩)
       go_round
       case rel=>exact⟨k+1,by omega,by go_num,HS.out⟩
       case measure=>simp[intOf];omega
      ·have b3:((s[k].toNat:Int) != 46)=true:=by simp[c3]
       have HS:=Lib.hid (QN k hlt (QL hz c1 c2 c3))
       clear c1 c2 c3 hz
       go_wp2_with (go_at_call 175;refine(Ci _ _).mono ?_;rintro e w' ⟨rfl,rfl⟩)
       go_ret
       exact⟨by rw[HS.out];rfl,rfl⟩
   ·have HS:=Lib.hid (oW s k hlt hall.out (QM hz))
    have hz':decide (3<yw s[k].toNat)=false:=by simpa using mt (Qy _).1 hz
    clear hz
    go_wp2_with (go_at_call 175;refine(Ci _ _).mono ?_;rintro e w' ⟨rfl,rfl⟩)
    go_round
    case rel=>exact⟨k+1,by omega,by go_num,HS.out⟩
    case measure=>simp[intOf];omega
  ·have HE:=Lib.hid (QO k (by omega) hall.out)
   go_wp2_with (go_at_call 128;refine(wU _ _ _ _).mono ?_;rintro e w' ⟨rfl,rfl⟩)
   go_ret
   exact⟨by rw[HE.out];rfl,rfl⟩
theorem Ar(v:Int)(w:World):Calls Tryz.prog 127 #[.int .i64 v] w fun e w'=>e=.returned (.bool (aC v 0 1099511627776))∧w=w':=by
 go_enter Tryz.func127,Tryz.ntmps127
 go_wp2_with (go_at_call 128;refine(wU _ _ _ _).mono ?_;rintro e w' ⟨rfl,rfl⟩)
 go_ret
 exact⟨rfl,rfl⟩
theorem QQ(p:ah)(w:World)(hs:p.name.size≤lim):Calls Tryz.prog 65 #[.agg (ak p)] w fun e w'=>e=.returned (.bool (dA p))∧Below w.heap.size w w':=by
 go_enter Tryz.func65,Tryz.ntmps65
 go_wp2_with (first|(go_at_call 125;refine(abD _ _ hs).mono ?_;rintro e w' ⟨rfl,rfl⟩)|(go_at_call 126;refine(P8 _ _ _ _).mono ?_;rintro e w' ⟨rfl,rfl⟩))
 all_goals go_ret
 all_goals exact⟨by first|(rw[Qz p ‹_›];rfl)|(rw[QB p ‹_›];rfl)|(rw[QC p ‹_›];rfl)|(rw[QE p ‹_›];rfl)|(rw[QF p ‹_›];rfl)|(rw[QG p ‹_›];rfl)|(rw[QH p ‹_›];rfl)|(rw[QI p ‹_›];rfl)|(rw[JL p ‹_›];rfl)|(rw[JM p ‹_›];rfl)|(rw[abC p ‹_›];rfl)|(rw[Fq p ‹_› ‹_› ‹_› ‹_› ‹_› ‹_› ‹_› ‹_› ‹_› ‹_›];rfl)|(rw[QJ p ‹_› ‹_› ‹_› ‹_› ‹_› ‹_› ‹_› (.inl ‹p.eG=0›) ‹_› ‹_›];rfl)|(rw[QJ p ‹_› ‹_› ‹_› ‹_› ‹_› ‹_› ‹_› (.inr ‹p.iU≤p.eG›) ‹_› ‹_›];rfl)|(rw[QK p ‹_› ‹_›];rfl),(Below.refl _ _).alloc (Nat.le_refl _) _⟩
theorem Cj(p:ah)(w:World)(hs:p.name.size≤lim):Calls Tryz.prog 66 #[.agg (ak p)] w fun e w'=>e=.returned (.bool (dA p))∧Below w.heap.size w w':=by
 go_enter Tryz.func66,Tryz.ntmps66
 go_wp2_with fail
 refine(abE _ _ hs).mono ?_
 rintro e w' ⟨rfl,rfl⟩
 cases h1:oC p.name
 ·have HN:=Lib.hid (Qz p (by simp[h1]))
  go_wp2_with fail
  all_goals go_ret
  all_goals exact⟨by rw[HN.out];rfl,(Below.refl _ _).alloc (Nat.le_refl _) _⟩
 go_wp2_with fail
 refine(wU _ _ _ _).mono ?_
 rintro e w' ⟨rfl,rfl⟩
 cases h2:aC p.length 1 64
 ·have HN:=Lib.hid (QB p (by simp[h2]))
  go_wp2_with fail
  all_goals go_ret
  all_goals exact⟨by rw[HN.out];rfl,(Below.refl _ _).alloc (Nat.le_refl _) _⟩
 go_wp2_with fail
 refine(wU _ _ _ _).mono ?_
 rintro e w' ⟨rfl,rfl⟩
 cases h3:aC p.classes 1 5
 ·have HN:=Lib.hid (QC p (by simp[h3]))
  go_wp2_with fail
  all_goals go_ret
  all_goals exact⟨by rw[HN.out];rfl,(Below.refl _ _).alloc (Nat.le_refl _) _⟩
 go_wp2_with fail
 refine(wU _ _ _ _).mono ?_
 rintro e w' ⟨rfl,rfl⟩
 cases h4:aC p.distinct 0 p.length
 ·have HN:=Lib.hid (QE p (by simp[h4]))
  go_wp2_with fail
  all_goals go_ret
  all_goals exact⟨by rw[HN.out];rfl,(Below.refl _ _).alloc (Nat.le_refl _) _⟩
 go_wp2_with fail
 refine(wU _ _ _ _).mono ?_
 rintro e w' ⟨rfl,rfl⟩
 cases h5:aC p.history 0 16
 ·have HN:=Lib.hid (QF p (by simp[h5]))
  go_wp2_with fail
  all_goals go_ret
  all_goals exact⟨by rw[HN.out];rfl,(Below.refl _ _).alloc (Nat.le_refl _) _⟩
 go_wp2_with fail
 refine(Ar _ _).mono ?_
 rintro e w' ⟨rfl,rfl⟩
 cases h6:aC p.iU 0 1099511627776
 ·have HN:=Lib.hid (QG p (by simp[h6]))
  go_wp2_with fail
  all_goals go_ret
  all_goals exact⟨by rw[HN.out];rfl,(Below.refl _ _).alloc (Nat.le_refl _) _⟩
 go_wp2_with fail
 refine(Ar _ _).mono ?_
 rintro e w' ⟨rfl,rfl⟩
 cases h7:aC p.eG 0 1099511627776
 ·have HN:=Lib.hid (QH p (by simp[h7]))
  go_wp2_with fail
  all_goals go_ret
  all_goals exact⟨by rw[HN.out];rfl,(Below.refl _ _).alloc (Nat.le_refl _) _⟩
 by_cases hz:p.eG=0
 ·have hz':(p.eG == 0)=true:=by simp[hz]
  have h8:(p.eG == 0)=true∨p.iU≤p.eG:=.inl hz'
  clear hz
  go_wp2_with fail
  refine(wU _ _ _ _).mono ?_
  rintro e w' ⟨rfl,rfl⟩
  cases h9:aC p.fails 0 1000
  ·have HN:=Lib.hid (JL p (by simp[h9]))
   go_wp2_with fail
   all_goals go_ret
   all_goals exact⟨by rw[HN.out];rfl,(Below.refl _ _).alloc (Nat.le_refl _) _⟩
  go_wp2_with fail
  refine(Ar _ _).mono ?_
  rintro e w' ⟨rfl,rfl⟩
  cases h10:aC p.window 0 1099511627776
  ·have HN:=Lib.hid (JM p (by simp[h10]))
   go_wp2_with fail
   all_goals go_ret
   all_goals exact⟨by rw[HN.out];rfl,(Below.refl _ _).alloc (Nat.le_refl _) _⟩
  go_wp2_with fail
  refine(Ar _ _).mono ?_
  rintro e w' ⟨rfl,rfl⟩
  have HN:=Lib.hid (Fq p h1 h2 h3 h4 h5 h6 h7 h8 h9 h10)
  go_wp2_with fail
  all_goals go_ret
  all_goals exact⟨by rw[HN.out];rfl,(Below.refl _ _).alloc (Nat.le_refl _) _⟩
 have hz':(p.eG == 0)=false:=by simp[hz]
 by_cases hm:p.iU≤p.eG
 ·have h8:(p.eG == 0)=true∨p.iU≤p.eG:=.inr hm
  clear hz
  go_wp2_with fail
  refine(wU _ _ _ _).mono ?_
  rintro e w' ⟨rfl,rfl⟩
  cases h9:aC p.fails 0 1000
  ·have HN:=Lib.hid (JL p (by simp[h9]))
   go_wp2_with fail
   all_goals go_ret
   all_goals exact⟨by rw[HN.out];rfl,(Below.refl _ _).alloc (Nat.le_refl _) _⟩
  go_wp2_with fail
  refine(Ar _ _).mono ?_
  rintro e w' ⟨rfl,rfl⟩
  cases h10:aC p.window 0 1099511627776
  ·have HN:=Lib.hid (JM p (by simp[h10]))
   go_wp2_with fail
   all_goals go_ret
   all_goals exact⟨by rw[HN.out];rfl,(Below.refl _ _).alloc (Nat.le_refl _) _⟩
  go_wp2_with fail
  refine(Ar _ _).mono ?_
  rintro e w' ⟨rfl,rfl⟩
  have HN:=Lib.hid (Fq p h1 h2 h3 h4 h5 h6 h7 h8 h9 h10)
  go_wp2_with fail
  all_goals go_ret
  all_goals exact⟨by rw[HN.out];rfl,(Below.refl _ _).alloc (Nat.le_refl _) _⟩
 have HN:=Lib.hid (QK p hz (by omega))
 clear hz
 go_wp2_with fail
 all_goals go_ret
 all_goals exact⟨by rw[HN.out];rfl,(Below.refl _ _).alloc (Nat.le_refl _) _⟩
end Go.Proofs.YtpfifochimkpfaaGreatDoor
namespace Go.WW
open Go.RowKit
inductive Split:ByteArray→List ByteArray→Prop
 |last (s:ByteArray) (h:Lib.indexByte s.data.toList 46<0):Split s [s]
 |more (s:ByteArray) (k:Nat) (ys:List ByteArray) (h:Lib.indexByte s.data.toList 46=(k:Int)) (hk:k<s.size) (t:Split (s.extract (k+1) s.size) ys):Split s (s.extract 0 k::ys)
def JO(w:World)(b:Nat):Nat:=match w.cell? ⟨b,0,none⟩with|some (.string s)=>s.size|_=>0
theorem QR{w:World}{b:Nat}{s:ByteArray}(h:w.cell? ⟨b,0,none⟩=some (.string s)):JO w b=s.size:=by unfold JO;rw[h]
theorem JP(s:ByteArray):Lib.indexByte s.data.toList 46=-1∨∃k:Nat,Lib.indexByte s.data.toList 46=(k:Int)∧k<s.size:=by
 have:∀l:List UInt8,Lib.indexByte l 46=-1∨∃k:Nat,Lib.indexByte l 46=(k:Int)∧k<l.length:=by
  intro l
  induction l with
  |nil=>left;rfl
  |cons b l ih=>
   unfold Lib.indexByte
   by_cases hb:(b == 46)=true
   ·right;exact⟨0,by simp[hb],by simp⟩
   ·rcases ih with h|⟨k,h,hk⟩
    ·left;simp[hb,h]
    ·right;refine⟨k+1,?_,by simp;omega⟩
     have:¬((k:Int)=-1):=by omega
     simp[hb,h,this]
 simpa using this s.data.toList
theorem abG(n:Nat):∀s:ByteArray,s.size≤n→∃ys,Split s ys:=by
 induction n with
 |zero=>
  intro s h
  rcases JP s with hi|⟨k,hi,hk⟩
  ·exact⟨_,.last s (by rw[hi];decide)⟩
  ·omega
 |succ n ih=>
  intro s h
  rcases JP s with hi|⟨k,hi,hk⟩
  ·exact⟨_,.last s (by rw[hi];decide)⟩
  ·obtain⟨ys,hys⟩:=ih (s.extract (k+1) s.size) (by simp;omega)
   exact⟨_,.more s k ys hi hk hys⟩
end Go.WW
namespace Go.Proofs.YtpfifochimkpfaaGreatDoor
open Go.RowKit Go.WW
attribute [local go_sem] Oper.semAt_some
theorem abH(n:Nat)(hn:1≤n)(m B:Nat)(s:ByteArray)(hs:s.size≤lim)(w:World)(hB:m+2<B)
 (hc0:w.cell? ⟨m,0,none⟩=some (.string s)) (hc1:w.cell? ⟨m+1,0,none⟩=some (.string ⟨#[46]⟩)) (hc2:w.cell? ⟨m+2,0,none⟩=some (.int .i64 0)) (hf:w.frozen? ⟨m,0,none⟩=false) :
 Qw Fence.wide n Tryz.prog 206 #[.pointer (some ⟨m+1,0,none⟩),.pointer (some ⟨m,0,none⟩),.pointer (some ⟨m+2,0,none⟩)] (fun x:ByteArray=>#[.string x]) m B (fun x=>x.size≤lim) (Split s) (fun pre=>∃ys,Split s (pre++ys)) w:=by
 intro l J Jx W hW hJs hY h0
 have hs':s.size≤4294967000:=hs
 refine callsIn_of_wp Tryz.func206 rfl trivial ?_ rfl
 simp only[Tryz.ntmps206,List.size_toArray,List.length_cons,List.length_nil,Nat.reduceAdd,Nat.reduceSub,Array.replicate_succ,Array.replicate_zero,List.push_toArray,List.append_toArray,List.nil_append,List.cons_append]
 have hd1:W.cell? ⟨m+1,0,none⟩=some (.string ⟨#[46]⟩):=(hW.cell (p:=⟨m+1,0,none⟩) (by simp;omega)).trans hc1
 gi_wp2
 have hfW:W.frozen? ⟨m,0,none⟩=false:=(hW.frozen (p:=⟨m,0,none⟩) (by simp;omega)).trans hf
 gi_loopw [] (fun wr=>∃(pre:List ByteArray) (r:ByteArray),wr.cell? ⟨m,0,none⟩=some (.string r)∧wr.frozen? ⟨m,0,none⟩=false∧wr.cell? ⟨m+1,0,none⟩=some (.string ⟨#[46]⟩)∧wr.cell? ⟨m+2,0,none⟩=some (.int .i64 0)∧J pre wr∧r.size≤s.size∧∀ys,Split r ys→Split s (pre++ys)) (fun wr=>JO wr m)
 case atStart=>exact⟨[],s,(hW.cell (p:=⟨m,0,none⟩) (by simp;omega)).trans hc0,hfW,hd1,(hW.cell (p:=⟨m+2,0,none⟩) (by simp;omega)).trans hc2,h0,Nat.le_refl _,fun ys h=>h⟩
 case round=>
  obtain⟨pre,r,h1,hf1,h2,h3,hJ,hrs,hsp⟩:=hrel
  rcases JP r with hi|⟨k,hi,hk⟩
  ·obtain⟨fn,tmps,assign,body,hy,hR⟩:=hY pre r wr (by unfold lim;omega) hJ
   gi_wp2_with (refine⟨trivial,?_⟩;gi_at_call 208;refine(callsIn_wide.2 (Tryz.strings_Index_one _ _ _)).mono ?_;rintro e w' ⟨rfl,rfl⟩;rw[hi])
   refine hR.mono ?_
   have hS:Split s (pre++[r]):=hsp _ (.last r (by rw[hi];decide))
   rintro e W3 (⟨rfl,hJ3,hk3⟩|⟨rfl,hJx3⟩)
   ·gi_wp2
    go_end0
    exact⟨⟨_,rfl⟩,.inl ⟨_,hS,hJ3⟩⟩
   ·gi_wp2
    go_end0
    exact⟨⟨_,rfl⟩,.inr ⟨_,⟨[],by simpa using hS⟩,hJx3⟩⟩
  ·have hk':k≤r.size:=by omega
   have hr':r.size≤4294967000:=by omega
   obtain⟨fn,tmps,assign,body,hy,hR⟩:=hY pre (r.extract 0 k) wr (by unfold lim;simp;omega) hJ
   gi_wp2_with (refine⟨trivial,?_⟩;gi_at_call 208;refine(callsIn_wide.2 (Tryz.strings_Index_one _ _ _)).mono ?_;rintro e w' ⟨rfl,rfl⟩;rw[hi])
   refine hR.mono ?_
   rintro e W3 (⟨rfl,hJ3,hk3⟩|⟨rfl,hJx3⟩)
   ·have g1:=(hk3.cell (p:=⟨m,0,none⟩) (by simp;omega)).trans h1
    have g2:=(hk3.cell (p:=⟨m+1,0,none⟩) (by simp;omega)).trans h2
    have g3:=(hk3.cell (p:=⟨m+2,0,none⟩) (by simp;omega)).trans h3
    have gf:=(hk3.frozen (p:=⟨m,0,none⟩) (by simp;omega)).trans hf1
    gi_wp2
    go_roundw
    case rel=>
     refine⟨pre++[r.extract 0 k],r.extract (k+1) r.size,World.cell?_setCell_same' _ _ _ (by rw[g1];rfl),by rw[World.frozen?_setCell];exact gf,?_,?_,hJs _ _ _ hJ3,?_,?_⟩
     ·rw[World.cell?_setCell_other _ _ _ _ (by simp)];exact g2
     ·rw[World.cell?_setCell_other _ _ _ _ (by simp)];exact g3
     ·simp;omega
     ·intro ys hy;rw[List.append_assoc];exact hsp _ (.more r k ys hi hk hy)
    case measure=>
     rw[QR (World.cell?_setCell_same' _ _ _ (by rw[g1];rfl)),QR h1]
     simp;omega
   ·gi_wp2
    refine bodyPost_ret (results_none rfl _ _ _) rfl ?_
    obtain⟨ys,hys⟩:=abG (r.extract (k+1) r.size).size _ (Nat.le_refl _)
    exact⟨⟨_,rfl⟩,.inr ⟨_,⟨ys,by rw[List.append_assoc];exact hsp _ (.more r k ys hi hk hys)⟩,hJx3⟩⟩
end Go.Proofs.YtpfifochimkpfaaGreatDoor
namespace Go.WW
open Go.RowKit
def tC(c:UInt8):Bool:=(decide (65≤(c.toNat:Int))&&decide ((c.toNat:Int)≤90)) || (decide (48≤(c.toNat:Int))&&decide ((c.toNat:Int)≤57)) || (c.toNat:Int) == 45
def qO(s:ByteArray):Bool:=!s.data.toList.isEmpty&&s.data.toList.all tC
def good:Bool→List UInt8→Bool
 |p,[]=>!p
 |p,c::l=>if gq c then !p&&good true l else tC c&&good false l
theorem QS(c:UInt8):gq c=true↔c=46:=by
 unfold gq
 constructor
 ·intro h;apply UInt8.toNat_inj.1;have:(c.toNat:Int)=46:=by simpa using h
  simp;omega
 ·rintro rfl;rfl
theorem abJ:∀(l:List UInt8) (p:Bool),(∀c∈l,gq c=false)→good p l=(!(p&&l.isEmpty)&&l.all tC):=by
 intro l
 induction l with
 |nil=>intro p _;cases p<;>rfl
 |cons c l ih=>
  intro p h
  have h1:gq c=false:=h c (by simp)
  unfold good
  rw[h1,ih false (fun c hc=>h c (by simp[hc]))]
  simp
theorem abK:∀(a b:List UInt8) (p:Bool),(∀c∈a,gq c=false)→good p (a++46::b)=(!(p&&a.isEmpty)&&a.all tC&&good true b):=by
 intro a b
 induction a with
 |nil=>intro p _;cases p<;>simp[good,gq]
 |cons c l ih=>
  intro p h
  have h1:gq c=false:=h c (by simp)
  rw[List.cons_append,good,h1,ih false (fun c hc=>h c (by simp[hc]))]
  simp[Bool.and_assoc]
theorem index_none:∀l:List UInt8,Lib.indexByte l 46<0→∀c∈l,gq c=false:=by
 intro l
 induction l with
 |nil=>intro _ c h;simp at h
 |cons b l ih=>
  intro h c hc
  unfold Lib.indexByte at h
  by_cases hb:(b == 46)=true
  ·simp[hb]at h
  ·by_cases hm:Lib.indexByte l 46=-1
   ·rcases List.mem_cons.1 hc with rfl|hc
    ·cases hd:gq c
     ·rfl
     ·exact absurd (by simpa using(QS c).1 hd) hb
    ·exact ih (by omega) c hc
   ·have:=Lib.indexByte_ge l 46
    simp[hb,hm]at h<;>omega
theorem abL:∀(l:List UInt8) (k:Nat),Lib.indexByte l 46=(k:Int)→(∀c∈l.take k,gq c=false)∧l=l.take k++46::l.drop (k+1):=by
 intro l
 induction l with
 |nil=>intro k h;simp[Lib.indexByte]at h<;>omega
 |cons b l ih=>
  intro k h
  unfold Lib.indexByte at h
  by_cases hb:(b == 46)=true
  ·simp[hb]at h
   have:k=0:=by omega
   subst this
   have:b=46:=by simpa using hb
   subst this;simp
  ·by_cases hm:Lib.indexByte l 46=-1
   ·simp[hb,hm]at h<;>omega
   ·have h':Lib.indexByte l 46+1=(k:Int):=by simpa[hb,hm]using h
    have:=Lib.indexByte_ge l 46
    obtain⟨j,rfl⟩:∃j,k=j+1:=⟨k-1,by omega⟩
    obtain⟨h1,h2⟩:=ih j (by omega)
    have hbd:gq b=false:=by
     cases hd:gq b
     ·rfl
     ·exact absurd (by simpa using(QS b).1 hd) hb
    refine⟨?_,?_⟩
    ·intro c hc;simp at hc;rcases hc with rfl|hc
     ·exact hbd
     ·exact h1 c hc
    ·simp only[List.take_succ_cons,List.drop_succ_cons,List.cons_append];rw[←h2]
theorem abM{s:ByteArray}{ys:List ByteArray}(h:Split s ys):ys.all qO=good true s.data.toList:=by
 induction h with
 |last s h=>
  rw[abJ _ _ (index_none _ h)];simp[qO]
 |more s k ys h hk t ih=>
  obtain⟨h1,h2⟩:=abL _ _ h
  have e1:(s.extract 0 k).data.toList=s.data.toList.take k:=by simp[ByteArray.data_extract]
  have e2:(s.extract (k+1) s.size).data.toList=s.data.toList.drop (k+1):=by
   simp[ByteArray.data_extract]
   exact List.take_of_length_le (by simp)
  rw[e2]at ih
  rw[h2,abK _ _ _ h1,List.all_cons,ih]
  simp only[qO,e1]
  simp
theorem abN(s:ByteArray):∀(k i:Nat),i+k=s.size→good (i == 0 || (s.data.toList[i-1]?).any gq) (s.data.toList.drop i)=((List.range' i k).all (mr s)&&!(k == 0&&(i == 0 || (s.data.toList[i-1]?).any gq))):=by
 intro k
 induction k with
 |zero=>
  intro i h
  have:s.data.toList.drop i=[]:=List.drop_of_length_le (by
    have:s.data.toList.length=s.size:=by simp
    omega)
  rw[this];simp[good]
 |succ k ih=>
  intro i h
  have hl:s.data.toList.length=s.size:=by simp
  have hi:i<s.data.toList.length:=by omega
  rw[List.drop_eq_getElem_cons hi,List.range'_succ,List.all_cons]
  have ih':=ih (i+1) (by omega)
  have e0:(i+1 == 0 || (s.data.toList[i+1-1]?).any gq)=gq (s.data.toList[i]):=by
   rw[Nat.add_sub_cancel,List.getElem?_eq_getElem hi];simp
  rw[e0]at ih'
  rw[good]
  have er:mr s i=(oZ s.data.toList[i]&&!(gq s.data.toList[i]&&(i == 0 || i+1 == s.size || (s.data.toList[i-1]?).any gq))):=by
   unfold mr;rw[List.getElem?_eq_getElem hi]
  have e3:(i+1 == s.size)=(k == 0):=by
   rw[Bool.eq_iff_iff];simp;omega
  rw[er,e3]
  cases hd:gq s.data.toList[i]
  ·rw[hd]at ih'
   have e4:tC s.data.toList[i]=oZ s.data.toList[i]:=by
    unfold gq at hd
    unfold tC oZ
    rw[hd]
    generalize ((s.data.toList[i]).toNat:Int)=z
    rw[Bool.eq_iff_iff];simp;omega
   simp only[Bool.false_eq_true,if_false,e4,ih']
   simp
  ·rw[hd]at ih'
   have e4:oZ s.data.toList[i]=true:=Cb (.inl (by unfold gq at hd;simpa using hd))
   simp only[if_true,ih',e4]
   cases k<;>simp[Bool.and_comm]
theorem abO(s:ByteArray)(hz:sized s=true):iK s=good true s.data.toList:=by
 have h1:1≤(s.size:Int):=by unfold sized at hz;simp at hz;exact hz.1
 have:=abN s s.size 0 (by simp)
 simp only[List.drop_zero,BEq.rfl,Bool.true_or]at this
 have hk:(s.size == 0)=false:=by simp;intro e;rw[e]at h1;simp at h1
 rw[hk]at this
 rw[this,iK,hz,List.range_eq_range']
 simp
theorem QU{s:ByteArray}{ys:List ByteArray}(hz:sized s=true)(h:Split s ys):iK s=ys.all qO:=by
 rw[abM h,abO s hz]
theorem abP{s:ByteArray}(hz:sized s=false):iK s=false:=by rw[iK,hz];simp
end Go.WW
namespace Go.Proofs.YtpfifochimkpfaaGreatDoor
open Go.RowKit Go.WW
theorem abQ(s t:ByteArray)(k:Int)(w:World):Calls Tryz.prog 173 #[.string s,.string t,.int .i64 k] w fun e w'=>e=.returned (.func (.func 206) #[] #[.pointer (some ⟨w.heap.size+1,0,none⟩),.pointer (some ⟨w.heap.size,0,none⟩),.pointer (some ⟨w.heap.size+2,0,none⟩)])∧
  w'=((w.alloc (.cells #[.string s] 9)).alloc (.cells #[.string t] 9)).alloc (.cells #[.int .i64 k] 3):=by
 go_enter Tryz.func173,Tryz.ntmps173
 go_wp2
 go_ret
 exact⟨rfl,rfl⟩
theorem abR(s t:ByteArray)(w:World):Calls Tryz.prog 124 #[.string s,.string t] w fun e w'=>e=.returned (.func (.func 206) #[] #[.pointer (some ⟨w.heap.size+1,0,none⟩),.pointer (some ⟨w.heap.size,0,none⟩),.pointer (some ⟨w.heap.size+2,0,none⟩)])∧
  w'=((w.alloc (.cells #[.string s] 9)).alloc (.cells #[.string t] 9)).alloc (.cells #[.int .i64 0] 3):=by
 go_enter Tryz.func124,Tryz.ntmps124
 go_wp2_with (go_at_call 173;refine(abQ _ _ _ _).mono ?_;rintro e w' ⟨rfl,rfl⟩)
 go_ret
 exact⟨rfl,rfl⟩
def JQ(w:World)(pre:List ByteArray)(W:World):Prop:=(W.cell? ⟨w.heap.size,0,none⟩=some (.bool false)∧W.frozen? ⟨w.heap.size,0,none⟩=false)∧Below w.heap.size w W∧Hid (pre.all qO=true)
def JR(w:World)(pre:List ByteArray)(W:World):Prop:=(W.cell? ⟨w.heap.size,0,none⟩=some (.bool false))∧Below w.heap.size w W∧Hid (pre.all qO=false)
attribute [local go_sem] Oper.semAt_some
theorem QV(s:ByteArray)(w:World)(hs:s.size≤lim):Calls Tryz.prog 64 #[.string s] w fun e w'=>e=.returned (.bool (iK s))∧Below w.heap.size w w':=by
 refine(callsIn_wide (n:=5)).1 ?_
 have h1:1≤5:=by omega
 refine callsIn_of_wp_marks Tryz.func64 rfl trivial ?_ rfl
 simp only[Tryz.ntmps64,List.size_toArray,List.length_cons,List.length_nil,Nat.reduceAdd,Nat.reduceSub,Array.replicate_succ,Array.replicate_zero,List.push_toArray,List.append_toArray,List.nil_append,List.cons_append]
 cases hz:sized s
 ·have HN:=Lib.hid (abP hz)
  gi_wp2_with (refine⟨trivial,?_⟩;gi_at_call 123;refine(callsIn_wide.2 (Jz _ _ (le_max hs))).mono ?_;rintro e w' ⟨rfl,rfl⟩;rw[hz])
  refine⟨.bool false,?_,by rw[HN.out],(Below.refl _ w).alloc (Nat.le_refl _) _⟩
  simp[results,Tryz.f64,go_sem]
 gi_wp2_with (first
  |(refine⟨trivial,?_⟩;gi_at_call 123;refine(callsIn_wide.2 (Jz _ _ (le_max hs))).mono ?_;rintro e w' ⟨rfl,rfl⟩;rw[hz])
  |(refine⟨trivial,?_⟩;gi_at_call 124;refine(callsIn_wide.2 (abR _ _ _)).mono ?_;rintro e w' ⟨rfl,rfl⟩))
 obtain⟨W0,hW0⟩:∃W0,(((w.alloc (.cells #[.bool false] 4)).alloc (.cells #[.string s] 9)).alloc (.cells #[.string ⟨#[46]⟩] 9)).alloc (.cells #[.int .i64 0] 3)=W0:=⟨_,rfl⟩
 have hsz:W0.heap.size=w.heap.size+4:=by rw[←hW0];simp
 have hB0:Below w.heap.size w W0:=by rw[←hW0];exact((((Below.refl _ w).alloc (Nat.le_refl _) _).alloc (by simp) _).alloc (by simp;omega) _).alloc (by simp;omega) _
 have g0:W0.cell? ⟨w.heap.size,0,none⟩=some (.bool false):=by rw[←hW0];simp[go_sem]
 have f0:W0.frozen? ⟨w.heap.size,0,none⟩=false:=by rw[←hW0];simp[go_sem]
 have g1:W0.cell? ⟨w.heap.size+1,0,none⟩=some (.string s):=by rw[←hW0];simp[go_sem]
 have f1:W0.frozen? ⟨w.heap.size+1,0,none⟩=false:=by rw[←hW0];simp[go_sem]
 have g2:W0.cell? ⟨w.heap.size+1+1,0,none⟩=some (.string ⟨#[46]⟩):=by rw[←hW0];simp[go_sem]
 have g3:W0.cell? ⟨w.heap.size+1+2,0,none⟩=some (.int .i64 0):=by rw[←hW0];simp[go_sem]
 rw[hW0]
 refine abz (α:=ByteArray) rfl h1 (gf:=206) (lb:=#[.pointer (some ⟨w.heap.size+1+1,0,none⟩),.pointer (some ⟨w.heap.size+1,0,none⟩),.pointer (some ⟨w.heap.size+1+2,0,none⟩)]) (by simp[go_sem]) trivial (enters_of Tryz.func206 (by kernel_rfl) rfl)
  (abH 4 (by omega) (w.heap.size+1) W0.heap.size s hs W0 (by omega) g1 g2 g3 f1) (by omega) (fun _=>rfl)
  (JQ w)
  (JR w)
  ?_ ?_ ?_ ⟨⟨g0,f0⟩,hB0,by simp[Hid]⟩
  (fun x=>{tmps:=#[.string s,undef,.pointer (some ⟨w.heap.size,0,none⟩),.string x,undef,undef,.string s,.bool true,.bool false,.string s,.func (.func 206) #[] #[.pointer (some ⟨w.heap.size+1+1,0,none⟩),.pointer (some ⟨w.heap.size+1,0,none⟩),.pointer (some ⟨w.heap.size+1+2,0,none⟩)],.string x,undef,undef,undef,undef,undef,undef,undef,undef,undef,undef,undef,undef,undef,undef,undef,undef,undef,undef,undef,undef,undef,undef,undef,undef,undef,undef,undef,undef,undef],defers:=[]}) ?assign ?body ?done ?stop
 ·unfold JQ
  refine OwnFrom.and (Own.from (fun s A B row hs hg hr=>⟨cell_kept hs.1 hg hr,(frozen_kept hs.1 hg hr).trans hs.2⟩) _) (OwnFrom.and (ownFrom_below (Nat.le_refl _) (by omega)) ?_)
  exact fun s A B row hs hg hr=>hs
 ·rintro pre W v ⟨⟨hc,hf⟩,hB,hall⟩
  exact⟨⟨by rw[World.cell?_setCell_other _ _ _ _ (by simp)];exact hc,by rw[World.frozen?_setCell];exact hf⟩,hB.setCell (p:=⟨w.heap.size+1,0,none⟩) (by simp) _,hall⟩
 ·unfold JR
  refine OwnFrom.and (Own.from (fun s A B row hs hg hr=>cell_kept hs hg hr) _) (OwnFrom.and (ownFrom_below (Nat.le_refl _) (by omega)) ?_)
  exact fun s A B row hs hg hr=>hs
 all_goals clear hsz
 case assign=>
  intro l x W K hK
  gi_wp2
  exact hK
 case body=>
  rintro l pre x W hx ⟨⟨hc,hf⟩,hB,hall⟩
  have hx':x.size≤4294967000:=hx
  have hno:qO x=false→Qx W0.heap.size
   (JQ w)
   (JR w) (pre++[x]) W Exit.ret {tmps:=#[],defers:=[]} (W.setCell ⟨w.heap.size,0,none⟩ (.bool false)):=fun h=>
   ⟨KeepsOthers.setCell _ _ _,World.cell?_setCell_same' _ _ _ (by rw[hc];rfl),hB.setCell (p:=⟨w.heap.size,0,none⟩) (Nat.le_refl _) _,by simp[Hid,h]⟩
  cases he:x.toList.isEmpty
  ·gi_wp2
   gi_loop [16] (fun i=>∃k:Nat,k≤x.size∧i=.int .i64 k∧Hid ((x.data.toList.take k).all tC=true)) (fun i=>x.size-(intOf i).toNat)
   case atStart=>exact⟨0,Nat.zero_le _,rfl,by simp[Hid]⟩
   case round=>
    obtain⟨k,hk,rfl,qP⟩:=hrel
    by_cases hlt:k<x.size
    ·by_cases h45:(x[k].toNat:Int)=45
     ·have abS:((x[k].toNat:Int) != 45)=false:=by simp[h45]
      gi_wp2
      all_goals
       go_round
       case rel=>exact⟨k+1,by omega,by go_num,oW x k hlt qP.out (by simp[tC,h45])⟩
       case measure=>simp[intOf];omega
     ·have abS:((x[k].toNat:Int) != 45)=true:=by simp[h45]
      gi_wp2
      all_goals first
       |(go_round
         case rel=>exact⟨k+1,by omega,by go_num,oW x k hlt qP.out (by simp[tC];omega)⟩
         case measure=>simp[intOf];omega)
       |exact hno (by rw[qO,BX x k hlt (by simp[tC];omega)];simp)
    ·gi_wp2
     refine⟨KeepsOthers.refl _,Below.refl _ _,⟨hc,hf⟩,hB,?_⟩
     have:qO x=true:=by rw[qO,BZ x k (by omega) qP.out,←Lib.toList_data,he];rfl
     have h2:=hall.out
     simp[Hid,this];simpa using h2
  ·gi_wp2
   exact hno (by rw[qO,←Lib.toList_data,he];rfl)
 case done=>
  rintro D ys W hD hS ⟨⟨hc,hf⟩,hB,hall⟩ hK
  have hok:iK s=true:=by rw[QU hz hS];exact hall.out
  have hD':w.heap.size≤D:=Nat.le_trans hB0.size hD
  gi_wp2
  have hK':=(KeepsOthers.setCell W ⟨w.heap.size,0,none⟩ (.bool true)).same D _ hK rfl
  refine⟨by simp,.inl ⟨_,_,rfl,run_takeDeferred hK',?_⟩⟩
  have hc5:=cell_kept (World.cell?_setCell_same' W ⟨w.heap.size,0,none⟩ (.bool true) (by rw[hc];rfl)) (grownBy_putObj' _ D (.deferred none)) (fun r e=>by cases e;exact⟨_,hK',rfl⟩)
  refine⟨.bool true,?_,by rw[hok],(hB.setCell (p:=⟨w.heap.size,0,none⟩) (Nat.le_refl _) _).trans (belowK_b (w:=w) (Nat.le_refl _) _ D _ _ hD' hK' rfl rfl)⟩
  simp[results,Tryz.f64,go_sem,hc5]
 case stop=>
  rintro D pre W hD ⟨ys,hS⟩ ⟨hc,hB,hall⟩ hK
  have hok:iK s=false:=by rw[QU hz hS,List.all_append,hall.out];rfl
  have hD':w.heap.size≤D:=Nat.le_trans hB0.size hD
  gi_wp2
  refine⟨by simp,.inl ⟨_,_,rfl,run_takeDeferred hK,?_⟩⟩
  have hc5:=cell_kept hc (grownBy_putObj' _ D (.deferred none)) (fun r e=>by cases e;exact⟨_,hK,rfl⟩)
  refine⟨.bool false,?_,by rw[hok],hB.trans (belowK_b (w:=w) (Nat.le_refl _) _ D _ _ hD' hK rfl rfl)⟩
  simp[results,Tryz.f64,go_sem,hc5]
end Go.Proofs.YtpfifochimkpfaaGreatDoor
namespace Go.WW
def yx(l:List Bool):Int:=if l.all (fun b=>b)=true then -1 else(l.findIdx (fun b=>!b):Int)
theorem abT{l:List Bool}(k:Nat)(h:k<l.length)(h1:(l.take k).all (fun b=>b)=true)(h2:l[k]=false):yx l=(k:Int):=by
 have hn:l.all (fun b=>b)=false:=by rw[List.all_eq_false];exact⟨l[k],List.getElem_mem h,by simp[h2]⟩
 rw[yx,hn]
 have:l.findIdx (fun b=>!b)=k:=by
  rw[List.findIdx_eq h]
  refine⟨by simp[h2],fun j hj=>?_⟩
  have:=List.all_eq_true.1 h1 (l[j]'(by omega)) (by rw[List.mem_take_iff_getElem];exact⟨j,by omega,rfl⟩)
  simpa using this
 simp[this]
theorem abU{l:List Bool}(k:Nat)(h:l.length≤k)(h1:(l.take k).all (fun b=>b)=true):yx l=-1:=by
 rw[List.take_of_length_le h]at h1;rw[yx,h1];rfl
theorem abV(l:List Bool):decide (0≤yx l)=!l.all (fun b=>b):=by
 unfold yx
 cases h:l.all (fun b=>b)
 ·simp
 ·simp
end Go.WW
namespace Go.Proofs.YtpfifochimkpfaaGreatDoor
open Go.RowKit Go.WW
theorem abW(b o cap:Nat)(l:List Bool)(w:World)(hl:qH w (some ⟨b,o,none⟩) l)(hn:l.length≤lim):Calls Tryz.prog 179 #[.slice (some ⟨b,o,none⟩) l.length cap,.bool false] w fun e w'=>e=.returned (.int .i64 (yx l))∧w=w':=by
 have hn':l.length≤4294967000:=hn
 go_enter Tryz.func179,Tryz.ntmps179
 go_wp2
 go_loop [8] (fun i=>∃k:Nat,k≤l.length∧i=.int .i64 k∧Hid ((l.take k).all (fun b=>b)=true)) (fun i=>l.length-(intOf i).toNat)
 case atStart=>exact⟨0,Nat.zero_le _,rfl,by simp[Hid]⟩
 case round=>
  obtain⟨k,hk,rfl,hall⟩:=hrel
  by_cases hlt:k<l.length
  ·have hc:=hl.at k hlt
   have hb:b<w.heap.size:=World.block_lt_of_cell? w _ hc
   cases hv:l[k]
   ·rw[hv]at hc
    have HN:=Lib.hid (abT k hlt hall.out hv)
    go_wp2
    go_ret
    exact⟨by rw[HN.out];rfl,rfl⟩
   ·rw[hv]at hc
    have HN:=Lib.hid (lu l k hlt hall.out hv)
    go_wp2
    go_round
    case rel=>exact⟨k+1,by omega,by go_num,HN.out⟩
    case measure=>simp[intOf];omega
  ·have HN:=Lib.hid (abU k (by omega) hall.out)
   go_wp2
   go_ret
   exact⟨by rw[HN.out];rfl,rfl⟩
theorem abX(b o cap:Nat)(l:List Bool)(w:World)(hl:qH w (some ⟨b,o,none⟩) l)(hn:l.length≤lim):Calls Tryz.prog 135 #[.slice (some ⟨b,o,none⟩) l.length cap,.bool false] w fun e w'=>e=.returned (.bool (!l.all (fun b=>b)))∧w=w':=by
 go_enter Tryz.func135,Tryz.ntmps135
 have HN:=Lib.hid (abV l)
 go_wp2_with (go_at_call 179;refine(abW _ _ _ _ _ hl hn).mono ?_;rintro e w' ⟨rfl,rfl⟩)
 all_goals go_ret
 all_goals exact⟨by rw[←HN.out];rfl,rfl⟩
theorem abY(b o cap:Nat)(l:List Bool)(w:World)(hl:qH w (some ⟨b,o,none⟩) l)(hn:l.length≤lim):Calls Tryz.prog 74 #[.slice (some ⟨b,o,none⟩) l.length cap] w fun e w'=>e=.returned (.bool (l.all (fun b=>b)))∧w=w':=by
 go_enter Tryz.func74,Tryz.ntmps74
 cases h:l.all (fun b=>b)
 iterate 2
  ·go_wp2_with (go_at_call 135;refine(abX _ _ _ _ _ hl hn).mono ?_;rintro e w' ⟨rfl,rfl⟩;rw[h])
   go_ret
   exact⟨rfl,rfl⟩
end Go.Proofs.YtpfifochimkpfaaGreatDoor
namespace Go.WW
open Go.RowKit
theorem abZ{w:World}{b:Nat}(x y z:Bool)(h:w.cell? ⟨b,0,none⟩=some (.bool x))(h1:w.cell? ⟨b,1,none⟩=some (.bool y))(h2:w.cell? ⟨b,2,none⟩=some (.bool z)):qH w (some ⟨b,0,none⟩) [x,y,z]:=by
 refine⟨by simp[lim],fun i hi=>?_⟩
 match i,hi with
 |0,_=>exact⟨_,_,_,rfl,h,x,rfl,rfl⟩
 |1,_=>exact⟨_,_,_,rfl,h1,y,rfl,rfl⟩
 |2,_=>exact⟨_,_,_,rfl,h2,z,rfl,rfl⟩
theorem ab1{p:aH}(h:([decide (1≤(p.parts.length:Int)),decide ((p.parts.length:Int)≤4),iK p.aJ].all fun b=>b)=false):aZ p=false:=by
 simp only[List.all_cons,List.all_nil,Bool.and_true]at h
 rw[aZ,Bool.and_assoc,Bool.and_assoc,h];simp
theorem ab2{p:aH}(h:([decide (1≤(p.parts.length:Int)),decide ((p.parts.length:Int)≤4),iK p.aJ].all fun b=>b)=true):p.parts.all jI=true→aZ p=true:=by
 intro h2
 simp only[List.all_cons,List.all_nil,Bool.and_true]at h
 rw[aZ,Bool.and_assoc,Bool.and_assoc,h,h2];rfl
theorem ab3{p:aH}(h:([decide (1≤(p.parts.length:Int)),decide ((p.parts.length:Int)≤4),iK p.aJ].all fun b=>b)=true):0<p.parts.length:=by
 simp at h;omega
end Go.WW
namespace Go.Proofs.YtpfifochimkpfaaGreatDoor
open Go.RowKit Go.WW
theorem ve(s:Sl)(p:aH)(w:World)(hp:bK w s p):Calls Tryz.prog 33 #[.agg (az s p)] w fun e w'=>e=.returned (.bool (aZ p))∧Below w.heap.size w w':=by
 have hl:p.parts.length≤4294967000:=hp.1.1
 go_enter Tryz.func33,Tryz.ntmps33
 go_wp2_with fail
 refine nz (Below.refl _ (w.alloc (.cells (az s p) 35))) (by kernel_rfl) (by kernel_rfl) ?_
 intro w1 hb1
 obtain⟨hc,hf,hr⟩:=aQ hb1
 have hsz:w.heap.size<w1.heap.size:=by have:=hb1.size;simp at this;omega
 repeat (first|(refine ai (by rfl) ?_)|(refine au (by rfl) (by rfl) (fun K hK=>?_);go_big_quiet_op;refine hK _ ?_;clear hK K))
 refine aB (by rfl) (by rfl) (fun K hK=>?_)
 go_wp2_with fail
 refine(QV _ _ hp.2).mono ?_
 rintro e w2 ⟨rfl,hb2⟩
 have hb3:=ag hb1 hb2
 go_wp2_with fail
 refine hK _ _ (aj hb3) ?_
 clear hK K
 clear hc hf hr hsz
 obtain⟨hc,hf,hr⟩:=aQ hb3
 have hsz:w.heap.size<w2.heap.size:=by have:=hb3.size;simp at this;omega
 repeat (first|(refine ai (by rfl) ?_)|(refine au (by rfl) (by rfl) (fun K hK=>?_);go_big_quiet_op;refine hK _ ?_;clear hK K))
 refine aB (by rfl) (by rfl) (fun K hK=>?_)
 go_wp2_with fail
 have hb4:=ay hb3 (.cells #[.bool (decide (1≤(p.parts.length:Int))),.bool (decide ((p.parts.length:Int)≤4)),.bool (iK p.aJ)] 4)
 refine hK _ _ (aj hb4) ?_
 clear hK K
 repeat (first|(refine ai (by rfl) ?_)|(refine au (by rfl) (by rfl) (fun K hK=>?_);go_big_quiet_op;refine hK _ ?_;clear hK K))
 refine aB (by rfl) (by rfl) (fun K hK=>?_)
 go_wp2_with fail
 refine(abY _ _ _ [decide (1≤(p.parts.length:Int)),decide ((p.parts.length:Int)≤4),iK p.aJ] _ (abZ _ _ _ (by simp[go_sem]) (by simp[go_sem]) (by simp[go_sem])) (by simp[lim])).mono ?_
 rintro e w5 ⟨rfl,rfl⟩
 obtain⟨c,h3⟩:∃c,([decide (1≤(p.parts.length:Int)),decide ((p.parts.length:Int)≤4),iK p.aJ].all fun b=>b)=c:=⟨_,rfl⟩
 rw[h3]
 go_wp2_with fail
 refine hK _ _ (aj hb4) ?_
 clear hK K
 repeat (first|(refine ai (by rfl) ?_)|(refine au (by rfl) (by rfl) (fun K hK=>?_);go_big_quiet_op;refine hK _ ?_;clear hK K))
 refine bz ?_
 have hb5:Below w.heap.size w (w2.alloc (.cells #[.bool (decide (1≤(p.parts.length:Int))),.bool (decide ((p.parts.length:Int)≤4)),.bool (iK p.aJ)] 4)):=((Below.refl _ w).alloc (Nat.le_refl _) _).trans (hb4.mono (by simp))
 cases c
 ·have HN:=Lib.hid (ab1 h3)
  go_wp2_with fail
  go_ret
  exact⟨by rw[HN.out];rfl,hb5⟩
 simp only[Bool.not_true]
 have HH:=Lib.hid (ab2 h3)
 obtain⟨sa,scap⟩:=s
 obtain⟨b,o,ha,-,-⟩:=hp.1.get 0 (ab3 h3)
 dsimp only at ha
 subst ha
 clear h3 hc hf hr hsz
 obtain⟨hc,hf,hr⟩:=aQ hb4
 have hsz:w.heap.size<(w2.alloc (.cells #[.bool (decide (1≤(p.parts.length:Int))),.bool (decide ((p.parts.length:Int)≤4)),.bool (iK p.aJ)] 4)).heap.size:=by have:=hb4.size;simp at this ⊢;omega
 have Fv:=hp.later hb5
 generalize w2.alloc (.cells #[.bool (decide (1≤(p.parts.length:Int))),.bool (decide ((p.parts.length:Int)≤4)),.bool (iK p.aJ)] 4)=w6 at *
 clear hb1 hb2 hb3 hb4
 go_wp2_with fail
 go_loop [22] (fun i=>∃k:Nat,k≤p.parts.length∧i=.int .i64 k∧Hid ((p.parts.take k).all jI=true)) (fun i=>p.parts.length-(intOf i).toNat)
 case atStart=>exact⟨0,Nat.zero_le _,rfl,by simp[Hid]⟩
 case round=>
  obtain⟨k,hk,rfl,hall⟩:=hrel
  by_cases hlt:k<p.parts.length
  ·obtain⟨hcc,hss⟩:=Fv.1.at k hlt
   have hbb:b<w6.heap.size:=World.block_lt_of_cell? w6 _ hcc
   cases hpart:jI p.parts[k]
   ·have HN:=Lib.hid (Qb k hlt hpart)
    go_wp2_with (go_at_call 75;refine(P9 _ _ (le_max hss)).mono ?_;rintro e w' ⟨rfl,rfl⟩;rw[hpart])
    go_ret
    exact⟨by rw[HN.out];rfl,hb5⟩
   ·have HN:=Lib.hid (lu p.parts k hlt hall.out hpart)
    go_wp2_with (go_at_call 75;refine(P9 _ _ (le_max hss)).mono ?_;rintro e w' ⟨rfl,rfl⟩;rw[hpart])
    go_round
    case rel=>exact⟨k+1,by omega,by go_num,HN.out⟩
    case measure=>simp[intOf];omega
  ·have HN:=Lib.hid (HH.out (qL p.parts k (by omega) hall.out))
   go_wp2_with fail
   go_ret
   exact⟨by rw[HN.out];rfl,hb5⟩
end Go.Proofs.YtpfifochimkpfaaGreatDoor
