/- A part of the proof. -/
import Derived.Test.YtfieenjdcpjmgaaGreatDoorB03
set_option maxRecDepth 100000
set_option maxHeartbeats 8000000
namespace Go.WW
def pY(c:Int):Int:=if 97≤c∧c≤122 then 1 else if 65≤c∧c≤90 then 2 else if 48≤c∧c≤57 then 3 else 0
def yh(c:Int):Int:=if 97≤c∧c≤122 then 1 else if 65≤c∧c≤90 then 2 else if 48≤c∧c≤57 then 3 else if 32≤c∧c≤126 then 4 else 5
theorem Q5(c:Int):3<yh c↔pY c=0:=by
 unfold yh pY
 (repeat' split)<;>omega
def qV(c:UInt8):Bool:=!(pY c.toNat == 0) || (c.toNat:Int) == 45 || (c.toNat:Int) == 95 || (c.toNat:Int) == 46
def nX(s:ByteArray):Bool:=s.data.toList.all qV&&aF s.size 1 32
def dP(p:ai):Bool:=nX p.name&&aF p.length 1 64&&aF p.classes 1 5&&aF p.distinct 0 p.length&&aF p.history 0 16&&aF p.iH 0 1099511627776&&aF p.eu 0 1099511627776&&(p.eu == 0 || decide (p.iH≤p.eu))&&aF p.fails 0 1000&&aF p.window 0 1099511627776&&aF p.lock 0 1099511627776
theorem Q7(p:ai)(h:¬nX p.name=true):dP p=false:=by
 have hb:(nX p.name)=false:=by first|exact h|(simpa using h)|(simp;omega)
 simp only[dP,hb,Bool.false_and]
theorem Q8(p:ai)(h:¬aF p.length 1 64=true):dP p=false:=by
 have hb:(aF p.length 1 64)=false:=by first|exact h|(simpa using h)|(simp;omega)
 simp only[dP,hb,Bool.false_and,Bool.and_false]
theorem Q9(p:ai)(h:¬aF p.classes 1 5=true):dP p=false:=by
 have hb:(aF p.classes 1 5)=false:=by first|exact h|(simpa using h)|(simp;omega)
 simp only[dP,hb,Bool.false_and,Bool.and_false]
theorem Rf(p:ai)(h:¬aF p.distinct 0 p.length=true):dP p=false:=by
 have hb:(aF p.distinct 0 p.length)=false:=by first|exact h|(simpa using h)|(simp;omega)
 simp only[dP,hb,Bool.false_and,Bool.and_false]
theorem Rh(p:ai)(h:¬aF p.history 0 16=true):dP p=false:=by
 have hb:(aF p.history 0 16)=false:=by first|exact h|(simpa using h)|(simp;omega)
 simp only[dP,hb,Bool.false_and,Bool.and_false]
theorem Ri(p:ai)(h:¬aF p.iH 0 1099511627776=true):dP p=false:=by
 have hb:(aF p.iH 0 1099511627776)=false:=by first|exact h|(simpa using h)|(simp;omega)
 simp only[dP,hb,Bool.false_and,Bool.and_false]
theorem Rj(p:ai)(h:¬aF p.eu 0 1099511627776=true):dP p=false:=by
 have hb:(aF p.eu 0 1099511627776)=false:=by first|exact h|(simpa using h)|(simp;omega)
 simp only[dP,hb,Bool.false_and,Bool.and_false]
theorem Rk(p:ai)(h:¬((p.eu == 0)=true∨p.iH≤p.eu)):dP p=false:=by
 have hb:(p.eu == 0 || decide (p.iH≤p.eu))=false:=by first|exact h|(simpa using h)|(simp;omega)
 simp only[dP,hb,Bool.false_and,Bool.and_false]
theorem JL(p:ai)(h:¬aF p.fails 0 1000=true):dP p=false:=by
 have hb:(aF p.fails 0 1000)=false:=by first|exact h|(simpa using h)|(simp;omega)
 simp only[dP,hb,Bool.false_and,Bool.and_false]
theorem JM(p:ai)(h:¬aF p.window 0 1099511627776=true):dP p=false:=by
 have hb:(aF p.window 0 1099511627776)=false:=by first|exact h|(simpa using h)|(simp;omega)
 simp only[dP,hb,Bool.false_and,Bool.and_false]
theorem acU(p:ai)(h:¬aF p.lock 0 1099511627776=true):dP p=false:=by
 have hb:(aF p.lock 0 1099511627776)=false:=by first|exact h|(simpa using h)|(simp;omega)
 simp only[dP,hb,Bool.and_false]
theorem FN(p:ai)(h1:nX p.name=true)(h2:aF p.length 1 64=true)(h3:aF p.classes 1 5=true)(h4:aF p.distinct 0 p.length=true)(h5:aF p.history 0 16=true)(h6:aF p.iH 0 1099511627776=true)(h7:aF p.eu 0 1099511627776=true)(h8:(p.eu == 0)=true∨p.iH≤p.eu)(h9:aF p.fails 0 1000=true)(h10:aF p.window 0 1099511627776=true):dP p=(aF p.lock 0 1099511627776):=by
 have e1:(nX p.name)=true:=by first|exact h1|(simpa using h1)|(simp;omega)
 have e2:(aF p.length 1 64)=true:=by first|exact h2|(simpa using h2)|(simp;omega)
 have e3:(aF p.classes 1 5)=true:=by first|exact h3|(simpa using h3)|(simp;omega)
 have e4:(aF p.distinct 0 p.length)=true:=by first|exact h4|(simpa using h4)|(simp;omega)
 have e5:(aF p.history 0 16)=true:=by first|exact h5|(simpa using h5)|(simp;omega)
 have e6:(aF p.iH 0 1099511627776)=true:=by first|exact h6|(simpa using h6)|(simp;omega)
 have e7:(aF p.eu 0 1099511627776)=true:=by first|exact h7|(simpa using h7)|(simp;omega)
 have e8:(p.eu == 0 || decide (p.iH≤p.eu))=true:=by first|exact h8|(simpa using h8)|(simp;omega)
 have e9:(aF p.fails 0 1000)=true:=by first|exact h9|(simpa using h9)|(simp;omega)
 have e10:(aF p.window 0 1099511627776)=true:=by first|exact h10|(simpa using h10)|(simp;omega)
 simp only[dP,e1,e2,e3,e4,e5,e6,e7,e8,e9,e10,Bool.true_and]
theorem Rl(p:ai)(h1:nX p.name=true)(h2:aF p.length 1 64=true)(h3:aF p.classes 1 5=true)(h4:aF p.distinct 0 p.length=true)(h5:aF p.history 0 16=true)(h6:aF p.iH 0 1099511627776=true)(h7:aF p.eu 0 1099511627776=true)(h8:p.eu=0∨p.iH≤p.eu)(h9:aF p.fails 0 1000=true)(h10:aF p.window 0 1099511627776=true):dP p=aF p.lock 0 1099511627776:=
 FN p h1 h2 h3 h4 h5 h6 h7 (h8.imp (fun h=>by simpa using h) id) h9 h10
theorem Rn(p:ai)(h:¬p.eu=0)(h':p.eu<p.iH):dP p=false:=Rk p (by simp only[beq_iff_eq];omega)
theorem Ro{c:UInt8}(h:pY c.toNat=0)(h1:¬(c.toNat:Int)=45)(h2:¬(c.toNat:Int)=95)(h3:¬(c.toNat:Int)=46):qV c=false:=by simp[qV,h];omega
theorem Rq{c:UInt8}(h:¬pY c.toNat=0):qV c=true:=by simp[qV,h]
theorem Ag{c:UInt8}(h:(c.toNat:Int)=45∨(c.toNat:Int)=95∨(c.toNat:Int)=46):qV c=true:=by simp[qV];omega
theorem Rt{s:ByteArray}(k:Nat)(hk:k<s.size)(h:qV s[k]=false):nX s=false:=by rw[nX,Ci s k hk h];rfl
theorem Ru{s:ByteArray}(k:Nat)(hk:s.size≤k)(h:(s.data.toList.take k).all qV=true):nX s=aF s.size 1 32:=by rw[nX,Cj s k hk h];rfl
end Go.WW
namespace Go.Proofs.YtfieenjdcpjmgaaGreatDoor
open Go.RowKit Go.WW
theorem letter_c(c:Int)(w:World):Calls Tryz.prog 216 #[.int .u8 c] w fun e w'=>e=.returned (.int .i64 (pY c))∧w=w':=by
 rcases(show(97≤c∧c≤122)∨(65≤c∧c≤90)∨(48≤c∧c≤57)∨c<48∨(57<c∧c<65)∨(90<c∧c<97)∨122<c by omega)with⟨h1,h2⟩|⟨h1,h2⟩|⟨h1,h2⟩|h1|⟨h1,h2⟩|⟨h1,h2⟩|h1
 all_goals
  obtain⟨n,hn⟩:∃n,pY c=n:=⟨_,rfl⟩
  have hn':=hn
  unfold pY at hn'
  repeat (first|rw[if_pos (by omega)]at hn'|rw[if_neg (by omega)]at hn')
  subst hn'
  have HN:=Lib.hid hn
  clear hn
  go_enter Tryz.func216,Tryz.ntmps216
  go_wp2
  go_ret
  exact⟨by rw[HN.out];rfl,rfl⟩
theorem CE(c:Int)(w:World):Calls Tryz.prog 209 #[.int .u8 c] w fun e w'=>e=.returned (.int .i64 (yh c))∧w=w':=by
 rcases(show(97≤c∧c≤122)∨(65≤c∧c≤90)∨(48≤c∧c≤57)∨c<32∨(32≤c∧c<48)∨(57<c∧c<65)∨(90<c∧c<97)∨(122<c∧c≤126)∨126<c by omega)with⟨h1,h2⟩|⟨h1,h2⟩|⟨h1,h2⟩|h1|⟨h1,h2⟩|⟨h1,h2⟩|⟨h1,h2⟩|⟨h1,h2⟩|h1
 all_goals
  obtain⟨n,hn⟩:∃n,yh c=n:=⟨_,rfl⟩
  have hn':=hn
  unfold yh at hn'
  repeat (first|rw[if_pos (by omega)]at hn'|rw[if_neg (by omega)]at hn')
  subst hn'
  have HN:=Lib.hid hn
  clear hn
  go_enter Tryz.func209,Tryz.ntmps209
  go_wp2
  go_ret
  exact⟨by rw[HN.out];rfl,rfl⟩
theorem acV(s:ByteArray)(w:World)(hs:s.size≤lim):Calls Tryz.prog 145 #[.string s] w fun e w'=>e=.returned (.bool (nX s))∧w=w':=by
 have hs':s.size≤4294967000:=hs
 go_enter Tryz.func145,Tryz.ntmps145
 go_wp2
 go_loop [3] (fun i=>∃k:Nat,k≤s.size∧i=.int .i64 k∧Hid ((s.data.toList.take k).all qV=true)) (fun i=>s.size-(intOf i).toNat)
 case atStart=>exact⟨0,Nat.zero_le _,rfl,by simp[Hid]⟩
 case round=>
  obtain⟨k,hk,rfl,hall⟩:=hrel
  by_cases hlt:k<s.size
  ·by_cases hz:pY s[k].toNat=0
   ·have hz':(pY s[k].toNat == 0)=true:=by simp[hz]
    by_cases c1:(s[k].toNat:Int)=45
    ·have b1:((s[k].toNat:Int) != 45)=false:=by simp[c1]
     have HS:=Lib.hid (oN s k hlt hall.out (Ag (.inl c1)))
     clear c1 hz
     go_wp2_with (go_at_call 216;refine(letter_c _ _).mono ?_;rintro e w' ⟨rfl,rfl⟩)
     go_round
     case rel=>exact⟨k+1,by omega,by go_num,HS.out⟩
     case measure=>simp[intOf];omega
    ·have b1:((s[k].toNat:Int) != 45)=true:=by simp[c1]
     by_cases c2:(s[k].toNat:Int)=95
     ·have b2:((s[k].toNat:Int) != 95)=false:=by simp[c2]
      have HS:=Lib.hid (oN s k hlt hall.out (Ag (.inr (.inl c2))))
      clear c1 c2 hz
      go_wp2_with (go_at_call 216;refine(letter_c _ _).mono ?_;rintro e w' ⟨rfl,rfl⟩)
      go_round
      case rel=>exact⟨k+1,by omega,by go_num,HS.out⟩
      case measure=>simp[intOf];omega
     ·have b2:((s[k].toNat:Int) != 95)=true:=by simp[c2]
      by_cases c3:(s[k].toNat:Int)=46
      ·have b3:((s[k].toNat:Int) != 46)=false:=by simp[c3]
       have HS:=Lib.hid (oN s k hlt hall.out (Ag (.inr (.inr c3))))
       clear c1 c2 c3 hz
       go_wp2_with (go_at_call 216;refine(letter_c _ _).mono ?_;rintro e w' ⟨rfl,rfl⟩)
       go_round
       case rel=>exact⟨k+1,by omega,by go_num,HS.out⟩
       case measure=>simp[intOf];omega
      ·have b3:((s[k].toNat:Int) != 46)=true:=by simp[c3]
       have HS:=Lib.hid (Rt k hlt (Ro hz c1 c2 c3))
       clear c1 c2 c3 hz
       go_wp2_with (go_at_call 216;refine(letter_c _ _).mono ?_;rintro e w' ⟨rfl,rfl⟩)
       go_ret
       exact⟨by rw[HS.out];rfl,rfl⟩
   ·have HS:=Lib.hid (oN s k hlt hall.out (Rq hz))
    have hz':(pY s[k].toNat == 0)=false:=by simp[hz]
    clear hz
    go_wp2_with (go_at_call 216;refine(letter_c _ _).mono ?_;rintro e w' ⟨rfl,rfl⟩)
    go_round
    case rel=>exact⟨k+1,by omega,by go_num,HS.out⟩
    case measure=>simp[intOf];omega
  ·have HE:=Lib.hid (Ru k (by omega) hall.out)
   go_wp2_with (go_at_call 146;refine(QY _ _ _ _).mono ?_;rintro e w' ⟨rfl,rfl⟩)
   go_ret
   exact⟨by rw[HE.out];rfl,rfl⟩
theorem acW(s:ByteArray)(w:World)(hs:s.size≤lim):Calls Tryz.prog 137 #[.string s] w fun e w'=>e=.returned (.bool (nX s))∧w=w':=by
 have hs':s.size≤4294967000:=hs
 go_enter Tryz.func137,Tryz.ntmps137
 go_wp2
 go_loop [7] (fun i=>∃k:Nat,k≤s.size∧i=.int .i64 k∧Hid ((s.data.toList.take k).all qV=true)) (fun i=>s.size-(intOf i).toNat)
 case atStart=>exact⟨0,Nat.zero_le _,rfl,by simp[Hid]⟩
 case round=>
  obtain⟨k,hk,rfl,hall⟩:=hrel
  by_cases hlt:k<s.size
  ·by_cases hz:pY s[k].toNat=0
   ·have hz':decide (3<yh s[k].toNat)=true:=by simpa using(Q5 _).2 hz
    by_cases c1:(s[k].toNat:Int)=45
    ·have b1:((s[k].toNat:Int) != 45)=false:=by simp[c1]
     have HS:=Lib.hid (oN s k hlt hall.out (Ag (.inl c1)))
     clear c1 hz
     go_wp2_with (go_at_call 209;refine(CE _ _).mono ?_;rintro e w' ⟨rfl,rfl⟩)
     go_round
     case rel=>exact⟨k+1,by omega,by go_num,HS.out⟩
     case measure=>simp[intOf];omega
    ·have b1:((s[k].toNat:Int) != 45)=true:=by simp[c1]
     by_cases c2:(s[k].toNat:Int)=95
     ·have b2:((s[k].toNat:Int) != 95)=false:=by simp[c2]
      have HS:=Lib.hid (oN s k hlt hall.out (Ag (.inr (.inl c2))))
      clear c1 c2 hz
      go_wp2_with (go_at_call 209;refine(CE _ _).mono ?_;rintro e w' ⟨rfl,rfl⟩)
      go_round
      case rel=>exact⟨k+1,by omega,by go_num,HS.out⟩
      case measure=>simp[intOf];omega
     ·have b2:((s[k].toNat:Int) != 95)=true:=by simp[c2]
      by_cases c3:(s[k].toNat:Int)=46
      ·have b3:((s[k].toNat:Int) != 46)=false:=by simp[c3]
       have HS:=Lib.hid (oN s k hlt hall.out (Ag (.inr (.inr c3))))
       clear c1 c2 c3 hz
       go_wp2_with (go_at_call 209;refine(CE _ _).mono ?_;rintro e w' ⟨rfl,rfl⟩)
       go_round
       case rel=>exact⟨k+1,by omega,by go_num,HS.out⟩
       case measure=>simp[intOf];omega
      ·have b3:((s[k].toNat:Int) != 46)=true:=by simp[c3]
       have HS:=Lib.hid (Rt k hlt (Ro hz c1 c2 c3))
       clear c1 c2 c3 hz
       go_wp2_with (go_at_call 209;refine(CE _ _).mono ?_;rintro e w' ⟨rfl,rfl⟩)
       go_ret
       exact⟨by rw[HS.out];rfl,rfl⟩
   ·have HS:=Lib.hid (oN s k hlt hall.out (Rq hz))
    have hz':decide (3<yh s[k].toNat)=false:=by simpa using mt (Q5 _).1 hz
    clear hz
    go_wp2_with (go_at_call 209;refine(CE _ _).mono ?_;rintro e w' ⟨rfl,rfl⟩)
    go_round
    case rel=>exact⟨k+1,by omega,by go_num,HS.out⟩
    case measure=>simp[intOf];omega
  ·have HE:=Lib.hid (Ru k (by omega) hall.out)
   go_wp2_with (go_at_call 136;refine(wM _ _ _ _).mono ?_;rintro e w' ⟨rfl,rfl⟩)
   go_ret
   exact⟨by rw[HE.out];rfl,rfl⟩
theorem Ah(v:Int)(w:World):Calls Tryz.prog 135 #[.int .i64 v] w fun e w'=>e=.returned (.bool (aF v 0 1099511627776))∧w=w':=by
 go_enter Tryz.func135,Tryz.ntmps135
 go_wp2_with (go_at_call 136;refine(wM _ _ _ _).mono ?_;rintro e w' ⟨rfl,rfl⟩)
 go_ret
 exact⟨rfl,rfl⟩
theorem Rw(p:ai)(w:World)(hs:p.name.size≤lim):Calls Tryz.prog 81 #[.agg (aC p)] w fun e w'=>e=.returned (.bool (dP p))∧Below w.heap.size w w':=by
 go_enter Tryz.func81,Tryz.ntmps81
 go_wp2_with (first|(go_at_call 145;refine(acV _ _ hs).mono ?_;rintro e w' ⟨rfl,rfl⟩)|(go_at_call 146;refine(QY _ _ _ _).mono ?_;rintro e w' ⟨rfl,rfl⟩))
 all_goals go_ret
 all_goals exact⟨by first|(rw[Q7 p ‹_›];rfl)|(rw[Q8 p ‹_›];rfl)|(rw[Q9 p ‹_›];rfl)|(rw[Rf p ‹_›];rfl)|(rw[Rh p ‹_›];rfl)|(rw[Ri p ‹_›];rfl)|(rw[Rj p ‹_›];rfl)|(rw[Rk p ‹_›];rfl)|(rw[JL p ‹_›];rfl)|(rw[JM p ‹_›];rfl)|(rw[acU p ‹_›];rfl)|(rw[FN p ‹_› ‹_› ‹_› ‹_› ‹_› ‹_› ‹_› ‹_› ‹_› ‹_›];rfl)|(rw[Rl p ‹_› ‹_› ‹_› ‹_› ‹_› ‹_› ‹_› (.inl ‹p.eu=0›) ‹_› ‹_›];rfl)|(rw[Rl p ‹_› ‹_› ‹_› ‹_› ‹_› ‹_› ‹_› (.inr ‹p.iH≤p.eu›) ‹_› ‹_›];rfl)|(rw[Rn p ‹_› ‹_›];rfl),(Below.refl _ _).alloc (Nat.le_refl _) _⟩
theorem FO(p:ai)(w:World)(hs:p.name.size≤lim):Calls Tryz.prog 73 #[.agg (aC p)] w fun e w'=>e=.returned (.bool (dP p))∧Below w.heap.size w w':=by
 go_enter Tryz.func73,Tryz.ntmps73
 go_wp2_with fail
 refine(acW _ _ hs).mono ?_
 rintro e w' ⟨rfl,rfl⟩
 cases h1:nX p.name
 ·have HN:=Lib.hid (Q7 p (by simp[h1]))
  go_wp2_with fail
  all_goals go_ret
  all_goals exact⟨by rw[HN.out];rfl,(Below.refl _ _).alloc (Nat.le_refl _) _⟩
 go_wp2_with fail
 refine(wM _ _ _ _).mono ?_
 rintro e w' ⟨rfl,rfl⟩
 cases h2:aF p.length 1 64
 ·have HN:=Lib.hid (Q8 p (by simp[h2]))
  go_wp2_with fail
  all_goals go_ret
  all_goals exact⟨by rw[HN.out];rfl,(Below.refl _ _).alloc (Nat.le_refl _) _⟩
 go_wp2_with fail
 refine(wM _ _ _ _).mono ?_
 rintro e w' ⟨rfl,rfl⟩
 cases h3:aF p.classes 1 5
 ·have HN:=Lib.hid (Q9 p (by simp[h3]))
  go_wp2_with fail
  all_goals go_ret
  all_goals exact⟨by rw[HN.out];rfl,(Below.refl _ _).alloc (Nat.le_refl _) _⟩
 go_wp2_with fail
 refine(wM _ _ _ _).mono ?_
 rintro e w' ⟨rfl,rfl⟩
 cases h4:aF p.distinct 0 p.length
 ·have HN:=Lib.hid (Rf p (by simp[h4]))
  go_wp2_with fail
  all_goals go_ret
  all_goals exact⟨by rw[HN.out];rfl,(Below.refl _ _).alloc (Nat.le_refl _) _⟩
 go_wp2_with fail
 refine(wM _ _ _ _).mono ?_
 rintro e w' ⟨rfl,rfl⟩
 cases h5:aF p.history 0 16
 ·have HN:=Lib.hid (Rh p (by simp[h5]))
  go_wp2_with fail
  all_goals go_ret
  all_goals exact⟨by rw[HN.out];rfl,(Below.refl _ _).alloc (Nat.le_refl _) _⟩
 go_wp2_with fail
 refine(Ah _ _).mono ?_
 rintro e w' ⟨rfl,rfl⟩
 cases h6:aF p.iH 0 1099511627776
 ·have HN:=Lib.hid (Ri p (by simp[h6]))
  go_wp2_with fail
  all_goals go_ret
  all_goals exact⟨by rw[HN.out];rfl,(Below.refl _ _).alloc (Nat.le_refl _) _⟩
 go_wp2_with fail
 refine(Ah _ _).mono ?_
 rintro e w' ⟨rfl,rfl⟩
 cases h7:aF p.eu 0 1099511627776
 ·have HN:=Lib.hid (Rj p (by simp[h7]))
  go_wp2_with fail
  all_goals go_ret
  all_goals exact⟨by rw[HN.out];rfl,(Below.refl _ _).alloc (Nat.le_refl _) _⟩
 by_cases hz:p.eu=0
 ·have hz':(p.eu == 0)=true:=by simp[hz]
  have h8:(p.eu == 0)=true∨p.iH≤p.eu:=.inl hz'
  clear hz
  go_wp2_with fail
  refine(wM _ _ _ _).mono ?_
  rintro e w' ⟨rfl,rfl⟩
  cases h9:aF p.fails 0 1000
  ·have HN:=Lib.hid (JL p (by simp[h9]))
   go_wp2_with fail
   all_goals go_ret
   all_goals exact⟨by rw[HN.out];rfl,(Below.refl _ _).alloc (Nat.le_refl _) _⟩
  go_wp2_with fail
  refine(Ah _ _).mono ?_
  rintro e w' ⟨rfl,rfl⟩
  cases h10:aF p.window 0 1099511627776
  ·have HN:=Lib.hid (JM p (by simp[h10]))
   go_wp2_with fail
   all_goals go_ret
   all_goals exact⟨by rw[HN.out];rfl,(Below.refl _ _).alloc (Nat.le_refl _) _⟩
  go_wp2_with fail
  refine(Ah _ _).mono ?_
  rintro e w' ⟨rfl,rfl⟩
  have HN:=Lib.hid (FN p h1 h2 h3 h4 h5 h6 h7 h8 h9 h10)
  go_wp2_with fail
  all_goals go_ret
  all_goals exact⟨by rw[HN.out];rfl,(Below.refl _ _).alloc (Nat.le_refl _) _⟩
 have hz':(p.eu == 0)=false:=by simp[hz]
 by_cases hm:p.iH≤p.eu
 ·have h8:(p.eu == 0)=true∨p.iH≤p.eu:=.inr hm
  clear hz
  go_wp2_with fail
  refine(wM _ _ _ _).mono ?_
  rintro e w' ⟨rfl,rfl⟩
  cases h9:aF p.fails 0 1000
  ·have HN:=Lib.hid (JL p (by simp[h9]))
   go_wp2_with fail
   all_goals go_ret
   all_goals exact⟨by rw[HN.out];rfl,(Below.refl _ _).alloc (Nat.le_refl _) _⟩
  go_wp2_with fail
  refine(Ah _ _).mono ?_
  rintro e w' ⟨rfl,rfl⟩
  cases h10:aF p.window 0 1099511627776
  ·have HN:=Lib.hid (JM p (by simp[h10]))
   go_wp2_with fail
   all_goals go_ret
   all_goals exact⟨by rw[HN.out];rfl,(Below.refl _ _).alloc (Nat.le_refl _) _⟩
  go_wp2_with fail
  refine(Ah _ _).mono ?_
  rintro e w' ⟨rfl,rfl⟩
  have HN:=Lib.hid (FN p h1 h2 h3 h4 h5 h6 h7 h8 h9 h10)
  go_wp2_with fail
  all_goals go_ret
  all_goals exact⟨by rw[HN.out];rfl,(Below.refl _ _).alloc (Nat.le_refl _) _⟩
 have HN:=Lib.hid (Rn p hz (by omega))
 clear hz
 go_wp2_with fail
 all_goals go_ret
 all_goals exact⟨by rw[HN.out];rfl,(Below.refl _ _).alloc (Nat.le_refl _) _⟩
end Go.Proofs.YtfieenjdcpjmgaaGreatDoor
namespace Go.WW
open Go.RowKit
inductive Split:ByteArray→List ByteArray→Prop
 |last (s:ByteArray) (h:Lib.indexByte s.data.toList 46<0):Split s [s]
 |more (s:ByteArray) (k:Nat) (ys:List ByteArray) (h:Lib.indexByte s.data.toList 46=(k:Int)) (hk:k<s.size) (t:Split (s.extract (k+1) s.size) ys):Split s (s.extract 0 k::ys)
def JO(w:World)(b:Nat):Nat:=match w.cell? ⟨b,0,none⟩with|some (.string s)=>s.size|_=>0
theorem Rx{w:World}{b:Nat}{s:ByteArray}(h:w.cell? ⟨b,0,none⟩=some (.string s)):JO w b=s.size:=by unfold JO;rw[h]
theorem JP(s:ByteArray):Lib.indexByte s.data.toList 46=-1∨∃k:Nat,Lib.indexByte s.data.toList 46=(k:Int)∧k<s.size:=by
 have:∀l:List UInt8,Lib.indexByte l 46=-1∨∃k:Nat,Lib.indexByte l 46=(k:Int)∧k<l.length:=by
  intro l
  induction l with
  |nil=>left;rfl
  |cons b l ih=>
   unfold Lib.indexByte
   by_cases hb:(b == 46)=true
   ·right;exact⟨0,by simp[hb],by simp⟩
   ·rcases ih with h|⟨k,h,hk⟩
    ·left;simp[hb,h]
    ·right;refine⟨k+1,?_,by simp;omega⟩
     have:¬((k:Int)=-1):=by omega
     simp[hb,h,this]
 simpa using this s.data.toList
theorem acX(n:Nat):∀s:ByteArray,s.size≤n→∃ys,Split s ys:=by
 induction n with
 |zero=>
  intro s h
  rcases JP s with hi|⟨k,hi,hk⟩
  ·exact⟨_,.last s (by rw[hi];decide)⟩
  ·omega
 |succ n ih=>
  intro s h
  rcases JP s with hi|⟨k,hi,hk⟩
  ·exact⟨_,.last s (by rw[hi];decide)⟩
  ·obtain⟨ys,hys⟩:=ih (s.extract (k+1) s.size) (by simp;omega)
   exact⟨_,.more s k ys hi hk hys⟩
end Go.WW
namespace Go.Proofs.YtfieenjdcpjmgaaGreatDoor
open Go.RowKit Go.WW
attribute [local go_sem] Oper.semAt_some
theorem acY(n:Nat)(hn:1≤n)(m B:Nat)(s:ByteArray)(hs:s.size≤lim)(w:World)(hB:m+2<B)
 (hc0:w.cell? ⟨m,0,none⟩=some (.string s)) (hc1:w.cell? ⟨m+1,0,none⟩=some (.string ⟨#[46]⟩)) (hc2:w.cell? ⟨m+2,0,none⟩=some (.int .i64 0)) (hf:w.frozen? ⟨m,0,none⟩=false) :
 QW Fence.wide n Tryz.prog 210 #[.pointer (some ⟨m+1,0,none⟩),.pointer (some ⟨m,0,none⟩),.pointer (some ⟨m+2,0,none⟩)] (fun x:ByteArray=>#[.string x]) m B (fun x=>x.size≤lim) (Split s) (fun pre=>∃ys,Split s (pre++ys)) w:=by
 intro l J Jx W hW hJs hY h0
 have hs':s.size≤4294967000:=hs
 refine callsIn_of_wp Tryz.func210 rfl trivial ?_ rfl
 simp only[Tryz.ntmps210,List.size_toArray,List.length_cons,List.length_nil,Nat.reduceAdd,Nat.reduceSub,Array.replicate_succ,Array.replicate_zero,List.push_toArray,List.append_toArray,List.nil_append,List.cons_append]
 have hd1:W.cell? ⟨m+1,0,none⟩=some (.string ⟨#[46]⟩):=(hW.cell (p:=⟨m+1,0,none⟩) (by simp;omega)).trans hc1
 gi_wp2
 have hfW:W.frozen? ⟨m,0,none⟩=false:=(hW.frozen (p:=⟨m,0,none⟩) (by simp;omega)).trans hf
 gi_loopw [] (fun wr=>∃(pre:List ByteArray) (r:ByteArray),wr.cell? ⟨m,0,none⟩=some (.string r)∧wr.frozen? ⟨m,0,none⟩=false∧wr.cell? ⟨m+1,0,none⟩=some (.string ⟨#[46]⟩)∧wr.cell? ⟨m+2,0,none⟩=some (.int .i64 0)∧J pre wr∧r.size≤s.size∧∀ys,Split r ys→Split s (pre++ys)) (fun wr=>JO wr m)
 case atStart=>exact⟨[],s,(hW.cell (p:=⟨m,0,none⟩) (by simp;omega)).trans hc0,hfW,hd1,(hW.cell (p:=⟨m+2,0,none⟩) (by simp;omega)).trans hc2,h0,Nat.le_refl _,fun ys h=>h⟩
 case round=>
  obtain⟨pre,r,h1,hf1,h2,h3,hJ,hrs,hsp⟩:=hrel
  rcases JP r with hi|⟨k,hi,hk⟩
  ·obtain⟨fn,tmps,assign,body,hy,hR⟩:=hY pre r wr (by unfold lim;omega) hJ
   gi_wp2_with (refine⟨trivial,?_⟩;gi_at_call 212;refine(callsIn_wide.2 (Tryz.strings_Index_one _ _ _)).mono ?_;rintro e w' ⟨rfl,rfl⟩;rw[hi])
   refine hR.mono ?_
   have hS:Split s (pre++[r]):=hsp _ (.last r (by rw[hi];decide))
   rintro e W3 (⟨rfl,hJ3,hk3⟩|⟨rfl,hJx3⟩)
   ·gi_wp2
    go_end0
    exact⟨⟨_,rfl⟩,.inl ⟨_,hS,hJ3⟩⟩
   ·gi_wp2
    go_end0
    exact⟨⟨_,rfl⟩,.inr ⟨_,⟨[],by simpa using hS⟩,hJx3⟩⟩
  ·have hk':k≤r.size:=by omega
   have hr':r.size≤4294967000:=by omega
   obtain⟨fn,tmps,assign,body,hy,hR⟩:=hY pre (r.extract 0 k) wr (by unfold lim;simp;omega) hJ
   gi_wp2_with (refine⟨trivial,?_⟩;gi_at_call 212;refine(callsIn_wide.2 (Tryz.strings_Index_one _ _ _)).mono ?_;rintro e w' ⟨rfl,rfl⟩;rw[hi])
   refine hR.mono ?_
   rintro e W3 (⟨rfl,hJ3,hk3⟩|⟨rfl,hJx3⟩)
   ·have g1:=(hk3.cell (p:=⟨m,0,none⟩) (by simp;omega)).trans h1
    have g2:=(hk3.cell (p:=⟨m+1,0,none⟩) (by simp;omega)).trans h2
    have g3:=(hk3.cell (p:=⟨m+2,0,none⟩) (by simp;omega)).trans h3
    have gf:=(hk3.frozen (p:=⟨m,0,none⟩) (by simp;omega)).trans hf1
    gi_wp2
    go_roundw
    case rel=>
     refine⟨pre++[r.extract 0 k],r.extract (k+1) r.size,World.cell?_setCell_same' _ _ _ (by rw[g1];rfl),by rw[World.frozen?_setCell];exact gf,?_,?_,hJs _ _ _ hJ3,?_,?_⟩
     ·rw[World.cell?_setCell_other _ _ _ _ (by simp)];exact g2
     ·rw[World.cell?_setCell_other _ _ _ _ (by simp)];exact g3
     ·simp;omega
     ·intro ys hy;rw[List.append_assoc];exact hsp _ (.more r k ys hi hk hy)
    case measure=>
     rw[Rx (World.cell?_setCell_same' _ _ _ (by rw[g1];rfl)),Rx h1]
     simp;omega
   ·gi_wp2
    refine bodyPost_ret (results_none rfl _ _ _) rfl ?_
    obtain⟨ys,hys⟩:=acX (r.extract (k+1) r.size).size _ (Nat.le_refl _)
    exact⟨⟨_,rfl⟩,.inr ⟨_,⟨ys,by rw[List.append_assoc];exact hsp _ (.more r k ys hi hk hys)⟩,hJx3⟩⟩
end Go.Proofs.YtfieenjdcpjmgaaGreatDoor
namespace Go.WW
open Go.RowKit
def tq(c:UInt8):Bool:=(decide (65≤(c.toNat:Int))&&decide ((c.toNat:Int)≤90)) || (decide (48≤(c.toNat:Int))&&decide ((c.toNat:Int)≤57)) || (c.toNat:Int) == 45
def qW(s:ByteArray):Bool:=!s.data.toList.isEmpty&&s.data.toList.all tq
def good:Bool→List UInt8→Bool
 |p,[]=>!p
 |p,c::l=>if gB c then !p&&good true l else tq c&&good false l
theorem Ry(c:UInt8):gB c=true↔c=46:=by
 unfold gB
 constructor
 ·intro h;apply UInt8.toNat_inj.1;have:(c.toNat:Int)=46:=by simpa using h
  simp;omega
 ·rintro rfl;rfl
theorem ac0:∀(l:List UInt8) (p:Bool),(∀c∈l,gB c=false)→good p l=(!(p&&l.isEmpty)&&l.all tq):=by
 intro l
 induction l with
 |nil=>intro p _;cases p<;>rfl
 |cons c l ih=>
  intro p h
  have h1:gB c=false:=h c (by simp)
  unfold good
  rw[h1,ih false (fun c hc=>h c (by simp[hc]))]
  simp
theorem ac1:∀(a b:List UInt8) (p:Bool),(∀c∈a,gB c=false)→good p (a++46::b)=(!(p&&a.isEmpty)&&a.all tq&&good true b):=by
 intro a b
 induction a with
 |nil=>intro p _;cases p<;>simp[good,gB]
 |cons c l ih=>
  intro p h
  have h1:gB c=false:=h c (by simp)
  rw[List.cons_append,good,h1,ih false (fun c hc=>h c (by simp[hc]))]
  simp[Bool.and_assoc]
theorem index_none:∀l:List UInt8,Lib.indexByte l 46<0→∀c∈l,gB c=false:=by
 intro l
 induction l with
 |nil=>intro _ c h;simp at h
 |cons b l ih=>
  intro h c hc
  unfold Lib.indexByte at h
  by_cases hb:(b == 46)=true
  ·simp[hb]at h
  ·by_cases hm:Lib.indexByte l 46=-1
   ·rcases List.mem_cons.1 hc with rfl|hc
    ·cases hd:gB c
     ·rfl
     ·exact absurd (by simpa using(Ry c).1 hd) hb
    ·exact ih (by omega) c hc
   ·have:=Lib.indexByte_ge l 46
    simp[hb,hm]at h<;>omega
theorem ac2:∀(l:List UInt8) (k:Nat),Lib.indexByte l 46=(k:Int)→(∀c∈l.take k,gB c=false)∧l=l.take k++46::l.drop (k+1):=by
 intro l
 induction l with
 |nil=>intro k h;simp[Lib.indexByte]at h<;>omega
 |cons b l ih=>
  intro k h
  unfold Lib.indexByte at h
  by_cases hb:(b == 46)=true
  ·simp[hb]at h
   have:k=0:=by omega
   subst this
   have:b=46:=by simpa using hb
   subst this;simp
  ·by_cases hm:Lib.indexByte l 46=-1
   ·simp[hb,hm]at h<;>omega
   ·have h':Lib.indexByte l 46+1=(k:Int):=by simpa[hb,hm]using h
    have:=Lib.indexByte_ge l 46
    obtain⟨j,rfl⟩:∃j,k=j+1:=⟨k-1,by omega⟩
    obtain⟨h1,h2⟩:=ih j (by omega)
    have hbd:gB b=false:=by
     cases hd:gB b
     ·rfl
     ·exact absurd (by simpa using(Ry b).1 hd) hb
    refine⟨?_,?_⟩
    ·intro c hc;simp at hc;rcases hc with rfl|hc
     ·exact hbd
     ·exact h1 c hc
    ·simp only[List.take_succ_cons,List.drop_succ_cons,List.cons_append];rw[←h2]
theorem ac3{s:ByteArray}{ys:List ByteArray}(h:Split s ys):ys.all qW=good true s.data.toList:=by
 induction h with
 |last s h=>
  rw[ac0 _ _ (index_none _ h)];simp[qW]
 |more s k ys h hk t ih=>
  obtain⟨h1,h2⟩:=ac2 _ _ h
  have e1:(s.extract 0 k).data.toList=s.data.toList.take k:=by simp[ByteArray.data_extract]
  have e2:(s.extract (k+1) s.size).data.toList=s.data.toList.drop (k+1):=by
   simp[ByteArray.data_extract]
   exact List.take_of_length_le (by simp)
  rw[e2]at ih
  rw[h2,ac1 _ _ _ h1,List.all_cons,ih]
  simp only[qW,e1]
  simp
theorem ac4(s:ByteArray):∀(k i:Nat),i+k=s.size→good (i == 0 || (s.data.toList[i-1]?).any gB) (s.data.toList.drop i)=((List.range' i k).all (mP s)&&!(k == 0&&(i == 0 || (s.data.toList[i-1]?).any gB))):=by
 intro k
 induction k with
 |zero=>
  intro i h
  have:s.data.toList.drop i=[]:=List.drop_of_length_le (by
    have:s.data.toList.length=s.size:=by simp
    omega)
  rw[this];simp[good]
 |succ k ih=>
  intro i h
  have hl:s.data.toList.length=s.size:=by simp
  have hi:i<s.data.toList.length:=by omega
  rw[List.drop_eq_getElem_cons hi,List.range'_succ,List.all_cons]
  have ih':=ih (i+1) (by omega)
  have e0:(i+1 == 0 || (s.data.toList[i+1-1]?).any gB)=gB (s.data.toList[i]):=by
   rw[Nat.add_sub_cancel,List.getElem?_eq_getElem hi];simp
  rw[e0]at ih'
  rw[good]
  have er:mP s i=(oO s.data.toList[i]&&!(gB s.data.toList[i]&&(i == 0 || i+1 == s.size || (s.data.toList[i-1]?).any gB))):=by
   unfold mP;rw[List.getElem?_eq_getElem hi]
  have e3:(i+1 == s.size)=(k == 0):=by
   rw[Bool.eq_iff_iff];simp;omega
  rw[er,e3]
  cases hd:gB s.data.toList[i]
  ·rw[hd]at ih'
   have e4:tq s.data.toList[i]=oO s.data.toList[i]:=by
    unfold gB at hd
    unfold tq oO
    rw[hd]
    generalize ((s.data.toList[i]).toNat:Int)=z
    rw[Bool.eq_iff_iff];simp;omega
   simp only[Bool.false_eq_true,if_false,e4,ih']
   simp
  ·rw[hd]at ih'
   have e4:oO s.data.toList[i]=true:=Cm (.inl (by unfold gB at hd;simpa using hd))
   simp only[if_true,ih',e4]
   cases k<;>simp[Bool.and_comm]
theorem ac5(s:ByteArray)(hz:sized s=true):gU s=good true s.data.toList:=by
 have h1:1≤(s.size:Int):=by unfold sized at hz;simp at hz;exact hz.1
 have:=ac4 s s.size 0 (by simp)
 simp only[List.drop_zero,BEq.rfl,Bool.true_or]at this
 have hk:(s.size == 0)=false:=by simp;intro e;rw[e]at h1;simp at h1
 rw[hk]at this
 rw[this,gU,hz,List.range_eq_range']
 simp
theorem Rz{s:ByteArray}{ys:List ByteArray}(hz:sized s=true)(h:Split s ys):gU s=ys.all qW:=by
 rw[ac3 h,ac5 s hz]
theorem ac6{s:ByteArray}(hz:sized s=false):gU s=false:=by rw[gU,hz];simp
end Go.WW
namespace Go.Proofs.YtfieenjdcpjmgaaGreatDoor
open Go.RowKit Go.WW
theorem ac7(s t:ByteArray)(k:Int)(w:World):Calls Tryz.prog 138 #[.string s,.string t,.int .i64 k] w fun e w'=>e=.returned (.func (.func 210) #[] #[.pointer (some ⟨w.heap.size+1,0,none⟩),.pointer (some ⟨w.heap.size,0,none⟩),.pointer (some ⟨w.heap.size+2,0,none⟩)])∧
  w'=((w.alloc (.cells #[.string s] 9)).alloc (.cells #[.string t] 9)).alloc (.cells #[.int .i64 k] 3):=by
 go_enter Tryz.func138,Tryz.ntmps138
 go_wp2
 go_ret
 exact⟨rfl,rfl⟩
theorem ac8(s t:ByteArray)(w:World):Calls Tryz.prog 75 #[.string s,.string t] w fun e w'=>e=.returned (.func (.func 210) #[] #[.pointer (some ⟨w.heap.size+1,0,none⟩),.pointer (some ⟨w.heap.size,0,none⟩),.pointer (some ⟨w.heap.size+2,0,none⟩)])∧
  w'=((w.alloc (.cells #[.string s] 9)).alloc (.cells #[.string t] 9)).alloc (.cells #[.int .i64 0] 3):=by
 go_enter Tryz.func75,Tryz.ntmps75
 go_wp2_with (go_at_call 138;refine(ac7 _ _ _ _).mono ?_;rintro e w' ⟨rfl,rfl⟩)
 go_ret
 exact⟨rfl,rfl⟩
def JQ(w:World)(pre:List ByteArray)(W:World):Prop:=(W.cell? ⟨w.heap.size,0,none⟩=some (.bool false)∧W.frozen? ⟨w.heap.size,0,none⟩=false)∧Below w.heap.size w W∧Hid (pre.all qW=true)
def JR(w:World)(pre:List ByteArray)(W:World):Prop:=(W.cell? ⟨w.heap.size,0,none⟩=some (.bool false))∧Below w.heap.size w W∧Hid (pre.all qW=false)
attribute [local go_sem] Oper.semAt_some
theorem JS(s:ByteArray)(w:World)(hs:s.size≤lim):Calls Tryz.prog 31 #[.string s] w fun e w'=>e=.returned (.bool (gU s))∧Below w.heap.size w w':=by
 refine(callsIn_wide (n:=5)).1 ?_
 have h1:1≤5:=by omega
 refine callsIn_of_wp_marks Tryz.func31 rfl trivial ?_ rfl
 simp only[Tryz.ntmps31,List.size_toArray,List.length_cons,List.length_nil,Nat.reduceAdd,Nat.reduceSub,Array.replicate_succ,Array.replicate_zero,List.push_toArray,List.append_toArray,List.nil_append,List.cons_append]
 cases hz:sized s
 ·have HN:=Lib.hid (ac6 hz)
  gi_wp2_with (refine⟨trivial,?_⟩;gi_at_call 74;refine(callsIn_wide.2 (JG _ _ (le_max hs))).mono ?_;rintro e w' ⟨rfl,rfl⟩;rw[hz])
  refine⟨.bool false,?_,by rw[HN.out],(Below.refl _ w).alloc (Nat.le_refl _) _⟩
  simp[results,Tryz.f31,go_sem]
 gi_wp2_with (first
  |(refine⟨trivial,?_⟩;gi_at_call 74;refine(callsIn_wide.2 (JG _ _ (le_max hs))).mono ?_;rintro e w' ⟨rfl,rfl⟩;rw[hz])
  |(refine⟨trivial,?_⟩;gi_at_call 75;refine(callsIn_wide.2 (ac8 _ _ _)).mono ?_;rintro e w' ⟨rfl,rfl⟩))
 obtain⟨W0,hW0⟩:∃W0,(((w.alloc (.cells #[.bool false] 4)).alloc (.cells #[.string s] 9)).alloc (.cells #[.string ⟨#[46]⟩] 9)).alloc (.cells #[.int .i64 0] 3)=W0:=⟨_,rfl⟩
 have hsz:W0.heap.size=w.heap.size+4:=by rw[←hW0];simp
 have hB0:Below w.heap.size w W0:=by rw[←hW0];exact((((Below.refl _ w).alloc (Nat.le_refl _) _).alloc (by simp) _).alloc (by simp;omega) _).alloc (by simp;omega) _
 have g0:W0.cell? ⟨w.heap.size,0,none⟩=some (.bool false):=by rw[←hW0];simp[go_sem]
 have f0:W0.frozen? ⟨w.heap.size,0,none⟩=false:=by rw[←hW0];simp[go_sem]
 have g1:W0.cell? ⟨w.heap.size+1,0,none⟩=some (.string s):=by rw[←hW0];simp[go_sem]
 have f1:W0.frozen? ⟨w.heap.size+1,0,none⟩=false:=by rw[←hW0];simp[go_sem]
 have g2:W0.cell? ⟨w.heap.size+1+1,0,none⟩=some (.string ⟨#[46]⟩):=by rw[←hW0];simp[go_sem]
 have g3:W0.cell? ⟨w.heap.size+1+2,0,none⟩=some (.int .i64 0):=by rw[←hW0];simp[go_sem]
 rw[hW0]
 refine acz (α:=ByteArray) rfl h1 (gf:=210) (lb:=#[.pointer (some ⟨w.heap.size+1+1,0,none⟩),.pointer (some ⟨w.heap.size+1,0,none⟩),.pointer (some ⟨w.heap.size+1+2,0,none⟩)]) (by simp[go_sem]) trivial (enters_of Tryz.func210 (by kernel_rfl) rfl)
  (acY 4 (by omega) (w.heap.size+1) W0.heap.size s hs W0 (by omega) g1 g2 g3 f1) (by omega) (fun _=>rfl)
  (JQ w)
  (JR w)
  ?_ ?_ ?_ ⟨⟨g0,f0⟩,hB0,by simp[Hid]⟩
  (fun x=>{tmps:=#[.string s,undef,.pointer (some ⟨w.heap.size,0,none⟩),.string x,undef,undef,.string s,.bool true,.bool false,.string s,.func (.func 210) #[] #[.pointer (some ⟨w.heap.size+1+1,0,none⟩),.pointer (some ⟨w.heap.size+1,0,none⟩),.pointer (some ⟨w.heap.size+1+2,0,none⟩)],.string x,undef,undef,undef,undef,undef,undef,undef,undef,undef,undef,undef,undef,undef,undef,undef,undef,undef,undef,undef,undef,undef,undef,undef,undef,undef,undef,undef,undef,undef],defers:=[]}) ?assign ?body ?done ?stop
 ·unfold JQ
  refine OwnFrom.and (Own.from (fun s A B row hs hg hr=>⟨cell_kept hs.1 hg hr,(frozen_kept hs.1 hg hr).trans hs.2⟩) _) (OwnFrom.and (ownFrom_below (Nat.le_refl _) (by omega)) ?_)
  exact fun s A B row hs hg hr=>hs
 ·rintro pre W v ⟨⟨hc,hf⟩,hB,hall⟩
  exact⟨⟨by rw[World.cell?_setCell_other _ _ _ _ (by simp)];exact hc,by rw[World.frozen?_setCell];exact hf⟩,hB.setCell (p:=⟨w.heap.size+1,0,none⟩) (by simp) _,hall⟩
 ·unfold JR
  refine OwnFrom.and (Own.from (fun s A B row hs hg hr=>cell_kept hs hg hr) _) (OwnFrom.and (ownFrom_below (Nat.le_refl _) (by omega)) ?_)
  exact fun s A B row hs hg hr=>hs
 all_goals clear hsz
 case assign=>
  intro l x W K hK
  gi_wp2
  exact hK
 case body=>
  rintro l pre x W hx ⟨⟨hc,hf⟩,hB,hall⟩
  have hx':x.size≤4294967000:=hx
  have hno:qW x=false→QX W0.heap.size
   (JQ w)
   (JR w) (pre++[x]) W Exit.ret {tmps:=#[],defers:=[]} (W.setCell ⟨w.heap.size,0,none⟩ (.bool false)):=fun h=>
   ⟨KeepsOthers.setCell _ _ _,World.cell?_setCell_same' _ _ _ (by rw[hc];rfl),hB.setCell (p:=⟨w.heap.size,0,none⟩) (Nat.le_refl _) _,by simp[Hid,h]⟩
  cases he:x.toList.isEmpty
  ·gi_wp2
   gi_loop [16] (fun i=>∃k:Nat,k≤x.size∧i=.int .i64 k∧Hid ((x.data.toList.take k).all tq=true)) (fun i=>x.size-(intOf i).toNat)
   case atStart=>exact⟨0,Nat.zero_le _,rfl,by simp[Hid]⟩
   case round=>
    obtain⟨k,hk,rfl,qX⟩:=hrel
    by_cases hlt:k<x.size
    ·by_cases h45:(x[k].toNat:Int)=45
     ·have ac9:((x[k].toNat:Int) != 45)=false:=by simp[h45]
      gi_wp2
      all_goals
       go_round
       case rel=>exact⟨k+1,by omega,by go_num,oN x k hlt qX.out (by simp[tq,h45])⟩
       case measure=>simp[intOf];omega
     ·have ac9:((x[k].toNat:Int) != 45)=true:=by simp[h45]
      gi_wp2
      all_goals first
       |(go_round
         case rel=>exact⟨k+1,by omega,by go_num,oN x k hlt qX.out (by simp[tq];omega)⟩
         case measure=>simp[intOf];omega)
       |exact hno (by rw[qW,Ci x k hlt (by simp[tq];omega)];simp)
    ·gi_wp2
     refine⟨KeepsOthers.refl _,Below.refl _ _,⟨hc,hf⟩,hB,?_⟩
     have:qW x=true:=by rw[qW,Cj x k (by omega) qX.out,←Lib.toList_data,he];rfl
     have h2:=hall.out
     simp[Hid,this];simpa using h2
  ·gi_wp2
   exact hno (by rw[qW,←Lib.toList_data,he];rfl)
 case done=>
  rintro D ys W hD hS ⟨⟨hc,hf⟩,hB,hall⟩ hK
  have hok:gU s=true:=by rw[Rz hz hS];exact hall.out
  have hD':w.heap.size≤D:=Nat.le_trans hB0.size hD
  gi_wp2
  have hK':=(KeepsOthers.setCell W ⟨w.heap.size,0,none⟩ (.bool true)).same D _ hK rfl
  refine⟨by simp,.inl ⟨_,_,rfl,run_takeDeferred hK',?_⟩⟩
  have hc5:=cell_kept (World.cell?_setCell_same' W ⟨w.heap.size,0,none⟩ (.bool true) (by rw[hc];rfl)) (grownBy_putObj' _ D (.deferred none)) (fun r e=>by cases e;exact⟨_,hK',rfl⟩)
  refine⟨.bool true,?_,by rw[hok],(hB.setCell (p:=⟨w.heap.size,0,none⟩) (Nat.le_refl _) _).trans (belowK_b (w:=w) (Nat.le_refl _) _ D _ _ hD' hK' rfl rfl)⟩
  simp[results,Tryz.f31,go_sem,hc5]
 case stop=>
  rintro D pre W hD ⟨ys,hS⟩ ⟨hc,hB,hall⟩ hK
  have hok:gU s=false:=by rw[Rz hz hS,List.all_append,hall.out];rfl
  have hD':w.heap.size≤D:=Nat.le_trans hB0.size hD
  gi_wp2
  refine⟨by simp,.inl ⟨_,_,rfl,run_takeDeferred hK,?_⟩⟩
  have hc5:=cell_kept hc (grownBy_putObj' _ D (.deferred none)) (fun r e=>by cases e;exact⟨_,hK,rfl⟩)
  refine⟨.bool false,?_,by rw[hok],hB.trans (belowK_b (w:=w) (Nat.le_refl _) _ D _ _ hD' hK rfl rfl)⟩
  simp[results,Tryz.f31,go_sem,hc5]
end Go.Proofs.YtfieenjdcpjmgaaGreatDoor
namespace Go.WW
def yj(l:List Bool):Int:=if l.all (fun b=>b)=true then -1 else(l.findIdx (fun b=>!b):Int)
theorem ada{l:List Bool}(k:Nat)(h:k<l.length)(h1:(l.take k).all (fun b=>b)=true)(h2:l[k]=false):yj l=(k:Int):=by
 have hn:l.all (fun b=>b)=false:=by rw[List.all_eq_false];exact⟨l[k],List.getElem_mem h,by simp[h2]⟩
 rw[yj,hn]
 have:l.findIdx (fun b=>!b)=k:=by
  rw[List.findIdx_eq h]
  refine⟨by simp[h2],fun j hj=>?_⟩
  have:=List.all_eq_true.1 h1 (l[j]'(by omega)) (by rw[List.mem_take_iff_getElem];exact⟨j,by omega,rfl⟩)
  simpa using this
 simp[this]
theorem adb{l:List Bool}(k:Nat)(h:l.length≤k)(h1:(l.take k).all (fun b=>b)=true):yj l=-1:=by
 rw[List.take_of_length_le h]at h1;rw[yj,h1];rfl
theorem ade(l:List Bool):decide (0≤yj l)=!l.all (fun b=>b):=by
 unfold yj
 cases h:l.all (fun b=>b)
 ·simp
 ·simp
end Go.WW
namespace Go.Proofs.YtfieenjdcpjmgaaGreatDoor
open Go.RowKit Go.WW
theorem adf(b o cap:Nat)(l:List Bool)(w:World)(hl:qN w (some ⟨b,o,none⟩) l)(hn:l.length≤lim):Calls Tryz.prog 373 #[.slice (some ⟨b,o,none⟩) l.length cap,.bool false] w fun e w'=>e=.returned (.int .i64 (yj l))∧w=w':=by
 have hn':l.length≤4294967000:=hn
 go_enter Tryz.func373,Tryz.ntmps373
 go_wp2
 go_loop [8] (fun i=>∃k:Nat,k≤l.length∧i=.int .i64 k∧Hid ((l.take k).all (fun b=>b)=true)) (fun i=>l.length-(intOf i).toNat)
 case atStart=>exact⟨0,Nat.zero_le _,rfl,by simp[Hid]⟩
 case round=>
  obtain⟨k,hk,rfl,hall⟩:=hrel
  by_cases hlt:k<l.length
  ·have hc:=hl.at k hlt
   have hb:b<w.heap.size:=World.block_lt_of_cell? w _ hc
   cases hv:l[k]
   ·rw[hv]at hc
    have HN:=Lib.hid (ada k hlt hall.out hv)
    go_wp2
    go_ret
    exact⟨by rw[HN.out];rfl,rfl⟩
   ·rw[hv]at hc
    have HN:=Lib.hid (kW l k hlt hall.out hv)
    go_wp2
    go_round
    case rel=>exact⟨k+1,by omega,by go_num,HN.out⟩
    case measure=>simp[intOf];omega
  ·have HN:=Lib.hid (adb k (by omega) hall.out)
   go_wp2
   go_ret
   exact⟨by rw[HN.out];rfl,rfl⟩
theorem adg(b o cap:Nat)(l:List Bool)(w:World)(hl:qN w (some ⟨b,o,none⟩) l)(hn:l.length≤lim):Calls Tryz.prog 345 #[.slice (some ⟨b,o,none⟩) l.length cap,.bool false] w fun e w'=>e=.returned (.bool (!l.all (fun b=>b)))∧w=w':=by
 go_enter Tryz.func345,Tryz.ntmps345
 have HN:=Lib.hid (ade l)
 go_wp2_with (go_at_call 373;refine(adf _ _ _ _ _ hl hn).mono ?_;rintro e w' ⟨rfl,rfl⟩)
 all_goals go_ret
 all_goals exact⟨by rw[←HN.out];rfl,rfl⟩
theorem adh(b o cap:Nat)(l:List Bool)(w:World)(hl:qN w (some ⟨b,o,none⟩) l)(hn:l.length≤lim):Calls Tryz.prog 276 #[.slice (some ⟨b,o,none⟩) l.length cap] w fun e w'=>e=.returned (.bool (l.all (fun b=>b)))∧w=w':=by
 go_enter Tryz.func276,Tryz.ntmps276
 cases h:l.all (fun b=>b)
 iterate 2
  ·go_wp2_with (go_at_call 345;refine(adg _ _ _ _ _ hl hn).mono ?_;rintro e w' ⟨rfl,rfl⟩;rw[h])
   go_ret
   exact⟨rfl,rfl⟩
end Go.Proofs.YtfieenjdcpjmgaaGreatDoor
namespace Go.WW
open Go.RowKit
theorem adi{w:World}{b:Nat}(x y z:Bool)(h:w.cell? ⟨b,0,none⟩=some (.bool x))(h1:w.cell? ⟨b,1,none⟩=some (.bool y))(h2:w.cell? ⟨b,2,none⟩=some (.bool z)):qN w (some ⟨b,0,none⟩) [x,y,z]:=by
 refine⟨by simp[lim],fun i hi=>?_⟩
 match i,hi with
 |0,_=>exact⟨_,_,_,rfl,h,x,rfl,rfl⟩
 |1,_=>exact⟨_,_,_,rfl,h1,y,rfl,rfl⟩
 |2,_=>exact⟨_,_,_,rfl,h2,z,rfl,rfl⟩
theorem adk{p:az}(h:([decide (1≤(p.parts.length:Int)),decide ((p.parts.length:Int)≤4),gU p.aG].all fun b=>b)=false):bG p=false:=by
 simp only[List.all_cons,List.all_nil,Bool.and_true]at h
 rw[bG,Bool.and_assoc,Bool.and_assoc,h];simp
theorem adl{p:az}(h:([decide (1≤(p.parts.length:Int)),decide ((p.parts.length:Int)≤4),gU p.aG].all fun b=>b)=true):p.parts.all jF=true→bG p=true:=by
 intro h2
 simp only[List.all_cons,List.all_nil,Bool.and_true]at h
 rw[bG,Bool.and_assoc,Bool.and_assoc,h,h2];rfl
theorem adm{p:az}(h:([decide (1≤(p.parts.length:Int)),decide ((p.parts.length:Int)≤4),gU p.aG].all fun b=>b)=true):0<p.parts.length:=by
 simp at h;omega
end Go.WW
namespace Go.Proofs.YtfieenjdcpjmgaaGreatDoor
open Go.RowKit Go.WW
theorem Ai(s:Sl)(p:az)(w:World)(hp:bn w s p):Calls Tryz.prog 197 #[.agg (ah s p)] w fun e w'=>e=.returned (.bool (bG p))∧Below w.heap.size w w':=by
 have hl:p.parts.length≤4294967000:=hp.1.1
 go_enter Tryz.func197,Tryz.ntmps197
 go_wp2_with fail
 refine pW (Below.refl _ (w.alloc (.cells (ah s p) 40))) (by kernel_rfl) (by kernel_rfl) ?_
 intro w1 hb1
 obtain⟨hc,hf,hr⟩:=bg hb1
 have hsz:w.heap.size<w1.heap.size:=by have:=hb1.size;simp at this;omega
 repeat (first|(refine ax (by rfl) ?_)|(refine aI (by rfl) (by rfl) (fun K hK=>?_);go_big_quiet_op;refine hK _ ?_;clear hK K))
 refine aK (by rfl) (by rfl) (fun K hK=>?_)
 go_wp2_with fail
 refine(JS _ _ hp.2).mono ?_
 rintro e w2 ⟨rfl,hb2⟩
 have hb3:=ag hb1 hb2
 go_wp2_with fail
 refine hK _ _ (aA hb3) ?_
 clear hK K
 clear hc hf hr hsz
 obtain⟨hc,hf,hr⟩:=bg hb3
 have hsz:w.heap.size<w2.heap.size:=by have:=hb3.size;simp at this;omega
 repeat (first|(refine ax (by rfl) ?_)|(refine aI (by rfl) (by rfl) (fun K hK=>?_);go_big_quiet_op;refine hK _ ?_;clear hK K))
 refine aK (by rfl) (by rfl) (fun K hK=>?_)
 go_wp2_with fail
 have hb4:=aj hb3 (.cells #[.bool (decide (1≤(p.parts.length:Int))),.bool (decide ((p.parts.length:Int)≤4)),.bool (gU p.aG)] 4)
 refine hK _ _ (aA hb4) ?_
 clear hK K
 repeat (first|(refine ax (by rfl) ?_)|(refine aI (by rfl) (by rfl) (fun K hK=>?_);go_big_quiet_op;refine hK _ ?_;clear hK K))
 refine aK (by rfl) (by rfl) (fun K hK=>?_)
 go_wp2_with fail
 refine(adh _ _ _ [decide (1≤(p.parts.length:Int)),decide ((p.parts.length:Int)≤4),gU p.aG] _ (adi _ _ _ (by simp[go_sem]) (by simp[go_sem]) (by simp[go_sem])) (by simp[lim])).mono ?_
 rintro e w5 ⟨rfl,rfl⟩
 obtain⟨c,h3⟩:∃c,([decide (1≤(p.parts.length:Int)),decide ((p.parts.length:Int)≤4),gU p.aG].all fun b=>b)=c:=⟨_,rfl⟩
 rw[h3]
 go_wp2_with fail
 refine hK _ _ (aA hb4) ?_
 clear hK K
 repeat (first|(refine ax (by rfl) ?_)|(refine aI (by rfl) (by rfl) (fun K hK=>?_);go_big_quiet_op;refine hK _ ?_;clear hK K))
 refine bV ?_
 have hb5:Below w.heap.size w (w2.alloc (.cells #[.bool (decide (1≤(p.parts.length:Int))),.bool (decide ((p.parts.length:Int)≤4)),.bool (gU p.aG)] 4)):=((Below.refl _ w).alloc (Nat.le_refl _) _).trans (hb4.mono (by simp))
 cases c
 ·have HN:=Lib.hid (adk h3)
  go_wp2_with fail
  go_ret
  exact⟨by rw[HN.out];rfl,hb5⟩
 simp only[Bool.not_true]
 have HH:=Lib.hid (adl h3)
 obtain⟨sa,scap⟩:=s
 obtain⟨b,o,ha,-,-⟩:=hp.1.get 0 (adm h3)
 dsimp only at ha
 subst ha
 clear h3 hc hf hr hsz
 obtain⟨hc,hf,hr⟩:=bg hb4
 have hsz:w.heap.size<(w2.alloc (.cells #[.bool (decide (1≤(p.parts.length:Int))),.bool (decide ((p.parts.length:Int)≤4)),.bool (gU p.aG)] 4)).heap.size:=by have:=hb4.size;simp at this ⊢;omega
 have hp5:=hp.later hb5
 generalize w2.alloc (.cells #[.bool (decide (1≤(p.parts.length:Int))),.bool (decide ((p.parts.length:Int)≤4)),.bool (gU p.aG)] 4)=w6 at *
 clear hb1 hb2 hb3 hb4
 go_wp2_with fail
 go_loop [22] (fun i=>∃k:Nat,k≤p.parts.length∧i=.int .i64 k∧Hid ((p.parts.take k).all jF=true)) (fun i=>p.parts.length-(intOf i).toNat)
 case atStart=>exact⟨0,Nat.zero_le _,rfl,by simp[Hid]⟩
 case round=>
  obtain⟨k,hk,rfl,hall⟩:=hrel
  by_cases hlt:k<p.parts.length
  ·obtain⟨hcc,hss⟩:=hp5.1.at k hlt
   have hbb:b<w6.heap.size:=World.block_lt_of_cell? w6 _ hcc
   cases hpart:jF p.parts[k]
   ·have HN:=Lib.hid (Q4 k hlt hpart)
    go_wp2_with (go_at_call 277;refine(QZ _ _ (le_max hss)).mono ?_;rintro e w' ⟨rfl,rfl⟩;rw[hpart])
    go_ret
    exact⟨by rw[HN.out];rfl,hb5⟩
   ·have HN:=Lib.hid (kW p.parts k hlt hall.out hpart)
    go_wp2_with (go_at_call 277;refine(QZ _ _ (le_max hss)).mono ?_;rintro e w' ⟨rfl,rfl⟩;rw[hpart])
    go_round
    case rel=>exact⟨k+1,by omega,by go_num,HN.out⟩
    case measure=>simp[intOf];omega
  ·have HN:=Lib.hid (HH.out (qU p.parts k (by omega) hall.out))
   go_wp2_with fail
   go_ret
   exact⟨by rw[HN.out];rfl,hb5⟩
end Go.Proofs.YtfieenjdcpjmgaaGreatDoor
namespace Go.WW
def countOf(d:Entry)(p:ai)(now:Int):Int:=
 if 0<p.fails∧p.fails≤d.fails then(if 0<p.lock∧d.fD+p.lock≤now then 0 else d.fails)
 else if 0<p.window∧d.fD+p.window<now then 0 else d.fails
def apH(d:Entry)(p:ai)(now:Int):Bool:=decide (0<p.fails)&&decide (p.fails≤countOf d p now)
def apI(d:Entry)(p:ai):Int:=if p.lock=0 then 0 else min (d.fD+p.lock) 1099511627776
structure Small(d:Entry)(p:ai):Prop where
 l0:0≤d.fD
 l1:d.fD≤1099511627776
 f0:0≤d.fails
 f1:d.fails≤65535
 w0:0≤p.window
 w1:p.window≤1099511627776
 k0:0≤p.lock
 k1:p.lock≤1099511627776
 m0:0≤p.fails
end Go.WW
namespace Go.Proofs.YtfieenjdcpjmgaaGreatDoor
open Go.RowKit Go.WW
end Go.Proofs.YtfieenjdcpjmgaaGreatDoor
