/- A part of the proof. -/
import Derived.Test.YtpfifochimkpfaaGreatDoorA03
import Derived.Maps.AppendAt
import Derived.Deep.AppendLies
set_option maxRecDepth 100000
set_option maxHeartbeats 1000000
namespace Go.WW
def sW(c:UInt8):Bool:=decide (33≤(c.toNat:Int))&&decide ((c.toNat:Int)≤126)
def visible(s:ByteArray):Bool:=s.data.toList.all sW
def sized(s:ByteArray):Bool:=decide (1≤(s.size:Int))&&decide ((s.size:Int)≤32)
def jI(s:ByteArray):Bool:=visible s&&sized s
theorem E5(s:ByteArray)(k:Nat)(h:k<s.size):s.data.toList[k]?=some s[k]:=by
 have h':k<s.data.size:=h
 rw[Array.getElem?_toList,Array.getElem?_eq_getElem h'];rfl
theorem oW{p:UInt8→Bool}(s:ByteArray)(k:Nat)(h:k<s.size)(h1:(s.data.toList.take k).all p=true)(h2:p s[k]=true):(s.data.toList.take (k+1)).all p=true:=by
 rw[List.take_succ_eq_append_getElem (by simpa using h),List.all_append,h1]
 have:s.data.toList[k]=s[k]:=rfl
 simp[this,h2]
theorem BX{p:UInt8→Bool}(s:ByteArray)(k:Nat)(h:k<s.size)(h2:p s[k]=false):s.data.toList.all p=false:=by
 rw[List.all_eq_false]
 exact⟨s[k],List.mem_of_getElem? (E5 s k h),by simp[h2]⟩
theorem BZ{p:UInt8→Bool}(s:ByteArray)(k:Nat)(h:s.size≤k)(h1:(s.data.toList.take k).all p=true):s.data.toList.all p=true:=by
 rwa[List.take_of_length_le (by simpa using h)]at h1
end Go.WW
namespace Go.Proofs.YtpfifochimkpfaaGreatDoor
open Go.RowKit Go.WW
theorem Jy(s:ByteArray)(w:World)(hs:s.size≤maxLen):Calls Tryz.prog 42 #[.string s] w fun e w'=>e=.returned (.bool (visible s))∧w=w':=by
 unfold maxLen at hs
 go_enter Tryz.func42,Tryz.ntmps42
 go_wp2
 go_loop [3] (fun i=>∃k:Nat,k≤s.size∧i=.int .i64 k∧Hid ((s.data.toList.take k).all sW=true)) (fun i=>s.size-(intOf i).toNat)
 case atStart=>exact⟨0,Nat.zero_le _,rfl,by simp[Hid]⟩
 case round=>
  obtain⟨k,hk,rfl,hall⟩:=hrel
  by_cases hlt:k<s.size
  ·go_wp2
   all_goals first
    |(go_ret;exact⟨by rw[show visible s=false from BX s k hlt (by simp[sW];omega)];rfl,rfl⟩)
    |(go_round
      case rel=>exact⟨k+1,by omega,by go_num,oW s k hlt hall.out (by simp[sW];omega)⟩
      case measure=>simp[intOf];omega)
  ·go_wp2
   go_ret
   exact⟨by rw[show visible s=true from BZ s k (by omega) hall.out];rfl,rfl⟩
theorem Jz(s:ByteArray)(w:World)(hs:s.size≤maxLen):Calls Tryz.prog 123 #[.string s] w fun e w'=>e=.returned (.bool (sized s))∧w=w':=by
 unfold maxLen at hs
 go_enter Tryz.func123,Tryz.ntmps123
 go_wp2
 all_goals go_ret
 all_goals exact⟨by first|(simp[sized, *];done)|(simp[sized];omega),rfl⟩
theorem P9(s:ByteArray)(w:World)(hs:s.size≤maxLen):Calls Tryz.prog 75 #[.string s] w fun e w'=>e=.returned (.bool (jI s))∧w=w':=by
 have hs':=hs
 unfold maxLen at hs
 go_enter Tryz.func75,Tryz.ntmps75
 go_wp2
 go_loop [6] (fun i=>∃k:Nat,k≤s.size∧i=.int .i64 k∧Hid ((s.data.toList.take k).all sW=true)) (fun i=>s.size-(intOf i).toNat)
 case atStart=>exact⟨0,Nat.zero_le _,rfl,by simp[Hid]⟩
 case round=>
  obtain⟨k,hk,rfl,hall⟩:=hrel
  by_cases hlt:k<s.size
  ·go_wp2
   all_goals first
    |(go_ret;exact⟨by rw[show jI s=false from by rw[jI,show visible s=false from BX s k hlt (by simp[sW];omega)];rfl];rfl,rfl⟩)
    |(go_round
      case rel=>exact⟨k+1,by omega,by go_num,oW s k hlt hall.out (by simp[sW];omega)⟩
      case measure=>simp[intOf];omega)
  ·go_wp2_with (go_at_call 123;refine(Jz _ _ hs').mono ?_;rintro e w' ⟨rfl,rfl⟩)
   go_ret
   exact⟨by rw[show jI s=sized s from by rw[jI,show visible s=true from BZ s k (by omega) hall.out];rfl];rfl,rfl⟩
theorem aaB(s:ByteArray)(w:World)(hs:s.size≤maxLen):Calls Tryz.prog 119 #[.string s] w fun e w'=>e=.returned (.bool (visible s&&decide ((s.size:Int)≤32)))∧w=w':=by
 unfold maxLen at hs
 go_enter Tryz.func119,Tryz.ntmps119
 go_wp2
 go_loop [6] (fun i=>∃k:Nat,k≤s.size∧i=.int .i64 k∧Hid ((s.data.toList.take k).all sW=true)) (fun i=>s.size-(intOf i).toNat)
 case atStart=>exact⟨0,Nat.zero_le _,rfl,by simp[Hid]⟩
 case round=>
  obtain⟨k,hk,rfl,hall⟩:=hrel
  by_cases hlt:k<s.size
  ·go_wp2
   all_goals first
    |(go_ret;exact⟨by rw[show visible s=false from BX s k hlt (by simp[sW];omega)];rfl,rfl⟩)
    |(go_round
      case rel=>exact⟨k+1,by omega,by go_num,oW s k hlt hall.out (by simp[sW];omega)⟩
      case measure=>simp[intOf];omega)
  ·go_wp2
   all_goals go_ret
   all_goals exact⟨by rw[show visible s=true from BZ s k (by omega) hall.out];first|rfl|(simp;done)|(simp;omega),rfl⟩
end Go.Proofs.YtpfifochimkpfaaGreatDoor
namespace Go.WW
def oZ(c:UInt8):Bool:=(c.toNat:Int) == 46 || (c.toNat:Int) == 45 || (decide (65≤(c.toNat:Int))&&decide ((c.toNat:Int)≤90)) || (decide (48≤(c.toNat:Int))&&decide ((c.toNat:Int)≤57))
def gq(c:UInt8):Bool:=(c.toNat:Int) == 46
def mr(s:ByteArray)(i:Nat):Bool:=
 match s.data.toList[i]? with
 |none=>true
 |some c=>oZ c&&!(gq c&&(i == 0 || i+1 == s.size || (s.data.toList[i-1]?).any gq))
def iK(s:ByteArray):Bool:=(List.range s.size).all (mr s)&&sized s
def aZ(p:aH):Bool:=p.parts.all jI&&decide (1≤(p.parts.length:Int))&&decide ((p.parts.length:Int)≤4)&&iK p.aJ
def bD(p q:aH):Bool:=decide (p.aJ=q.aJ)&&decide (p.parts=q.parts)
theorem le_max{n:Nat}(h:n≤lim):n≤maxLen:=by unfold lim at h;unfold maxLen;omega
theorem lu{α:Type}{p:α→Bool}(l:List α)(k:Nat)(h:k<l.length)(h1:(l.take k).all p=true)(h2:p l[k]=true):(l.take (k+1)).all p=true:=by
 rw[List.take_succ_eq_append_getElem h,List.all_append,h1];simp[h2]
theorem qK{α:Type}{p:α→Bool}(l:List α)(k:Nat)(h:k<l.length)(h2:p l[k]=false):l.all p=false:=by
 rw[List.all_eq_false];exact⟨l[k],List.getElem_mem h,by simp[h2]⟩
theorem qL{α:Type}{p:α→Bool}(l:List α)(k:Nat)(h:l.length≤k)(h1:(l.take k).all p=true):l.all p=true:=by
 rwa[List.take_of_length_le h]at h1
theorem JA(s:ByteArray)(k:Nat)(h:k<s.size):mr s k=(oZ s[k]&&!(gq s[k]&&(k == 0 || k+1 == s.size || (s.data.toList[k-1]?).any gq))):=by
 unfold mr;rw[E5 s k h]
theorem E8(s:ByteArray)(k:Nat)(h:k<s.size)(hn:mr s k=false):iK s=false:=by
 have:(List.range s.size).all (mr s)=false:=by rw[List.all_eq_false];exact⟨k,List.mem_range.2 h,by simp[hn]⟩
 rw[iK,this];rfl
theorem E9(s:ByteArray)(k:Nat)(h:(List.range k).all (mr s)=true)(hn:mr s k=true):(List.range (k+1)).all (mr s)=true:=by
 rw[List.range_succ,List.all_append,h];simp[hn]
theorem aaC(s:ByteArray)(k:Nat)(hk:k=s.size)(h:(List.range k).all (mr s)=true):iK s=sized s:=by
 subst hk;rw[iK,h];rfl
theorem aaD(c:Int):c=46∨c=45∨(65≤c∧c≤90)∨(48≤c∧c≤57)∨c<45∨c=47∨(57<c∧c<65)∨90<c:=by omega
theorem Cb{c:UInt8}(h:(c.toNat:Int)=46∨(c.toNat:Int)=45∨(65≤(c.toNat:Int)∧(c.toNat:Int)≤90)∨(48≤(c.toNat:Int)∧(c.toNat:Int)≤57)):oZ c=true:=by
 unfold oZ;simp;omega
theorem aaE{c:UInt8}(h:(c.toNat:Int)<45∨(c.toNat:Int)=47∨(57<(c.toNat:Int)∧(c.toNat:Int)<65)∨90<(c.toNat:Int)):oZ c=false:=by
 unfold oZ;simp;omega
theorem Fa{c:UInt8}(h:¬(c.toNat:Int)=46):gq c=false:=by unfold gq;simpa using h
theorem Qa{c:UInt8}(h:(c.toNat:Int)=46):gq c=true:=by unfold gq;simpa using h
theorem aaF{s:ByteArray}{k:Nat}(hk:k<s.size)(h:oZ s[k]=false):mr s k=false:=by rw[JA s k hk,h];rfl
theorem JB{s:ByteArray}{k:Nat}(hk:k<s.size)(h:oZ s[k]=true)(h':gq s[k]=false):mr s k=true:=by rw[JA s k hk,h,h'];rfl
theorem aaG{s:ByteArray}{k:Nat}(hk:k<s.size)(h':gq s[k]=true):mr s k=!(k == 0 || k+1 == s.size || (s.data.toList[k-1]?).any gq):=by
 have:oZ s[k]=true:=Cb (.inl (by unfold gq at h';simpa using h'))
 rw[JA s k hk,this,h'];rfl
theorem JC{s:ByteArray}(h:((s.size:Int)<1∨32<(s.size:Int))∨(!visible s)=true):jI s=false:=by
 unfold jI sized
 rcases h with h|h
 ·have:(decide (1≤(s.size:Int))&&decide ((s.size:Int)≤32))=false:=by simp;omega
  rw[this];simp
 ·have:visible s=false:=by simpa using h
  rw[this];rfl
theorem aaH{s:ByteArray}(h:32<(s.size:Int)):jI s=false:=JC (.inl (.inr h))
theorem aaI{s:ByteArray}(h:(s.size:Int)<1):jI s=false:=JC (.inl (.inl h))
theorem aaJ{s:ByteArray}(h:(1≤(s.size:Int)∧(s.size:Int)≤32)∧(!visible s)=false):jI s=true:=by
 have:visible s=true:=by simpa using h.2
 unfold jI sized;rw[this];simp[h.1]
theorem Qb{p:aH}(k:Nat)(hlt:k<p.parts.length)(h:jI p.parts[k]=false):aZ p=false:=by rw[aZ,qK p.parts k hlt h];rfl
theorem aaK{p:aH}(h:p.parts.all jI=true)(h1:1≤(p.parts.length:Int))(h2:(p.parts.length:Int)≤4):aZ p=iK p.aJ:=by simp[aZ,h,h1,h2]
theorem aaL{p:aH}(h2:4<(p.parts.length:Int)):aZ p=false:=by
 have:decide ((p.parts.length:Int)≤4)=false:=by simp;omega
 simp[aZ,this]
theorem aaM{p:aH}(h2:(p.parts.length:Int)<1):aZ p=false:=by
 have:decide (1≤(p.parts.length:Int))=false:=by simp;omega
 simp[aZ,this]
end Go.WW
namespace Go.Proofs.YtpfifochimkpfaaGreatDoor
open Go.RowKit Go.WW
theorem Qc(s:ByteArray)(w:World)(hs:s.size≤lim):Calls Tryz.prog 43 #[.string s] w fun e w'=>e=.returned (.bool (iK s))∧w=w':=by
 have hs':s.size≤4294967000:=hs
 go_enter Tryz.func43,Tryz.ntmps43
 go_wp2
 go_loop [3] (fun i=>∃k:Nat,k≤s.size∧i=.int .i64 k∧Hid ((List.range k).all (mr s)=true)) (fun i=>s.size-(intOf i).toNat)
 case atStart=>exact⟨0,Nat.zero_le _,rfl,by simp[Hid]⟩
 case round=>
  obtain⟨k,hk,rfl,hall⟩:=hrel
  by_cases hlt:k<s.size
  ·have hall':=hall;clear hall
   rcases aaD (s[k].toNat:Int)with hc|hc|⟨hc1,hc2⟩|⟨hc1,hc2⟩|hc|hc|⟨hc1,hc2⟩|hc
   ·have HD:=Qa hc
    have HA:=Lib.hid (aaG hlt HD)
    clear HD
    have hb:((s[k].toNat:Int) == 46)=true:=by simp[hc]
    have hb':((s[k].toNat:Int) != 46)=false:=by simp[hc]
    clear hc
    by_cases h0:k=0
    ·subst h0
     go_wp2
     go_ret
     exact⟨by rw[E8 s 0 hlt (by rw[HA.out];rfl)];rfl,rfl⟩
    ·have h0':((k:Int) == 0)=false:=by simp;omega
     by_cases h1:k+1=s.size
     ·have h1':((k:Int) == (s.size:Int)-1)=true:=by simp;omega
      have H1:=Lib.hid h1
      clear h1
      go_wp2
      go_ret
      exact⟨by rw[E8 s k hlt (by rw[HA.out,H1.out];simp)];rfl,rfl⟩
     ·obtain⟨j,rfl⟩:∃j,k=j+1:=⟨k-1,by omega⟩
      have hj:j<s.size:=by omega
      have am4:((j:Int)+1 == 0)=false:=by simp;omega
      have h1':((j:Int)+1 == (s.size:Int)-1)=false:=by simp;omega
      have H1:=Lib.hid h1
      clear h1 h0 h0'
      by_cases h2:(s[j].toNat:Int)=46
      ·have h2':((s[j].toNat:Int) == 46)=true:=by simp[h2]
       have HJ:=Lib.hid (Qa h2)
       clear h2
       go_wp2
       go_ret
       exact⟨by rw[E8 s (j+1) hlt (by rw[HA.out];simp[E5 s j hj,HJ.out])];rfl,rfl⟩
      ·have h2':((s[j].toNat:Int) == 46)=false:=by simp[h2]
       have HJ:=Lib.hid (Fa h2)
       clear h2
       have HS:=Lib.hid (E9 s (j+1) hall'.out (by rw[HA.out];simp[E5 s j hj,HJ.out,H1.out]))
       go_wp2
       go_round
       case rel=>exact⟨j+1+1,by omega,by go_num,HS.out⟩
       case measure=>simp[intOf];omega
   ·have HA:=Lib.hid (JB hlt (Cb (.inr (.inl hc))) (Fa (by omega)))
    go_wp2
    go_round
    case rel=>exact⟨k+1,by omega,by go_num,E9 s k hall'.out HA.out⟩
    case measure=>simp[intOf];omega
   ·have HA:=Lib.hid (JB hlt (Cb (.inr (.inr (.inl ⟨hc1,hc2⟩)))) (Fa (by omega)))
    go_wp2
    go_round
    case rel=>exact⟨k+1,by omega,by go_num,E9 s k hall'.out HA.out⟩
    case measure=>simp[intOf];omega
   ·have HA:=Lib.hid (JB hlt (Cb (.inr (.inr (.inr ⟨hc1,hc2⟩)))) (Fa (by omega)))
    go_wp2
    go_round
    case rel=>exact⟨k+1,by omega,by go_num,E9 s k hall'.out HA.out⟩
    case measure=>simp[intOf];omega
   all_goals
    have HA:=Lib.hid (E8 s k hlt (aaF hlt (aaE (by omega))))
    have b1:((s[k].toNat:Int) == 46)=false:=by simp;omega
    have b2:((s[k].toNat:Int) != 46)=true:=by simp;omega
    have b3:((s[k].toNat:Int) != 45)=true:=by simp;omega
    first|(have b4:decide ((s[k].toNat:Int)≤57)=false:=(by simp;omega))|skip
    first|(have b5:decide ((s[k].toNat:Int)≤90)=false:=(by simp;omega))|skip
    go_wp2
    go_ret
    exact⟨by rw[HA.out];rfl,rfl⟩
  ·have HE:=Lib.hid (aaC s k (by omega) hall.out)
   go_wp2
   all_goals go_ret
   all_goals exact⟨by rw[HE.out];first|rfl|(simp[sized, *];done)|(simp[sized];omega),rfl⟩
theorem sZ(s:Sl)(p:aH)(w:World)(hp:bK w s p):Calls Tryz.prog 10 #[.agg (az s p)] w fun e w'=>e=.returned (.bool (aZ p))∧Below w.heap.size w w':=by
 have hl:p.parts.length≤4294967000:=hp.1.1
 go_enter Tryz.func10,Tryz.ntmps10
 go_wp2
 go_loop [3] (fun i=>∃k:Nat,k≤p.parts.length∧i=.int .i64 k∧Hid ((p.parts.take k).all jI=true)) (fun i=>p.parts.length-(intOf i).toNat)
 case atStart=>exact⟨0,Nat.zero_le _,rfl,by simp[Hid]⟩
 case round=>
  obtain⟨k,hk,rfl,hall⟩:=hrel
  by_cases hlt:k<p.parts.length
  ·obtain⟨b,o,ha,hc,hsz⟩:=hp.1.get k hlt
   have hb:b<w.heap.size:=World.block_lt_of_cell? w _ hc
   go_wp2_with (go_at_call 42;refine(Jy _ _ (le_max hsz)).mono ?_;rintro e w' ⟨rfl,rfl⟩)
   all_goals first
    |(go_ret
      have hno:jI p.parts[k]=false:=by first|exact JC ‹_›|exact aaH ‹_›|exact aaI ‹_›
      exact⟨by rw[Qb k hlt hno];rfl,(Below.refl _ _).alloc (Nat.le_refl _) _⟩)
    |(go_round
      case rel=>exact⟨k+1,by omega,by go_num,lu p.parts k hlt hall.out (aaJ ‹_›)⟩
      case measure=>simp[intOf];omega)
  ·have hy:=qL p.parts k (by omega) hall.out
   have HY:Hid (p.parts.all jI=true):=hy
   clear hy
   go_wp2_with (go_at_call 43;refine(Qc _ _ hp.2).mono ?_;rintro e w' ⟨rfl,rfl⟩)
   all_goals go_ret
   all_goals exact⟨by first|(rw[aaK HY.out ‹_› ‹_›];rfl)|(rw[aaL ‹_›];rfl)|(rw[aaM ‹_›];rfl),(Below.refl _ _).alloc (Nat.le_refl _) _⟩
end Go.Proofs.YtpfifochimkpfaaGreatDoor
namespace Go.WW
theorem str_eq(a b:ByteArray)(h:a=b):(a.toList == b.toList)=true:=by subst h;simp
theorem kJ(a b:ByteArray)(h:¬a=b):(a.toList == b.toList)=false:=by
 rw[ByteArray.toList_eq,ByteArray.toList_eq,beq_eq_false_iff_ne]
 exact fun e=>h (WideShapes.bytes_inj e)
theorem Qd{p q:aH}(h:¬p.aJ=q.aJ):bD p q=false:=by simp[bD,h]
theorem aaN{p q:aH}(h:¬p.parts.length=q.parts.length):bD p q=false:=by
 have:decide (p.parts=q.parts)=false:=by simp;intro e;exact h (by rw[e])
 simp[bD,this]
theorem aaO{p q:aH}(k:Nat)(h1:k<p.parts.length)(h2:k<q.parts.length)(h:¬p.parts[k]=q.parts[k]):bD p q=false:=by
 have:decide (p.parts=q.parts)=false:=by simp;intro e;exact h (by simp[e])
 simp[bD,this]
theorem aaP{p q:aH}(k:Nat)(hr:p.aJ=q.aJ)(h1:p.parts.length≤k)(h2:q.parts.length≤k)(h:p.parts.take k=q.parts.take k):bD p q=true:=by
 rw[List.take_of_length_le h1,List.take_of_length_le h2]at h
 simp[bD,hr,h]
theorem aaQ{α:Type}{l m:List α}(k:Nat)(h1:k<l.length)(h2:k<m.length)(h:l.take k=m.take k)(he:l[k]=m[k]):l.take (k+1)=m.take (k+1):=by
 rw[List.take_succ_eq_append_getElem h1,List.take_succ_eq_append_getElem h2,h,he]
end Go.WW
namespace Go.Proofs.YtpfifochimkpfaaGreatDoor
open Go.RowKit Go.WW
theorem uV(s t:Sl)(p q:aH)(w:World)(hp:bK w s p)(hq:bK w t q):Calls Tryz.prog 41 #[.agg (az s p),.agg (az t q)] w fun e w'=>e=.returned (.bool (bD p q))∧Below w.heap.size w w':=by
 have hl:p.parts.length≤4294967000:=hp.1.1
 have hB:Below w.heap.size w ((w.alloc (.cells (az s p) 35)).alloc (.cells (az t q) 35)):=((Below.refl _ _).alloc (Nat.le_refl _) _).alloc (by simp) _
 by_cases hr:p.aJ=q.aJ
 ·have hr':=str_eq _ _ hr
  have HR:=Lib.hid hr;clear hr
  by_cases hn:p.parts.length=q.parts.length
  ·have hn':((p.parts.length:Int) != (q.parts.length:Int))=false:=by simp[hn]
   have hn1:p.parts.length≤q.parts.length:=by omega
   have hn2:q.parts.length≤p.parts.length:=by omega
   clear hn
   go_enter Tryz.func41,Tryz.ntmps41
   go_wp2
   go_loopw [5] (fun i wr=>Below ((w.alloc (.cells (az s p) 35)).alloc (.cells (az t q) 35)).heap.size ((w.alloc (.cells (az s p) 35)).alloc (.cells (az t q) 35)) wr∧∃k:Nat,k≤p.parts.length∧i=.int .i64 k∧Hid (p.parts.take k=q.parts.take k)) (fun i _=>p.parts.length-(intOf i).toNat)
   case atStart=>exact⟨Below.refl _ _,0,Nat.zero_le _,rfl,by simp[Hid]⟩
   case round=>
    obtain⟨hbr,k,hk,rfl,hall⟩:=hrel
    obtain⟨hcc,bf,hrr⟩:=aQ hbr
    by_cases hlt:k<p.parts.length
    ·have hlq:k<q.parts.length:=by omega
     obtain⟨b,o,ha,hc,hsz⟩:=hp.1.get k hlt
     obtain⟨b',o',ha',hc',hsz'⟩:=hq.1.get k hlq
     have hb:b<w.heap.size:=World.block_lt_of_cell? w _ hc
     have hb':b'<w.heap.size:=World.block_lt_of_cell? w _ hc'
     have hb1:b<w.heap.size+1+1:=by omega
     have hb1':b'<w.heap.size+1+1:=by omega
     have hki:(k:Int)<(p.parts.length:Int):=by omega
     have hkq:(k:Int)<(q.parts.length:Int):=by omega
     by_cases he:p.parts[k]=q.parts[k]
     ·have he':=str_eq _ _ he
      have HT:=Lib.hid (aaQ k hlt hlq hall.out he)
      clear he
      go_wp2
      refine dN hbr (by kernel_rfl) (by kernel_rfl) ?_
      repeat (go_big_quiet_step (fail))
      refine wpQuiet_nil ?_
      intro w2 hb2
      go_wp2
      go_roundw
      case rel=>exact⟨hb2,k+1,by omega,by go_num,HT.out⟩
      case measure=>simp[intOf];omega
     ·have he':=kJ _ _ he
      have HT:=Lib.hid (aaO k hlt hlq he)
      clear he
      go_wp2
      refine dN hbr (by kernel_rfl) (by kernel_rfl) ?_
      repeat (go_big_quiet_step (fail))
      refine wpQuiet_nil ?_
      intro w2 hb2
      go_wp2
      go_ret
      exact⟨by rw[HT.out];rfl,hB.trans (hb2.mono (by simp;omega))⟩
    ·have HT:=Lib.hid (aaP k HR.out (by omega) (by omega) hall.out)
     go_wp2
     go_ret
     exact⟨by rw[HT.out];rfl,hB.trans (hbr.mono (by simp;omega))⟩
  ·have hn':((p.parts.length:Int) != (q.parts.length:Int))=true:=by simp;omega
   have HN:=Lib.hid (aaN hn);clear hn
   go_enter Tryz.func41,Tryz.ntmps41
   go_wp2
   go_ret
   exact⟨by rw[HN.out];rfl,hB⟩
 ·have hr':=kJ _ _ hr
  have HN:=Lib.hid (Qd hr);clear hr
  go_enter Tryz.func41,Tryz.ntmps41
  go_wp2
  go_ret
  exact⟨by rw[HN.out];rfl,hB⟩
end Go.Proofs.YtpfifochimkpfaaGreatDoor
namespace Go.WW
open Go.RowKit
structure Db where
 aJ:ByteArray
 aN:Int
 entries:List Entry
 aF:List ah
def aA(e p:Sl)(D:Db):Array Value:=#[.string D.aJ,.int .i64 D.aN,.slice e.a D.entries.length e.cap,.slice p.a D.aF.length p.cap]
theorem fC(e p:Sl)(D:Db):(aA e p D).size=4:=by simp[aA]
theorem aaR(e p:Sl)(D:Db):dL (aA e p D)=true:=by simp[dL,aA,Value.oneCell']
theorem aaS(e p:Sl)(D:Db)(h:0<(aA e p D).size):(aA e p D)[0]'h=.string D.aJ:=by simp[aA]
theorem aaT(e p:Sl)(D:Db)(h:1<(aA e p D).size):(aA e p D)[1]'h=.int .i64 D.aN:=by simp[aA]
theorem Fb(e p:Sl)(D:Db):(aA e p D)[2]?=some (.slice e.a D.entries.length e.cap):=by simp[aA]
theorem aaU(e p:Sl)(D:Db)(h:2<(aA e p D).size):(aA e p D)[2]'h=.slice e.a D.entries.length e.cap:=by simp[aA]
theorem aaV(e p:Sl)(D:Db)(h:3<(aA e p D).size):(aA e p D)[3]'h=.slice p.a D.aF.length p.cap:=by simp[aA]
theorem Qe(e p:Sl)(D:Db)(v:Int):(aA e p D).setIfInBounds 1 (.int .i64 v)=aA e p {D with aN:=v}:=by kernel_rfl
theorem Qg(e p:Sl)(D:Db)(s:Sl)(l:List Entry):(aA e p D).setIfInBounds 2 (.slice s.a l.length s.cap)=aA s p {D with entries:=l}:=by kernel_rfl
attribute [go_sem] fC aaR aaS aaT Fb aaU aaV Qe
def lM(w:World)(a:Option Addr)(l:List Entry):Prop:=bH w 17 a l.length fun i cs=>∃d r,l[i]?=some d∧cs=ae r d∧aS w r d
def gQ(w:World)(a:Option Addr)(l:List ah):Prop:=bH w 10 a l.length fun i cs=>∃p,l[i]?=some p∧cs=ak p∧p.name.size≤lim
theorem lM.later{w w':World}(h:Below w.heap.size w w'){a:Option Addr}{l:List Entry}(x:lM w a l):lM w' a l:=bH.later h (fun _ _ ⟨d,r,y1,y2,y3⟩=>⟨d,r,y1,y2,y3.later h⟩) x
theorem gQ.later{w w':World}(h:Below w.heap.size w w'){a:Option Addr}{l:List ah}(x:gQ w a l):gQ w' a l:=bH.later h (fun _ _ y=>y) x
theorem lM.get{w:World}{a:Option Addr}{l:List Entry}(x:lM w a l)(i:Nat)(h:i<l.length):∃b o r,a=some ⟨b,o,none⟩∧row? w b (o+i*17) 17=some (ae r l[i])∧aS w r l[i]:=by
 obtain⟨b,o,v,h1,h2,d,r,h3,rfl,h4⟩:=x.2 i h
 rw[List.getElem?_eq_getElem h]at h3;cases h3
 exact⟨b,o,r,h1,h2,h4⟩
theorem gQ.get{w:World}{a:Option Addr}{l:List ah}(x:gQ w a l)(i:Nat)(h:i<l.length):∃b o,a=some ⟨b,o,none⟩∧row? w b (o+i*10) 10=some (ak l[i])∧l[i].name.size≤lim:=by
 obtain⟨b,o,v,h1,h2,d,h3,rfl,h4⟩:=x.2 i h
 rw[List.getElem?_eq_getElem h]at h3;cases h3
 exact⟨b,o,h1,h2,h4⟩
theorem lM.at{w:World}{b o:Nat}{l:List Entry}(x:lM w (some ⟨b,o,none⟩) l)(i:Nat)(h:i<l.length):∃r,row? w b (o+i*17) 17=some (ae r l[i])∧aS w r l[i]:=by
 obtain⟨b',o',r,ha,hc⟩:=x.get i h;cases ha;exact⟨r,hc⟩
theorem gQ.at{w:World}{b o:Nat}{l:List ah}(x:gQ w (some ⟨b,o,none⟩) l)(i:Nat)(h:i<l.length):row? w b (o+i*10) 10=some (ak l[i])∧l[i].name.size≤lim:=by
 obtain⟨b',o',ha,hc⟩:=x.get i h;cases ha;exact hc
end Go.WW
namespace Go.Proofs.YtpfifochimkpfaaGreatDoor
open Go.RowKit Go.WW
theorem aaW(w:World)(b o:Nat):(kP 30 (.pointer (some ⟨b,o,none⟩))).run Tryz.prog w=sK Tryz.prog 30 w b o (row? w b o 4):=wO Tryz.underlying30 rfl (by kernel_rfl) w b o
theorem aaX(ρ:Operand→Value)(dst:Option Tmp)(x:Operand)(ty:TypeId)(pos:String)(after:Array Edge)(guard:Option (Nat×Bool)):execOp ρ {dst,op:=.load 30 x,type:=ty,pos,after,guard}=kP 30 (ρ x):=rfl
attribute [go_sem] aaW
attribute [go_sem ↓] aaX
theorem aaY(w:World)(b o:Nat)(cs:Array Value)(hn:cs.size=4)(h1:dL cs=true):(kQ 30 (.pointer (some ⟨b,o,none⟩)) (.agg cs)).run Tryz.prog w=sO Tryz.prog 30 w b o cs (aX w b o 4):=wP (by kernel_rfl) w b o cs hn h1
theorem aaZ(ρ:Operand→Value)(dst:Option Tmp)(x y:Operand)(ty:TypeId)(pos:String)(after:Array Edge)(guard:Option (Nat×Bool)):execOp ρ {dst,op:=.store 30 x y,type:=ty,pos,after,guard}=kQ 30 (ρ x) (ρ y):=rfl
attribute [go_sem] aaY
attribute [go_sem ↓] aaZ
end Go.Proofs.YtpfifochimkpfaaGreatDoor
namespace Go.WW
def o5(p q:aH)(i:Nat)(c:Int):Prop:=fB p q=if c=0 then oh (p.parts.drop i) (q.parts.drop i)else c
theorem aa0(p q:aH):o5 p q 0 (dB p.aJ q.aJ):=rfl
theorem aa1{p q:aH}{i:Nat}(h:o5 p q i 0)(hp:i<p.parts.length)(hq:i<q.parts.length):o5 p q (i+1) (dB p.parts[i] q.parts[i]):=by
 unfold o5 at h ⊢
 rw[if_pos rfl,List.drop_eq_getElem_cons hp,List.drop_eq_getElem_cons hq]at h
 exact h
theorem aa2{p q:aH}{i:Nat}{c:Int}(h:o5 p q i c)(hc:c≠0):fB p q=c:=by
 unfold o5 at h;rwa[if_neg hc]at h
theorem aa3{p q:aH}{i:Nat}(h:o5 p q i 0)(hp:p.parts.length≤i)(hq:i<q.parts.length):fB p q=-1:=by
 unfold o5 at h
 rw[if_pos rfl,List.drop_of_length_le hp,List.drop_eq_getElem_cons hq]at h
 exact h
theorem aa4{p q:aH}{i:Nat}(h:o5 p q i 0)(hp:i<p.parts.length)(hq:q.parts.length≤i):fB p q=1:=by
 unfold o5 at h
 rw[if_pos rfl,List.drop_of_length_le hq,List.drop_eq_getElem_cons hp]at h
 exact h
theorem aa5{p q:aH}{i:Nat}(h:o5 p q i 0)(hp:p.parts.length≤i)(hq:q.parts.length≤i):fB p q=0:=by
 unfold o5 at h
 rw[if_pos rfl,List.drop_of_length_le hp,List.drop_of_length_le hq]at h
 exact h
theorem JD{a b:ByteArray}(h:Op.bytesLess a.toList b.toList=true):dB a b=-1:=by rw[dB,if_pos h]
theorem JE{a b:ByteArray}(h:Op.bytesLess a.toList b.toList=false)(he:¬a=b):dB a b=1:=by
 have h2:Op.bytesLess b.toList a.toList=true:=by
  cases h2:Op.bytesLess b.toList a.toList
  ·exact absurd (toList_inj (Jr _ _ h h2)) he
  ·rfl
 rw[dB,h,h2];rfl
theorem JF(a:ByteArray):dB a a=0:=(oQ.zero a a).2 rfl
def mD(d:Entry)(p:aH):Bool:=d.aliases.any (fun a=>bD a p) || bD d.name p
def idxOf{α:Type}(f:α→Bool)(l:List α):Int:=match l.findIdx? f with|some i=>(i:Int)|none=>-1
theorem Qh{α:Type}{f:α→Bool}{l:List α}(k:Nat)(hk:k<l.length)(h:(l.take k).all (fun x=>!f x)=true)(hf:f l[k]=true):idxOf f l=(k:Int):=by
 have:l.findIdx? f=some k:=by
  rw[List.findIdx?_eq_some_iff_getElem]
  refine⟨hk,hf,fun j hj=>?_⟩
  have:=List.all_eq_true.1 h (l[j]'(by omega)) (by rw[List.mem_iff_getElem];exact⟨j,by simp;omega,by simp⟩)
  simpa using this
 rw[idxOf,this]
theorem Qi{α:Type}{f:α→Bool}{l:List α}(k:Nat)(hk:l.length≤k)(h:(l.take k).all (fun x=>!f x)=true):idxOf f l=-1:=by
 have:l.findIdx? f=none:=by
  rw[List.findIdx?_eq_none_iff]
  intro x hx
  rw[List.take_of_length_le hk]at h
  simpa using List.all_eq_true.1 h x hx
 rw[idxOf,this]
theorem aa6{α:Type}{f:α→Bool}{l:List α}(k:Nat)(hk:k<l.length)(hf:f l[k]=true):l.any f=true:=List.any_eq_true.2 ⟨l[k],List.getElem_mem hk,hf⟩
theorem aa7{α:Type}{f:α→Bool}{l:List α}(k:Nat)(hk:l.length≤k)(h:(l.take k).all (fun x=>!f x)=true):l.any f=false:=by
 rw[List.take_of_length_le hk]at h
 rw[List.any_eq_false]
 intro x hx
 have:=List.all_eq_true.1 h x hx
 simpa using this
end Go.WW
namespace Go.Proofs.YtpfifochimkpfaaGreatDoor
open Go.RowKit Go.WW
theorem Qj(a b:ByteArray)(w:World):Calls Tryz.prog 176 #[.string a,.string b] w fun e w'=>e=.returned (.int .i64 (dB a b))∧w=w':=by
 cases h:Op.bytesLess a.toList b.toList
 ·by_cases he:a=b
  ·have he':=str_eq _ _ he
   have HN:=Lib.hid (show dB a b=0 by subst he;exact JF a)
   clear he
   go_enter Tryz.func176,Tryz.ntmps176
   go_wp2
   go_ret
   exact⟨by rw[HN.out];rfl,rfl⟩
  ·have he':=kJ _ _ he
   have HN:=Lib.hid (JE h he)
   clear he
   go_enter Tryz.func176,Tryz.ntmps176
   go_wp2
   go_ret
   exact⟨by rw[HN.out];rfl,rfl⟩
 ·have HN:=Lib.hid (JD h)
  go_enter Tryz.func176,Tryz.ntmps176
  go_wp2
  go_ret
  exact⟨by rw[HN.out];rfl,rfl⟩
theorem Qk(s t:Sl)(p q:aH)(w:World)(hp:bK w s p)(hq:bK w t q):Calls Tryz.prog 130 #[.agg (az s p),.agg (az t q)] w fun e w'=>e=.returned (.int .i64 (fB p q))∧Below w.heap.size w w':=by
 have hl:p.parts.length≤4294967000:=hp.1.1
 have hl2:q.parts.length≤4294967000:=hq.1.1
 have hB:Below w.heap.size w ((w.alloc (.cells (az s p) 35)).alloc (.cells (az t q) 35)):=((Below.refl _ _).alloc (Nat.le_refl _) _).alloc (by simp) _
 go_enter Tryz.func130,Tryz.ntmps130
 go_wp2_with (go_at_call 176;refine(Qj _ _ _).mono ?_;rintro e w' ⟨rfl,rfl⟩)
 go_loopw [5,6] (fun c i wr=>Below ((w.alloc (.cells (az s p) 35)).alloc (.cells (az t q) 35)).heap.size ((w.alloc (.cells (az s p) 35)).alloc (.cells (az t q) 35)) wr∧∃(k:Nat) (z:Int),k≤p.parts.length∧k≤q.parts.length∧i=.int .i64 k∧c=.int .i64 z∧Hid (o5 p q k z)) (fun _ i _=>p.parts.length-(intOf i).toNat)
 case atStart=>exact⟨Below.refl _ _,0,_,Nat.zero_le _,Nat.zero_le _,rfl,rfl,aa0 p q⟩
 case round=>
  obtain⟨hbr,k,z,hk,hk2,rfl,rfl,hall⟩:=hrel
  obtain⟨hcc,bf,hrr⟩:=aQ hbr
  by_cases hz:z=0
  ·subst hz
   by_cases hlt:k<p.parts.length
   ·have hki:(k:Int)<(p.parts.length:Int):=by omega
    by_cases hlq:k<q.parts.length
    ·have hkq:(k:Int)<(q.parts.length:Int):=by omega
     obtain⟨b,o,ha,hc,hsz⟩:=hp.1.get k hlt
     obtain⟨b',o',ha',hc',hsz'⟩:=hq.1.get k hlq
     have hb:b<w.heap.size:=World.block_lt_of_cell? w _ hc
     have hb':b'<w.heap.size:=World.block_lt_of_cell? w _ hc'
     have hb1:b<w.heap.size+1+1:=by omega
     have hb1':b'<w.heap.size+1+1:=by omega
     have HT:=Lib.hid (aa1 hall.out hlt hlq)
     go_wp2
     refine dN hbr (by kernel_rfl) (by kernel_rfl) ?_
     repeat (go_big_quiet_step ((go_at_call 176;exact Calls.uS (Qj _ _ _))))
     refine wpQuiet_nil ?_
     intro w2 hb2
     go_wp2
     go_roundw
     case rel=>exact⟨hb2,k+1,_,by omega,by omega,by go_num,rfl,HT.out⟩
     case measure=>simp[intOf];omega
    ·have HN:=Lib.hid (aa4 hall.out hlt (by omega))
     have h1:¬(p.parts.length:Int)<(q.parts.length:Int):=by omega
     have h2:(q.parts.length:Int)<(p.parts.length:Int):=by omega
     go_wp2
     go_ret
     exact⟨by rw[HN.out];rfl,hB.trans (hbr.mono (by simp;omega))⟩
   ·by_cases hlq:k<q.parts.length
    ·have HN:=Lib.hid (aa3 hall.out (by omega) hlq)
     have h1:(p.parts.length:Int)<(q.parts.length:Int):=by omega
     go_wp2
     go_ret
     exact⟨by rw[HN.out];rfl,hB.trans (hbr.mono (by simp;omega))⟩
    ·have HN:=Lib.hid (aa5 hall.out (by omega) (by omega))
     have h1:¬(p.parts.length:Int)<(q.parts.length:Int):=by omega
     have h2:¬(q.parts.length:Int)<(p.parts.length:Int):=by omega
     go_wp2
     go_ret
     exact⟨by rw[HN.out];rfl,hB.trans (hbr.mono (by simp;omega))⟩
  ·have HN:=Lib.hid (aa2 hall.out hz)
   have hz':(z == 0)=false:=by simp[hz]
   clear hz
   go_wp2
   go_ret
   exact⟨by rw[HN.out];rfl,hB.trans (hbr.mono (by simp;omega))⟩
theorem Ql(r:aK)(d:Entry)(t:Sl)(q:aH)(w:World)(he:aS w r d)(hq:bK w t q):Calls Tryz.prog 68 #[.agg (ae r d),.agg (az t q)] w fun e w'=>e=.returned (.bool (mD d q))∧Below w.heap.size w w':=by
 have hl:d.aliases.length≤4294967000:=he.aliases.1
 have hB:Below w.heap.size w ((w.alloc (.cells (ae r d) 44)).alloc (.cells (az t q) 35)):=((Below.refl _ _).alloc (Nat.le_refl _) _).alloc (by simp) _
 go_enter Tryz.func68,Tryz.ntmps68
 go_wp2_with fail
 go_loopw [5] (fun i wr=>Below ((w.alloc (.cells (ae r d) 44)).alloc (.cells (az t q) 35)).heap.size ((w.alloc (.cells (ae r d) 44)).alloc (.cells (az t q) 35)) wr∧∃k:Nat,k≤d.aliases.length∧i=.int .i64 k∧Hid ((d.aliases.take k).all (fun a=>!bD a q)=true)) (fun i _=>d.aliases.length-(intOf i).toNat)
 case atStart=>exact⟨Below.refl _ _,0,Nat.zero_le _,rfl,by simp[Hid]⟩
 case round=>
  obtain⟨hbr,k,hk,rfl,hall⟩:=hrel
  obtain⟨hcc,bf,hrr⟩:=aQ hbr
  by_cases hlt:k<d.aliases.length
  ·have hki:(k:Int)<(d.aliases.length:Int):=by omega
   obtain⟨b,o,t1,ha,hc,hp⟩:=he.aliases.get k hlt
   have hb:b<w.heap.size:=fA hc
   have hb1:b<w.heap.size+1+1:=by omega
   cases hs:bD d.aliases[k] q
   ·have HS:=Lib.hid (lu (p:=fun a=>!bD a q) d.aliases k hlt hall.out (by simp[hs]))
    go_wp2_with fail
    refine dN hbr (by kernel_rfl) (by kernel_rfl) ?_
    repeat (go_big_quiet_step ((go_at_call 41;rename_i xw;exact Calls.iq (hs▸uV _ _ _ _ _ ((hp.later hB).later xw.b) ((hq.later hB).later xw.b)))))
    refine wpQuiet_nil ?_
    intro w2 hb2
    go_wp2_with fail
    go_roundw
    case rel=>exact⟨hb2,k+1,by omega,by go_num,HS.out⟩
    case measure=>simp[intOf];omega
   ·have HS:=Lib.hid (show mD d q=true by rw[mD,aa6 k hlt hs];rfl)
    go_wp2_with fail
    refine dN hbr (by kernel_rfl) (by kernel_rfl) ?_
    repeat (go_big_quiet_step ((go_at_call 41;rename_i xw;exact Calls.iq (hs▸uV _ _ _ _ _ ((hp.later hB).later xw.b) ((hq.later hB).later xw.b)))))
    refine wpQuiet_nil ?_
    intro w2 hb2
    go_wp2_with fail
    go_ret
    exact⟨by rw[HS.out];rfl,hB.trans (hb2.mono (by simp;omega))⟩
  ·have HN:=Lib.hid (show mD d q=bD d.name q by rw[mD,aa7 k (by omega) hall.out];rfl)
   go_wp2_with fail
   refine(uV _ _ _ _ _ ((he.name.later hB).later hbr) ((hq.later hB).later hbr)).mono ?_
   rintro e w2 ⟨rfl,hb2⟩
   dsimp only
   go_wp2_with fail
   go_ret
   exact⟨by rw[HN.out];rfl,hB.trans ((ag hbr hb2).mono (by simp;omega))⟩
end Go.Proofs.YtpfifochimkpfaaGreatDoor
namespace Go.WW
open Go.RowKit
theorem aa8{w:World}{b o n:Nat}{cs:Array Value}(h:row? w b o n=some cs){j m:Nat}(hj:j+m≤n):row? w b (o+j) m=gy cs j m:=by
 have hs:=x8 h
 unfold row? at h ⊢
 cases hb:w.heap[b]? with
 |none=>rw[hb]at h;simp at h
 |some ob=>
  rw[hb]at h
  cases ob with
  |cells c t f=>
   dsimp only at h ⊢
   by_cases hn:o+n≤c.size
   ·rw[if_pos hn]at h
    injection h with h
    rw[if_pos (by omega)]
    unfold gy
    rw[if_pos (by omega),←h,Array.extract_extract]
    congr 2
    omega
   ·rw[if_neg hn]at h;cases h
  |_=>simp at h
theorem uY{w:World}{b o:Nat}{r:aK}{d:Entry}(h:row? w b o 17=some (ae r d)):row? w b o 2=some (az r.parts d.name):=by
 have:=aa8 h (j:=0) (m:=2) (by omega)
 rw[Nat.add_zero]at this
 rw[this];exact PU r d
end Go.WW
namespace Go.Proofs.YtpfifochimkpfaaGreatDoor
open Go.RowKit Go.WW
theorem Fe(e p:Sl)(D:Db)(t:Sl)(q:aH)(w:World)(he:lM w e.a D.entries)(hq:bK w t q):Calls Tryz.prog 9 #[.agg (aA e p D),.agg (az t q)] w fun x w'=>x=.returned (.int .i64 (idxOf (fun d=>bD d.name q) D.entries))∧Below w.heap.size w w':=by
 have hl:D.entries.length≤4294967000:=he.1
 have hB:Below w.heap.size w ((w.alloc (.cells (aA e p D) 30)).alloc (.cells (az t q) 35)):=((Below.refl _ _).alloc (Nat.le_refl _) _).alloc (by simp) _
 go_enter Tryz.func9,Tryz.ntmps9
 go_wp2_with fail
 go_loopw [5] (fun i wr=>Below ((w.alloc (.cells (aA e p D) 30)).alloc (.cells (az t q) 35)).heap.size ((w.alloc (.cells (aA e p D) 30)).alloc (.cells (az t q) 35)) wr∧∃k:Nat,k≤D.entries.length∧i=.int .i64 k∧Hid ((D.entries.take k).all (fun d=>!bD d.name q)=true)) (fun i _=>D.entries.length-(intOf i).toNat)
 case atStart=>exact⟨Below.refl _ _,0,Nat.zero_le _,rfl,by simp[Hid]⟩
 case round=>
  obtain⟨hbr,k,hk,rfl,hall⟩:=hrel
  obtain⟨hcc,bf,hrr⟩:=aQ hbr
  by_cases hlt:k<D.entries.length
  ·have hki:(k:Int)<(D.entries.length:Int):=by omega
   obtain⟨b,o,r,ha,hc,hp⟩:=he.get k hlt
   have hb:b<w.heap.size:=fA hc
   have hb1:b<w.heap.size+1+1:=by omega
   have hc2:=uY hc
   clear hc
   cases hs:bD D.entries[k].name q
   ·have HS:=Lib.hid (lu (p:=fun d=>!bD d.name q) D.entries k hlt hall.out (by simp[hs]))
    go_wp2_with fail
    refine dN hbr (by kernel_rfl) (by kernel_rfl) ?_
    repeat (go_big_quiet_step ((go_at_call 41;rename_i xw;exact Calls.iq (hs▸uV _ _ _ _ _ ((hp.name.later hB).later xw.b) ((hq.later hB).later xw.b)))))
    refine wpQuiet_nil ?_
    intro w2 hb2
    go_wp2_with fail
    go_roundw
    case rel=>exact⟨hb2,k+1,by omega,by go_num,HS.out⟩
    case measure=>simp[intOf];omega
   ·have HS:=Lib.hid (Qh (f:=fun d=>bD d.name q) k hlt hall.out hs)
    go_wp2_with fail
    refine dN hbr (by kernel_rfl) (by kernel_rfl) ?_
    repeat (go_big_quiet_step ((go_at_call 41;rename_i xw;exact Calls.iq (hs▸uV _ _ _ _ _ ((hp.name.later hB).later xw.b) ((hq.later hB).later xw.b)))))
    refine wpQuiet_nil ?_
    intro w2 hb2
    go_wp2_with fail
    go_ret
    exact⟨by rw[HS.out];rfl,hB.trans (hb2.mono (by simp;omega))⟩
  ·have HN:=Lib.hid (Qi (l:=D.entries) (f:=fun d:Entry=>bD d.name q) k (by omega) hall.out)
   go_wp2_with fail
   go_ret
   exact⟨by rw[HN.out];rfl,hB.trans (hbr.mono (by simp;omega))⟩
theorem Ff(e p:Sl)(D:Db)(s:ByteArray)(w:World)(hp:gQ w p.a D.aF):Calls Tryz.prog 45 #[.agg (aA e p D),.string s] w fun x w'=>x=.returned (.int .i64 (idxOf (fun q=>decide (q.name=s)) D.aF))∧Below w.heap.size w w':=by
 have hl:D.aF.length≤4294967000:=hp.1
 have hB:Below w.heap.size w (w.alloc (.cells (aA e p D) 30)):=(Below.refl _ _).alloc (Nat.le_refl _) _
 go_enter Tryz.func45,Tryz.ntmps45
 go_wp2_with fail
 go_loop [5] (fun i=>∃k:Nat,k≤D.aF.length∧i=.int .i64 k∧Hid ((D.aF.take k).all (fun q=>!decide (q.name=s))=true)) (fun i=>D.aF.length-(intOf i).toNat)
 case atStart=>exact⟨0,Nat.zero_le _,rfl,by simp[Hid]⟩
 case round=>
  obtain⟨k,hk,rfl,hall⟩:=hrel
  by_cases hlt:k<D.aF.length
  ·have hki:(k:Int)<(D.aF.length:Int):=by omega
   obtain⟨b,o,ha,hc,hpl⟩:=hp.get k hlt
   have hb:b<w.heap.size:=fA hc
   have hc2:w.cell? ⟨b,o+k*10,none⟩=some (.string D.aF[k].name):=by have:=ji hc 0 (by omega);simpa[go_sem]using this
   clear hc
   by_cases hs:D.aF[k].name=s
   ·have hs':=str_eq _ _ hs
    have HS:=Lib.hid (Qh (f:=fun q=>decide (q.name=s)) k hlt hall.out (by simp[hs]))
    clear hs
    go_wp2_with fail
    go_ret
    exact⟨by rw[HS.out];rfl,hB⟩
   ·have hs':=kJ _ _ hs
    have HS:=Lib.hid (lu (p:=fun q=>!decide (q.name=s)) D.aF k hlt hall.out (by simp[hs]))
    clear hs
    go_wp2_with fail
    go_round
    case rel=>exact⟨k+1,by omega,by go_num,HS.out⟩
    case measure=>simp[intOf];omega
  ·have HN:=Lib.hid (Qi (l:=D.aF) (f:=fun q:ah=>decide (q.name=s)) k (by omega) hall.out)
   go_wp2_with fail
   go_ret
   exact⟨by rw[HN.out];rfl,hB⟩
end Go.Proofs.YtpfifochimkpfaaGreatDoor
namespace Go.WW
open Go.RowKit
def flat(rows:List (Array Value)):List Value:=rows.flatMap (·.toList)
theorem JG(r:Array Value)(rows:List (Array Value)):flat (r::rows)=r.toList++flat rows:=rfl
theorem aa9(a b:List (Array Value)):flat (a++b)=flat a++flat b:=by simp[flat]
theorem flat_length{k:Nat}:∀{rows:List (Array Value)},(∀r∈rows,r.size=k)→(flat rows).length=rows.length*k
 | [],_=>by simp[flat]
 |r::rows,h=>by
  rw[JG,List.length_append,flat_length (fun x hx=>h x (by simp[hx])),List.length_cons,Nat.succ_mul]
  have:=h r (by simp)
  simp[this];omega
theorem flat_get{k:Nat}:∀{rows:List (Array Value)} (_:∀r∈rows,r.size=k) (i j:Nat) (hi:i<rows.length) (_:j<k),(flat rows)[i*k+j]?=rows[i][j]?
 | [],_,i,j,hi,_=>by simp at hi
 |r::rows,h,0,j,_,hj=>by
  have:=h r (by simp)
  rw[JG,Nat.zero_mul,Nat.zero_add,List.getElem?_append_left (by simp;omega)]
  simp
 |r::rows,h,i+1,j,hi,hj=>by
  have hr:=h r (by simp)
  rw[JG,List.getElem?_append_right (by simp[Nat.succ_mul];omega)]
  have e:(i+1)*k+j-r.toList.length=i*k+j:=by simp[Nat.succ_mul];omega
  rw[e,flat_get (fun x hx=>h x (by simp[hx])) i j (by simpa using hi) hj]
  simp
structure Own(w:World)(base:Nat)(e:TypeId)(k:Nat)(s:Sl)(rows:List (Array Value)):Prop where
 own:w.ownsRow base e k (.slice s.a rows.length s.cap) rows.length (flat rows)
 size:∀r∈rows,r.size=k
def Sl.blk(s:Sl):Option Nat:=s.a.map (·.block)
theorem yt(s:Sl)(n:Nat):Value.ownBlock (.slice s.a n s.cap)=s.blk:=by
 unfold Sl.blk Value.ownBlock;cases s.a<;>rfl
theorem Own.nil(w:World)(base:Nat)(e:TypeId)(k:Nat):Own w base e k ⟨none,0⟩ []:=⟨World.ownsRow_nil w base e k,by simp⟩
theorem Own.base{w:World}{base:Nat}{e:TypeId}{k:Nat}{s:Sl}{rows:List (Array Value)}(h:Own w base e k s rows){g:Nat}(hg:s.blk=some g):base≤g∧g<w.heap.size:=
 h.own.lt g (by rw[yt];exact hg)
theorem Own.kept{w w':World}{base:Nat}{e:TypeId}{k:Nat}{s:Sl}{rows:List (Array Value)}(h:Own w base e k s rows)(hb:∀g,s.blk=some g→w'.heap[g]?=w.heap[g]?):Own w' base e k s rows:=by
 refine⟨⟨h.own.1,?_⟩,h.size⟩
 rcases h.own.2 with hn|⟨g,cap,cur,hv,h1,hg,rest⟩
 ·exact .inl hn
 ·refine .inr ⟨g,cap,cur,hv,h1,?_,rest⟩
  have ha:s.a=some ⟨g,0,none⟩:=by injection hv
  rw[hb g (by simp[Sl.blk,ha])];exact hg
theorem Own.row{w:World}{base:Nat}{e:TypeId}{k:Nat}{s:Sl}{rows:List (Array Value)}(h:Own w base e k s rows)(i:Nat)(hi:i<rows.length) :
  ∃g,s.a=some ⟨g,0,none⟩∧s.blk=some g∧row? w g (0+i*k) k=some rows[i]:=by
 rcases h.own.2 with⟨_,hn⟩|⟨g,cap,cur,hv,h1,hg,hle,_,hsz,htake⟩
 ·omega
 ·have ha:s.a=some ⟨g,0,none⟩:=by injection hv
  refine⟨g,ha,by simp[Sl.blk,ha],?_⟩
  unfold row?
  rw[hg,Nat.zero_add]
  have h2:i*k+k≤rows.length*k:=by rw[←Nat.succ_mul];exact Nat.mul_le_mul_right _ hi
  have h3:rows.length*k≤cur.size:=by rw[hsz];exact Nat.mul_le_mul_right _ hle
  show(if i*k+k≤cur.size then _ else _)=_
  rw[if_pos (by omega)]
  congr 1
  have hrs:=h.size rows[i] (List.getElem_mem hi)
  apply Array.ext_getElem?
  intro j
  by_cases hj:j<k
  ·rw[Array.getElem?_extract]
   have e1:j<min (i*k+k) cur.size-i*k:=by omega
   rw[if_pos e1,←flat_get h.size i j hi hj,←htake,List.getElem?_take,if_pos (by omega)]
   simp
  ·rw[Array.getElem?_eq_none (by simp;omega),Array.getElem?_eq_none (by omega)]
structure cO(w:World)(k:Nat)(A:Option Addr)(rows:List (Array Value)):Prop where
 size:∀r∈rows,r.size=k
 one:∀r∈rows,dL r=true
 at_:∀i (hi:i<rows.length),∃b o,A=some ⟨b,o,none⟩∧row? w b (o+i*k) k=some rows[i]
theorem cO.cells{w:World}{k:Nat}{A:Option Addr}{rows:List (Array Value)}(h:cO w k A rows)(hk:0<k)(hn:0<rows.length) :
  ∃b o,A=some ⟨b,o,none⟩∧∀j u,(flat rows)[j]?=some u→w.cell? ((⟨b,o,none⟩:Addr).add j)=some u:=by
 obtain⟨b,o,ha,_⟩:=h.at_ 0 hn
 refine⟨b,o,ha,fun j u hu=>?_⟩
 have hj:j<rows.length*k:=by have:=(List.getElem?_eq_some_iff.1 hu).1;rwa[flat_length h.size]at this
 have hi:j / k<rows.length:=by rw[Nat.div_lt_iff_lt_mul hk];exact hj
 have hr:j % k<k:=Nat.mod_lt _ hk
 have e:j / k*k+j % k=j:=Nat.div_add_mod' j k
 obtain⟨b',o',ha',hrow⟩:=h.at_ (j / k) hi
 rw[ha]at ha';cases ha'
 have hg:=flat_get h.size (j / k) (j % k) hi hr
 rw[e,hu]at hg
 have hc:=ji hrow (j % k) hr
 rw[Nat.add_assoc,e]at hc
 have hadd:(⟨b,o,none⟩:Addr).add j=⟨b,o+j,none⟩:=by unfold Addr.add;split<;>simp_all
 rw[hadd,hc,←hg]
theorem cO.vals{w:World}{k:Nat}{A:Option Addr}{rows:List (Array Value)}(h:cO w k A rows):∀u∈flat rows,u.oneCell'=true:=by
 intro u hu
 obtain⟨r,hr,hur⟩:=List.mem_flatMap.1 hu
 have:=h.one r hr
 unfold dL at this
 rw[Array.all_eq_true']at this
 exact this u (by simpa using hur)
theorem cO.new(w:World)(cs:Array Value)(t:TypeId)(k:Nat)(hs:cs.size=k)(h1:dL cs=true):cO (w.alloc (.cells cs t)) k (some ⟨w.heap.size,0,none⟩) [cs]:=
 ⟨by simpa using hs,by simpa using h1,fun i hi=>⟨_,_,rfl,by
  obtain rfl:i=0:=by simp at hi;exact hi
  rw[EM rfl,Nat.zero_add,Nat.zero_mul,gI hs];rfl⟩⟩
structure fV(P:Program)(t e:TypeId)(k bytes:Nat):Prop where
 und:P.underlying t=some (.slice e)
 info:∃i z,P.info? e=some i∧i.zero=some z∧i.size=k∧i.bytes=bytes∧z.cells.size=k
 pos:0<k
def Qm(x:Option (Option Nat×Nat×Nat))(k bytes:Nat):Bool:=match x with|some (some a,b,c)=>a == k&&b == k&&c == bytes&&decide (0<k)|_=>false
theorem fV.of{P:Program}{t e:TypeId}{k bytes:Nat}(hu:P.underlying t=some (.slice e))(h:Qm ((P.info? e).map fun i=>(i.zero.map (·.cells.size),i.size,i.bytes)) k bytes=true):fV P t e k bytes:=by
 unfold Qm at h
 cases hi:P.info? e with
 |none=>rw[hi]at h;cases h
 |some i=>
  rw[hi]at h
  simp only[Option.map_some]at h
  cases hz:i.zero with
  |none=>rw[hz]at h;cases h
  |some z=>
   rw[hz]at h
   simp only[Option.map_some,Bool.and_eq_true,beq_iff_eq,decide_eq_true_eq]at h
   exact⟨hu,⟨i,z,hi,hz,h.1.1.2,h.1.2,h.1.1.1⟩,h.2⟩
theorem run_append_nil{P:Program}{t ty e:TypeId}{k bytes:Nat}(he:fV P t e k bytes)(w:World){base:Nat}{s:Sl}{rows:List (Array Value)}(h:Own w base e k s rows)(c:Nat) :
  (Builtin.append_ #[t,t] ty #[.slice s.a rows.length s.cap,.slice none 0 c]).run P w=.ok (.slice s.a rows.length s.cap) w:=by
 obtain⟨i,z,hi,hz,h1,h2,h3⟩:=he.info
 rcases h.own.2 with⟨hv,hn⟩|⟨g,cap,cur,hv,_,_,hnc,_⟩
 ·rw[hv];simp[Builtin.append_,run_underlying he.und,sizeOf,typeInfo,hi,Builtin.lenOf,Builtin.firstCells]
 ·rw[hv];simp[Builtin.append_,run_underlying he.und,sizeOf,typeInfo,hi,Builtin.lenOf,Builtin.firstCells,hnc,storeCells]
theorem Qn{P:Program}{t ty e:TypeId}{k bytes:Nat}(he:fV P t e k bytes)(w:World){base:Nat}{s:Sl}{rows:List (Array Value)}(h:Own w base e k s rows){A:Option Addr}{news:List (Array Value)}(c:Nat)
  (hs:cO w k A news) (hlen:(rows.length+news.length)*(bytes+1)≤140737488355328) (hbase:base≤w.heap.size) :
  ∃s' w',(Builtin.append_ #[t,t] ty #[.slice s.a rows.length s.cap,.slice A news.length c]).run P w=.ok (.slice s'.a (rows.length+news.length) s'.cap) w'∧Own w' base e k s' (rows++news)∧w.grownBy w' s.blk∧(s'.blk=s.blk∨s'.blk=some w.heap.size):=by
 have hl1:rows.length+news.length≤maxLen:=by
  have:rows.length+news.length≤(rows.length+news.length)*(bytes+1):=Nat.le_mul_of_pos_right _ (by omega)
  unfold maxLen;omega
 have hl2:(rows.length+news.length)*bytes≤140737488355328:=Nat.le_trans (Nat.mul_le_mul_left _ (by omega)) hlen
 have main:∀b o,A=some ⟨b,o,none⟩→(∀j u,(flat news)[j]?=some u→w.cell? ((⟨b,o,none⟩:Addr).add j)=some u)→
   ∃s' w',(Builtin.append_ #[t,t] ty #[.slice s.a rows.length s.cap,.slice A news.length c]).run P w=.ok (.slice s'.a (rows.length+news.length) s'.cap) w'∧Own w' base e k s' (rows++news)∧w.grownBy w' s.blk∧(s'.blk=s.blk∨s'.blk=some w.heap.size):=by
  intro b o hA hcells
  obtain⟨i,z,hi,hz,h1,h2,h3⟩:=he.info
  obtain⟨v',w',hrun,hown,hg,_,hb⟩:=run_append_own_at (P:=P) w base t ty e i z k bytes he.und hi hz h1 h2 h3 he.pos (.slice s.a rows.length s.cap) rows.length (flat rows) h.own ⟨b,o,none⟩ news.length c (flat news) (flat_length hs.size) hcells hs.vals hl1 hl2 hbase
  rw[yt]at hg hb
  have hform:∃s':Sl,v'=.slice s'.a (rows.length+news.length) s'.cap:=by
   rcases hown.2 with⟨hv,hn⟩|⟨g,cap,cur,hv,_⟩
   ·exact⟨⟨none,0⟩,by rw[hv,hn]⟩
   ·exact⟨⟨some ⟨g,0,none⟩,cap⟩,hv⟩
  obtain⟨s',rfl⟩:=hform
  rw[yt]at hb
  refine⟨s',w',by rw[hA];exact hrun,⟨by rw[List.length_append,aa9];exact hown,fun r hr=>?_⟩,hg,hb⟩
  rcases List.mem_append.1 hr with hr|hr
  ·exact h.size r hr
  ·exact hs.size r hr
 rcases Nat.eq_zero_or_pos news.length with hn|hn
 ·obtain rfl:news=[]:=List.eq_nil_of_length_eq_zero hn
  cases A with
  |none=>
   refine⟨s,w,?_,by simpa using h,World.grownBy.refl w _,.inl rfl⟩
   exact run_append_nil he w h c
  |some a=>
   obtain⟨i,z,hi,hz,h1,h2,h3⟩:=he.info
   obtain⟨v',w',hrun,hown,hg,_,hb⟩:=run_append_own_at (P:=P) w base t ty e i z k bytes he.und hi hz h1 h2 h3 he.pos (.slice s.a rows.length s.cap) rows.length (flat rows) h.own a 0 c [] (by simp) (by simp) (by simp) hl1 hl2 hbase
   rw[yt]at hg hb
   have hform:∃s':Sl,v'=.slice s'.a (rows.length+0) s'.cap:=by
    rcases hown.2 with⟨hv,hn⟩|⟨g,cap,cur,hv,_⟩
    ·exact⟨⟨none,0⟩,by rw[hv,hn]⟩
    ·exact⟨⟨some ⟨g,0,none⟩,cap⟩,hv⟩
   obtain⟨s',rfl⟩:=hform
   rw[yt]at hb
   exact⟨s',w',hrun,⟨by simpa using hown,by simpa using h.size⟩,hg,hb⟩
 ·obtain⟨b,o,hA,hc⟩:=hs.cells he.pos hn
  exact main b o hA hc
theorem JH{P:Program}{o:Oper}{a:Act}{w:World}{K:Act→World→Prop}{Q:Exit→Act→World→Prop}(x y:Operand)(t:TypeId)(ho:o.op=.call {callee:=.builtin .append,args:=#[x,y],argTypes:=#[t,t]})
  {e:TypeId} {k bytes:Nat} (he:fV P t e k bytes) {base:Nat} {s:Sl} {rows:List (Array Value)} (hx:a.eval x=.slice s.a rows.length s.cap) (h:Own w base e k s rows) {A:Option Addr} {news:List (Array Value)} {m c:Nat}
  (hy:a.eval y=.slice A m c) (hm:m=news.length) (hs:cO w k A news) (hlen:(rows.length+news.length)*(bytes+1)≤140737488355328) (hbase:base≤w.heap.size)
  (hK:∀(s':Sl) w',Own w' base e k s' (rows++news)→w.grownBy w' s.blk→(s'.blk=s.blk∨s'.blk=some w.heap.size)→K (a.put o.dst (.slice s'.a (rows.length+news.length) s'.cap)) w'):o.wp P a w K Q:=by
 subst hm
 obtain⟨s',w',hrun,h2,h3,h4⟩:=Qn (ty:=o.type) he w h c hs hlen hbase
 unfold Oper.wp execOp
 simp only[ho,resolve,invoke,builtin,Sem.run_bind,Sem.run_pure,Result.andThen_ok,List.map_toArray,List.map_cons,List.map_nil,hx,hy,hrun]
 exact hK s' w' h2 h3 h4
theorem aba{P:Program}{ops:Array Oper}{rest:List Oper}{o:Oper}{a:Act}{w:World}{Q:Exit→Act→World→Prop}(hgd:o.guard=none)(x y:Operand)(t:TypeId)(ho:o.op=.call {callee:=.builtin .append,args:=#[x,y],argTypes:=#[t,t]})
  {e:TypeId} {k bytes:Nat} (he:fV P t e k bytes) {base:Nat} {s:Sl} {rows:List (Array Value)} (hx:a.eval x=.slice s.a rows.length s.cap) (h:Own w base e k s rows) {A:Option Addr} {news:List (Array Value)} {m c:Nat}
  (hy:a.eval y=.slice A m c) (hm:m=news.length) (hs:cO w k A news) (hlen:(rows.length+news.length)*(bytes+1)≤140737488355328) (hbase:base≤w.heap.size)
  (hK:∀(s':Sl) w',Own w' base e k s' (rows++news)→w.grownBy w' s.blk→(s'.blk=s.blk∨s'.blk=some w.heap.size)→wpList P ops Q rest (a.put o.dst (.slice s'.a (rows.length+news.length) s'.cap)) w'):wpList P ops Q (o::rest) a w:=
 wpList_plain hgd fun _ hK'=>JH x y t ho he hx h hy hm hs hlen hbase fun s' w' h2 h3 h4=>hK' _ _ (hK s' w' h2 h3 h4)
def bu(w:World)(S:Nat→Prop)(Φ:World→Prop):Prop:=∀w':World,(∀k,S k→w'.heap[k]?=w.heap[k]?)→Φ w'
theorem bu.out{w:World}{S:Nat→Prop}{Φ:World→Prop}(h:bu w S Φ):Φ w:=h w fun _ _=>rfl
theorem bu.to{w w1:World}{S S1:Nat→Prop}{Φ:World→Prop}(h:bu w S Φ)(hw:∀k,S k→w1.heap[k]?=w.heap[k]?)(hS:∀k,S k→S1 k):bu w1 S1 Φ:=
 fun w' hw'=>h w' fun k hk=>(hw' k (hS k hk)).trans (hw k hk)
def fresh(base:Nat)(w:World):Nat→Prop:=fun k=>base≤k∧k<w.heap.size
def abb(base:Nat)(w:World)(g:Option Nat):Nat→Prop:=fun k=>base≤k∧k<w.heap.size∧some k≠g
end Go.WW
