/- A part of the proof. -/
import Derived.Test.YtfieenjdcpjmgaaGreatDoorB03
import Derived.Test.YtfieenjdcpjmgaaGreatDoorB04
import Derived.Carry
import Derived.WideMake
import Derived.RangeFuncOwn
set_option maxRecDepth 100000
set_option maxHeartbeats 4000000
namespace Go.WW
def wO(l:List Key):Nat→Int
 |0=>0
 |j+1=>((l[j]?).map (·.profile)).getD 0
theorem ado(x:bC)(h:¬aF x.version 1 65535=true):jc x=false:=by
 have hb:(aF x.version 1 65535)=false:=by first|exact h|(simpa using h)|(simp;omega)
 simp only[jc,hb,Bool.false_and]
theorem adp(x:bC)(h:¬aF x.keys.length 1 4=true):jc x=false:=by
 have hb:(aF x.keys.length 1 4)=false:=by first|exact h|(simpa using h)|(simp;omega)
 simp only[jc,hb,Bool.false_and,Bool.and_false]
theorem adq(x:bC)(h:256<(x.di.size:Int)):jc x=false:=by
 have hb:(decide ((x.di.size:Int)≤256))=false:=by first|exact h|(simpa using h)|(simp;omega)
 simp only[jc,hb,Bool.false_and,Bool.and_false]
theorem adr(x:bC)(h:¬aF x.dK 0 65536=true):jc x=false:=by
 have hb:(aF x.dK 0 65536)=false:=by first|exact h|(simpa using h)|(simp;omega)
 simp only[jc,hb,Bool.false_and,Bool.and_false]
theorem ads(x:bC)(h:¬(0<x.dK∨x.di.toList=[])):jc x=false:=by
 have hb:(decide (0<x.dK) || x.di.toList.isEmpty)=false:=by first|exact h|(simpa using h)|(simp;omega)
 simp only[jc,hb,Bool.false_and,Bool.and_false]
theorem adt(x:bC)(h:¬aF x.created 0 1099511627776=true):jc x=false:=by
 have hb:(aF x.created 0 1099511627776)=false:=by first|exact h|(simpa using h)|(simp;omega)
 simp only[jc,hb,Bool.and_false]
theorem RD(x:bC)(h1:aF x.version 1 65535=true)(h2:aF x.keys.length 1 4=true)(h3:(x.di.size:Int)≤256)(h4:aF x.dK 0 65536=true)(h5:0<x.dK∨x.di.toList=[]):jc x=(aF x.created 0 1099511627776):=by
 have e1:(aF x.version 1 65535)=true:=by first|exact h1|(simpa using h1)|(simp;omega)
 have e2:(aF x.keys.length 1 4)=true:=by first|exact h2|(simpa using h2)|(simp;omega)
 have e3:(decide ((x.di.size:Int)≤256))=true:=by first|exact h3|(simpa using h3)|(simp;omega)
 have e4:(aF x.dK 0 65536)=true:=by first|exact h4|(simpa using h4)|(simp;omega)
 have e5:(decide (0<x.dK) || x.di.toList.isEmpty)=true:=by first|exact h5|(simpa using h5)|(simp;omega)
 simp only[jc,e1,e2,e3,e4,e5,Bool.true_and]
theorem adu(x:bC)(h1:aF x.version 1 65535=true)(h2:aF x.keys.length 1 4=true)(h3:(x.di.size:Int)≤256)(h4:aF x.dK 0 65536=true)(h5:0<x.dK):jc x=aF x.created 0 1099511627776:=RD x h1 h2 h3 h4 (.inl h5)
theorem adv(x:bC)(h1:aF x.version 1 65535=true)(h2:aF x.keys.length 1 4=true)(h3:(x.di.size:Int)≤256)(h4:aF x.dK 0 65536=true):jc x=((decide (0<x.dK) || x.di.toList.isEmpty)&&aF x.created 0 1099511627776):=by
 have e3:decide ((x.di.size:Int)≤256)=true:=by simpa using h3
 simp only[jc,h1,h2,e3,h4,Bool.true_and]
theorem adw{m:Int}{x:bC}(k:Nat)(hk:k=x.keys.length)(h1:(x.keys.take k).all (iL m x.version)=true)(h2:(List.range k).all (jB mQ x.keys)=true):iw m x=jc x:=by
 subst hk;rw[List.take_of_length_le (Nat.le_refl _)]at h1;simp[iw,ordered,h1,h2]
theorem CG{m:Int}{x:bC}(k:Nat)(hk:k<x.keys.length)(h:iL m x.version x.keys[k]=false):iw m x=false:=by
 rw[iw,qR x.keys k hk h];rfl
theorem adx(l:List Key):wO l 0=0:=rfl
theorem FP(l:List Key)(j:Nat)(h:j<l.length):wO l (j+1)=l[j].profile:=by simp[wO,h]
theorem ady{p:Int}(h:p≤0):dV p=0:=by
 have h1:(p == 1)=false:=by simp;omega
 have h2:(p == 2)=false:=by simp;omega
 simp[dV,h1,h2]
theorem adz{m:Int}{x:bC}(k:Nat)(hk:k<x.keys.length)(h:x.keys[k].profile≤wO x.keys k):iw m x=false:=by
 cases k with
 |zero=>exact CG 0 hk (by rw[iL,ady (by simpa[adx]using h)];rfl)
 |succ j=>
  rw[FP x.keys j (by omega)]at h
  have:jB mQ x.keys (j+1)=false:=by
   have h1:j<x.keys.length:=by omega
   simp[jB,hk,h1,mQ];exact h
  have:ordered mQ x.keys=false:=CB _ _ hk this
  simp[iw,this]
theorem adA{x:bC}(k:Nat)(hk:k<x.keys.length)(h:wO x.keys k<x.keys[k].profile)(h2:(List.range k).all (jB mQ x.keys)=true):(List.range (k+1)).all (jB mQ x.keys)=true:=by
 refine FM k h2 ?_
 cases k with
 |zero=>rfl
 |succ j=>
  have h1:j<x.keys.length:=by omega
  rw[FP x.keys j h1]at h
  simp[jB,hk,h1,mQ];exact h
end Go.WW
namespace Go.Proofs.YtfieenjdcpjmgaaGreatDoor
open Go.RowKit Go.WW
theorem CJ(s:Sl)(x:bC)(m:Int)(w:World)(hx:jA w s x):Calls Tryz.prog 141 #[.agg (bz s x),.int .i64 m] w fun e w'=>e=.returned (.bool (iw m x))∧Below w.heap.size w w':=by
 have hl:x.keys.length≤4294967000:=hx.1.1
 have hB:Below w.heap.size w (w.alloc (.cells (bz s x) 67)):=(Below.refl _ _).alloc (Nat.le_refl _) _
 go_enter Tryz.func141,Tryz.ntmps141
 go_wp2
 go_loopw [5,6] (fun t i wr=>Below (w.alloc (.cells (bz s x) 67)).heap.size (w.alloc (.cells (bz s x) 67)) wr∧∃k:Nat,k≤x.keys.length∧i=.int .i64 k∧t=.int .i64 (wO x.keys k)∧Hid ((x.keys.take k).all (iL m x.version)=true)∧Hid ((List.range k).all (jB mQ x.keys)=true)) (fun _ i _=>x.keys.length-(intOf i).toNat)
 case atStart=>exact⟨Below.refl _ _,0,Nat.zero_le _,rfl,rfl,by simp[Hid],by simp[Hid]⟩
 case round=>
  obtain⟨hbr,k,hk,rfl,rfl,hall,hord⟩:=hrel
  obtain⟨hcc,aT,hrr⟩:=bg hbr
  have hsz:w.heap.size<wr.heap.size:=by have:=hbr.size;simp at this;omega
  by_cases hlt:k<x.keys.length
  ·obtain⟨b,o,t,ha,hc,hkey⟩:=hx.1.get k hlt
   have hb:b<w.heap.size:=gm hc
   have hb1:b<w.heap.size+1:=by omega
   have hki:(k:Int)<(x.keys.length:Int):=by omega
   by_cases hA:x.keys[k].profile≤wO x.keys k
   ·have HN:=Lib.hid (adz (m:=m) k hlt hA)
    go_wp2_with (first|(go_at_call 213;refine(sZ _ _).mono ?_;rintro e w' ⟨rfl,rfl⟩)|(go_at_call 142;refine(qQ _ _ _ _).mono ?_;rintro e w' ⟨rfl,rfl⟩)|(go_at_call 214;refine(yg _ _ _).mono ?_;rintro e w2 ⟨rfl,hb2⟩;obtain⟨hc2,hf2,hr2⟩:=bg hb2))
    go_ret
    exact⟨by rw[HN.out];rfl,hB.trans ((aj hbr _).mono (by simp))⟩
   ·have hA':wO x.keys k<x.keys[k].profile:=by omega
    have HO:=Lib.hid (adA k hlt hA' hord.out)
    clear hA
    by_cases hK:dV x.keys[k].profile=0
    ·have hK':(dV x.keys[k].profile == 0)=true:=by simp[hK]
     have HN:=Lib.hid (CG (m:=m) k hlt (by simp[iL,hK']))
     clear hK
     go_wp2_with (first|(go_at_call 213;refine(sZ _ _).mono ?_;rintro e w' ⟨rfl,rfl⟩)|(go_at_call 142;refine(qQ _ _ _ _).mono ?_;rintro e w' ⟨rfl,rfl⟩)|(go_at_call 214;refine(yg _ _ _).mono ?_;rintro e w2 ⟨rfl,hb2⟩;obtain⟨hc2,hf2,hr2⟩:=bg hb2))
     go_ret
     exact⟨by rw[HN.out];rfl,hB.trans ((aj hbr _).mono (by simp))⟩
    ·have hK':(dV x.keys[k].profile == 0)=false:=by simp[hK]
     clear hK
     cases hC:(x.keys[k].version != x.version)
     ·by_cases hm:m=0
      ·subst hm
       cases hD:nH x.keys[k]
       ·have HN:=Lib.hid (CG (m:=0) k hlt (by simp[iL,hD]))
        go_wp2_with (first|(go_at_call 213;refine(sZ _ _).mono ?_;rintro e w' ⟨rfl,rfl⟩)|(go_at_call 142;refine(qQ _ _ _ _).mono ?_;rintro e w' ⟨rfl,rfl⟩)|(go_at_call 214;refine(yg _ _ _).mono ?_;rintro e w2 ⟨rfl,hb2⟩;obtain⟨hc2,hf2,hr2⟩:=bg hb2))
        go_ret
        exact⟨by rw[HN.out];rfl,hB.trans ((ag (aj hbr _) hb2).mono (by simp))⟩
       ·have HN:=Lib.hid (kW (p:=iL 0 x.version) x.keys k hlt hall.out (by simp[iL,hK',hC,hD]))
        go_wp2_with (first|(go_at_call 213;refine(sZ _ _).mono ?_;rintro e w' ⟨rfl,rfl⟩)|(go_at_call 142;refine(qQ _ _ _ _).mono ?_;rintro e w' ⟨rfl,rfl⟩)|(go_at_call 214;refine(yg _ _ _).mono ?_;rintro e w2 ⟨rfl,hb2⟩;obtain⟨hc2,hf2,hr2⟩:=bg hb2))
        go_roundw
        case rel=>exact⟨ag (aj hbr _) hb2,k+1,by omega,by go_num,by rw[FP _ _ hlt],HN.out,HO.out⟩
        case measure=>simp[intOf];omega
      ·have hm1:(m == 0)=false:=by simp[hm]
       have hm2:(m != 0)=true:=by simp[hm]
       clear hm
       cases hD:aF x.keys[k].bytes.length 1 256
       ·have HN:=Lib.hid (CG (m:=m) k hlt (by simp[iL,hD,hm1]))
        go_wp2_with (first|(go_at_call 213;refine(sZ _ _).mono ?_;rintro e w' ⟨rfl,rfl⟩)|(go_at_call 142;refine(qQ _ _ _ _).mono ?_;rintro e w' ⟨rfl,rfl⟩)|(go_at_call 214;refine(yg _ _ _).mono ?_;rintro e w2 ⟨rfl,hb2⟩;obtain⟨hc2,hf2,hr2⟩:=bg hb2))
        go_ret
        exact⟨by rw[HN.out];rfl,hB.trans ((aj hbr _).mono (by simp))⟩
       ·have HN:=Lib.hid (kW (p:=iL m x.version) x.keys k hlt hall.out (by simp[iL,hK',hC,hD,hm1]))
        go_wp2_with (first|(go_at_call 213;refine(sZ _ _).mono ?_;rintro e w' ⟨rfl,rfl⟩)|(go_at_call 142;refine(qQ _ _ _ _).mono ?_;rintro e w' ⟨rfl,rfl⟩)|(go_at_call 214;refine(yg _ _ _).mono ?_;rintro e w2 ⟨rfl,hb2⟩;obtain⟨hc2,hf2,hr2⟩:=bg hb2))
        go_roundw
        case rel=>exact⟨aj hbr _,k+1,by omega,by go_num,by rw[FP _ _ hlt],HN.out,HO.out⟩
        case measure=>simp[intOf];omega
     ·have HN:=Lib.hid (CG (m:=m) k hlt (by simp[iL,hC]))
      go_wp2_with (first|(go_at_call 213;refine(sZ _ _).mono ?_;rintro e w' ⟨rfl,rfl⟩)|(go_at_call 142;refine(qQ _ _ _ _).mono ?_;rintro e w' ⟨rfl,rfl⟩)|(go_at_call 214;refine(yg _ _ _).mono ?_;rintro e w2 ⟨rfl,hb2⟩;obtain⟨hc2,hf2,hr2⟩:=bg hb2))
      go_ret
      exact⟨by rw[HN.out];rfl,hB.trans ((aj hbr _).mono (by simp))⟩
  ·have HE:=Lib.hid (adw (m:=m) k (by omega) hall.out hord.out)
   go_wp2_with (first|(go_at_call 142;refine(qQ _ _ _ _).mono ?_;rintro e w' ⟨rfl,rfl⟩))
   all_goals go_ret
   all_goals exact⟨by rw[HE.out];first|(rw[ado x ‹_›];rfl)|(rw[adp x ‹_›];rfl)|(rw[adq x ‹_›];rfl)|(rw[adr x ‹_›];rfl)|(rw[ads x ‹_›];rfl)|(rw[adt x ‹_›];rfl)|(rw[RD x ‹_› ‹_› ‹_› ‹_› ‹_›];rfl)|(rw[adu x ‹_› ‹_› ‹_› ‹_› ‹_›];rfl)|(rw[adv x ‹_› ‹_› ‹_› ‹_›];rfl),hB.trans (hbr.mono (by simp))⟩
end Go.Proofs.YtfieenjdcpjmgaaGreatDoor
namespace Go.WW
def nY(l:List az)(i:Nat):Bool:=
 match l[i]? with
 |none=>true
 |some p=>bG p&&(l.take i).all (fun q=>!aY q p)
def yl(l:List az):Bool:=(List.range l.length).all (nY l)
def different(l:List az):Bool:=yl l&&decide ((l.length:Int)≤16)
theorem RF{l:List az}(i:Nat)(hi:i<l.length)(h:bG l[i]=false):different l=false:=by
 have:nY l i=false:=by simp[nY,hi,h]
 rw[different,yl,CB _ i hi this];rfl
theorem adB{l:List az}(i k:Nat)(hi:i<l.length)(hk:k<i)(h:aY l[k] l[i]=true):different l=false:=by
 have h2:(l.take i).all (fun q=>!aY q l[i])=false:=by
  rw[List.all_eq_false]
  exact⟨l[k],by rw[List.mem_iff_getElem];exact⟨k,by simp;omega,by simp⟩,by simp[h]⟩
 have:nY l i=false:=by simp[nY,hi,h2]
 rw[different,yl,CB _ i hi this];rfl
theorem adC{l:List az}(i:Nat)(hi:i<l.length)(h:(List.range i).all (nY l)=true)(h1:bG l[i]=true)(h2:(l.take i).all (fun q=>!aY q l[i])=true):(List.range (i+1)).all (nY l)=true:=
 FM i h (by simp[nY,hi,h1,h2])
theorem adD{l:List az}(i:Nat)(hi:i=l.length)(h:(List.range i).all (nY l)=true):different l=decide ((l.length:Int)≤16):=by
 subst hi;rw[different,yl,h];rfl
end Go.WW
namespace Go.Proofs.YtfieenjdcpjmgaaGreatDoor
open Go.RowKit Go.WW
theorem adE(a:Option Addr)(cap:Nat)(w:World):Calls Tryz.prog 140 #[.slice a 0 cap] w fun e w'=>e=.returned (.bool (different []))∧Below w.heap.size w w':=by
 go_enter Tryz.func140,Tryz.ntmps140
 go_wp2
 refine wp_loop_rounds 1 ?_
 rw[rounds_succ]
 go_wp2
 go_ret
 exact⟨rfl,Below.refl _ _⟩
theorem uP(a:Option Addr)(cap:Nat)(l:List az)(w:World)(hl:fJ w a l):Calls Tryz.prog 140 #[.slice a l.length cap] w fun e w'=>e=.returned (.bool (different l))∧Below w.heap.size w w':=by
 have hn:l.length≤4294967000:=hl.1
 rcases aX.addr hl with h0|⟨b,o,rfl,hb⟩
 ·obtain rfl:l=[]:=List.eq_nil_of_length_eq_zero h0
  exact adE a cap w
 go_enter Tryz.func140,Tryz.ntmps140
 go_wp2
 go_loopw [3] (fun i wr=>Below w.heap.size w wr∧∃k:Nat,k≤l.length∧i=.int .i64 k∧Hid ((List.range k).all (nY l)=true)) (fun i _=>l.length-(intOf i).toNat)
 case atStart=>exact⟨Below.refl _ _,0,Nat.zero_le _,rfl,by simp[Hid]⟩
 case round=>
  obtain⟨hbr,i,hi,rfl,hall⟩:=hrel
  by_cases hlt:i<l.length
  ·obtain⟨t,hc,hp⟩:=hl.at i hlt
   have hii:(i:Int)<(l.length:Int):=by omega
   obtain⟨hcc,aT,hrr⟩:=bg hbr
   go_wp2_with fail
   refine(Af _ _ _ (hp.later hbr)).mono ?_
   rintro e w1 ⟨rfl,hb1⟩
   replace hb1:=ag hbr hb1
   clear hcc aT hrr
   cases hv:bG l[i]
   ·have HN:=Lib.hid (RF i hlt hv)
    go_wp2
    go_ret
    exact⟨by rw[HN.out];rfl,hb1⟩
   ·have HV:=Lib.hid hv;clear hv
    obtain⟨wo,rfl⟩:∃wo:World,wo=wr:=⟨_,rfl⟩
    go_wp2
    go_loopw [4] (fun j wr=>Below w.heap.size w wr∧∃k:Nat,k≤i∧j=.int .i64 k∧Hid ((l.take k).all (fun q=>!aY q l[i])=true)) (fun j _=>i-(intOf j).toNat)
    case atStart=>exact⟨hb1,0,Nat.zero_le _,rfl,by simp[Hid]⟩
    case round=>
     obtain⟨FQ,k,hk,rfl,qX⟩:=hrel
     by_cases hk2:k<i
     ·have hkl:k<l.length:=by omega
      have hkk:(k:Int)<(l.length:Int):=by omega
      obtain⟨t',hc',hp'⟩:=hl.at k hkl
      cases hs:aY l[k] l[i]
      ·have HS:=Lib.hid (kW (p:=fun q=>!aY q l[i]) l k hkl qX.out (by simp[hs]))
       go_wp2
       refine dM FQ (by kernel_rfl) (by kernel_rfl) ?_
       repeat (go_big_quiet_step ((go_at_call 27;rename_i xw;exact Calls.gz (hs▸nV _ _ _ _ _ (hp'.later xw.b) (hp.later xw.b)))))
       refine wpQuiet_nil ?_
       intro w2 hb2
       go_wp2
       go_roundw
       case rel=>exact⟨hb2,k+1,by omega,by go_num,HS.out⟩
       case measure=>simp[intOf];omega
      ·have HS:=Lib.hid (adB i k hlt hk2 hs)
       go_wp2
       refine dM FQ (by kernel_rfl) (by kernel_rfl) ?_
       repeat (go_big_quiet_step ((go_at_call 27;rename_i xw;exact Calls.gz (hs▸nV _ _ _ _ _ (hp'.later xw.b) (hp.later xw.b)))))
       refine wpQuiet_nil ?_
       intro w2 hb2
       go_wp2
       go_ret
       exact⟨by rw[HS.out];rfl,hb2⟩
     ·have Aj:=qX.out
      have e:k=i:=by omega
      rw[e]at Aj
      have HS:=Lib.hid (adC i hlt hall.out HV.out Aj)
      clear Aj e
      go_wp2
      go_roundw
      case rel=>first|exact⟨FQ,i+1,by omega,by go_num,HS.out⟩|((repeat apply Exists.intro);exact⟨⟨FQ,i+1,by omega,by go_num,HS.out⟩,rfl⟩)
      case measure=>simp[intOf];omega
  ·have HE:=Lib.hid (adD i (by omega) hall.out)
   go_wp2
   go_ret
   exact⟨by rw[HE.out];rfl,hbr⟩
end Go.Proofs.YtfieenjdcpjmgaaGreatDoor
namespace Go.WW
def kK(a b:bC):Bool:=decide (b.version<a.version)&&decide (b.created≤a.created)
def qY(n a:az):Bool:=decide (a.aG=n.aG)&&!aY a n
def wP(a:Int):Bool:=decide (a≤1023)
def jG(e:Entry):Bool:=aF e.iE 0 1099511627776&&aF e.iF 0 1099511627776&&aF e.ig 0 2147483648&&aF e.ik 0 2147483648&&aF e.fails 0 65535&&aF e.fD 0 1099511627776&&aF e.gQ 0 1099511627776
def kL(e:Entry):Bool:=wP e.attrs&&aF e.dS 0 65535&&decide ((e.keys.length:Int)≤16)&&decide ((e.aO.size:Int)≤32)&&visible e.aO&&decide ((e.history.length:Int)≤16)
def bW(e:Entry):Bool:=bG e.name&&different e.aliases&&different e.targets&&different e.bD&&e.aliases.all (qY e.name)&&e.keys.all (iw e.dS)&&ordered kK e.keys&&e.history.all (fun h=>(h.length:Int) == 16)&&kL e&&jG e
theorem RG(n:Nat):((n ||| 1023)=1023)↔n≤1023:=by
 constructor
 ·intro h
  have h1:(n ||| 1023) >>> 10=0:=by rw[h];rfl
  rw[Nat.shiftRight_or_distrib]at h1
  have h2:n >>> 10=0:=by
   have:=Nat.or_eq_zero_iff.1 h1
   exact this.1
  rw[Nat.shiftRight_eq_div_pow]at h2
  omega
 ·intro h
  have h1:n<2 ^ 10:=by omega
  apply Nat.eq_of_testBit_eq
  intro i
  rw[Nat.testBit_or]
  have e:(1023:Nat)=2 ^ 10-1:=rfl
  rw[e,Nat.testBit_two_pow_sub_one]
  by_cases hi:i<10
  ·simp[hi]
  ·simp[hi]
   exact Nat.testBit_lt_two_pow (Nat.lt_of_lt_of_le h1 (Nat.pow_le_pow_right (by omega) (by omega)))
theorem adF(e:Entry)(h:¬aF e.iE 0 1099511627776=true):jG e=false:=by
 have hb:(aF e.iE 0 1099511627776)=false:=by first|exact h|(simpa using h)|(simp;omega)
 simp only[jG,hb,Bool.false_and]
theorem adG(e:Entry)(h:¬aF e.iF 0 1099511627776=true):jG e=false:=by
 have hb:(aF e.iF 0 1099511627776)=false:=by first|exact h|(simpa using h)|(simp;omega)
 simp only[jG,hb,Bool.false_and,Bool.and_false]
theorem adH(e:Entry)(h:¬aF e.ig 0 2147483648=true):jG e=false:=by
 have hb:(aF e.ig 0 2147483648)=false:=by first|exact h|(simpa using h)|(simp;omega)
 simp only[jG,hb,Bool.false_and,Bool.and_false]
theorem adI(e:Entry)(h:¬aF e.ik 0 2147483648=true):jG e=false:=by
 have hb:(aF e.ik 0 2147483648)=false:=by first|exact h|(simpa using h)|(simp;omega)
 simp only[jG,hb,Bool.false_and,Bool.and_false]
theorem adJ(e:Entry)(h:¬aF e.fails 0 65535=true):jG e=false:=by
 have hb:(aF e.fails 0 65535)=false:=by first|exact h|(simpa using h)|(simp;omega)
 simp only[jG,hb,Bool.false_and,Bool.and_false]
theorem adK(e:Entry)(h:¬aF e.fD 0 1099511627776=true):jG e=false:=by
 have hb:(aF e.fD 0 1099511627776)=false:=by first|exact h|(simpa using h)|(simp;omega)
 simp only[jG,hb,Bool.false_and,Bool.and_false]
theorem adL(e:Entry)(h:¬aF e.gQ 0 1099511627776=true):jG e=false:=by
 have hb:(aF e.gQ 0 1099511627776)=false:=by first|exact h|(simpa using h)|(simp;omega)
 simp only[jG,hb,Bool.and_false]
theorem adM(e:Entry)(h1:aF e.iE 0 1099511627776=true)(h2:aF e.iF 0 1099511627776=true)(h3:aF e.ig 0 2147483648=true)(h4:aF e.ik 0 2147483648=true)(h5:aF e.fails 0 65535=true)(h6:aF e.fD 0 1099511627776=true):jG e=(aF e.gQ 0 1099511627776):=by
 have e1:(aF e.iE 0 1099511627776)=true:=by first|exact h1|(simpa using h1)|(simp;omega)
 have e2:(aF e.iF 0 1099511627776)=true:=by first|exact h2|(simpa using h2)|(simp;omega)
 have e3:(aF e.ig 0 2147483648)=true:=by first|exact h3|(simpa using h3)|(simp;omega)
 have e4:(aF e.ik 0 2147483648)=true:=by first|exact h4|(simpa using h4)|(simp;omega)
 have e5:(aF e.fails 0 65535)=true:=by first|exact h5|(simpa using h5)|(simp;omega)
 have e6:(aF e.fD 0 1099511627776)=true:=by first|exact h6|(simpa using h6)|(simp;omega)
 simp only[jG,e1,e2,e3,e4,e5,e6,Bool.true_and]
theorem RI(a:Int)(h0:0≤a)(h1:a≤4294967295):(bits .or .i64 a 1023=1023)↔a≤1023:=by
 obtain⟨n,rfl⟩:=Int.eq_ofNat_of_zero_le h0
 have hn:n<4294967296:=by omega
 have hb:(BitVec.ofInt 64 (n:Int) ||| BitVec.ofInt 64 1023).toNat=n ||| 1023:=by
  rw[BitVec.toNat_or]
  have e1:(BitVec.ofInt 64 (n:Int)).toNat=n:=by simp;omega
  rw[e1];rfl
 have hlt:n ||| 1023<2 ^ 32:=Nat.or_lt_two_pow (by omega) (by omega)
 have:bits .or .i64 (n:Int) 1023=((n ||| 1023:Nat):Int):=by
  show IntKind.i64.wrap ((BitVec.ofInt 64 (n:Int) ||| BitVec.ofInt 64 1023).toNat:Int)=_
  rw[hb]
  exact IntWalk.i64_in _ (by omega)
 rw[this]
 have:=RG n
 omega
theorem JU{e:Entry}(h:(16<(e.keys.length:Int)∨32<(e.aO.size:Int))∨16<(e.history.length:Int)):kL e=false:=by
 have:(decide ((e.keys.length:Int)≤16)&&decide ((e.aO.size:Int)≤32)&&decide ((e.history.length:Int)≤16))=false:=by simp;omega
 simp only[kL]
 revert this
 cases decide ((e.keys.length:Int)≤16)<;>cases decide ((e.aO.size:Int)≤32)<;>cases decide ((e.history.length:Int)≤16)<;>simp
theorem adN{e:Entry}(h:¬visible e.aO=true):kL e=false:=by
 have:visible e.aO=false:=by simpa using h
 simp[kL,this]
theorem adO{e:Entry}(h:32<(e.aO.size:Int)):kL e=false:=JU (.inl (.inr h))
theorem adP{e:Entry}(h:16<(e.keys.length:Int)):kL e=false:=JU (.inl (.inl h))
theorem adQ{e:Entry}(h:¬aF e.dS 0 65535=true):kL e=false:=by
 have:aF e.dS 0 65535=false:=by simpa using h
 simp[kL,this]
theorem adR{e:Entry}(h:¬e.attrs≤1023):kL e=false:=by simp[kL,wP,h]
theorem adS{e:Entry}(h:e.attrs≤1023)(h1:aF e.dS 0 65535=true)(h2:visible e.aO=true)(h3:((e.keys.length:Int)≤16∧(e.aO.size:Int)≤32)∧(e.history.length:Int)≤16):kL e=true:=by
 simp[kL,wP,h,h1,h2,h3]
theorem adT{e:Entry}(h:bG e.name=false):bW e=false:=by simp[bW,h]
theorem adU{e:Entry}(h:different e.aliases=false):bW e=false:=by simp[bW,h]
theorem adV{e:Entry}(h:different e.targets=false):bW e=false:=by simp[bW,h]
theorem adW{e:Entry}(h:different e.bD=false):bW e=false:=by simp[bW,h]
theorem RJ{e:Entry}(k:Nat)(hk:k<e.aliases.length)(h:qY e.name e.aliases[k]=false):bW e=false:=by
 have:=qR e.aliases k hk h;simp[bW,this]
theorem adX{e:Entry}(k:Nat)(hk:k<e.keys.length)(h:iw e.dS e.keys[k]=false):bW e=false:=by
 have:=qR e.keys k hk h;simp[bW,this]
theorem RN{α:Type}{f:α→α→Bool}{l:List α}(j:Nat)(hk:j+1<l.length)(h:f l[j] l[j+1]=false):ordered f l=false:=by
 have h1:j<l.length:=by omega
 exact CB _ (j+1) hk (by simp[jB,hk,h1,h])
theorem adY{α:Type}{f:α→α→Bool}{l:List α}(j:Nat)(hk:j+1<l.length)(hh:(List.range (j+1)).all (jB f l)=true)(h:f l[j] l[j+1]=true):(List.range (j+1+1)).all (jB f l)=true:=by
 have h1:j<l.length:=by omega
 exact FM (j+1) hh (by simp[jB,hk,h1,h])
theorem adZ{α:Type}{f:α→α→Bool}(l:List α):(List.range (0+1)).all (jB f l)=true:=by simp[jB]
theorem RQ{e:Entry}(h:ordered kK e.keys=false):bW e=false:=by simp[bW,h]
theorem ad1{e:Entry}(k:Nat)(hk:k<e.history.length)(h:((e.history[k].length:Int) == 16)=false):bW e=false:=by
 have:=qR (p:=fun h=>(h.length:Int) == 16) e.history k hk h;simp[bW,this]
theorem Ak{e:Entry}(h:kL e=false):bW e=false:=by simp[bW,h]
theorem ad2{e:Entry}(h1:bG e.name=true)(h2:different e.aliases=true)(h3:different e.targets=true)(h4:different e.bD=true)(h5:e.aliases.all (qY e.name)=true)(h6:e.keys.all (iw e.dS)=true)(h7:ordered kK e.keys=true)(h8:e.history.all (fun h=>(h.length:Int) == 16)=true)(h9:kL e=true):bW e=jG e:=by
 simp only[bW,h1,h2,h3,h4,h5,h6,h7,h8,h9,Bool.true_and]
end Go.WW
namespace Go.Proofs.YtfieenjdcpjmgaaGreatDoor
open Go.RowKit Go.WW
theorem ad3(r:aN)(d:Entry)(w:World)(he:bK w r d):Calls Tryz.prog 76 #[.agg (ae r d)] w fun e w'=>e=.returned (.bool (bW d))∧Below w.heap.size w w':=by
 have hB:Below w.heap.size w (w.alloc (.cells (ae r d) 47)):=(Below.refl _ _).alloc (Nat.le_refl _) _
 cases h1:bG d.name
 ·have HN:=Lib.hid (adT h1)
  go_enter Tryz.func76,Tryz.ntmps76
  go_wp2_with fail
  refine(Af _ _ _ (he.name.later hB)).mono ?_
  rintro e w1 ⟨rfl,hb1⟩
  rw[h1]
  obtain⟨hc1,hf1,hr1⟩:=bg hb1
  go_wp2
  go_ret
  exact⟨by rw[HN.out];rfl,hB.trans (hb1.mono (by simp))⟩
 cases h2:different d.aliases
 ·have HN:=Lib.hid (adU h2)
  go_enter Tryz.func76,Tryz.ntmps76
  go_wp2_with fail
  refine(Af _ _ _ (he.name.later hB)).mono ?_
  rintro e w1 ⟨rfl,hb1⟩
  rw[h1]
  obtain⟨hc1,hf1,hr1⟩:=bg hb1
  go_wp2_with fail
  refine(uP _ _ _ _ (he.aliases.later (hB.trans (hb1.mono (by simp))))).mono ?_
  rintro e w2 ⟨rfl,hb2⟩
  rw[h2]
  replace hb2:=ag hb1 hb2
  clear hc1 hf1 hr1
  obtain⟨hc2,hf2,hr2⟩:=bg hb2
  go_wp2
  go_ret
  exact⟨by rw[HN.out];rfl,hB.trans (hb2.mono (by simp))⟩
 cases h3:different d.targets
 ·have HN:=Lib.hid (adV h3)
  go_enter Tryz.func76,Tryz.ntmps76
  go_wp2_with fail
  refine(Af _ _ _ (he.name.later hB)).mono ?_
  rintro e w1 ⟨rfl,hb1⟩
  rw[h1]
  obtain⟨hc1,hf1,hr1⟩:=bg hb1
  go_wp2_with fail
  refine(uP _ _ _ _ (he.aliases.later (hB.trans (hb1.mono (by simp))))).mono ?_
  rintro e w2 ⟨rfl,hb2⟩
  rw[h2]
  replace hb2:=ag hb1 hb2
  clear hc1 hf1 hr1
  obtain⟨hc2,hf2,hr2⟩:=bg hb2
  go_wp2_with fail
  refine(uP _ _ _ _ (he.targets.later (hB.trans (hb2.mono (by simp))))).mono ?_
  rintro e w3 ⟨rfl,hb3⟩
  rw[h3]
  replace hb3:=ag hb2 hb3
  clear hc2 hf2 hr2
  obtain⟨hc3,hf3,hr3⟩:=bg hb3
  go_wp2
  go_ret
  exact⟨by rw[HN.out];rfl,hB.trans (hb3.mono (by simp))⟩
 cases h4:different d.bD
 ·have HN:=Lib.hid (adW h4)
  go_enter Tryz.func76,Tryz.ntmps76
  go_wp2_with fail
  refine(Af _ _ _ (he.name.later hB)).mono ?_
  rintro e w1 ⟨rfl,hb1⟩
  rw[h1]
  obtain⟨hc1,hf1,hr1⟩:=bg hb1
  go_wp2_with fail
  refine(uP _ _ _ _ (he.aliases.later (hB.trans (hb1.mono (by simp))))).mono ?_
  rintro e w2 ⟨rfl,hb2⟩
  rw[h2]
  replace hb2:=ag hb1 hb2
  clear hc1 hf1 hr1
  obtain⟨hc2,hf2,hr2⟩:=bg hb2
  go_wp2_with fail
  refine(uP _ _ _ _ (he.targets.later (hB.trans (hb2.mono (by simp))))).mono ?_
  rintro e w3 ⟨rfl,hb3⟩
  rw[h3]
  replace hb3:=ag hb2 hb3
  clear hc2 hf2 hr2
  obtain⟨hc3,hf3,hr3⟩:=bg hb3
  go_wp2_with fail
  refine(uP _ _ _ _ (he.bD.later (hB.trans (hb3.mono (by simp))))).mono ?_
  rintro e w4 ⟨rfl,hb4⟩
  rw[h4]
  replace hb4:=ag hb3 hb4
  clear hc3 hf3 hr3
  obtain⟨hc4,hf4,hr4⟩:=bg hb4
  go_wp2
  go_ret
  exact⟨by rw[HN.out];rfl,hB.trans (hb4.mono (by simp))⟩
 go_enter Tryz.func76,Tryz.ntmps76
 go_wp2_with fail
 refine(Af _ _ _ (he.name.later hB)).mono ?_
 rintro e w1 ⟨rfl,hb1⟩
 rw[h1]
 obtain⟨hc1,hf1,hr1⟩:=bg hb1
 go_wp2_with fail
 refine(uP _ _ _ _ (he.aliases.later (hB.trans (hb1.mono (by simp))))).mono ?_
 rintro e w2 ⟨rfl,hb2⟩
 rw[h2]
 replace hb2:=ag hb1 hb2
 clear hc1 hf1 hr1
 obtain⟨hc2,hf2,hr2⟩:=bg hb2
 go_wp2_with fail
 refine(uP _ _ _ _ (he.targets.later (hB.trans (hb2.mono (by simp))))).mono ?_
 rintro e w3 ⟨rfl,hb3⟩
 rw[h3]
 replace hb3:=ag hb2 hb3
 clear hc2 hf2 hr2
 obtain⟨hc3,hf3,hr3⟩:=bg hb3
 go_wp2_with fail
 refine(uP _ _ _ _ (he.bD.later (hB.trans (hb3.mono (by simp))))).mono ?_
 rintro e w4 ⟨rfl,hb4⟩
 rw[h4]
 replace hb4:=ag hb3 hb4
 clear hc3 hf3 hr3
 obtain⟨hc4,hf4,hr4⟩:=bg hb4
 clear hc4 hf4 hr4
 have H1:=Lib.hid h1;clear h1
 have H2:=Lib.hid h2;clear h2
 have H3:=Lib.hid h3;clear h3
 have H4:=Lib.hid h4;clear h4
 go_wp2
 go_loopw [3] (fun i wr=>Below (w.alloc (.cells (ae r d) 47)).heap.size (w.alloc (.cells (ae r d) 47)) wr∧∃k:Nat,k≤d.aliases.length∧i=.int .i64 k∧Hid ((d.aliases.take k).all (qY d.name)=true)) (fun i _=>d.aliases.length-(intOf i).toNat)
 case atStart=>exact⟨hb4,0,Nat.zero_le _,rfl,by simp[Hid]⟩
 case round=>
  obtain⟨hbr,k,hk,rfl,hall⟩:=hrel
  have hn1:d.aliases.length≤4294967000:=he.aliases.1
  obtain⟨hcc,aT,hrr⟩:=bg hbr
  have hsz:w.heap.size<wr.heap.size:=by have:=hbr.size;simp at this;omega
  by_cases hlt:k<d.aliases.length
  ·obtain⟨b,o,t,ha,hc,hp⟩:=he.aliases.get k hlt
   have hb:b<w.heap.size:=gm hc
   have hb1:b<w.heap.size+1:=by omega
   have hki:(k:Int)<(d.aliases.length:Int):=by omega
   have c1:w.cell? ⟨b,o+k*2+1,none⟩=some (.string d.aliases[k].aG):=by simpa[Fv]using gX hc 1 (by omega)
   by_cases hr:d.aliases[k].aG=d.name.aG
   ·have hr':=str_eq _ _ hr
    cases hs:aY d.aliases[k] d.name
    ·have HS:=Lib.hid (kW (p:=qY d.name) d.aliases k hlt hall.out (by simp[qY,hr,hs]))
     clear hr
     go_wp2
     refine dM hbr (by kernel_rfl) (by kernel_rfl) ?_
     repeat (go_big_quiet_step ((go_at_call 27;rename_i xw;exact Calls.gz (hs▸nV _ _ _ _ _ (hp.later (hB.trans (xw.b.mono (by simp)))) (he.name.later (hB.trans (xw.b.mono (by simp))))))))
     refine wpQuiet_nil ?_
     intro w2 hb2
     go_wp2
     go_roundw
     case rel=>exact⟨hb2,k+1,by omega,by go_num,HS.out⟩
     case measure=>simp[intOf];omega
    ·have HS:=Lib.hid (RJ k hlt (by simp[qY,hs]))
     clear hr
     go_wp2
     refine dM hbr (by kernel_rfl) (by kernel_rfl) ?_
     repeat (go_big_quiet_step ((go_at_call 27;rename_i xw;exact Calls.gz (hs▸nV _ _ _ _ _ (hp.later (hB.trans (xw.b.mono (by simp)))) (he.name.later (hB.trans (xw.b.mono (by simp))))))))
     refine wpQuiet_nil ?_
     intro w2 hb2
     go_wp2
     go_ret
     exact⟨by rw[HS.out];rfl,hB.trans (hb2.mono (by simp))⟩
   ·have hr':=lu _ _ hr
    have HS:=Lib.hid (RJ k hlt (by simp[qY,hr]))
    clear hr
    go_wp2
    refine dM hbr (by kernel_rfl) (by kernel_rfl) ?_
    repeat (go_big_quiet_step (fail))
    refine wpQuiet_nil ?_
    intro w2 hb2
    go_wp2
    go_ret
    exact⟨by rw[HS.out];rfl,hB.trans (hb2.mono (by simp))⟩
  ·have H5:=Lib.hid (qU d.aliases k (by omega) hall.out)
   clear hall
   go_wp2
   clear hcc aT hrr hn1
   have jH:=hbr
   clear hbr hk hlt
   obtain⟨wo,hwo⟩:∃wo:World,wo=wr:=⟨_,rfl⟩
   subst hwo
   go_loopw [4] (fun i wr=>Below (w.alloc (.cells (ae r d) 47)).heap.size (w.alloc (.cells (ae r d) 47)) wr∧∃k:Nat,k≤d.keys.length∧i=.int .i64 k∧Hid ((d.keys.take k).all (iw d.dS)=true)∧Hid ((List.range k).all (jB kK d.keys)=true)) (fun i _=>d.keys.length-(intOf i).toNat)
   case atStart=>exact⟨jH,0,Nat.zero_le _,rfl,by simp[Hid],by simp[Hid]⟩
   case round=>
    obtain⟨hbr,k,hk,rfl,hall,hord⟩:=hrel
    have hn1:d.keys.length≤4294967000:=he.keys.1
    obtain⟨hcc,aT,hrr⟩:=bg hbr
    have hsz:w.heap.size<wr.heap.size:=by have:=hbr.size;simp at this;omega
    by_cases hlt:k<d.keys.length
    ·obtain⟨b,o,t,ha,hc,hp⟩:=he.keys.get k hlt
     have hb:b<w.heap.size:=gm hc
     have hb1:b<w.heap.size+1:=by omega
     have hki:(k:Int)<(d.keys.length:Int):=by omega
     have c0:w.cell? ⟨b,o+k*5,none⟩=some (.int .i64 d.keys[k].version):=by simpa[Cb]using gX hc 0 (by omega)
     have c4:w.cell? ⟨b,o+k*5+4,none⟩=some (.int .i64 d.keys[k].created):=by simpa[JD]using gX hc 4 (by omega)
     cases hs:iw d.dS d.keys[k]
     ·have HS:=Lib.hid (adX k hlt hs)
      go_wp2
      refine dM hbr (by kernel_rfl) (by kernel_rfl) ?_
      repeat (go_big_quiet_step ((go_at_call 141;rename_i xw;exact Calls.gz (hs▸CJ _ _ _ _ (hp.later (hB.trans (xw.b.mono (by simp))))))))
      refine wpQuiet_nil ?_
      intro w2 hb2
      go_wp2
      go_ret
      exact⟨by rw[HS.out];rfl,hB.trans (hb2.mono (by simp))⟩
     ·have HS:=Lib.hid (kW (p:=iw d.dS) d.keys k hlt hall.out hs)
      by_cases h0:k=0
      ·subst h0
       simp only[Nat.zero_mul,Nat.add_zero]at hc c0 c4
       have hkz:(0:Int)<(d.keys.length:Int):=by omega
       clear hki
       rw[show((0:Nat):Int)=0 from rfl]
       go_wp2
       refine dM hbr (by kernel_rfl) (by kernel_rfl) ?_
       repeat (go_big_quiet_step ((go_at_call 141;rename_i xw;exact Calls.gz (hs▸CJ _ _ _ _ (hp.later (hB.trans (xw.b.mono (by simp))))))))
       refine wpQuiet_nil ?_
       intro w2 hb2
       go_wp2
       go_roundw
       case rel=>exact⟨hb2,1,by omega,by go_num,HS.out,adZ _⟩
       case measure=>simp[intOf];omega
      ·obtain⟨j,rfl⟩:∃j,k=j+1:=⟨k-1,by omega⟩
       clear h0
       have hj:j<d.keys.length:=by omega
       obtain⟨b',o',t',ha',hc',hp'⟩:=he.keys.get j hj
       rw[ha]at ha'
       obtain⟨rfl,rfl⟩:b=b'∧o=o':=by cases ha';exact⟨rfl,rfl⟩
       clear ha' hp'
       have e0:w.cell? ⟨b,o+j*5,none⟩=some (.int .i64 d.keys[j].version):=by simpa[Cb]using gX hc' 0 (by omega)
       have e4:w.cell? ⟨b,o+j*5+4,none⟩=some (.int .i64 d.keys[j].created):=by simpa[JD]using gX hc' 4 (by omega)
       clear hc'
       have hp0:(0:Int)<(j:Int)+1:=by omega
       have hp1:decide ((0:Int)<(j:Int)+1)=true:=by simp
       have hp2:(j:Int)<(d.keys.length:Int):=by omega
       by_cases hv:d.keys[j].version≤d.keys[j+1].version
       ·have hv':decide (d.keys[j].version≤d.keys[j+1].version)=true:=by simpa using hv
        have HN:=Lib.hid (RQ (RN (f:=kK) j hlt (by simp[kK];omega)))
        go_wp2
        refine dM hbr (by kernel_rfl) (by kernel_rfl) ?_
        repeat (go_big_quiet_step ((go_at_call 141;rename_i xw;exact Calls.gz (hs▸CJ _ _ _ _ (hp.later (hB.trans (xw.b.mono (by simp))))))))
        refine wpQuiet_nil ?_
        intro w2 hb2
        go_wp2
        go_ret
        exact⟨by rw[HN.out];rfl,hB.trans (hb2.mono (by simp))⟩
       ·have hv':decide (d.keys[j].version≤d.keys[j+1].version)=false:=by simpa using hv
        by_cases hx:d.keys[j].created<d.keys[j+1].created
        ·have hx':decide (d.keys[j].created<d.keys[j+1].created)=true:=by simpa using hx
         have HN:=Lib.hid (RQ (RN (f:=kK) j hlt (by simp[kK];omega)))
         go_wp2
         refine dM hbr (by kernel_rfl) (by kernel_rfl) ?_
         repeat (go_big_quiet_step ((go_at_call 141;rename_i xw;exact Calls.gz (hs▸CJ _ _ _ _ (hp.later (hB.trans (xw.b.mono (by simp))))))))
         refine wpQuiet_nil ?_
         intro w2 hb2
         go_wp2
         go_ret
         exact⟨by rw[HN.out];rfl,hB.trans (hb2.mono (by simp))⟩
        ·have hx':decide (d.keys[j].created<d.keys[j+1].created)=false:=by simpa using hx
         have HN:=Lib.hid (adY (f:=kK) j hlt hord.out (by simp[kK];omega))
         go_wp2
         refine dM hbr (by kernel_rfl) (by kernel_rfl) ?_
         repeat (go_big_quiet_step ((go_at_call 141;rename_i xw;exact Calls.gz (hs▸CJ _ _ _ _ (hp.later (hB.trans (xw.b.mono (by simp))))))))
         refine wpQuiet_nil ?_
         intro w2 hb2
         go_wp2
         go_roundw
         case rel=>exact⟨hb2,j+1+1,by omega,by go_num,HS.out,HN.out⟩
         case measure=>simp[intOf];omega
    ·have H6:=Lib.hid (qU d.keys k (by omega) hall.out)
     have H7:=Lib.hid (acT d.keys.length k (by omega) hord.out)
     clear hall hord
     go_wp2
     clear hn1
     have hn2:d.history.length≤4294967000:=he.history.1
     go_loop [5] (fun i=>∃k:Nat,k≤d.history.length∧i=.int .i64 k∧Hid ((d.history.take k).all (fun h=>(h.length:Int) == 16)=true)) (fun i=>d.history.length-(intOf i).toNat)
     case atStart=>exact⟨0,Nat.zero_le _,rfl,by simp[Hid]⟩
     case round=>
      obtain⟨j,hj,rfl,hall⟩:=hrel
      by_cases hjl:j<d.history.length
      ·obtain⟨b,o,t,ha,hc,hp⟩:=he.history.get j hjl
       have hb:b<w.heap.size:=World.block_lt_of_cell? w _ hc
       have hb1:b<w.heap.size+1:=by omega
       have hki:(j:Int)<(d.history.length:Int):=by omega
       cases hs:((d.history[j].length:Int) == 16)
       ·have HS:=Lib.hid (ad1 j hjl hs)
        have hs':((d.history[j].length:Int) != 16)=true:=by simp[bne,hs]
        go_wp2
        go_ret
        exact⟨by rw[HS.out];rfl,hB.trans (hbr.mono (by simp))⟩
       ·have HS:=Lib.hid (kW (p:=fun h=>(h.length:Int) == 16) d.history j hjl hall.out hs)
        have hs':((d.history[j].length:Int) != 16)=false:=by simp[bne,hs]
        go_wp2
        go_round
        case rel=>exact⟨j+1,by omega,by go_num,HS.out⟩
        case measure=>simp[intOf];omega
      ·have H8:=Lib.hid (qU d.history j (by omega) hall.out)
       clear hall
       have hpo:=he.aO
       have ha0:=he.attrs.1
       have ha1:=he.attrs.2
       by_cases hat:d.attrs≤1023
       ·have hbit:(bits BinOp.or IntKind.i64 d.attrs 1023 != 1023)=false:=by simpa using(RI d.attrs ha0 ha1).2 hat
        go_wp2_with (first|(go_at_call 142;refine(qQ _ _ _ _).mono ?_;rintro e w' ⟨rfl,rfl⟩)|(go_at_call 143;refine(JF _ _ (le_max hpo)).mono ?_;rintro e w' ⟨rfl,rfl⟩))
        all_goals go_ret
        all_goals
         refine⟨?_,hB.trans (hbr.mono (by simp))⟩
         first
          |(rw[Ak (JU ‹_›)];rfl)
          |(rw[Ak (adN ‹_›)];rfl)
          |(rw[Ak (adO ‹_›)];rfl)
          |(rw[Ak (adP ‹_›)];rfl)
          |(rw[Ak (adQ ‹_›)];rfl)
          |(rw[ad2 H1.out H2.out H3.out H4.out H5.out H6.out H7.out H8.out (adS hat ‹_› ‹_› ‹_›)];first|(rw[adF d ‹_›];rfl)|(rw[adG d ‹_›];rfl)|(rw[adH d ‹_›];rfl)|(rw[adI d ‹_›];rfl)|(rw[adJ d ‹_›];rfl)|(rw[adK d ‹_›];rfl)|(rw[adL d ‹_›];rfl)|(rw[adM d ‹_› ‹_› ‹_› ‹_› ‹_› ‹_›];rfl))
       ·have hbit:(bits BinOp.or IntKind.i64 d.attrs 1023 != 1023)=true:=by simpa using mt (RI d.attrs ha0 ha1).1 hat
        have HN:=Lib.hid (Ak (adR hat))
        clear hat
        go_wp2_with (first|(go_at_call 142;refine(qQ _ _ _ _).mono ?_;rintro e w' ⟨rfl,rfl⟩)|(go_at_call 143;refine(JF _ _ (le_max hpo)).mono ?_;rintro e w' ⟨rfl,rfl⟩))
        go_ret
        exact⟨by rw[HN.out];rfl,hB.trans (hbr.mono (by simp))⟩
end Go.Proofs.YtfieenjdcpjmgaaGreatDoor
namespace Go.WW
def apJ(d:Entry)(p:ai)(now:Int):Bool:=bW d&&dP p&&acA now
end Go.WW
namespace Go.Proofs.YtfieenjdcpjmgaaGreatDoor
open Go.RowKit Go.WW
end Go.Proofs.YtfieenjdcpjmgaaGreatDoor
namespace Go.WW
open Go.RowKit
theorem JV{P:Program}{w:World}{mty kt et:TypeId}{d:TypeDesc}{r clock:Nat}{es:Array MapEntry}{k:Value}(v:Value)(hm:P.underlying mty=some (.map kt et))(hd:P.underlying kt=some d)(hk:MapKept.IsKey d k)
  (hf:Instr.findNow d k es.toList 0=some none) (hb:w.heap[r]?=some (.map es clock)) :
  (Instr.mapUpdate mty (.map (some r)) k v).run P w=.ok () (w.putObj r (.map (es.push {key:=k,val:=v,born:=clock}) (clock+1))):=by
 have hc:(Instr.checkKey false 10000 kt k).run P w=.ok () w:=MapKept.run_checkKey hd hk false 9999
 simp[Instr.mapUpdate,run_underlying hm,MapKept.run_getObj_map hb,hc,MapKept.run_findKey hd hf,MapKept.run_setObj_map _ hb,Result.andThen,World.putObj]
end Go.WW
namespace Go.WW
end Go.WW
namespace Go.Proofs.YtfieenjdcpjmgaaGreatDoor
open Go.RowKit Go.WW
theorem RS(v most:Int)(B:Nat)(w:World)(h:w.cell? ⟨B,0,none⟩=some (.int .i64 most)):Calls Tryz.prog 117 #[.int .i64 v,.pointer (some ⟨B,0,none⟩)] w fun e w'=>e=.returned (.bool (aF v 0 most))∧w=w':=by
 go_enter Tryz.func117,Tryz.ntmps117
 go_wp2_with (go_at_call 118;refine(uO _ _ _ _).mono ?_;rintro e w' ⟨rfl,rfl⟩)
 go_ret
 exact⟨rfl,rfl⟩
theorem ad4(b o cap B:Nat)(most:Int)(l:List Int)(w:World)(hl:pX w (some ⟨b,o,none⟩) l)(hB:w.cell? ⟨B,0,none⟩=some (.int .i64 most)) :
  Calls Tryz.prog 116 #[.slice (some ⟨b,o,none⟩) l.length cap,.int .i64 l.length,.func (.func 117) #[] #[.pointer (some ⟨B,0,none⟩)]] w fun e w'=>e=.returned (.bool (l.all (fun v=>aF v 0 most)))∧w=w':=by
 have hn':l.length≤4294967000:=hl.1
 go_enter Tryz.func116,Tryz.ntmps116
 go_wp2_with fail
 go_loop [15] (fun i=>∃k:Nat,k≤l.length∧i=.int .i64 k∧Hid ((l.take k).all (fun v=>aF v 0 most)=true)) (fun i=>l.length-(intOf i).toNat)
 case atStart=>exact⟨0,Nat.zero_le _,rfl,by simp[Hid]⟩
 case round=>
  obtain⟨k,hk,rfl,hall⟩:=hrel
  by_cases hlt:k<l.length
  ·have hc:=hl.at k hlt
   have hb:b<w.heap.size:=World.block_lt_of_cell? w _ hc
   cases hv:aF l[k] 0 most
   ·have HN:=Lib.hid (qR (p:=fun v=>aF v 0 most) l k hlt hv)
    go_wp2_with (go_at_call 117;refine(RS _ _ _ _ hB).mono ?_;rintro e w' ⟨rfl,rfl⟩;rw[hv])
    go_ret
    exact⟨by rw[HN.out];rfl,rfl⟩
   ·have HN:=Lib.hid (kW (p:=fun v=>aF v 0 most) l k hlt hall.out hv)
    go_wp2_with (go_at_call 117;refine(RS _ _ _ _ hB).mono ?_;rintro e w' ⟨rfl,rfl⟩;rw[hv])
    go_round
    case rel=>exact⟨k+1,by omega,by go_num,HN.out⟩
    case measure=>simp[intOf];omega
  ·have HN:=Lib.hid (qU (p:=fun v=>aF v 0 most) l k (by omega) hall.out)
   go_wp2_with fail
   go_ret
   exact⟨by rw[HN.out];rfl,rfl⟩
theorem FT(b o cap:Nat)(most:Int)(l:List Int)(w:World)(hl:pX w (some ⟨b,o,none⟩) l) :
  Calls Tryz.prog 115 #[.int .i64 most,.slice (some ⟨b,o,none⟩) l.length cap] w fun e w'=>e=.returned (.bool (l.all (fun v=>aF v 0 most)))∧Below w.heap.size w w':=by
 have hB:Below w.heap.size w (w.alloc (.cells #[.int .i64 most] 3)):=(Below.refl _ _).alloc (Nat.le_refl _) _
 have hl':=hl.later hB
 go_enter Tryz.func115,Tryz.ntmps115
 go_wp2_with (go_at_call 116;refine(ad4 _ _ _ _ most _ _ hl' (by simp[go_sem])).mono ?_;rintro e w' ⟨rfl,rfl⟩)
 go_ret
 exact⟨rfl,hB⟩
end Go.Proofs.YtfieenjdcpjmgaaGreatDoor
