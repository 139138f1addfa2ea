/- A part of the proof. -/
import Derived.Test.YtibhckkjciflaaaGreatDoorA14
import Derived.Test.YtibhckkjciflaaaGreatDoorA13
import Derived.Maps.AppendAt
import Derived.Deep.AppendLies
set_option maxRecDepth 100000
set_option maxHeartbeats 4000000
namespace Go.WW
def mM(l:List aG)(i:Nat):Bool:=
 match l[i]? with
 |none=>true
 |some p=>aY p&&(l.take i).all (fun q=>!bH q p)
def vW(l:List aG):Bool:=(List.range l.length).all (mM l)
def different(l:List aG):Bool:=vW l&&decide ((l.length:Int)≤16)
theorem Z5{l:List aG}(i:Nat)(hi:i<l.length)(h:aY l[i]=false):different l=false:=by
 have:mM l i=false:=by simp[mM,hi,h]
 rw[different,vW,Ap _ i hi this];rfl
theorem Z7{l:List aG}(i k:Nat)(hi:i<l.length)(hk:k<i)(h:bH l[k] l[i]=true):different l=false:=by
 have h2:(l.take i).all (fun q=>!bH q l[i])=false:=by
  rw[List.all_eq_false]
  exact⟨l[k],by rw[List.mem_iff_getElem];exact⟨k,by simp;omega,by simp⟩,by simp[h]⟩
 have:mM l i=false:=by simp[mM,hi,h2]
 rw[different,vW,Ap _ i hi this];rfl
theorem Z8{l:List aG}(i:Nat)(hi:i<l.length)(h:(List.range i).all (mM l)=true)(h1:aY l[i]=true)(h2:(l.take i).all (fun q=>!bH q l[i])=true):(List.range (i+1)).all (mM l)=true:=
 Eb i h (by simp[mM,hi,h1,h2])
theorem Z9{l:List aG}(i:Nat)(hi:i=l.length)(h:(List.range i).all (mM l)=true):different l=decide ((l.length:Int)≤16):=by
 subst hi;rw[different,vW,h];rfl
end Go.WW
namespace Go.Proofs.YtibhckkjciflaaaGreatDoor
open Go.RowKit Go.WW
theorem aab(a:Option Addr)(cap:Nat)(w:World):Calls Tryz.prog 89 #[.slice a 0 cap] w fun e w'=>e=.returned (.bool (different []))∧Below w.heap.size w w':=by
 go_enter Tryz.func89,Tryz.ntmps89
 go_wp2
 refine wp_loop_rounds 1 ?_
 rw[rounds_succ]
 go_wp2
 go_ret
 exact⟨rfl,Below.refl _ _⟩
theorem qV(a:Option Addr)(cap:Nat)(l:List aG)(w:World)(hl:fH w a l):Calls Tryz.prog 89 #[.slice a l.length cap] w fun e w'=>e=.returned (.bool (different l))∧Below w.heap.size w w':=by
 have hn:l.length≤4294967000:=hl.1
 rcases cu.addr hl with h0|⟨b,o,rfl,hb⟩
 ·obtain rfl:l=[]:=List.eq_nil_of_length_eq_zero h0
  exact aab a cap w
 go_enter Tryz.func89,Tryz.ntmps89
 go_wp2
 go_loopw [3] (fun i wr=>Below w.heap.size w wr∧∃k:Nat,k≤l.length∧i=.int .i64 k∧Hid ((List.range k).all (mM l)=true)) (fun i _=>l.length-(intOf i).toNat)
 case atStart=>exact⟨Below.refl _ _,0,Nat.zero_le _,rfl,by simp[Hid]⟩
 case round=>
  obtain⟨hbr,i,hi,rfl,hall⟩:=hrel
  by_cases hlt:i<l.length
  ·obtain⟨t,hc,hp⟩:=hl.at i hlt
   have hii:(i:Int)<(l.length:Int):=by omega
   obtain⟨hcc,ax,hrr⟩:=aK hbr
   go_wp2_with fail
   refine(uf _ _ _ (hp.later hbr)).mono ?_
   rintro e w1 ⟨rfl,hb1⟩
   replace hb1:=af hbr hb1
   clear hcc ax hrr
   cases hv:aY l[i]
   ·have HN:=Lib.hid (Z5 i hlt hv)
    go_wp2
    go_ret
    exact⟨by rw[HN.out];rfl,hb1⟩
   ·have HV:=Lib.hid hv;clear hv
    obtain⟨wo,rfl⟩:∃wo:World,wo=wr:=⟨_,rfl⟩
    go_wp2
    go_loopw [4] (fun j wr=>Below w.heap.size w wr∧∃k:Nat,k≤i∧j=.int .i64 k∧Hid ((l.take k).all (fun q=>!bH q l[i])=true)) (fun j _=>i-(intOf j).toNat)
    case atStart=>exact⟨hb1,0,Nat.zero_le _,rfl,by simp[Hid]⟩
    case round=>
     obtain⟨Ed,k,hk,rfl,yg⟩:=hrel
     by_cases hk2:k<i
     ·have hkl:k<l.length:=by omega
      have hkk:(k:Int)<(l.length:Int):=by omega
      obtain⟨t',hc',hp'⟩:=hl.at k hkl
      cases hs:bH l[k] l[i]
      ·have HS:=Lib.hid (lM (p:=fun q=>!bH q l[i]) l k hkl yg.out (by simp[hs]))
       go_wp2
       refine dZ Ed (by kernel_rfl) (by kernel_rfl) ?_
       repeat (go_big_quiet_step ((go_at_call 41;rename_i xw;exact Calls.iF (hs▸ug _ _ _ _ _ (hp'.later xw.b) (hp.later xw.b)))))
       refine wpQuiet_nil ?_
       intro w2 hb2
       go_wp2
       go_roundw
       case rel=>exact⟨hb2,k+1,by omega,by go_num,HS.out⟩
       case measure=>simp[intOf];omega
      ·have HS:=Lib.hid (Z7 i k hlt hk2 hs)
       go_wp2
       refine dZ Ed (by kernel_rfl) (by kernel_rfl) ?_
       repeat (go_big_quiet_step ((go_at_call 41;rename_i xw;exact Calls.iF (hs▸ug _ _ _ _ _ (hp'.later xw.b) (hp.later xw.b)))))
       refine wpQuiet_nil ?_
       intro w2 hb2
       go_wp2
       go_ret
       exact⟨by rw[HS.out];rfl,hb2⟩
     ·have II:=yg.out
      have e:k=i:=by omega
      rw[e]at II
      have HS:=Lib.hid (Z8 i hlt hall.out HV.out II)
      clear II e
      go_wp2
      go_roundw
      case rel=>first|exact⟨Ed,i+1,by omega,by go_num,HS.out⟩|((repeat apply Exists.intro);exact⟨⟨Ed,i+1,by omega,by go_num,HS.out⟩,rfl⟩)
      case measure=>simp[intOf];omega
  ·have HE:=Lib.hid (Z9 i (by omega) hall.out)
   go_wp2
   go_ret
   exact⟨by rw[HE.out];rfl,hbr⟩
end Go.Proofs.YtibhckkjciflaaaGreatDoor
namespace Go.WW
def jH(a b:aW):Bool:=decide (b.version<a.version)&&decide (b.created≤a.created)
def o8(n a:aG):Bool:=decide (a.aQ=n.aQ)&&!bH a n
def ui(a:Int):Bool:=decide (a≤1023)
def jI(e:Entry):Bool:=ag e.fQ 0 1099511627776&&ag e.fU 0 1099511627776&&ag e.fF 0 2147483648&&ag e.fG 0 2147483648&&ag e.fails 0 65535&&ag e.eP 0 1099511627776&&ag e.gq 0 1099511627776
def kK(e:Entry):Bool:=ui e.attrs&&ag e.dF 0 65535&&decide ((e.keys.length:Int)≤16)&&decide ((e.dn.size:Int)≤32)&&visible e.dn&&decide ((e.history.length:Int)≤16)
def fV(e:Entry):Bool:=aY e.name&&different e.aliases&&different e.targets&&different e.aP&&e.aliases.all (o8 e.name)&&e.keys.all (gU e.dF)&&ordered jH e.keys&&e.history.all (fun h=>(h.length:Int) == 16)&&kK e&&jI e
theorem OW(n:Nat):((n ||| 1023)=1023)↔n≤1023:=by
 constructor
 ·intro h
  have h1:(n ||| 1023) >>> 10=0:=by rw[h];rfl
  rw[Nat.shiftRight_or_distrib]at h1
  have h2:n >>> 10=0:=by
   have:=Nat.or_eq_zero_iff.1 h1
   exact this.1
  rw[Nat.shiftRight_eq_div_pow]at h2
  omega
 ·intro h
  have h1:n<2 ^ 10:=by omega
  apply Nat.eq_of_testBit_eq
  intro i
  rw[Nat.testBit_or]
  have e:(1023:Nat)=2 ^ 10-1:=rfl
  rw[e,Nat.testBit_two_pow_sub_one]
  by_cases hi:i<10
  ·simp[hi]
  ·simp[hi]
   exact Nat.testBit_lt_two_pow (Nat.lt_of_lt_of_le h1 (Nat.pow_le_pow_right (by omega) (by omega)))
theorem aac(e:Entry)(h:¬ag e.fQ 0 1099511627776=true):jI e=false:=by
 have hb:(ag e.fQ 0 1099511627776)=false:=by first|exact h|(simpa using h)|(simp;omega)
 simp only[jI,hb,Bool.false_and]
theorem aad(e:Entry)(h:¬ag e.fU 0 1099511627776=true):jI e=false:=by
 have hb:(ag e.fU 0 1099511627776)=false:=by first|exact h|(simpa using h)|(simp;omega)
 simp only[jI,hb,Bool.false_and,Bool.and_false]
theorem aae(e:Entry)(h:¬ag e.fF 0 2147483648=true):jI e=false:=by
 have hb:(ag e.fF 0 2147483648)=false:=by first|exact h|(simpa using h)|(simp;omega)
 simp only[jI,hb,Bool.false_and,Bool.and_false]
theorem aaf(e:Entry)(h:¬ag e.fG 0 2147483648=true):jI e=false:=by
 have hb:(ag e.fG 0 2147483648)=false:=by first|exact h|(simpa using h)|(simp;omega)
 simp only[jI,hb,Bool.false_and,Bool.and_false]
theorem aag(e:Entry)(h:¬ag e.fails 0 65535=true):jI e=false:=by
 have hb:(ag e.fails 0 65535)=false:=by first|exact h|(simpa using h)|(simp;omega)
 simp only[jI,hb,Bool.false_and,Bool.and_false]
theorem aah(e:Entry)(h:¬ag e.eP 0 1099511627776=true):jI e=false:=by
 have hb:(ag e.eP 0 1099511627776)=false:=by first|exact h|(simpa using h)|(simp;omega)
 simp only[jI,hb,Bool.false_and,Bool.and_false]
theorem aai(e:Entry)(h:¬ag e.gq 0 1099511627776=true):jI e=false:=by
 have hb:(ag e.gq 0 1099511627776)=false:=by first|exact h|(simpa using h)|(simp;omega)
 simp only[jI,hb,Bool.and_false]
theorem aaj(e:Entry)(h1:ag e.fQ 0 1099511627776=true)(h2:ag e.fU 0 1099511627776=true)(h3:ag e.fF 0 2147483648=true)(h4:ag e.fG 0 2147483648=true)(h5:ag e.fails 0 65535=true)(h6:ag e.eP 0 1099511627776=true):jI e=(ag e.gq 0 1099511627776):=by
 have e1:(ag e.fQ 0 1099511627776)=true:=by first|exact h1|(simpa using h1)|(simp;omega)
 have e2:(ag e.fU 0 1099511627776)=true:=by first|exact h2|(simpa using h2)|(simp;omega)
 have e3:(ag e.fF 0 2147483648)=true:=by first|exact h3|(simpa using h3)|(simp;omega)
 have e4:(ag e.fG 0 2147483648)=true:=by first|exact h4|(simpa using h4)|(simp;omega)
 have e5:(ag e.fails 0 65535)=true:=by first|exact h5|(simpa using h5)|(simp;omega)
 have e6:(ag e.eP 0 1099511627776)=true:=by first|exact h6|(simpa using h6)|(simp;omega)
 simp only[jI,e1,e2,e3,e4,e5,e6,Bool.true_and]
theorem OX(a:Int)(h0:0≤a)(h1:a≤4294967295):(bits .or .i64 a 1023=1023)↔a≤1023:=by
 obtain⟨n,rfl⟩:=Int.eq_ofNat_of_zero_le h0
 have hn:n<4294967296:=by omega
 have hb:(BitVec.ofInt 64 (n:Int) ||| BitVec.ofInt 64 1023).toNat=n ||| 1023:=by
  rw[BitVec.toNat_or]
  have e1:(BitVec.ofInt 64 (n:Int)).toNat=n:=by simp;omega
  rw[e1];rfl
 have hlt:n ||| 1023<2 ^ 32:=Nat.or_lt_two_pow (by omega) (by omega)
 have:bits .or .i64 (n:Int) 1023=((n ||| 1023:Nat):Int):=by
  show IntKind.i64.wrap ((BitVec.ofInt 64 (n:Int) ||| BitVec.ofInt 64 1023).toNat:Int)=_
  rw[hb]
  exact IntWalk.i64_in _ (by omega)
 rw[this]
 have:=OW n
 omega
theorem IJ{e:Entry}(h:(16<(e.keys.length:Int)∨32<(e.dn.size:Int))∨16<(e.history.length:Int)):kK e=false:=by
 have:(decide ((e.keys.length:Int)≤16)&&decide ((e.dn.size:Int)≤32)&&decide ((e.history.length:Int)≤16))=false:=by simp;omega
 simp only[kK]
 revert this
 cases decide ((e.keys.length:Int)≤16)<;>cases decide ((e.dn.size:Int)≤32)<;>cases decide ((e.history.length:Int)≤16)<;>simp
theorem aak{e:Entry}(h:¬visible e.dn=true):kK e=false:=by
 have:visible e.dn=false:=by simpa using h
 simp[kK,this]
theorem aal{e:Entry}(h:32<(e.dn.size:Int)):kK e=false:=IJ (.inl (.inr h))
theorem aam{e:Entry}(h:16<(e.keys.length:Int)):kK e=false:=IJ (.inl (.inl h))
theorem aan{e:Entry}(h:¬ag e.dF 0 65535=true):kK e=false:=by
 have:ag e.dF 0 65535=false:=by simpa using h
 simp[kK,this]
theorem aao{e:Entry}(h:¬e.attrs≤1023):kK e=false:=by simp[kK,ui,h]
theorem aap{e:Entry}(h:e.attrs≤1023)(h1:ag e.dF 0 65535=true)(h2:visible e.dn=true)(h3:((e.keys.length:Int)≤16∧(e.dn.size:Int)≤32)∧(e.history.length:Int)≤16):kK e=true:=by
 simp[kK,ui,h,h1,h2,h3]
theorem aaq{e:Entry}(h:aY e.name=false):fV e=false:=by simp[fV,h]
theorem aar{e:Entry}(h:different e.aliases=false):fV e=false:=by simp[fV,h]
theorem aas{e:Entry}(h:different e.targets=false):fV e=false:=by simp[fV,h]
theorem aat{e:Entry}(h:different e.aP=false):fV e=false:=by simp[fV,h]
theorem OY{e:Entry}(k:Nat)(hk:k<e.aliases.length)(h:o8 e.name e.aliases[k]=false):fV e=false:=by
 have:=o6 e.aliases k hk h;simp[fV,this]
theorem aau{e:Entry}(k:Nat)(hk:k<e.keys.length)(h:gU e.dF e.keys[k]=false):fV e=false:=by
 have:=o6 e.keys k hk h;simp[fV,this]
theorem OZ{α:Type}{f:α→α→Bool}{l:List α}(j:Nat)(hk:j+1<l.length)(h:f l[j] l[j+1]=false):ordered f l=false:=by
 have h1:j<l.length:=by omega
 exact Ap _ (j+1) hk (by simp[iZ,hk,h1,h])
theorem aav{α:Type}{f:α→α→Bool}{l:List α}(j:Nat)(hk:j+1<l.length)(hh:(List.range (j+1)).all (iZ f l)=true)(h:f l[j] l[j+1]=true):(List.range (j+1+1)).all (iZ f l)=true:=by
 have h1:j<l.length:=by omega
 exact Eb (j+1) hh (by simp[iZ,hk,h1,h])
theorem aaw{α:Type}{f:α→α→Bool}(l:List α):(List.range (0+1)).all (iZ f l)=true:=by simp[iZ]
theorem O0{e:Entry}(h:ordered jH e.keys=false):fV e=false:=by simp[fV,h]
theorem aax{e:Entry}(k:Nat)(hk:k<e.history.length)(h:((e.history[k].length:Int) == 16)=false):fV e=false:=by
 have:=o6 (p:=fun h=>(h.length:Int) == 16) e.history k hk h;simp[fV,this]
theorem yh{e:Entry}(h:kK e=false):fV e=false:=by simp[fV,h]
theorem aay{e:Entry}(h1:aY e.name=true)(h2:different e.aliases=true)(h3:different e.targets=true)(h4:different e.aP=true)(h5:e.aliases.all (o8 e.name)=true)(h6:e.keys.all (gU e.dF)=true)(h7:ordered jH e.keys=true)(h8:e.history.all (fun h=>(h.length:Int) == 16)=true)(h9:kK e=true):fV e=jI e:=by
 simp only[fV,h1,h2,h3,h4,h5,h6,h7,h8,h9,Bool.true_and]
end Go.WW
namespace Go.Proofs.YtibhckkjciflaaaGreatDoor
open Go.RowKit Go.WW
theorem aaz(r:aC)(d:Entry)(w:World)(he:iT w r d):Calls Tryz.prog 35 #[.agg (ay r d)] w fun e w'=>e=.returned (.bool (fV d))∧Below w.heap.size w w':=by
 have hB:Below w.heap.size w (w.alloc (.cells (ay r d) 32)):=(Below.refl _ _).alloc (Nat.le_refl _) _
 cases h1:aY d.name
 ·have HN:=Lib.hid (aaq h1)
  go_enter Tryz.func35,Tryz.ntmps35
  go_wp2_with fail
  refine(uf _ _ _ (he.name.later hB)).mono ?_
  rintro e w1 ⟨rfl,hb1⟩
  rw[h1]
  obtain⟨hc1,hf1,hr1⟩:=aK hb1
  go_wp2
  go_ret
  exact⟨by rw[HN.out];rfl,hB.trans (hb1.mono (by simp))⟩
 cases h2:different d.aliases
 ·have HN:=Lib.hid (aar h2)
  go_enter Tryz.func35,Tryz.ntmps35
  go_wp2_with fail
  refine(uf _ _ _ (he.name.later hB)).mono ?_
  rintro e w1 ⟨rfl,hb1⟩
  rw[h1]
  obtain⟨hc1,hf1,hr1⟩:=aK hb1
  go_wp2_with fail
  refine(qV _ _ _ _ (he.aliases.later (hB.trans (hb1.mono (by simp))))).mono ?_
  rintro e w2 ⟨rfl,hb2⟩
  rw[h2]
  replace hb2:=af hb1 hb2
  clear hc1 hf1 hr1
  obtain⟨hc2,hf2,hr2⟩:=aK hb2
  go_wp2
  go_ret
  exact⟨by rw[HN.out];rfl,hB.trans (hb2.mono (by simp))⟩
 cases h3:different d.targets
 ·have HN:=Lib.hid (aas h3)
  go_enter Tryz.func35,Tryz.ntmps35
  go_wp2_with fail
  refine(uf _ _ _ (he.name.later hB)).mono ?_
  rintro e w1 ⟨rfl,hb1⟩
  rw[h1]
  obtain⟨hc1,hf1,hr1⟩:=aK hb1
  go_wp2_with fail
  refine(qV _ _ _ _ (he.aliases.later (hB.trans (hb1.mono (by simp))))).mono ?_
  rintro e w2 ⟨rfl,hb2⟩
  rw[h2]
  replace hb2:=af hb1 hb2
  clear hc1 hf1 hr1
  obtain⟨hc2,hf2,hr2⟩:=aK hb2
  go_wp2_with fail
  refine(qV _ _ _ _ (he.targets.later (hB.trans (hb2.mono (by simp))))).mono ?_
  rintro e w3 ⟨rfl,hb3⟩
  rw[h3]
  replace hb3:=af hb2 hb3
  clear hc2 hf2 hr2
  obtain⟨hc3,hf3,hr3⟩:=aK hb3
  go_wp2
  go_ret
  exact⟨by rw[HN.out];rfl,hB.trans (hb3.mono (by simp))⟩
 cases h4:different d.aP
 ·have HN:=Lib.hid (aat h4)
  go_enter Tryz.func35,Tryz.ntmps35
  go_wp2_with fail
  refine(uf _ _ _ (he.name.later hB)).mono ?_
  rintro e w1 ⟨rfl,hb1⟩
  rw[h1]
  obtain⟨hc1,hf1,hr1⟩:=aK hb1
  go_wp2_with fail
  refine(qV _ _ _ _ (he.aliases.later (hB.trans (hb1.mono (by simp))))).mono ?_
  rintro e w2 ⟨rfl,hb2⟩
  rw[h2]
  replace hb2:=af hb1 hb2
  clear hc1 hf1 hr1
  obtain⟨hc2,hf2,hr2⟩:=aK hb2
  go_wp2_with fail
  refine(qV _ _ _ _ (he.targets.later (hB.trans (hb2.mono (by simp))))).mono ?_
  rintro e w3 ⟨rfl,hb3⟩
  rw[h3]
  replace hb3:=af hb2 hb3
  clear hc2 hf2 hr2
  obtain⟨hc3,hf3,hr3⟩:=aK hb3
  go_wp2_with fail
  refine(qV _ _ _ _ (he.aP.later (hB.trans (hb3.mono (by simp))))).mono ?_
  rintro e w4 ⟨rfl,hb4⟩
  rw[h4]
  replace hb4:=af hb3 hb4
  clear hc3 hf3 hr3
  obtain⟨hc4,hf4,hr4⟩:=aK hb4
  go_wp2
  go_ret
  exact⟨by rw[HN.out];rfl,hB.trans (hb4.mono (by simp))⟩
 go_enter Tryz.func35,Tryz.ntmps35
 go_wp2_with fail
 refine(uf _ _ _ (he.name.later hB)).mono ?_
 rintro e w1 ⟨rfl,hb1⟩
 rw[h1]
 obtain⟨hc1,hf1,hr1⟩:=aK hb1
 go_wp2_with fail
 refine(qV _ _ _ _ (he.aliases.later (hB.trans (hb1.mono (by simp))))).mono ?_
 rintro e w2 ⟨rfl,hb2⟩
 rw[h2]
 replace hb2:=af hb1 hb2
 clear hc1 hf1 hr1
 obtain⟨hc2,hf2,hr2⟩:=aK hb2
 go_wp2_with fail
 refine(qV _ _ _ _ (he.targets.later (hB.trans (hb2.mono (by simp))))).mono ?_
 rintro e w3 ⟨rfl,hb3⟩
 rw[h3]
 replace hb3:=af hb2 hb3
 clear hc2 hf2 hr2
 obtain⟨hc3,hf3,hr3⟩:=aK hb3
 go_wp2_with fail
 refine(qV _ _ _ _ (he.aP.later (hB.trans (hb3.mono (by simp))))).mono ?_
 rintro e w4 ⟨rfl,hb4⟩
 rw[h4]
 replace hb4:=af hb3 hb4
 clear hc3 hf3 hr3
 obtain⟨hc4,hf4,hr4⟩:=aK hb4
 clear hc4 hf4 hr4
 have H1:=Lib.hid h1;clear h1
 have H2:=Lib.hid h2;clear h2
 have H3:=Lib.hid h3;clear h3
 have H4:=Lib.hid h4;clear h4
 go_wp2
 go_loopw [3] (fun i wr=>Below (w.alloc (.cells (ay r d) 32)).heap.size (w.alloc (.cells (ay r d) 32)) wr∧∃k:Nat,k≤d.aliases.length∧i=.int .i64 k∧Hid ((d.aliases.take k).all (o8 d.name)=true)) (fun i _=>d.aliases.length-(intOf i).toNat)
 case atStart=>exact⟨hb4,0,Nat.zero_le _,rfl,by simp[Hid]⟩
 case round=>
  obtain⟨hbr,k,hk,rfl,hall⟩:=hrel
  have hn1:d.aliases.length≤4294967000:=he.aliases.1
  obtain⟨hcc,ax,hrr⟩:=aK hbr
  have hsz:w.heap.size<wr.heap.size:=by have:=hbr.size;simp at this;omega
  by_cases hlt:k<d.aliases.length
  ·obtain⟨b,o,t,ha,hc,hp⟩:=he.aliases.get k hlt
   have hb:b<w.heap.size:=kT hc
   have hb1:b<w.heap.size+1:=by omega
   have hki:(k:Int)<(d.aliases.length:Int):=by omega
   have c1:w.cell? ⟨b,o+k*2+1,none⟩=some (.string d.aliases[k].aQ):=by simpa[OJ]using kF hc 1 (by omega)
   by_cases hr:d.aliases[k].aQ=d.name.aQ
   ·have hr':=str_eq _ _ hr
    cases hs:bH d.aliases[k] d.name
    ·have HS:=Lib.hid (lM (p:=o8 d.name) d.aliases k hlt hall.out (by simp[o8,hr,hs]))
     clear hr
     go_wp2
     refine dZ hbr (by kernel_rfl) (by kernel_rfl) ?_
     repeat (go_big_quiet_step ((go_at_call 41;rename_i xw;exact Calls.iF (hs▸ug _ _ _ _ _ (hp.later (hB.trans (xw.b.mono (by simp)))) (he.name.later (hB.trans (xw.b.mono (by simp))))))))
     refine wpQuiet_nil ?_
     intro w2 hb2
     go_wp2
     go_roundw
     case rel=>exact⟨hb2,k+1,by omega,by go_num,HS.out⟩
     case measure=>simp[intOf];omega
    ·have HS:=Lib.hid (OY k hlt (by simp[o8,hs]))
     clear hr
     go_wp2
     refine dZ hbr (by kernel_rfl) (by kernel_rfl) ?_
     repeat (go_big_quiet_step ((go_at_call 41;rename_i xw;exact Calls.iF (hs▸ug _ _ _ _ _ (hp.later (hB.trans (xw.b.mono (by simp)))) (he.name.later (hB.trans (xw.b.mono (by simp))))))))
     refine wpQuiet_nil ?_
     intro w2 hb2
     go_wp2
     go_ret
     exact⟨by rw[HS.out];rfl,hB.trans (hb2.mono (by simp))⟩
   ·have hr':=Am _ _ hr
    have HS:=Lib.hid (OY k hlt (by simp[o8,hr]))
    clear hr
    go_wp2
    refine dZ hbr (by kernel_rfl) (by kernel_rfl) ?_
    repeat (go_big_quiet_step (fail))
    refine wpQuiet_nil ?_
    intro w2 hb2
    go_wp2
    go_ret
    exact⟨by rw[HS.out];rfl,hB.trans (hb2.mono (by simp))⟩
  ·have H5:=Lib.hid (o7 d.aliases k (by omega) hall.out)
   clear hall
   go_wp2
   clear hcc ax hrr hn1
   have IK:=hbr
   clear hbr hk hlt
   obtain⟨wo,hwo⟩:∃wo:World,wo=wr:=⟨_,rfl⟩
   subst hwo
   go_loopw [4] (fun i wr=>Below (w.alloc (.cells (ay r d) 32)).heap.size (w.alloc (.cells (ay r d) 32)) wr∧∃k:Nat,k≤d.keys.length∧i=.int .i64 k∧Hid ((d.keys.take k).all (gU d.dF)=true)∧Hid ((List.range k).all (iZ jH d.keys)=true)) (fun i _=>d.keys.length-(intOf i).toNat)
   case atStart=>exact⟨IK,0,Nat.zero_le _,rfl,by simp[Hid],by simp[Hid]⟩
   case round=>
    obtain⟨hbr,k,hk,rfl,hall,hord⟩:=hrel
    have hn1:d.keys.length≤4294967000:=he.keys.1
    obtain⟨hcc,ax,hrr⟩:=aK hbr
    have hsz:w.heap.size<wr.heap.size:=by have:=hbr.size;simp at this;omega
    by_cases hlt:k<d.keys.length
    ·obtain⟨b,o,t,ha,hc,hp⟩:=he.keys.get k hlt
     have hb:b<w.heap.size:=kT hc
     have hb1:b<w.heap.size+1:=by omega
     have hki:(k:Int)<(d.keys.length:Int):=by omega
     have c0:w.cell? ⟨b,o+k*5,none⟩=some (.int .i64 d.keys[k].version):=by simpa[Iy]using kF hc 0 (by omega)
     have c4:w.cell? ⟨b,o+k*5+4,none⟩=some (.int .i64 d.keys[k].created):=by simpa[Iz]using kF hc 4 (by omega)
     cases hs:gU d.dF d.keys[k]
     ·have HS:=Lib.hid (aau k hlt hs)
      go_wp2
      refine dZ hbr (by kernel_rfl) (by kernel_rfl) ?_
      repeat (go_big_quiet_step ((go_at_call 90;rename_i xw;exact Calls.iF (hs▸Ar _ _ _ _ (hp.later (hB.trans (xw.b.mono (by simp))))))))
      refine wpQuiet_nil ?_
      intro w2 hb2
      go_wp2
      go_ret
      exact⟨by rw[HS.out];rfl,hB.trans (hb2.mono (by simp))⟩
     ·have HS:=Lib.hid (lM (p:=gU d.dF) d.keys k hlt hall.out hs)
      by_cases h0:k=0
      ·subst h0
       simp only[Nat.zero_mul,Nat.add_zero]at hc c0 c4
       have hkz:(0:Int)<(d.keys.length:Int):=by omega
       clear hki
       rw[show((0:Nat):Int)=0 from rfl]
       go_wp2
       refine dZ hbr (by kernel_rfl) (by kernel_rfl) ?_
       repeat (go_big_quiet_step ((go_at_call 90;rename_i xw;exact Calls.iF (hs▸Ar _ _ _ _ (hp.later (hB.trans (xw.b.mono (by simp))))))))
       refine wpQuiet_nil ?_
       intro w2 hb2
       go_wp2
       go_roundw
       case rel=>exact⟨hb2,1,by omega,by go_num,HS.out,aaw _⟩
       case measure=>simp[intOf];omega
      ·obtain⟨j,rfl⟩:∃j,k=j+1:=⟨k-1,by omega⟩
       clear h0
       have hj:j<d.keys.length:=by omega
       obtain⟨b',o',t',ha',hc',hp'⟩:=he.keys.get j hj
       rw[ha]at ha'
       obtain⟨rfl,rfl⟩:b=b'∧o=o':=by cases ha';exact⟨rfl,rfl⟩
       clear ha' hp'
       have e0:w.cell? ⟨b,o+j*5,none⟩=some (.int .i64 d.keys[j].version):=by simpa[Iy]using kF hc' 0 (by omega)
       have e4:w.cell? ⟨b,o+j*5+4,none⟩=some (.int .i64 d.keys[j].created):=by simpa[Iz]using kF hc' 4 (by omega)
       clear hc'
       have hp0:(0:Int)<(j:Int)+1:=by omega
       have hp1:decide ((0:Int)<(j:Int)+1)=true:=by simp
       have hp2:(j:Int)<(d.keys.length:Int):=by omega
       by_cases hv:d.keys[j].version≤d.keys[j+1].version
       ·have hv':decide (d.keys[j].version≤d.keys[j+1].version)=true:=by simpa using hv
        have HN:=Lib.hid (O0 (OZ (f:=jH) j hlt (by simp[jH];omega)))
        go_wp2
        refine dZ hbr (by kernel_rfl) (by kernel_rfl) ?_
        repeat (go_big_quiet_step ((go_at_call 90;rename_i xw;exact Calls.iF (hs▸Ar _ _ _ _ (hp.later (hB.trans (xw.b.mono (by simp))))))))
        refine wpQuiet_nil ?_
        intro w2 hb2
        go_wp2
        go_ret
        exact⟨by rw[HN.out];rfl,hB.trans (hb2.mono (by simp))⟩
       ·have hv':decide (d.keys[j].version≤d.keys[j+1].version)=false:=by simpa using hv
        by_cases hx:d.keys[j].created<d.keys[j+1].created
        ·have hx':decide (d.keys[j].created<d.keys[j+1].created)=true:=by simpa using hx
         have HN:=Lib.hid (O0 (OZ (f:=jH) j hlt (by simp[jH];omega)))
         go_wp2
         refine dZ hbr (by kernel_rfl) (by kernel_rfl) ?_
         repeat (go_big_quiet_step ((go_at_call 90;rename_i xw;exact Calls.iF (hs▸Ar _ _ _ _ (hp.later (hB.trans (xw.b.mono (by simp))))))))
         refine wpQuiet_nil ?_
         intro w2 hb2
         go_wp2
         go_ret
         exact⟨by rw[HN.out];rfl,hB.trans (hb2.mono (by simp))⟩
        ·have hx':decide (d.keys[j].created<d.keys[j+1].created)=false:=by simpa using hx
         have HN:=Lib.hid (aav (f:=jH) j hlt hord.out (by simp[jH];omega))
         go_wp2
         refine dZ hbr (by kernel_rfl) (by kernel_rfl) ?_
         repeat (go_big_quiet_step ((go_at_call 90;rename_i xw;exact Calls.iF (hs▸Ar _ _ _ _ (hp.later (hB.trans (xw.b.mono (by simp))))))))
         refine wpQuiet_nil ?_
         intro w2 hb2
         go_wp2
         go_roundw
         case rel=>exact⟨hb2,j+1+1,by omega,by go_num,HS.out,HN.out⟩
         case measure=>simp[intOf];omega
    ·have H6:=Lib.hid (o7 d.keys k (by omega) hall.out)
     have H7:=Lib.hid (ZM d.keys.length k (by omega) hord.out)
     clear hall hord
     go_wp2
     clear hn1
     have hn2:d.history.length≤4294967000:=he.history.1
     go_loop [5] (fun i=>∃k:Nat,k≤d.history.length∧i=.int .i64 k∧Hid ((d.history.take k).all (fun h=>(h.length:Int) == 16)=true)) (fun i=>d.history.length-(intOf i).toNat)
     case atStart=>exact⟨0,Nat.zero_le _,rfl,by simp[Hid]⟩
     case round=>
      obtain⟨j,hj,rfl,hall⟩:=hrel
      by_cases hjl:j<d.history.length
      ·obtain⟨b,o,t,ha,hc,hp⟩:=he.history.get j hjl
       have hb:b<w.heap.size:=World.block_lt_of_cell? w _ hc
       have hb1:b<w.heap.size+1:=by omega
       have hki:(j:Int)<(d.history.length:Int):=by omega
       cases hs:((d.history[j].length:Int) == 16)
       ·have HS:=Lib.hid (aax j hjl hs)
        have hs':((d.history[j].length:Int) != 16)=true:=by simp[bne,hs]
        go_wp2
        go_ret
        exact⟨by rw[HS.out];rfl,hB.trans (hbr.mono (by simp))⟩
       ·have HS:=Lib.hid (lM (p:=fun h=>(h.length:Int) == 16) d.history j hjl hall.out hs)
        have hs':((d.history[j].length:Int) != 16)=false:=by simp[bne,hs]
        go_wp2
        go_round
        case rel=>exact⟨j+1,by omega,by go_num,HS.out⟩
        case measure=>simp[intOf];omega
      ·have H8:=Lib.hid (o7 d.history j (by omega) hall.out)
       clear hall
       have hpo:=he.dn
       have ha0:=he.attrs.1
       have ha1:=he.attrs.2
       by_cases hat:d.attrs≤1023
       ·have hbit:(bits BinOp.or IntKind.i64 d.attrs 1023 != 1023)=false:=by simpa using(OX d.attrs ha0 ha1).2 hat
        go_wp2_with (first|(go_at_call 91;refine(o5 _ _ _ _).mono ?_;rintro e w' ⟨rfl,rfl⟩)|(go_at_call 92;refine(IA _ _ (le_max hpo)).mono ?_;rintro e w' ⟨rfl,rfl⟩))
        all_goals go_ret
        all_goals
         refine⟨?_,hB.trans (hbr.mono (by simp))⟩
         first
          |(rw[yh (IJ ‹_›)];rfl)
          |(rw[yh (aak ‹_›)];rfl)
          |(rw[yh (aal ‹_›)];rfl)
          |(rw[yh (aam ‹_›)];rfl)
          |(rw[yh (aan ‹_›)];rfl)
          |(rw[aay H1.out H2.out H3.out H4.out H5.out H6.out H7.out H8.out (aap hat ‹_› ‹_› ‹_›)];first|(rw[aac d ‹_›];rfl)|(rw[aad d ‹_›];rfl)|(rw[aae d ‹_›];rfl)|(rw[aaf d ‹_›];rfl)|(rw[aag d ‹_›];rfl)|(rw[aah d ‹_›];rfl)|(rw[aai d ‹_›];rfl)|(rw[aaj d ‹_› ‹_› ‹_› ‹_› ‹_› ‹_›];rfl))
       ·have hbit:(bits BinOp.or IntKind.i64 d.attrs 1023 != 1023)=true:=by simpa using mt (OX d.attrs ha0 ha1).1 hat
        have HN:=Lib.hid (yh (aao hat))
        clear hat
        go_wp2_with (first|(go_at_call 91;refine(o5 _ _ _ _).mono ?_;rintro e w' ⟨rfl,rfl⟩)|(go_at_call 92;refine(IA _ _ (le_max hpo)).mono ?_;rintro e w' ⟨rfl,rfl⟩))
        go_ret
        exact⟨by rw[HN.out];rfl,hB.trans (hbr.mono (by simp))⟩
end Go.Proofs.YtibhckkjciflaaaGreatDoor
namespace Go.WW
open Go.RowKit
def bP(p:aG):List UInt8:=jT [dE (p.parts.map bM),bM p.aQ]
def dM(k:Key):List UInt8:=jT [aA k.profile.toNat,aA k.version.toNat,dP k.bytes]
def iO(s:aW):List UInt8:=jT [aA s.version.toNat,bW (s.keys.map dM),jc s.bF,fC s.dm.toNat,bf s.created.toNat]
theorem map_le{α:Type}{f:α→List UInt8}{m n:Nat}{l:List α}(h:∀x∈l,(f x).length≤m)(hn:l.length≤n):(l.map f).flatten.length≤n*m:=by
 have h1:=DY (l.map f) (m:=m) (by simpa using h)
 rw[List.length_map]at h1
 exact Nat.le_trans h1 (Nat.mul_le_mul_right _ hn)
theorem yj{α:Type}{f:α→List UInt8}{m n:Nat}{l:List α}(h:∀x∈l,(f x).length≤m)(hn:l.length≤n):(bW (l.map f)).length≤n*m+5:=by
 have h1:=XR (l:=l.map f) (m:=m) (by simpa using h)
 rw[List.length_map]at h1
 have:=Nat.mul_le_mul_right m hn
 omega
theorem Au{p:aG}(h:aY p=true):p.parts.length≤4∧(∀x∈p.parts,x.size≤32)∧p.aQ.size≤32:=by
 simp only[aY,Bool.and_eq_true,List.all_eq_true,decide_eq_true_eq,iL,eQ,sized]at h
 refine⟨by omega,fun x hx=>?_,by omega⟩
 have:=h.1.1.1 x hx
 omega
theorem IL{p:aG}(h:aY p=true):(p.parts.map bM).flatten.length≤148:=
 map_le (m:=37) (n:=4) (fun x hx=>by have:=qU x;have:=(Au h).2.1 x hx;omega) (Au h).1
theorem IM{p:aG}(h:aY p=true):(bU 0 [dE (p.parts.map bM),bM p.aQ]).flatten.length≤200:=by
 have h1:=qh (p.parts.map bM)
 have h2:=IL h
 have h3:=qU p.aQ
 have h4:=(Au h).2.2
 have h5:=oH (n:=0) (m:=153) (c:=dE (p.parts.map bM)) (by omega)
 have h6:=oH (n:=0+1) (m:=37) (c:=bM p.aQ) (by omega)
 simp only[bU,List.flatten_cons,List.flatten_nil,List.append_nil,List.length_append]
 omega
theorem qW{p:aG}(h:aY p=true):(bP p).length≤205:=by
 have h1:=qh (bU 0 [dE (p.parts.map bM),bM p.aQ])
 have h2:=IM h
 unfold bP jT;omega
def vX(k:Key):Prop:=(0≤k.profile∧k.profile≤2)∧(0≤k.version∧k.version≤65535)∧k.bytes.length≤256
theorem aaA(p:Int):dQ p≠0→p=1∨p=2:=by
 unfold dQ;intro h
 by_cases h1:p=1
 ·exact .inl h1
 ·by_cases h2:p=2
  ·exact .inr h2
  ·simp[h1,h2]at h
theorem aaB{m v:Int}{k:Key}(h:iy m v k=true)(hv:0≤v∧v≤65535):vX k:=by
 unfold iy at h
 simp only[Bool.and_eq_true,Bool.not_eq_true',beq_eq_false_iff_ne,bne_eq_false_iff_eq]at h
 obtain⟨⟨h1,h2⟩,h3⟩:=h
 have hp:=aaA k.profile h1
 refine⟨by omega,by omega,?_⟩
 split at h3
 ·simp only[lN,Bool.and_eq_true,beq_iff_eq]at h3
  have h4:=h3.1.2
  have:dQ k.profile≤32:=by rcases hp with e|e<;>rw[e]<;>decide
  omega
 ·have:=Aj.1 h3;omega
theorem IP{k:Key}(h:vX k):(bU 0 [aA k.profile.toNat,aA k.version.toNat,dP k.bytes]).flatten.length≤290:=by
 obtain⟨h1,h2,h3⟩:=h
 have e1:=jd (v:=k.profile.toNat) (k:=1) (by decide) (by simp;omega)
 have e2:=jd (v:=k.version.toNat) (k:=3) (by decide) (by simp;omega)
 have e3:=tN k.bytes
 have f1:=oH (n:=0) e1
 have f2:=oH (n:=0+1) e2
 have f3:=oH (n:=0+1+1) (m:=261) (c:=dP k.bytes) (by omega)
 simp only[bU,List.flatten_cons,List.flatten_nil,List.append_nil,List.length_append]
 omega
theorem Aw{k:Key}(h:vX k):(dM k).length≤295:=by
 have h1:=qh (bU 0 [aA k.profile.toNat,aA k.version.toNat,dP k.bytes])
 have h2:=IP h
 unfold dM jT;omega
structure vY(s:aW):Prop where
 version:0≤s.version∧s.version≤65535
 keys:∀k∈s.keys,vX k
 few:1≤s.keys.length∧s.keys.length≤4
 bF:s.bF.size≤256
 dm:0≤s.dm∧s.dm≤65536
 created:0≤s.created∧s.created≤1099511627776
theorem aaC{m:Int}{s:aW}(h:gU m s=true):vY s:=by
 simp only[gU,iM,Bool.and_eq_true,List.all_eq_true,Aj,decide_eq_true_eq]at h
 obtain⟨⟨h1,-⟩,⟨⟨⟨⟨h2,h3⟩,h4⟩,h5⟩,-⟩,h6⟩:=h
 exact⟨by omega,fun k hk=>aaB (h1 k hk) (by omega),by omega,by omega,by omega,by omega⟩
theorem IQ{s:aW}(h:vY s):(bU 0 [aA s.version.toNat,bW (s.keys.map dM),jc s.bF,fC s.dm.toNat,bf s.created.toNat]).flatten.length≤1600:=by
 have e1:=jd (v:=s.version.toNat) (k:=3) (by decide) (by have:=h.version;simp;omega)
 have e2:=yj (f:=dM) (m:=295) (n:=4) (l:=s.keys) (fun k hk=>Aw (h.keys k hk)) h.few.2
 have e3:=DZ s.bF
 have e4:=vS (v:=s.dm.toNat) (k:=3) (by decide) (by have:=h.dm;simp;omega)
 have e5:=nM s.created.toNat
 have e6:=h.bF
 have f1:=oH (n:=0) e1
 have f2:=oH (n:=0+1) e2
 have f3:=oH (n:=0+1+1) (m:=261) (c:=jc s.bF) (by omega)
 have f4:=oH (n:=0+1+1+1) e4
 have f5:=oH (n:=0+1+1+1+1) e5
 simp only[bU,List.flatten_cons,List.flatten_nil,List.append_nil,List.length_append]
 omega
theorem IU{s:aW}(h:vY s):(iO s).length≤1605:=by
 have h1:=qh (bU 0 [aA s.version.toNat,bW (s.keys.map dM),jc s.bF,fC s.dm.toNat,bf s.created.toNat])
 have h2:=IQ h
 unfold iO jT;omega
structure yl(d:Entry):Prop where
 name:aY d.name=true
 aliases:(∀p∈d.aliases,aY p=true)∧d.aliases.length≤16
 attrs:0≤d.attrs∧d.attrs≤1023
 dF:0≤d.dF∧d.dF≤65535
 keys:(∀s∈d.keys,vY s)∧d.keys.length≤16
 dn:d.dn.size≤32
 fQ:0≤d.fQ∧d.fQ≤1099511627776
 fU:0≤d.fU∧d.fU≤1099511627776
 fF:0≤d.fF∧d.fF≤2147483648
 fG:0≤d.fG∧d.fG≤2147483648
 fails:0≤d.fails∧d.fails≤65535
 eP:0≤d.eP∧d.eP≤1099511627776
 gq:0≤d.gq∧d.gq≤1099511627776
 targets:(∀p∈d.targets,aY p=true)∧d.targets.length≤16
 aP:(∀p∈d.aP,aY p=true)∧d.aP.length≤16
 history:(∀b∈d.history,b.length=16)∧d.history.length≤16
theorem IV{l:List aG}(h:(∀p∈l,aY p=true)∧l.length≤16):(bW (l.map bP)).length≤3285:=yj (m:=205) (n:=16) (fun p hp=>qW (h.1 p hp)) h.2
def mO(d:Entry):List (List UInt8):=
 [bP d.name,bW (d.aliases.map bP),qg d.attrs.toNat,fC d.dF.toNat,bW (d.keys.map iO),jc d.dn,iK d.fQ.toNat,iK d.fU.toNat,fC d.fF.toNat,fC d.fG.toNat,fC d.fails.toNat,
  iK d.eP.toNat,iK d.gq.toNat,bW (d.targets.map bP),bW (d.aP.map bP),bW (d.history.map dP)]
def jy(d:Entry):List UInt8:=jT (mO d)
theorem aaD(d:Entry):(mO d).length=16:=rfl
theorem IW{d:Entry}(h:yl d):∀x∈mO d,x.length≤26000:=by
 have e1:=qW h.name
 have e2:=IV h.aliases
 have e3:=XU d.attrs.toNat
 have e4:=vS (v:=d.dF.toNat) (k:=3) (by decide) (by have:=h.dF;simp;omega)
 have e5:=yj (f:=iO) (m:=1605) (n:=16) (l:=d.keys) (fun k hk=>IU (h.keys.1 k hk)) h.keys.2
 have e6:=DZ d.dn
 have e7:=h.dn
 have e9:=vS (v:=d.fF.toNat) (k:=5) (by decide) (by have:=h.fF;simp;omega)
 have e10:=vS (v:=d.fG.toNat) (k:=5) (by decide) (by have:=h.fG;simp;omega)
 have e11:=vS (v:=d.fails.toNat) (k:=3) (by decide) (by have:=h.fails;simp;omega)
 have e14:=IV h.targets
 have e15:=IV h.aP
 have e16:=yj (f:=dP) (m:=21) (n:=16) (l:=d.history) (fun b hb=>by have:=tN b;have:=h.history.1 b hb;omega) h.history.2
 have i:=XT
 intro x hx
 simp only[mO,List.mem_cons,List.not_mem_nil,or_false]at hx
 rcases hx with rfl|rfl|rfl|rfl|rfl|rfl|rfl|rfl|rfl|rfl|rfl|rfl|rfl|rfl|rfl|rfl<;>first|omega|(have:=i d.fQ.toNat;omega)|(have:=i d.fU.toNat;omega)|(have:=i d.eP.toNat;omega)|(have:=i d.gq.toNat;omega)
theorem O1{m:Nat}:∀(l:List (List UInt8)) (n:Nat),(∀x∈l,x.length≤m)→∀x∈bU n l,x.length≤m+5
 | [],_,_,x,hx=>by cases hx
 |y::l,n,h,x,hx=>by
  rw[bU]at hx
  rcases List.mem_cons.1 hx with rfl|hx
  ·exact oH (h y (by simp))
  ·exact O1 l (n+1) (fun z hz=>h z (by simp[hz])) x hx
theorem IX{d:Entry}(h:yl d):(bU 0 (mO d)).flatten.length≤416080:=by
 have h1:=DY (bU 0 (mO d)) (O1 (mO d) 0 (IW h))
 rw[yf,aaD]at h1
 omega
theorem IY{d:Entry}(h:yl d):(jy d).length≤416085:=by
 have h1:=qh (bU 0 (mO d))
 have h2:=IX h
 unfold jy jT;omega
theorem IZ{l:List aG}(h:different l=true):(∀p∈l,aY p=true)∧l.length≤16:=by
 simp only[different,vW,Bool.and_eq_true,List.all_eq_true,List.mem_range,decide_eq_true_eq]at h
 refine⟨fun p hp=>?_,by omega⟩
 obtain⟨i,hi,rfl⟩:=List.mem_iff_getElem.1 hp
 have:=h.1 i hi
 unfold mM at this
 rw[List.getElem?_eq_getElem hi]at this
 simp only[Bool.and_eq_true]at this
 exact this.1
theorem Ee{d:Entry}(h:fV d=true)(ha:0≤d.attrs):yl d:=by
 simp only[fV,kK,jI,Bool.and_eq_true,List.all_eq_true,Aj,decide_eq_true_eq,beq_iff_eq]at h
 obtain⟨⟨⟨⟨⟨⟨⟨⟨⟨h1,h2⟩,h3⟩,h4⟩,-⟩,h6⟩,-⟩,h8⟩,⟨⟨⟨⟨⟨h9,h10⟩,h11⟩,h12⟩,-⟩,h13⟩⟩,⟨⟨⟨⟨⟨Az,h15⟩,h16⟩,h17⟩,h18⟩,h19⟩,h20⟩:=h
 exact⟨h1,IZ h2,⟨ha,by simpa[ui]using h9⟩,h10,⟨fun s hs=>aaC (h6 s hs),by omega⟩,by omega,Az,h15,h16,h17,h18,h19,h20,IZ h3,IZ h4,⟨fun b hb=>by have:=h8 b hb;omega,by omega⟩⟩
def flat(rows:List (Array Value)):List Value:=rows.flatMap (·.toList)
theorem I4(r:Array Value)(rows:List (Array Value)):flat (r::rows)=r.toList++flat rows:=rfl
theorem aaE(a b:List (Array Value)):flat (a++b)=flat a++flat b:=by simp[flat]
theorem flat_length{k:Nat}:∀{rows:List (Array Value)},(∀r∈rows,r.size=k)→(flat rows).length=rows.length*k
 | [],_=>by simp[flat]
 |r::rows,h=>by
  rw[I4,List.length_append,flat_length (fun x hx=>h x (by simp[hx])),List.length_cons,Nat.succ_mul]
  have:=h r (by simp)
  simp[this];omega
theorem flat_get{k:Nat}:∀{rows:List (Array Value)} (_:∀r∈rows,r.size=k) (i j:Nat) (hi:i<rows.length) (_:j<k),(flat rows)[i*k+j]?=rows[i][j]?
 | [],_,i,j,hi,_=>by simp at hi
 |r::rows,h,0,j,_,hj=>by
  have:=h r (by simp)
  rw[I4,Nat.zero_mul,Nat.zero_add,List.getElem?_append_left (by simp;omega)]
  simp
 |r::rows,h,i+1,j,hi,hj=>by
  have hr:=h r (by simp)
  rw[I4,List.getElem?_append_right (by simp[Nat.succ_mul];omega)]
  have e:(i+1)*k+j-r.toList.length=i*k+j:=by simp[Nat.succ_mul];omega
  rw[e,flat_get (fun x hx=>h x (by simp[hx])) i j (by simpa using hi) hj]
  simp
structure Own(w:World)(base:Nat)(e:TypeId)(k:Nat)(s:Sl)(rows:List (Array Value)):Prop where
 own:w.ownsRow base e k (.slice s.a rows.length s.cap) rows.length (flat rows)
 size:∀r∈rows,r.size=k
def Sl.blk(s:Sl):Option Nat:=s.a.map (·.block)
theorem AA(s:Sl)(n:Nat):Value.ownBlock (.slice s.a n s.cap)=s.blk:=by
 unfold Sl.blk Value.ownBlock;cases s.a<;>rfl
theorem Own.nil(w:World)(base:Nat)(e:TypeId)(k:Nat):Own w base e k ⟨none,0⟩ []:=⟨World.ownsRow_nil w base e k,by simp⟩
theorem Own.base{w:World}{base:Nat}{e:TypeId}{k:Nat}{s:Sl}{rows:List (Array Value)}(h:Own w base e k s rows){g:Nat}(hg:s.blk=some g):base≤g∧g<w.heap.size:=
 h.own.lt g (by rw[AA];exact hg)
theorem Own.kept{w w':World}{base:Nat}{e:TypeId}{k:Nat}{s:Sl}{rows:List (Array Value)}(h:Own w base e k s rows)(hb:∀g,s.blk=some g→w'.heap[g]?=w.heap[g]?):Own w' base e k s rows:=by
 refine⟨⟨h.own.1,?_⟩,h.size⟩
 rcases h.own.2 with hn|⟨g,cap,cur,hv,h1,hg,rest⟩
 ·exact .inl hn
 ·refine .inr ⟨g,cap,cur,hv,h1,?_,rest⟩
  have ha:s.a=some ⟨g,0,none⟩:=by injection hv
  rw[hb g (by simp[Sl.blk,ha])];exact hg
theorem Own.row{w:World}{base:Nat}{e:TypeId}{k:Nat}{s:Sl}{rows:List (Array Value)}(h:Own w base e k s rows)(i:Nat)(hi:i<rows.length) :
  ∃g,s.a=some ⟨g,0,none⟩∧s.blk=some g∧row? w g (0+i*k) k=some rows[i]:=by
 rcases h.own.2 with⟨_,hn⟩|⟨g,cap,cur,hv,h1,hg,hle,_,hsz,htake⟩
 ·omega
 ·have ha:s.a=some ⟨g,0,none⟩:=by injection hv
  refine⟨g,ha,by simp[Sl.blk,ha],?_⟩
  unfold row?
  rw[hg,Nat.zero_add]
  have h2:i*k+k≤rows.length*k:=by rw[←Nat.succ_mul];exact Nat.mul_le_mul_right _ hi
  have h3:rows.length*k≤cur.size:=by rw[hsz];exact Nat.mul_le_mul_right _ hle
  show(if i*k+k≤cur.size then _ else _)=_
  rw[if_pos (by omega)]
  congr 1
  have hrs:=h.size rows[i] (List.getElem_mem hi)
  apply Array.ext_getElem?
  intro j
  by_cases hj:j<k
  ·rw[Array.getElem?_extract]
   have e1:j<min (i*k+k) cur.size-i*k:=by omega
   rw[if_pos e1,←flat_get h.size i j hi hj,←htake,List.getElem?_take,if_pos (by omega)]
   simp
  ·rw[Array.getElem?_eq_none (by simp;omega),Array.getElem?_eq_none (by omega)]
structure eF(w:World)(k:Nat)(A:Option Addr)(rows:List (Array Value)):Prop where
 size:∀r∈rows,r.size=k
 one:∀r∈rows,dG r=true
 at_:∀i (hi:i<rows.length),∃b o,A=some ⟨b,o,none⟩∧row? w b (o+i*k) k=some rows[i]
theorem eF.cells{w:World}{k:Nat}{A:Option Addr}{rows:List (Array Value)}(h:eF w k A rows)(hk:0<k)(hn:0<rows.length) :
  ∃b o,A=some ⟨b,o,none⟩∧∀j u,(flat rows)[j]?=some u→w.cell? ((⟨b,o,none⟩:Addr).add j)=some u:=by
 obtain⟨b,o,ha,_⟩:=h.at_ 0 hn
 refine⟨b,o,ha,fun j u hu=>?_⟩
 have hj:j<rows.length*k:=by have:=(List.getElem?_eq_some_iff.1 hu).1;rwa[flat_length h.size]at this
 have hi:j / k<rows.length:=by rw[Nat.div_lt_iff_lt_mul hk];exact hj
 have hr:j % k<k:=Nat.mod_lt _ hk
 have e:j / k*k+j % k=j:=Nat.div_add_mod' j k
 obtain⟨b',o',ha',hrow⟩:=h.at_ (j / k) hi
 rw[ha]at ha';cases ha'
 have hg:=flat_get h.size (j / k) (j % k) hi hr
 rw[e,hu]at hg
 have hc:=kF hrow (j % k) hr
 rw[Nat.add_assoc,e]at hc
 have hadd:(⟨b,o,none⟩:Addr).add j=⟨b,o+j,none⟩:=by unfold Addr.add;split<;>simp_all
 rw[hadd,hc,←hg]
theorem eF.vals{w:World}{k:Nat}{A:Option Addr}{rows:List (Array Value)}(h:eF w k A rows):∀u∈flat rows,u.oneCell'=true:=by
 intro u hu
 obtain⟨r,hr,hur⟩:=List.mem_flatMap.1 hu
 have:=h.one r hr
 unfold dG at this
 rw[Array.all_eq_true']at this
 exact this u (by simpa using hur)
theorem eF.new(w:World)(cs:Array Value)(t:TypeId)(k:Nat)(hs:cs.size=k)(h1:dG cs=true):eF (w.alloc (.cells cs t)) k (some ⟨w.heap.size,0,none⟩) [cs]:=
 ⟨by simpa using hs,by simpa using h1,fun i hi=>⟨_,_,rfl,by
  obtain rfl:i=0:=by simp at hi;exact hi
  rw[Ox rfl,Nat.zero_add,Nat.zero_mul,Il hs];rfl⟩⟩
structure ik(P:Program)(t e:TypeId)(k bytes:Nat):Prop where
 und:P.underlying t=some (.slice e)
 info:∃i z,P.info? e=some i∧i.zero=some z∧i.size=k∧i.bytes=bytes∧z.cells.size=k
 pos:0<k
def O3(x:Option (Option Nat×Nat×Nat))(k bytes:Nat):Bool:=match x with|some (some a,b,c)=>a == k&&b == k&&c == bytes&&decide (0<k)|_=>false
theorem ik.of{P:Program}{t e:TypeId}{k bytes:Nat}(hu:P.underlying t=some (.slice e))(h:O3 ((P.info? e).map fun i=>(i.zero.map (·.cells.size),i.size,i.bytes)) k bytes=true):ik P t e k bytes:=by
 unfold O3 at h
 cases hi:P.info? e with
 |none=>rw[hi]at h;cases h
 |some i=>
  rw[hi]at h
  simp only[Option.map_some]at h
  cases hz:i.zero with
  |none=>rw[hz]at h;cases h
  |some z=>
   rw[hz]at h
   simp only[Option.map_some,Bool.and_eq_true,beq_iff_eq,decide_eq_true_eq]at h
   exact⟨hu,⟨i,z,hi,hz,h.1.1.2,h.1.2,h.1.1.1⟩,h.2⟩
theorem run_append_nil{P:Program}{t ty e:TypeId}{k bytes:Nat}(he:ik P t e k bytes)(w:World){base:Nat}{s:Sl}{rows:List (Array Value)}(h:Own w base e k s rows)(c:Nat) :
  (Builtin.append_ #[t,t] ty #[.slice s.a rows.length s.cap,.slice none 0 c]).run P w=.ok (.slice s.a rows.length s.cap) w:=by
 obtain⟨i,z,hi,hz,h1,h2,h3⟩:=he.info
 rcases h.own.2 with⟨hv,hn⟩|⟨g,cap,cur,hv,_,_,hnc,_⟩
 ·rw[hv];simp[Builtin.append_,run_underlying he.und,sizeOf,typeInfo,hi,Builtin.lenOf,Builtin.firstCells]
 ·rw[hv];simp[Builtin.append_,run_underlying he.und,sizeOf,typeInfo,hi,Builtin.lenOf,Builtin.firstCells,hnc,storeCells]
theorem aaF{P:Program}{t ty e:TypeId}{k bytes:Nat}(he:ik P t e k bytes)(w:World){base:Nat}{s:Sl}{rows:List (Array Value)}(h:Own w base e k s rows){A:Option Addr}{news:List (Array Value)}(c:Nat)
  (hs:eF w k A news) (hlen:(rows.length+news.length)*(bytes+1)≤140737488355328) (hbase:base≤w.heap.size) :
  ∃s' w',(Builtin.append_ #[t,t] ty #[.slice s.a rows.length s.cap,.slice A news.length c]).run P w=.ok (.slice s'.a (rows.length+news.length) s'.cap) w'∧Own w' base e k s' (rows++news)∧w.grownBy w' s.blk∧(s'.blk=s.blk∨s'.blk=some w.heap.size):=by
 have hl1:rows.length+news.length≤maxLen:=by
  have:rows.length+news.length≤(rows.length+news.length)*(bytes+1):=Nat.le_mul_of_pos_right _ (by omega)
  unfold maxLen;omega
 have hl2:(rows.length+news.length)*bytes≤140737488355328:=Nat.le_trans (Nat.mul_le_mul_left _ (by omega)) hlen
 have main:∀b o,A=some ⟨b,o,none⟩→(∀j u,(flat news)[j]?=some u→w.cell? ((⟨b,o,none⟩:Addr).add j)=some u)→
   ∃s' w',(Builtin.append_ #[t,t] ty #[.slice s.a rows.length s.cap,.slice A news.length c]).run P w=.ok (.slice s'.a (rows.length+news.length) s'.cap) w'∧Own w' base e k s' (rows++news)∧w.grownBy w' s.blk∧(s'.blk=s.blk∨s'.blk=some w.heap.size):=by
  intro b o hA hcells
  obtain⟨i,z,hi,hz,h1,h2,h3⟩:=he.info
  obtain⟨v',w',hrun,hown,hg,_,hb⟩:=run_append_own_at (P:=P) w base t ty e i z k bytes he.und hi hz h1 h2 h3 he.pos (.slice s.a rows.length s.cap) rows.length (flat rows) h.own ⟨b,o,none⟩ news.length c (flat news) (flat_length hs.size) hcells hs.vals hl1 hl2 hbase
  rw[AA]at hg hb
  have hform:∃s':Sl,v'=.slice s'.a (rows.length+news.length) s'.cap:=by
   rcases hown.2 with⟨hv,hn⟩|⟨g,cap,cur,hv,_⟩
   ·exact⟨⟨none,0⟩,by rw[hv,hn]⟩
   ·exact⟨⟨some ⟨g,0,none⟩,cap⟩,hv⟩
  obtain⟨s',rfl⟩:=hform
  rw[AA]at hb
  refine⟨s',w',by rw[hA];exact hrun,⟨by rw[List.length_append,aaE];exact hown,fun r hr=>?_⟩,hg,hb⟩
  rcases List.mem_append.1 hr with hr|hr
  ·exact h.size r hr
  ·exact hs.size r hr
 rcases Nat.eq_zero_or_pos news.length with hn|hn
 ·obtain rfl:news=[]:=List.eq_nil_of_length_eq_zero hn
  cases A with
  |none=>
   refine⟨s,w,?_,by simpa using h,World.grownBy.refl w _,.inl rfl⟩
   exact run_append_nil he w h c
  |some a=>
   obtain⟨i,z,hi,hz,h1,h2,h3⟩:=he.info
   obtain⟨v',w',hrun,hown,hg,_,hb⟩:=run_append_own_at (P:=P) w base t ty e i z k bytes he.und hi hz h1 h2 h3 he.pos (.slice s.a rows.length s.cap) rows.length (flat rows) h.own a 0 c [] (by simp) (by simp) (by simp) hl1 hl2 hbase
   rw[AA]at hg hb
   have hform:∃s':Sl,v'=.slice s'.a (rows.length+0) s'.cap:=by
    rcases hown.2 with⟨hv,hn⟩|⟨g,cap,cur,hv,_⟩
    ·exact⟨⟨none,0⟩,by rw[hv,hn]⟩
    ·exact⟨⟨some ⟨g,0,none⟩,cap⟩,hv⟩
   obtain⟨s',rfl⟩:=hform
   rw[AA]at hb
   exact⟨s',w',hrun,⟨by simpa using hown,by simpa using h.size⟩,hg,hb⟩
 ·obtain⟨b,o,hA,hc⟩:=hs.cells he.pos hn
  exact main b o hA hc
theorem I5{P:Program}{o:Oper}{a:Act}{w:World}{K:Act→World→Prop}{Q:Exit→Act→World→Prop}(x y:Operand)(t:TypeId)(ho:o.op=.call {callee:=.builtin .append,args:=#[x,y],argTypes:=#[t,t]})
  {e:TypeId} {k bytes:Nat} (he:ik P t e k bytes) {base:Nat} {s:Sl} {rows:List (Array Value)} (hx:a.eval x=.slice s.a rows.length s.cap) (h:Own w base e k s rows) {A:Option Addr} {news:List (Array Value)} {m c:Nat}
  (hy:a.eval y=.slice A m c) (hm:m=news.length) (hs:eF w k A news) (hlen:(rows.length+news.length)*(bytes+1)≤140737488355328) (hbase:base≤w.heap.size)
  (hK:∀(s':Sl) w',Own w' base e k s' (rows++news)→w.grownBy w' s.blk→(s'.blk=s.blk∨s'.blk=some w.heap.size)→K (a.put o.dst (.slice s'.a (rows.length+news.length) s'.cap)) w'):o.wp P a w K Q:=by
 subst hm
 obtain⟨s',w',hrun,h2,h3,h4⟩:=aaF (ty:=o.type) he w h c hs hlen hbase
 unfold Oper.wp execOp
 simp only[ho,resolve,invoke,builtin,Sem.run_bind,Sem.run_pure,Result.andThen_ok,List.map_toArray,List.map_cons,List.map_nil,hx,hy,hrun]
 exact hK s' w' h2 h3 h4
theorem aaG{P:Program}{ops:Array Oper}{rest:List Oper}{o:Oper}{a:Act}{w:World}{Q:Exit→Act→World→Prop}(hgd:o.guard=none)(x y:Operand)(t:TypeId)(ho:o.op=.call {callee:=.builtin .append,args:=#[x,y],argTypes:=#[t,t]})
  {e:TypeId} {k bytes:Nat} (he:ik P t e k bytes) {base:Nat} {s:Sl} {rows:List (Array Value)} (hx:a.eval x=.slice s.a rows.length s.cap) (h:Own w base e k s rows) {A:Option Addr} {news:List (Array Value)} {m c:Nat}
  (hy:a.eval y=.slice A m c) (hm:m=news.length) (hs:eF w k A news) (hlen:(rows.length+news.length)*(bytes+1)≤140737488355328) (hbase:base≤w.heap.size)
  (hK:∀(s':Sl) w',Own w' base e k s' (rows++news)→w.grownBy w' s.blk→(s'.blk=s.blk∨s'.blk=some w.heap.size)→wpList P ops Q rest (a.put o.dst (.slice s'.a (rows.length+news.length) s'.cap)) w'):wpList P ops Q (o::rest) a w:=
 wpList_plain hgd fun _ hK'=>I5 x y t ho he hx h hy hm hs hlen hbase fun s' w' h2 h3 h4=>hK' _ _ (hK s' w' h2 h3 h4)
def bg(w:World)(S:Nat→Prop)(Φ:World→Prop):Prop:=∀w':World,(∀k,S k→w'.heap[k]?=w.heap[k]?)→Φ w'
theorem bg.out{w:World}{S:Nat→Prop}{Φ:World→Prop}(h:bg w S Φ):Φ w:=h w fun _ _=>rfl
theorem bg.to{w w1:World}{S S1:Nat→Prop}{Φ:World→Prop}(h:bg w S Φ)(hw:∀k,S k→w1.heap[k]?=w.heap[k]?)(hS:∀k,S k→S1 k):bg w1 S1 Φ:=
 fun w' hw'=>h w' fun k hk=>(hw' k (hS k hk)).trans (hw k hk)
def fresh(base:Nat)(w:World):Nat→Prop:=fun k=>base≤k∧k<w.heap.size
def I7(base:Nat)(w:World)(g:Option Nat):Nat→Prop:=fun k=>base≤k∧k<w.heap.size∧some k≠g
end Go.WW
