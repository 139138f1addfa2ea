/- A part of the proof. -/
import Derived.Test.YtpfifochimkpfaaGreatDoorA06
import Derived.Test.YtpfifochimkpfaaGreatDoorA05
import Derived.Test.YtpfifochimkpfaaGreatDoorA04
import Derived.Carry
import Derived.WideMake
import Derived.RangeFuncOwn
set_option maxRecDepth 100000
set_option maxHeartbeats 4000000
namespace Go.WW
def countOf(d:Entry)(p:ah)(now:Int):Int:=
 if 0<p.fails∧p.fails≤d.fails then(if 0<p.lock∧d.dw+p.lock≤now then 0 else d.fails)
 else if 0<p.window∧d.dw+p.window<now then 0 else d.fails
def fZ(d:Entry)(p:ah)(now:Int):Bool:=decide (0<p.fails)&&decide (p.fails≤countOf d p now)
def Au(d:Entry)(p:ah):Int:=if p.lock=0 then 0 else min (d.dw+p.lock) 1099511627776
structure Small(d:Entry)(p:ah):Prop where
 l0:0≤d.dw
 l1:d.dw≤1099511627776
 f0:0≤d.fails
 f1:d.fails≤65535
 w0:0≤p.window
 w1:p.window≤1099511627776
 k0:0≤p.lock
 k1:p.lock≤1099511627776
 m0:0≤p.fails
end Go.WW
namespace Go.Proofs.YtpfifochimkpfaaGreatDoor
open Go.RowKit Go.WW
theorem Fz(b cap:Nat)(x y:Int)(w:World)(h0:w.cell? ⟨b,0,none⟩=some (.int .i64 x))(h1:w.cell? ⟨b,1,none⟩=some (.int .i64 y))(hx:0≤x∧x≤1099511627776)(hy:0≤y∧y≤1099511627776) :
  Calls Tryz.prog 61 #[.slice (some ⟨b,0,none⟩) 2 cap] w fun e w'=>e=.returned (.int .i64 (x+y))∧w=w':=by
 have hb:b<w.heap.size:=World.block_lt_of_cell? w _ h0
 go_enter Tryz.func61,Tryz.ntmps61
 go_wp2
 refine wp_loop_rounds 3 ?_
 rw[rounds_succ]
 go_wp2
 rw[rounds_succ]
 go_wp2
 rw[rounds_succ]
 go_wp2
 go_ret
 exact⟨rfl,rfl⟩
theorem ab4(b cap:Nat)(n x y:Int)(w:World)(h0:w.cell? ⟨b,0,none⟩=some (.int .i64 x))(h1:w.cell? ⟨b,1,none⟩=some (.int .i64 y))(hx:0≤x∧x≤1099511627776)(hy:0≤y∧y≤1099511627776) :
  Calls Tryz.prog 110 #[.int .i64 n,.slice (some ⟨b,0,none⟩) 2 cap] w fun e w'=>e=.returned (.bool (decide (x+y≤n)))∧w=w':=by
 go_enter Tryz.func110,Tryz.ntmps110
 go_wp2_with (go_at_call 61;refine(Fz _ _ _ _ _ h0 h1 hx hy).mono ?_;rintro e w' ⟨rfl,rfl⟩)
 all_goals go_ret
 all_goals exact⟨rfl,rfl⟩
theorem ab5(b cap:Nat)(n x y:Int)(w:World)(h0:w.cell? ⟨b,0,none⟩=some (.int .i64 x))(h1:w.cell? ⟨b,1,none⟩=some (.int .i64 y))(hx:0≤x∧x≤1099511627776)(hy:0≤y∧y≤1099511627776) :
  Calls Tryz.prog 112 #[.int .i64 n,.slice (some ⟨b,0,none⟩) 2 cap] w fun e w'=>e=.returned (.bool (decide (x+y<n)))∧w=w':=by
 go_enter Tryz.func112,Tryz.ntmps112
 go_wp2_with (go_at_call 61;refine(Fz _ _ _ _ _ h0 h1 hx hy).mono ?_;rintro e w' ⟨rfl,rfl⟩)
 all_goals go_ret
 all_goals exact⟨rfl,rfl⟩
theorem JS(r:aK)(d:Entry)(p:ah)(now:Int)(w:World)(hs:Small d p) :
  Calls Tryz.prog 44 #[.agg (ae r d),.agg (ak p),.int .i64 now] w fun e w'=>e=.returned (.int .i64 (countOf d p now))∧Below w.heap.size w w':=by
 obtain⟨l0,l1,f0,f1,w0,w1,k0,k1,m0⟩:=hs
 go_enter Tryz.func44,Tryz.ntmps44
 by_cases c1:0<p.fails∧p.fails≤d.fails
 ·by_cases c2:0<p.lock∧d.dw+p.lock≤now
  ·have HN:=Lib.hid (show countOf d p now=0 by rw[countOf,if_pos c1,if_pos c2])
   obtain⟨a1,a2⟩:=c1
   obtain⟨a3,a4⟩:=c2
   go_wp2
   all_goals go_ret
   all_goals exact⟨by rw[HN.out];rfl,((Below.refl _ _).alloc (Nat.le_refl _) _).alloc (by simp) _⟩
  ·have HN:=Lib.hid (show countOf d p now=d.fails by rw[countOf,if_pos c1,if_neg c2])
   obtain⟨a1,a2⟩:=c1
   by_cases a3:0<p.lock
   ·have a4:¬d.dw+p.lock≤now:=fun h=>c2 ⟨a3,h⟩
    clear c2
    go_wp2
    all_goals go_ret
    all_goals exact⟨by rw[HN.out];rfl,((Below.refl _ _).alloc (Nat.le_refl _) _).alloc (by simp) _⟩
   ·clear c2
    go_wp2
    all_goals go_ret
    all_goals exact⟨by rw[HN.out];rfl,((Below.refl _ _).alloc (Nat.le_refl _) _).alloc (by simp) _⟩
 ·by_cases c2:0<p.window∧d.dw+p.window<now
  ·have HN:=Lib.hid (show countOf d p now=0 by rw[countOf,if_neg c1,if_pos c2])
   obtain⟨a3,a4⟩:=c2
   by_cases a1:0<p.fails
   ·have a2:¬p.fails≤d.fails:=fun h=>c1 ⟨a1,h⟩
    clear c1
    go_wp2
    all_goals go_ret
    all_goals exact⟨by rw[HN.out];rfl,((Below.refl _ _).alloc (Nat.le_refl _) _).alloc (by simp) _⟩
   ·clear c1
    go_wp2
    all_goals go_ret
    all_goals exact⟨by rw[HN.out];rfl,((Below.refl _ _).alloc (Nat.le_refl _) _).alloc (by simp) _⟩
  ·have HN:=Lib.hid (show countOf d p now=d.fails by rw[countOf,if_neg c1,if_neg c2])
   by_cases a1:0<p.fails
   ·have a2:¬p.fails≤d.fails:=fun h=>c1 ⟨a1,h⟩
    clear c1
    by_cases a3:0<p.window
    ·have a4:¬d.dw+p.window<now:=fun h=>c2 ⟨a3,h⟩
     clear c2
     go_wp2
     all_goals go_ret
     all_goals exact⟨by rw[HN.out];rfl,((Below.refl _ _).alloc (Nat.le_refl _) _).alloc (by simp) _⟩
    ·clear c2
     go_wp2
     all_goals go_ret
     all_goals exact⟨by rw[HN.out];rfl,((Below.refl _ _).alloc (Nat.le_refl _) _).alloc (by simp) _⟩
   ·clear c1
    by_cases a3:0<p.window
    ·have a4:¬d.dw+p.window<now:=fun h=>c2 ⟨a3,h⟩
     clear c2
     go_wp2
     all_goals go_ret
     all_goals exact⟨by rw[HN.out];rfl,((Below.refl _ _).alloc (Nat.le_refl _) _).alloc (by simp) _⟩
    ·clear c2
     go_wp2
     all_goals go_ret
     all_goals exact⟨by rw[HN.out];rfl,((Below.refl _ _).alloc (Nat.le_refl _) _).alloc (by simp) _⟩
end Go.Proofs.YtpfifochimkpfaaGreatDoor
namespace Go.WW
def wV(l:List Key):Nat→Int
 |0=>0
 |j+1=>((l[j]?).map (·.profile)).getD 0
theorem ab6(x:bP)(h:¬aC x.version 1 65535=true):jd x=false:=by
 have hb:(aC x.version 1 65535)=false:=by first|exact h|(simpa using h)|(simp;omega)
 simp only[jd,hb,Bool.false_and]
theorem ab7(x:bP)(h:¬aC x.keys.length 1 4=true):jd x=false:=by
 have hb:(aC x.keys.length 1 4)=false:=by first|exact h|(simpa using h)|(simp;omega)
 simp only[jd,hb,Bool.false_and,Bool.and_false]
theorem ab8(x:bP)(h:256<(x.dK.size:Int)):jd x=false:=by
 have hb:(decide ((x.dK.size:Int)≤256))=false:=by first|exact h|(simpa using h)|(simp;omega)
 simp only[jd,hb,Bool.false_and,Bool.and_false]
theorem ab9(x:bP)(h:¬aC x.dX 0 65536=true):jd x=false:=by
 have hb:(aC x.dX 0 65536)=false:=by first|exact h|(simpa using h)|(simp;omega)
 simp only[jd,hb,Bool.false_and,Bool.and_false]
theorem aca(x:bP)(h:¬(0<x.dX∨x.dK.toList=[])):jd x=false:=by
 have hb:(decide (0<x.dX) || x.dK.toList.isEmpty)=false:=by first|exact h|(simpa using h)|(simp;omega)
 simp only[jd,hb,Bool.false_and,Bool.and_false]
theorem acb(x:bP)(h:¬aC x.created 0 1099511627776=true):jd x=false:=by
 have hb:(aC x.created 0 1099511627776)=false:=by first|exact h|(simpa using h)|(simp;omega)
 simp only[jd,hb,Bool.and_false]
theorem QW(x:bP)(h1:aC x.version 1 65535=true)(h2:aC x.keys.length 1 4=true)(h3:(x.dK.size:Int)≤256)(h4:aC x.dX 0 65536=true)(h5:0<x.dX∨x.dK.toList=[]):jd x=(aC x.created 0 1099511627776):=by
 have e1:(aC x.version 1 65535)=true:=by first|exact h1|(simpa using h1)|(simp;omega)
 have e2:(aC x.keys.length 1 4)=true:=by first|exact h2|(simpa using h2)|(simp;omega)
 have e3:(decide ((x.dK.size:Int)≤256))=true:=by first|exact h3|(simpa using h3)|(simp;omega)
 have e4:(aC x.dX 0 65536)=true:=by first|exact h4|(simpa using h4)|(simp;omega)
 have e5:(decide (0<x.dX) || x.dK.toList.isEmpty)=true:=by first|exact h5|(simpa using h5)|(simp;omega)
 simp only[jd,e1,e2,e3,e4,e5,Bool.true_and]
theorem acd(x:bP)(h1:aC x.version 1 65535=true)(h2:aC x.keys.length 1 4=true)(h3:(x.dK.size:Int)≤256)(h4:aC x.dX 0 65536=true)(h5:0<x.dX):jd x=aC x.created 0 1099511627776:=QW x h1 h2 h3 h4 (.inl h5)
theorem ace(x:bP)(h1:aC x.version 1 65535=true)(h2:aC x.keys.length 1 4=true)(h3:(x.dK.size:Int)≤256)(h4:aC x.dX 0 65536=true):jd x=((decide (0<x.dX) || x.dK.toList.isEmpty)&&aC x.created 0 1099511627776):=by
 have e3:decide ((x.dK.size:Int)≤256)=true:=by simpa using h3
 simp only[jd,h1,h2,e3,h4,Bool.true_and]
theorem acf{m:Int}{x:bP}(k:Nat)(hk:k=x.keys.length)(h1:(x.keys.take k).all (iO m x.version)=true)(h2:(List.range k).all (jA mF x.keys)=true):gX m x=jd x:=by
 subst hk;rw[List.take_of_length_le (Nat.le_refl _)]at h1;simp[gX,ordered,h1,h2]
theorem Cm{m:Int}{x:bP}(k:Nat)(hk:k<x.keys.length)(h:iO m x.version x.keys[k]=false):gX m x=false:=by
 rw[gX,qK x.keys k hk h];rfl
theorem acg(l:List Key):wV l 0=0:=rfl
theorem FB(l:List Key)(j:Nat)(h:j<l.length):wV l (j+1)=l[j].profile:=by simp[wV,h]
theorem ach{p:Int}(h:p≤0):dP p=0:=by
 have h1:(p == 1)=false:=by simp;omega
 have h2:(p == 2)=false:=by simp;omega
 simp[dP,h1,h2]
theorem aci{m:Int}{x:bP}(k:Nat)(hk:k<x.keys.length)(h:x.keys[k].profile≤wV x.keys k):gX m x=false:=by
 cases k with
 |zero=>exact Cm 0 hk (by rw[iO,ach (by simpa[acg]using h)];rfl)
 |succ j=>
  rw[FB x.keys j (by omega)]at h
  have:jA mF x.keys (j+1)=false:=by
   have h1:j<x.keys.length:=by omega
   simp[jA,hk,h1,mF];exact h
  have:ordered mF x.keys=false:=Cf _ _ hk this
  simp[gX,this]
theorem acj{x:bP}(k:Nat)(hk:k<x.keys.length)(h:wV x.keys k<x.keys[k].profile)(h2:(List.range k).all (jA mF x.keys)=true):(List.range (k+1)).all (jA mF x.keys)=true:=by
 refine Fp k h2 ?_
 cases k with
 |zero=>rfl
 |succ j=>
  have h1:j<x.keys.length:=by omega
  rw[FB x.keys j h1]at h
  simp[jA,hk,h1,mF];exact h
end Go.WW
namespace Go.Proofs.YtpfifochimkpfaaGreatDoor
open Go.RowKit Go.WW
theorem CB(s:Sl)(x:bP)(m:Int)(w:World)(hx:kG w s x):Calls Tryz.prog 80 #[.agg (bY s x),.int .i64 m] w fun e w'=>e=.returned (.bool (gX m x))∧Below w.heap.size w w':=by
 have hl:x.keys.length≤4294967000:=hx.1.1
 have hB:Below w.heap.size w (w.alloc (.cells (bY s x) 80)):=(Below.refl _ _).alloc (Nat.le_refl _) _
 go_enter Tryz.func80,Tryz.ntmps80
 go_wp2
 go_loopw [5,6] (fun t i wr=>Below (w.alloc (.cells (bY s x) 80)).heap.size (w.alloc (.cells (bY s x) 80)) wr∧∃k:Nat,k≤x.keys.length∧i=.int .i64 k∧t=.int .i64 (wV x.keys k)∧Hid ((x.keys.take k).all (iO m x.version)=true)∧Hid ((List.range k).all (jA mF x.keys)=true)) (fun _ i _=>x.keys.length-(intOf i).toNat)
 case atStart=>exact⟨Below.refl _ _,0,Nat.zero_le _,rfl,rfl,by simp[Hid],by simp[Hid]⟩
 case round=>
  obtain⟨hbr,k,hk,rfl,rfl,hall,hord⟩:=hrel
  obtain⟨hcc,bf,hrr⟩:=aQ hbr
  have hsz:w.heap.size<wr.heap.size:=by have:=hbr.size;simp at this;omega
  by_cases hlt:k<x.keys.length
  ·obtain⟨b,o,t,ha,hc,hkey⟩:=hx.1.get k hlt
   have hb:b<w.heap.size:=fA hc
   have hb1:b<w.heap.size+1:=by omega
   have hki:(k:Int)<(x.keys.length:Int):=by omega
   by_cases hA:x.keys[k].profile≤wV x.keys k
   ·have HN:=Lib.hid (aci (m:=m) k hlt hA)
    go_wp2_with (first|(go_at_call 136;refine(tu _ _).mono ?_;rintro e w' ⟨rfl,rfl⟩)|(go_at_call 81;refine(qJ _ _ _ _).mono ?_;rintro e w' ⟨rfl,rfl⟩)|(go_at_call 137;refine(yu _ _ _).mono ?_;rintro e w2 ⟨rfl,hb2⟩;obtain⟨hc2,hf2,hr2⟩:=aQ hb2))
    go_ret
    exact⟨by rw[HN.out];rfl,hB.trans ((ay hbr _).mono (by simp))⟩
   ·have hA':wV x.keys k<x.keys[k].profile:=by omega
    have HO:=Lib.hid (acj k hlt hA' hord.out)
    clear hA
    by_cases hK:dP x.keys[k].profile=0
    ·have hK':(dP x.keys[k].profile == 0)=true:=by simp[hK]
     have HN:=Lib.hid (Cm (m:=m) k hlt (by simp[iO,hK']))
     clear hK
     go_wp2_with (first|(go_at_call 136;refine(tu _ _).mono ?_;rintro e w' ⟨rfl,rfl⟩)|(go_at_call 81;refine(qJ _ _ _ _).mono ?_;rintro e w' ⟨rfl,rfl⟩)|(go_at_call 137;refine(yu _ _ _).mono ?_;rintro e w2 ⟨rfl,hb2⟩;obtain⟨hc2,hf2,hr2⟩:=aQ hb2))
     go_ret
     exact⟨by rw[HN.out];rfl,hB.trans ((ay hbr _).mono (by simp))⟩
    ·have hK':(dP x.keys[k].profile == 0)=false:=by simp[hK]
     clear hK
     cases hC:(x.keys[k].version != x.version)
     ·by_cases hm:m=0
      ·subst hm
       cases hD:nG x.keys[k]
       ·have HN:=Lib.hid (Cm (m:=0) k hlt (by simp[iO,hD]))
        go_wp2_with (first|(go_at_call 136;refine(tu _ _).mono ?_;rintro e w' ⟨rfl,rfl⟩)|(go_at_call 81;refine(qJ _ _ _ _).mono ?_;rintro e w' ⟨rfl,rfl⟩)|(go_at_call 137;refine(yu _ _ _).mono ?_;rintro e w2 ⟨rfl,hb2⟩;obtain⟨hc2,hf2,hr2⟩:=aQ hb2))
        go_ret
        exact⟨by rw[HN.out];rfl,hB.trans ((ag (ay hbr _) hb2).mono (by simp))⟩
       ·have HN:=Lib.hid (lu (p:=iO 0 x.version) x.keys k hlt hall.out (by simp[iO,hK',hC,hD]))
        go_wp2_with (first|(go_at_call 136;refine(tu _ _).mono ?_;rintro e w' ⟨rfl,rfl⟩)|(go_at_call 81;refine(qJ _ _ _ _).mono ?_;rintro e w' ⟨rfl,rfl⟩)|(go_at_call 137;refine(yu _ _ _).mono ?_;rintro e w2 ⟨rfl,hb2⟩;obtain⟨hc2,hf2,hr2⟩:=aQ hb2))
        go_roundw
        case rel=>exact⟨ag (ay hbr _) hb2,k+1,by omega,by go_num,by rw[FB _ _ hlt],HN.out,HO.out⟩
        case measure=>simp[intOf];omega
      ·have hm1:(m == 0)=false:=by simp[hm]
       have hm2:(m != 0)=true:=by simp[hm]
       clear hm
       cases hD:aC x.keys[k].bytes.length 1 256
       ·have HN:=Lib.hid (Cm (m:=m) k hlt (by simp[iO,hD,hm1]))
        go_wp2_with (first|(go_at_call 136;refine(tu _ _).mono ?_;rintro e w' ⟨rfl,rfl⟩)|(go_at_call 81;refine(qJ _ _ _ _).mono ?_;rintro e w' ⟨rfl,rfl⟩)|(go_at_call 137;refine(yu _ _ _).mono ?_;rintro e w2 ⟨rfl,hb2⟩;obtain⟨hc2,hf2,hr2⟩:=aQ hb2))
        go_ret
        exact⟨by rw[HN.out];rfl,hB.trans ((ay hbr _).mono (by simp))⟩
       ·have HN:=Lib.hid (lu (p:=iO m x.version) x.keys k hlt hall.out (by simp[iO,hK',hC,hD,hm1]))
        go_wp2_with (first|(go_at_call 136;refine(tu _ _).mono ?_;rintro e w' ⟨rfl,rfl⟩)|(go_at_call 81;refine(qJ _ _ _ _).mono ?_;rintro e w' ⟨rfl,rfl⟩)|(go_at_call 137;refine(yu _ _ _).mono ?_;rintro e w2 ⟨rfl,hb2⟩;obtain⟨hc2,hf2,hr2⟩:=aQ hb2))
        go_roundw
        case rel=>exact⟨ay hbr _,k+1,by omega,by go_num,by rw[FB _ _ hlt],HN.out,HO.out⟩
        case measure=>simp[intOf];omega
     ·have HN:=Lib.hid (Cm (m:=m) k hlt (by simp[iO,hC]))
      go_wp2_with (first|(go_at_call 136;refine(tu _ _).mono ?_;rintro e w' ⟨rfl,rfl⟩)|(go_at_call 81;refine(qJ _ _ _ _).mono ?_;rintro e w' ⟨rfl,rfl⟩)|(go_at_call 137;refine(yu _ _ _).mono ?_;rintro e w2 ⟨rfl,hb2⟩;obtain⟨hc2,hf2,hr2⟩:=aQ hb2))
      go_ret
      exact⟨by rw[HN.out];rfl,hB.trans ((ay hbr _).mono (by simp))⟩
  ·have HE:=Lib.hid (acf (m:=m) k (by omega) hall.out hord.out)
   go_wp2_with (first|(go_at_call 81;refine(qJ _ _ _ _).mono ?_;rintro e w' ⟨rfl,rfl⟩))
   all_goals go_ret
   all_goals exact⟨by rw[HE.out];first|(rw[ab6 x ‹_›];rfl)|(rw[ab7 x ‹_›];rfl)|(rw[ab8 x ‹_›];rfl)|(rw[ab9 x ‹_›];rfl)|(rw[aca x ‹_›];rfl)|(rw[acb x ‹_›];rfl)|(rw[QW x ‹_› ‹_› ‹_› ‹_› ‹_›];rfl)|(rw[acd x ‹_› ‹_› ‹_› ‹_› ‹_›];rfl)|(rw[ace x ‹_› ‹_› ‹_› ‹_›];rfl),hB.trans (hbr.mono (by simp))⟩
end Go.Proofs.YtpfifochimkpfaaGreatDoor
namespace Go.WW
def oD(l:List aH)(i:Nat):Bool:=
 match l[i]? with
 |none=>true
 |some p=>aZ p&&(l.take i).all (fun q=>!bD q p)
def yz(l:List aH):Bool:=(List.range l.length).all (oD l)
def different(l:List aH):Bool:=yz l&&decide ((l.length:Int)≤16)
theorem QX{l:List aH}(i:Nat)(hi:i<l.length)(h:aZ l[i]=false):different l=false:=by
 have:oD l i=false:=by simp[oD,hi,h]
 rw[different,yz,Cf _ i hi this];rfl
theorem ack{l:List aH}(i k:Nat)(hi:i<l.length)(hk:k<i)(h:bD l[k] l[i]=true):different l=false:=by
 have h2:(l.take i).all (fun q=>!bD q l[i])=false:=by
  rw[List.all_eq_false]
  exact⟨l[k],by rw[List.mem_iff_getElem];exact⟨k,by simp;omega,by simp⟩,by simp[h]⟩
 have:oD l i=false:=by simp[oD,hi,h2]
 rw[different,yz,Cf _ i hi this];rfl
theorem acm{l:List aH}(i:Nat)(hi:i<l.length)(h:(List.range i).all (oD l)=true)(h1:aZ l[i]=true)(h2:(l.take i).all (fun q=>!bD q l[i])=true):(List.range (i+1)).all (oD l)=true:=
 Fp i h (by simp[oD,hi,h1,h2])
theorem acn{l:List aH}(i:Nat)(hi:i=l.length)(h:(List.range i).all (oD l)=true):different l=decide ((l.length:Int)≤16):=by
 subst hi;rw[different,yz,h];rfl
end Go.WW
namespace Go.Proofs.YtpfifochimkpfaaGreatDoor
open Go.RowKit Go.WW
theorem aco(a:Option Addr)(cap:Nat)(w:World):Calls Tryz.prog 79 #[.slice a 0 cap] w fun e w'=>e=.returned (.bool (different []))∧Below w.heap.size w w':=by
 go_enter Tryz.func79,Tryz.ntmps79
 go_wp2
 refine wp_loop_rounds 1 ?_
 rw[rounds_succ]
 go_wp2
 go_ret
 exact⟨rfl,Below.refl _ _⟩
theorem vg(a:Option Addr)(cap:Nat)(l:List aH)(w:World)(hl:fQ w a l):Calls Tryz.prog 79 #[.slice a l.length cap] w fun e w'=>e=.returned (.bool (different l))∧Below w.heap.size w w':=by
 have hn:l.length≤4294967000:=hl.1
 rcases bH.addr hl with h0|⟨b,o,rfl,hb⟩
 ·obtain rfl:l=[]:=List.eq_nil_of_length_eq_zero h0
  exact aco a cap w
 go_enter Tryz.func79,Tryz.ntmps79
 go_wp2
 go_loopw [3] (fun i wr=>Below w.heap.size w wr∧∃k:Nat,k≤l.length∧i=.int .i64 k∧Hid ((List.range k).all (oD l)=true)) (fun i _=>l.length-(intOf i).toNat)
 case atStart=>exact⟨Below.refl _ _,0,Nat.zero_le _,rfl,by simp[Hid]⟩
 case round=>
  obtain⟨hbr,i,hi,rfl,hall⟩:=hrel
  by_cases hlt:i<l.length
  ·obtain⟨t,hc,hp⟩:=hl.at i hlt
   have hii:(i:Int)<(l.length:Int):=by omega
   obtain⟨hcc,bf,hrr⟩:=aQ hbr
   go_wp2_with fail
   refine(sZ _ _ _ (hp.later hbr)).mono ?_
   rintro e w1 ⟨rfl,hb1⟩
   replace hb1:=ag hbr hb1
   clear hcc bf hrr
   cases hv:aZ l[i]
   ·have HN:=Lib.hid (QX i hlt hv)
    go_wp2
    go_ret
    exact⟨by rw[HN.out];rfl,hb1⟩
   ·have HV:=Lib.hid hv;clear hv
    obtain⟨wo,rfl⟩:∃wo:World,wo=wr:=⟨_,rfl⟩
    go_wp2
    go_loopw [4] (fun j wr=>Below w.heap.size w wr∧∃k:Nat,k≤i∧j=.int .i64 k∧Hid ((l.take k).all (fun q=>!bD q l[i])=true)) (fun j _=>i-(intOf j).toNat)
    case atStart=>exact⟨hb1,0,Nat.zero_le _,rfl,by simp[Hid]⟩
    case round=>
     obtain⟨FC,k,hk,rfl,qP⟩:=hrel
     by_cases hk2:k<i
     ·have hkl:k<l.length:=by omega
      have hkk:(k:Int)<(l.length:Int):=by omega
      obtain⟨t',hc',hp'⟩:=hl.at k hkl
      cases hs:bD l[k] l[i]
      ·have HS:=Lib.hid (lu (p:=fun q=>!bD q l[i]) l k hkl qP.out (by simp[hs]))
       go_wp2
       refine dN FC (by kernel_rfl) (by kernel_rfl) ?_
       repeat (go_big_quiet_step ((go_at_call 41;rename_i xw;exact Calls.iq (hs▸uV _ _ _ _ _ (hp'.later xw.b) (hp.later xw.b)))))
       refine wpQuiet_nil ?_
       intro w2 hb2
       go_wp2
       go_roundw
       case rel=>exact⟨hb2,k+1,by omega,by go_num,HS.out⟩
       case measure=>simp[intOf];omega
      ·have HS:=Lib.hid (ack i k hlt hk2 hs)
       go_wp2
       refine dN FC (by kernel_rfl) (by kernel_rfl) ?_
       repeat (go_big_quiet_step ((go_at_call 41;rename_i xw;exact Calls.iq (hs▸uV _ _ _ _ _ (hp'.later xw.b) (hp.later xw.b)))))
       refine wpQuiet_nil ?_
       intro w2 hb2
       go_wp2
       go_ret
       exact⟨by rw[HS.out];rfl,hb2⟩
     ·have Aw:=qP.out
      have e:k=i:=by omega
      rw[e]at Aw
      have HS:=Lib.hid (acm i hlt hall.out HV.out Aw)
      clear Aw e
      go_wp2
      go_roundw
      case rel=>first|exact⟨FC,i+1,by omega,by go_num,HS.out⟩|((repeat apply Exists.intro);exact⟨⟨FC,i+1,by omega,by go_num,HS.out⟩,rfl⟩)
      case measure=>simp[intOf];omega
  ·have HE:=Lib.hid (acn i (by omega) hall.out)
   go_wp2
   go_ret
   exact⟨by rw[HE.out];rfl,hbr⟩
end Go.Proofs.YtpfifochimkpfaaGreatDoor
namespace Go.WW
def kK(a b:bP):Bool:=decide (b.version<a.version)&&decide (b.created≤a.created)
def qQ(n a:aH):Bool:=decide (a.aJ=n.aJ)&&!bD a n
def wW(a:Int):Bool:=decide (a≤1023)
def jl(e:Entry):Bool:=aC e.jS 0 1099511627776&&aC e.jT 0 1099511627776&&aC e.jF 0 2147483648&&aC e.jG 0 2147483648&&aC e.fails 0 65535&&aC e.dw 0 1099511627776&&aC e.iw 0 1099511627776
def kL(e:Entry):Bool:=wW e.attrs&&aC e.fH 0 65535&&decide ((e.keys.length:Int)≤16)&&decide ((e.aP.size:Int)≤32)&&visible e.aP&&decide ((e.history.length:Int)≤16)
def bI(e:Entry):Bool:=aZ e.name&&different e.aliases&&different e.targets&&different e.bW&&e.aliases.all (qQ e.name)&&e.keys.all (gX e.fH)&&ordered kK e.keys&&e.history.all (fun h=>(h.length:Int) == 16)&&kL e&&jl e
theorem QY(n:Nat):((n ||| 1023)=1023)↔n≤1023:=by
 constructor
 ·intro h
  have h1:(n ||| 1023) >>> 10=0:=by rw[h];rfl
  rw[Nat.shiftRight_or_distrib]at h1
  have h2:n >>> 10=0:=by
   have:=Nat.or_eq_zero_iff.1 h1
   exact this.1
  rw[Nat.shiftRight_eq_div_pow]at h2
  omega
 ·intro h
  have h1:n<2 ^ 10:=by omega
  apply Nat.eq_of_testBit_eq
  intro i
  rw[Nat.testBit_or]
  have e:(1023:Nat)=2 ^ 10-1:=rfl
  rw[e,Nat.testBit_two_pow_sub_one]
  by_cases hi:i<10
  ·simp[hi]
  ·simp[hi]
   exact Nat.testBit_lt_two_pow (Nat.lt_of_lt_of_le h1 (Nat.pow_le_pow_right (by omega) (by omega)))
theorem acp(e:Entry)(h:¬aC e.jS 0 1099511627776=true):jl e=false:=by
 have hb:(aC e.jS 0 1099511627776)=false:=by first|exact h|(simpa using h)|(simp;omega)
 simp only[jl,hb,Bool.false_and]
theorem acr(e:Entry)(h:¬aC e.jT 0 1099511627776=true):jl e=false:=by
 have hb:(aC e.jT 0 1099511627776)=false:=by first|exact h|(simpa using h)|(simp;omega)
 simp only[jl,hb,Bool.false_and,Bool.and_false]
theorem acs(e:Entry)(h:¬aC e.jF 0 2147483648=true):jl e=false:=by
 have hb:(aC e.jF 0 2147483648)=false:=by first|exact h|(simpa using h)|(simp;omega)
 simp only[jl,hb,Bool.false_and,Bool.and_false]
theorem acu(e:Entry)(h:¬aC e.jG 0 2147483648=true):jl e=false:=by
 have hb:(aC e.jG 0 2147483648)=false:=by first|exact h|(simpa using h)|(simp;omega)
 simp only[jl,hb,Bool.false_and,Bool.and_false]
theorem acv(e:Entry)(h:¬aC e.fails 0 65535=true):jl e=false:=by
 have hb:(aC e.fails 0 65535)=false:=by first|exact h|(simpa using h)|(simp;omega)
 simp only[jl,hb,Bool.false_and,Bool.and_false]
theorem acw(e:Entry)(h:¬aC e.dw 0 1099511627776=true):jl e=false:=by
 have hb:(aC e.dw 0 1099511627776)=false:=by first|exact h|(simpa using h)|(simp;omega)
 simp only[jl,hb,Bool.false_and,Bool.and_false]
theorem acx(e:Entry)(h:¬aC e.iw 0 1099511627776=true):jl e=false:=by
 have hb:(aC e.iw 0 1099511627776)=false:=by first|exact h|(simpa using h)|(simp;omega)
 simp only[jl,hb,Bool.and_false]
theorem acy(e:Entry)(h1:aC e.jS 0 1099511627776=true)(h2:aC e.jT 0 1099511627776=true)(h3:aC e.jF 0 2147483648=true)(h4:aC e.jG 0 2147483648=true)(h5:aC e.fails 0 65535=true)(h6:aC e.dw 0 1099511627776=true):jl e=(aC e.iw 0 1099511627776):=by
 have e1:(aC e.jS 0 1099511627776)=true:=by first|exact h1|(simpa using h1)|(simp;omega)
 have e2:(aC e.jT 0 1099511627776)=true:=by first|exact h2|(simpa using h2)|(simp;omega)
 have e3:(aC e.jF 0 2147483648)=true:=by first|exact h3|(simpa using h3)|(simp;omega)
 have e4:(aC e.jG 0 2147483648)=true:=by first|exact h4|(simpa using h4)|(simp;omega)
 have e5:(aC e.fails 0 65535)=true:=by first|exact h5|(simpa using h5)|(simp;omega)
 have e6:(aC e.dw 0 1099511627776)=true:=by first|exact h6|(simpa using h6)|(simp;omega)
 simp only[jl,e1,e2,e3,e4,e5,e6,Bool.true_and]
theorem QZ(a:Int)(h0:0≤a)(h1:a≤4294967295):(bits .or .i64 a 1023=1023)↔a≤1023:=by
 obtain⟨n,rfl⟩:=Int.eq_ofNat_of_zero_le h0
 have hn:n<4294967296:=by omega
 have hb:(BitVec.ofInt 64 (n:Int) ||| BitVec.ofInt 64 1023).toNat=n ||| 1023:=by
  rw[BitVec.toNat_or]
  have e1:(BitVec.ofInt 64 (n:Int)).toNat=n:=by simp;omega
  rw[e1];rfl
 have hlt:n ||| 1023<2 ^ 32:=Nat.or_lt_two_pow (by omega) (by omega)
 have:bits .or .i64 (n:Int) 1023=((n ||| 1023:Nat):Int):=by
  show IntKind.i64.wrap ((BitVec.ofInt 64 (n:Int) ||| BitVec.ofInt 64 1023).toNat:Int)=_
  rw[hb]
  exact IntWalk.i64_in _ (by omega)
 rw[this]
 have:=QY n
 omega
theorem JU{e:Entry}(h:(16<(e.keys.length:Int)∨32<(e.aP.size:Int))∨16<(e.history.length:Int)):kL e=false:=by
 have:(decide ((e.keys.length:Int)≤16)&&decide ((e.aP.size:Int)≤32)&&decide ((e.history.length:Int)≤16))=false:=by simp;omega
 simp only[kL]
 revert this
 cases decide ((e.keys.length:Int)≤16)<;>cases decide ((e.aP.size:Int)≤32)<;>cases decide ((e.history.length:Int)≤16)<;>simp
theorem acz{e:Entry}(h:¬visible e.aP=true):kL e=false:=by
 have:visible e.aP=false:=by simpa using h
 simp[kL,this]
theorem acA{e:Entry}(h:32<(e.aP.size:Int)):kL e=false:=JU (.inl (.inr h))
theorem acB{e:Entry}(h:16<(e.keys.length:Int)):kL e=false:=JU (.inl (.inl h))
theorem acC{e:Entry}(h:¬aC e.fH 0 65535=true):kL e=false:=by
 have:aC e.fH 0 65535=false:=by simpa using h
 simp[kL,this]
theorem acD{e:Entry}(h:¬e.attrs≤1023):kL e=false:=by simp[kL,wW,h]
theorem acE{e:Entry}(h:e.attrs≤1023)(h1:aC e.fH 0 65535=true)(h2:visible e.aP=true)(h3:((e.keys.length:Int)≤16∧(e.aP.size:Int)≤32)∧(e.history.length:Int)≤16):kL e=true:=by
 simp[kL,wW,h,h1,h2,h3]
theorem acF{e:Entry}(h:aZ e.name=false):bI e=false:=by simp[bI,h]
theorem acG{e:Entry}(h:different e.aliases=false):bI e=false:=by simp[bI,h]
theorem acH{e:Entry}(h:different e.targets=false):bI e=false:=by simp[bI,h]
theorem acI{e:Entry}(h:different e.bW=false):bI e=false:=by simp[bI,h]
theorem Q3{e:Entry}(k:Nat)(hk:k<e.aliases.length)(h:qQ e.name e.aliases[k]=false):bI e=false:=by
 have:=qK e.aliases k hk h;simp[bI,this]
theorem acJ{e:Entry}(k:Nat)(hk:k<e.keys.length)(h:gX e.fH e.keys[k]=false):bI e=false:=by
 have:=qK e.keys k hk h;simp[bI,this]
theorem Q4{α:Type}{f:α→α→Bool}{l:List α}(j:Nat)(hk:j+1<l.length)(h:f l[j] l[j+1]=false):ordered f l=false:=by
 have h1:j<l.length:=by omega
 exact Cf _ (j+1) hk (by simp[jA,hk,h1,h])
theorem acK{α:Type}{f:α→α→Bool}{l:List α}(j:Nat)(hk:j+1<l.length)(hh:(List.range (j+1)).all (jA f l)=true)(h:f l[j] l[j+1]=true):(List.range (j+1+1)).all (jA f l)=true:=by
 have h1:j<l.length:=by omega
 exact Fp (j+1) hh (by simp[jA,hk,h1,h])
theorem acL{α:Type}{f:α→α→Bool}(l:List α):(List.range (0+1)).all (jA f l)=true:=by simp[jA]
theorem Q5{e:Entry}(h:ordered kK e.keys=false):bI e=false:=by simp[bI,h]
theorem acM{e:Entry}(k:Nat)(hk:k<e.history.length)(h:((e.history[k].length:Int) == 16)=false):bI e=false:=by
 have:=qK (p:=fun h=>(h.length:Int) == 16) e.history k hk h;simp[bI,this]
theorem Az{e:Entry}(h:kL e=false):bI e=false:=by simp[bI,h]
theorem acN{e:Entry}(h1:aZ e.name=true)(h2:different e.aliases=true)(h3:different e.targets=true)(h4:different e.bW=true)(h5:e.aliases.all (qQ e.name)=true)(h6:e.keys.all (gX e.fH)=true)(h7:ordered kK e.keys=true)(h8:e.history.all (fun h=>(h.length:Int) == 16)=true)(h9:kL e=true):bI e=jl e:=by
 simp only[bI,h1,h2,h3,h4,h5,h6,h7,h8,h9,Bool.true_and]
end Go.WW
namespace Go.Proofs.YtpfifochimkpfaaGreatDoor
open Go.RowKit Go.WW
theorem acO(r:aK)(d:Entry)(w:World)(he:aS w r d):Calls Tryz.prog 46 #[.agg (ae r d)] w fun e w'=>e=.returned (.bool (bI d))∧Below w.heap.size w w':=by
 have hB:Below w.heap.size w (w.alloc (.cells (ae r d) 44)):=(Below.refl _ _).alloc (Nat.le_refl _) _
 cases h1:aZ d.name
 ·have HN:=Lib.hid (acF h1)
  go_enter Tryz.func46,Tryz.ntmps46
  go_wp2_with fail
  refine(sZ _ _ _ (he.name.later hB)).mono ?_
  rintro e w1 ⟨rfl,hb1⟩
  rw[h1]
  obtain⟨hc1,hf1,hr1⟩:=aQ hb1
  go_wp2
  go_ret
  exact⟨by rw[HN.out];rfl,hB.trans (hb1.mono (by simp))⟩
 cases h2:different d.aliases
 ·have HN:=Lib.hid (acG h2)
  go_enter Tryz.func46,Tryz.ntmps46
  go_wp2_with fail
  refine(sZ _ _ _ (he.name.later hB)).mono ?_
  rintro e w1 ⟨rfl,hb1⟩
  rw[h1]
  obtain⟨hc1,hf1,hr1⟩:=aQ hb1
  go_wp2_with fail
  refine(vg _ _ _ _ (he.aliases.later (hB.trans (hb1.mono (by simp))))).mono ?_
  rintro e w2 ⟨rfl,hb2⟩
  rw[h2]
  replace hb2:=ag hb1 hb2
  clear hc1 hf1 hr1
  obtain⟨hc2,hf2,hr2⟩:=aQ hb2
  go_wp2
  go_ret
  exact⟨by rw[HN.out];rfl,hB.trans (hb2.mono (by simp))⟩
 cases h3:different d.targets
 ·have HN:=Lib.hid (acH h3)
  go_enter Tryz.func46,Tryz.ntmps46
  go_wp2_with fail
  refine(sZ _ _ _ (he.name.later hB)).mono ?_
  rintro e w1 ⟨rfl,hb1⟩
  rw[h1]
  obtain⟨hc1,hf1,hr1⟩:=aQ hb1
  go_wp2_with fail
  refine(vg _ _ _ _ (he.aliases.later (hB.trans (hb1.mono (by simp))))).mono ?_
  rintro e w2 ⟨rfl,hb2⟩
  rw[h2]
  replace hb2:=ag hb1 hb2
  clear hc1 hf1 hr1
  obtain⟨hc2,hf2,hr2⟩:=aQ hb2
  go_wp2_with fail
  refine(vg _ _ _ _ (he.targets.later (hB.trans (hb2.mono (by simp))))).mono ?_
  rintro e w3 ⟨rfl,hb3⟩
  rw[h3]
  replace hb3:=ag hb2 hb3
  clear hc2 hf2 hr2
  obtain⟨hc3,hf3,hr3⟩:=aQ hb3
  go_wp2
  go_ret
  exact⟨by rw[HN.out];rfl,hB.trans (hb3.mono (by simp))⟩
 cases h4:different d.bW
 ·have HN:=Lib.hid (acI h4)
  go_enter Tryz.func46,Tryz.ntmps46
  go_wp2_with fail
  refine(sZ _ _ _ (he.name.later hB)).mono ?_
  rintro e w1 ⟨rfl,hb1⟩
  rw[h1]
  obtain⟨hc1,hf1,hr1⟩:=aQ hb1
  go_wp2_with fail
  refine(vg _ _ _ _ (he.aliases.later (hB.trans (hb1.mono (by simp))))).mono ?_
  rintro e w2 ⟨rfl,hb2⟩
  rw[h2]
  replace hb2:=ag hb1 hb2
  clear hc1 hf1 hr1
  obtain⟨hc2,hf2,hr2⟩:=aQ hb2
  go_wp2_with fail
  refine(vg _ _ _ _ (he.targets.later (hB.trans (hb2.mono (by simp))))).mono ?_
  rintro e w3 ⟨rfl,hb3⟩
  rw[h3]
  replace hb3:=ag hb2 hb3
  clear hc2 hf2 hr2
  obtain⟨hc3,hf3,hr3⟩:=aQ hb3
  go_wp2_with fail
  refine(vg _ _ _ _ (he.bW.later (hB.trans (hb3.mono (by simp))))).mono ?_
  rintro e w4 ⟨rfl,hb4⟩
  rw[h4]
  replace hb4:=ag hb3 hb4
  clear hc3 hf3 hr3
  obtain⟨hc4,hf4,hr4⟩:=aQ hb4
  go_wp2
  go_ret
  exact⟨by rw[HN.out];rfl,hB.trans (hb4.mono (by simp))⟩
 go_enter Tryz.func46,Tryz.ntmps46
 go_wp2_with fail
 refine(sZ _ _ _ (he.name.later hB)).mono ?_
 rintro e w1 ⟨rfl,hb1⟩
 rw[h1]
 obtain⟨hc1,hf1,hr1⟩:=aQ hb1
 go_wp2_with fail
 refine(vg _ _ _ _ (he.aliases.later (hB.trans (hb1.mono (by simp))))).mono ?_
 rintro e w2 ⟨rfl,hb2⟩
 rw[h2]
 replace hb2:=ag hb1 hb2
 clear hc1 hf1 hr1
 obtain⟨hc2,hf2,hr2⟩:=aQ hb2
 go_wp2_with fail
 refine(vg _ _ _ _ (he.targets.later (hB.trans (hb2.mono (by simp))))).mono ?_
 rintro e w3 ⟨rfl,hb3⟩
 rw[h3]
 replace hb3:=ag hb2 hb3
 clear hc2 hf2 hr2
 obtain⟨hc3,hf3,hr3⟩:=aQ hb3
 go_wp2_with fail
 refine(vg _ _ _ _ (he.bW.later (hB.trans (hb3.mono (by simp))))).mono ?_
 rintro e w4 ⟨rfl,hb4⟩
 rw[h4]
 replace hb4:=ag hb3 hb4
 clear hc3 hf3 hr3
 obtain⟨hc4,hf4,hr4⟩:=aQ hb4
 clear hc4 hf4 hr4
 have H1:=Lib.hid h1;clear h1
 have H2:=Lib.hid h2;clear h2
 have H3:=Lib.hid h3;clear h3
 have H4:=Lib.hid h4;clear h4
 go_wp2
 go_loopw [3] (fun i wr=>Below (w.alloc (.cells (ae r d) 44)).heap.size (w.alloc (.cells (ae r d) 44)) wr∧∃k:Nat,k≤d.aliases.length∧i=.int .i64 k∧Hid ((d.aliases.take k).all (qQ d.name)=true)) (fun i _=>d.aliases.length-(intOf i).toNat)
 case atStart=>exact⟨hb4,0,Nat.zero_le _,rfl,by simp[Hid]⟩
 case round=>
  obtain⟨hbr,k,hk,rfl,hall⟩:=hrel
  have hn1:d.aliases.length≤4294967000:=he.aliases.1
  obtain⟨hcc,bf,hrr⟩:=aQ hbr
  have hsz:w.heap.size<wr.heap.size:=by have:=hbr.size;simp at this;omega
  by_cases hlt:k<d.aliases.length
  ·obtain⟨b,o,t,ha,hc,hp⟩:=he.aliases.get k hlt
   have hb:b<w.heap.size:=fA hc
   have hb1:b<w.heap.size+1:=by omega
   have hki:(k:Int)<(d.aliases.length:Int):=by omega
   have c1:w.cell? ⟨b,o+k*2+1,none⟩=some (.string d.aliases[k].aJ):=by simpa[PO]using ji hc 1 (by omega)
   by_cases hr:d.aliases[k].aJ=d.name.aJ
   ·have hr':=str_eq _ _ hr
    cases hs:bD d.aliases[k] d.name
    ·have HS:=Lib.hid (lu (p:=qQ d.name) d.aliases k hlt hall.out (by simp[qQ,hr,hs]))
     clear hr
     go_wp2
     refine dN hbr (by kernel_rfl) (by kernel_rfl) ?_
     repeat (go_big_quiet_step ((go_at_call 41;rename_i xw;exact Calls.iq (hs▸uV _ _ _ _ _ (hp.later (hB.trans (xw.b.mono (by simp)))) (he.name.later (hB.trans (xw.b.mono (by simp))))))))
     refine wpQuiet_nil ?_
     intro w2 hb2
     go_wp2
     go_roundw
     case rel=>exact⟨hb2,k+1,by omega,by go_num,HS.out⟩
     case measure=>simp[intOf];omega
    ·have HS:=Lib.hid (Q3 k hlt (by simp[qQ,hs]))
     clear hr
     go_wp2
     refine dN hbr (by kernel_rfl) (by kernel_rfl) ?_
     repeat (go_big_quiet_step ((go_at_call 41;rename_i xw;exact Calls.iq (hs▸uV _ _ _ _ _ (hp.later (hB.trans (xw.b.mono (by simp)))) (he.name.later (hB.trans (xw.b.mono (by simp))))))))
     refine wpQuiet_nil ?_
     intro w2 hb2
     go_wp2
     go_ret
     exact⟨by rw[HS.out];rfl,hB.trans (hb2.mono (by simp))⟩
   ·have hr':=kJ _ _ hr
    have HS:=Lib.hid (Q3 k hlt (by simp[qQ,hr]))
    clear hr
    go_wp2
    refine dN hbr (by kernel_rfl) (by kernel_rfl) ?_
    repeat (go_big_quiet_step (fail))
    refine wpQuiet_nil ?_
    intro w2 hb2
    go_wp2
    go_ret
    exact⟨by rw[HS.out];rfl,hB.trans (hb2.mono (by simp))⟩
  ·have H5:=Lib.hid (qL d.aliases k (by omega) hall.out)
   clear hall
   go_wp2
   clear hcc bf hrr hn1
   have jY:=hbr
   clear hbr hk hlt
   obtain⟨wo,hwo⟩:∃wo:World,wo=wr:=⟨_,rfl⟩
   subst hwo
   go_loopw [4] (fun i wr=>Below (w.alloc (.cells (ae r d) 44)).heap.size (w.alloc (.cells (ae r d) 44)) wr∧∃k:Nat,k≤d.keys.length∧i=.int .i64 k∧Hid ((d.keys.take k).all (gX d.fH)=true)∧Hid ((List.range k).all (jA kK d.keys)=true)) (fun i _=>d.keys.length-(intOf i).toNat)
   case atStart=>exact⟨jY,0,Nat.zero_le _,rfl,by simp[Hid],by simp[Hid]⟩
   case round=>
    obtain⟨hbr,k,hk,rfl,hall,hord⟩:=hrel
    have hn1:d.keys.length≤4294967000:=he.keys.1
    obtain⟨hcc,bf,hrr⟩:=aQ hbr
    have hsz:w.heap.size<wr.heap.size:=by have:=hbr.size;simp at this;omega
    by_cases hlt:k<d.keys.length
    ·obtain⟨b,o,t,ha,hc,hp⟩:=he.keys.get k hlt
     have hb:b<w.heap.size:=fA hc
     have hb1:b<w.heap.size+1:=by omega
     have hki:(k:Int)<(d.keys.length:Int):=by omega
     have c0:w.cell? ⟨b,o+k*5,none⟩=some (.int .i64 d.keys[k].version):=by simpa[Jo]using ji hc 0 (by omega)
     have c4:w.cell? ⟨b,o+k*5+4,none⟩=some (.int .i64 d.keys[k].created):=by simpa[Jp]using ji hc 4 (by omega)
     cases hs:gX d.fH d.keys[k]
     ·have HS:=Lib.hid (acJ k hlt hs)
      go_wp2
      refine dN hbr (by kernel_rfl) (by kernel_rfl) ?_
      repeat (go_big_quiet_step ((go_at_call 80;rename_i xw;exact Calls.iq (hs▸CB _ _ _ _ (hp.later (hB.trans (xw.b.mono (by simp))))))))
      refine wpQuiet_nil ?_
      intro w2 hb2
      go_wp2
      go_ret
      exact⟨by rw[HS.out];rfl,hB.trans (hb2.mono (by simp))⟩
     ·have HS:=Lib.hid (lu (p:=gX d.fH) d.keys k hlt hall.out hs)
      by_cases h0:k=0
      ·subst h0
       simp only[Nat.zero_mul,Nat.add_zero]at hc c0 c4
       have hkz:(0:Int)<(d.keys.length:Int):=by omega
       clear hki
       rw[show((0:Nat):Int)=0 from rfl]
       go_wp2
       refine dN hbr (by kernel_rfl) (by kernel_rfl) ?_
       repeat (go_big_quiet_step ((go_at_call 80;rename_i xw;exact Calls.iq (hs▸CB _ _ _ _ (hp.later (hB.trans (xw.b.mono (by simp))))))))
       refine wpQuiet_nil ?_
       intro w2 hb2
       go_wp2
       go_roundw
       case rel=>exact⟨hb2,1,by omega,by go_num,HS.out,acL _⟩
       case measure=>simp[intOf];omega
      ·obtain⟨j,rfl⟩:∃j,k=j+1:=⟨k-1,by omega⟩
       clear h0
       have hj:j<d.keys.length:=by omega
       obtain⟨b',o',t',ha',hc',hp'⟩:=he.keys.get j hj
       rw[ha]at ha'
       obtain⟨rfl,rfl⟩:b=b'∧o=o':=by cases ha';exact⟨rfl,rfl⟩
       clear ha' hp'
       have e0:w.cell? ⟨b,o+j*5,none⟩=some (.int .i64 d.keys[j].version):=by simpa[Jo]using ji hc' 0 (by omega)
       have e4:w.cell? ⟨b,o+j*5+4,none⟩=some (.int .i64 d.keys[j].created):=by simpa[Jp]using ji hc' 4 (by omega)
       clear hc'
       have hp0:(0:Int)<(j:Int)+1:=by omega
       have hp1:decide ((0:Int)<(j:Int)+1)=true:=by simp
       have hp2:(j:Int)<(d.keys.length:Int):=by omega
       by_cases hv:d.keys[j].version≤d.keys[j+1].version
       ·have hv':decide (d.keys[j].version≤d.keys[j+1].version)=true:=by simpa using hv
        have HN:=Lib.hid (Q5 (Q4 (f:=kK) j hlt (by simp[kK];omega)))
        go_wp2
        refine dN hbr (by kernel_rfl) (by kernel_rfl) ?_
        repeat (go_big_quiet_step ((go_at_call 80;rename_i xw;exact Calls.iq (hs▸CB _ _ _ _ (hp.later (hB.trans (xw.b.mono (by simp))))))))
        refine wpQuiet_nil ?_
        intro w2 hb2
        go_wp2
        go_ret
        exact⟨by rw[HN.out];rfl,hB.trans (hb2.mono (by simp))⟩
       ·have hv':decide (d.keys[j].version≤d.keys[j+1].version)=false:=by simpa using hv
        by_cases hx:d.keys[j].created<d.keys[j+1].created
        ·have hx':decide (d.keys[j].created<d.keys[j+1].created)=true:=by simpa using hx
         have HN:=Lib.hid (Q5 (Q4 (f:=kK) j hlt (by simp[kK];omega)))
         go_wp2
         refine dN hbr (by kernel_rfl) (by kernel_rfl) ?_
         repeat (go_big_quiet_step ((go_at_call 80;rename_i xw;exact Calls.iq (hs▸CB _ _ _ _ (hp.later (hB.trans (xw.b.mono (by simp))))))))
         refine wpQuiet_nil ?_
         intro w2 hb2
         go_wp2
         go_ret
         exact⟨by rw[HN.out];rfl,hB.trans (hb2.mono (by simp))⟩
        ·have hx':decide (d.keys[j].created<d.keys[j+1].created)=false:=by simpa using hx
         have HN:=Lib.hid (acK (f:=kK) j hlt hord.out (by simp[kK];omega))
         go_wp2
         refine dN hbr (by kernel_rfl) (by kernel_rfl) ?_
         repeat (go_big_quiet_step ((go_at_call 80;rename_i xw;exact Calls.iq (hs▸CB _ _ _ _ (hp.later (hB.trans (xw.b.mono (by simp))))))))
         refine wpQuiet_nil ?_
         intro w2 hb2
         go_wp2
         go_roundw
         case rel=>exact⟨hb2,j+1+1,by omega,by go_num,HS.out,HN.out⟩
         case measure=>simp[intOf];omega
    ·have H6:=Lib.hid (qL d.keys k (by omega) hall.out)
     have H7:=Lib.hid (abB d.keys.length k (by omega) hord.out)
     clear hall hord
     go_wp2
     clear hn1
     have hn2:d.history.length≤4294967000:=he.history.1
     go_loop [5] (fun i=>∃k:Nat,k≤d.history.length∧i=.int .i64 k∧Hid ((d.history.take k).all (fun h=>(h.length:Int) == 16)=true)) (fun i=>d.history.length-(intOf i).toNat)
     case atStart=>exact⟨0,Nat.zero_le _,rfl,by simp[Hid]⟩
     case round=>
      obtain⟨j,hj,rfl,hall⟩:=hrel
      by_cases hjl:j<d.history.length
      ·obtain⟨b,o,t,ha,hc,hp⟩:=he.history.get j hjl
       have hb:b<w.heap.size:=World.block_lt_of_cell? w _ hc
       have hb1:b<w.heap.size+1:=by omega
       have hki:(j:Int)<(d.history.length:Int):=by omega
       cases hs:((d.history[j].length:Int) == 16)
       ·have HS:=Lib.hid (acM j hjl hs)
        have hs':((d.history[j].length:Int) != 16)=true:=by simp[bne,hs]
        go_wp2
        go_ret
        exact⟨by rw[HS.out];rfl,hB.trans (hbr.mono (by simp))⟩
       ·have HS:=Lib.hid (lu (p:=fun h=>(h.length:Int) == 16) d.history j hjl hall.out hs)
        have hs':((d.history[j].length:Int) != 16)=false:=by simp[bne,hs]
        go_wp2
        go_round
        case rel=>exact⟨j+1,by omega,by go_num,HS.out⟩
        case measure=>simp[intOf];omega
      ·have H8:=Lib.hid (qL d.history j (by omega) hall.out)
       clear hall
       have hpo:=he.aP
       have ha0:=he.attrs.1
       have ha1:=he.attrs.2
       by_cases hat:d.attrs≤1023
       ·have hbit:(bits BinOp.or IntKind.i64 d.attrs 1023 != 1023)=false:=by simpa using(QZ d.attrs ha0 ha1).2 hat
        go_wp2_with (first|(go_at_call 81;refine(qJ _ _ _ _).mono ?_;rintro e w' ⟨rfl,rfl⟩)|(go_at_call 42;refine(Jy _ _ (le_max hpo)).mono ?_;rintro e w' ⟨rfl,rfl⟩))
        all_goals go_ret
        all_goals
         refine⟨?_,hB.trans (hbr.mono (by simp))⟩
         first
          |(rw[Az (JU ‹_›)];rfl)
          |(rw[Az (acz ‹_›)];rfl)
          |(rw[Az (acA ‹_›)];rfl)
          |(rw[Az (acB ‹_›)];rfl)
          |(rw[Az (acC ‹_›)];rfl)
          |(rw[acN H1.out H2.out H3.out H4.out H5.out H6.out H7.out H8.out (acE hat ‹_› ‹_› ‹_›)];first|(rw[acp d ‹_›];rfl)|(rw[acr d ‹_›];rfl)|(rw[acs d ‹_›];rfl)|(rw[acu d ‹_›];rfl)|(rw[acv d ‹_›];rfl)|(rw[acw d ‹_›];rfl)|(rw[acx d ‹_›];rfl)|(rw[acy d ‹_› ‹_› ‹_› ‹_› ‹_› ‹_›];rfl))
       ·have hbit:(bits BinOp.or IntKind.i64 d.attrs 1023 != 1023)=true:=by simpa using mt (QZ d.attrs ha0 ha1).1 hat
        have HN:=Lib.hid (Az (acD hat))
        clear hat
        go_wp2_with (first|(go_at_call 81;refine(qJ _ _ _ _).mono ?_;rintro e w' ⟨rfl,rfl⟩)|(go_at_call 42;refine(Jy _ _ (le_max hpo)).mono ?_;rintro e w' ⟨rfl,rfl⟩))
        go_ret
        exact⟨by rw[HN.out];rfl,hB.trans (hbr.mono (by simp))⟩
end Go.Proofs.YtpfifochimkpfaaGreatDoor
namespace Go.WW
def fK(d:Entry)(p:ah)(now:Int):Bool:=bI d&&dA p&&jc now
theorem acP{d:Entry}{p:ah}{now:Int}(h:bI d=false):fK d p now=false:=by rw[fK,h];rfl
theorem acQ{d:Entry}{p:ah}{now:Int}(h:dA p=false):fK d p now=false:=by rw[fK,h];simp
theorem acR{d:Entry}{p:ah}{now:Int}(h:bI d=true)(h':dA p=true):fK d p now=jc now:=by rw[fK,h,h'];rfl
end Go.WW
namespace Go.Proofs.YtpfifochimkpfaaGreatDoor
open Go.RowKit Go.WW
theorem Q7(r:aK)(d:Entry)(p:ah)(now:Int)(w:World)(hs:Small d p) :
  Calls Tryz.prog 12 #[.agg (ae r d),.agg (ak p),.int .i64 now] w fun e w'=>e=.returned (.bool (fZ d p now))∧Below w.heap.size w w':=by
 go_enter Tryz.func12,Tryz.ntmps12
 have hB:Below w.heap.size w ((w.alloc (.cells (ae r d) 44)).alloc (.cells (ak p) 52)):=((Below.refl _ _).alloc (Nat.le_refl _) _).alloc (by simp) _
 cases h0:decide (0<p.fails)
 ·have HN:=Lib.hid (show fZ d p now=false by rw[fZ,h0];rfl)
  go_wp2_with fail
  refine dN (Below.refl _ ((w.alloc (.cells (ae r d) 44)).alloc (.cells (ak p) 52))) (by kernel_rfl) (by kernel_rfl) ?_
  repeat (go_big_quiet_step (fail))
  refine wpQuiet_nil ?_
  intro w2 hb2
  go_wp2_with fail
  go_ret
  exact⟨by rw[HN.out];rfl,hB.trans (hb2.mono (by simp;omega))⟩
 ·have HN:=Lib.hid (show fZ d p now=decide (p.fails≤countOf d p now) by rw[fZ,h0];rfl)
  go_wp2_with fail
  refine dN (Below.refl _ ((w.alloc (.cells (ae r d) 44)).alloc (.cells (ak p) 52))) (by kernel_rfl) (by kernel_rfl) ?_
  repeat (go_big_quiet_step ((go_at_call 44;exact Calls.iq (JS _ _ _ _ _ hs))))
  refine wpQuiet_nil ?_
  intro w2 hb2
  go_wp2_with fail
  go_ret
  exact⟨by rw[HN.out];rfl,hB.trans (hb2.mono (by simp;omega))⟩
end Go.Proofs.YtpfifochimkpfaaGreatDoor
namespace Go.WW
open Go.RowKit
theorem CE{P:Program}{w:World}{mty kt et:TypeId}{d:TypeDesc}{r clock:Nat}{es:Array MapEntry}{k:Value}(v:Value)(hm:P.underlying mty=some (.map kt et))(hd:P.underlying kt=some d)(hk:MapKept.IsKey d k)
  (hf:Instr.findNow d k es.toList 0=some none) (hb:w.heap[r]?=some (.map es clock)) :
  (Instr.mapUpdate mty (.map (some r)) k v).run P w=.ok () (w.putObj r (.map (es.push {key:=k,val:=v,born:=clock}) (clock+1))):=by
 have hc:(Instr.checkKey false 10000 kt k).run P w=.ok () w:=MapKept.run_checkKey hd hk false 9999
 simp[Instr.mapUpdate,run_underlying hm,MapKept.run_getObj_map hb,hc,MapKept.run_findKey hd hf,MapKept.run_setObj_map _ hb,Result.andThen,World.putObj]
theorem JV{P:Program}{w:World}{mty kt et:TypeId}{d:TypeDesc}{r clock i:Nat}{es:Array MapEntry}{k v:Value}(hm:P.underlying mty=some (.map kt et))(hd:P.underlying kt=some d)(hk:MapKept.IsKey d k)
  (hf:Instr.findNow d k es.toList 0=some (some (i,v))) (hb:w.heap[r]?=some (.map es clock)) :
  (Instr.lookup mty (.map (some r)) k false).run P w=.ok v w:=by
 have hc:(Instr.checkKey es.isEmpty 10000 kt k).run P w=.ok () w:=MapKept.run_checkKey hd hk _ 9999
 simp[Instr.lookup,run_underlying hm,MapKept.run_getObj_map hb,hc,MapKept.run_findKey hd hf,Result.andThen]
end Go.WW
namespace Go.Proofs.YtpfifochimkpfaaGreatDoor
open Go.RowKit Go.WW
theorem acS(B:Nat)(now last lock:Int)(w:World)(h1:w.cell? ⟨B,26,none⟩=some (.int .i64 lock))(h2:w.cell? ⟨B,12,none⟩=some (.int .i64 last))(h3:w.cell? ⟨B+1,0,none⟩=some (.int .i64 now))
  (hx:0≤last∧last≤1099511627776) (hy:0≤lock∧lock≤1099511627776) :
  Calls Tryz.prog 109 #[.pointer (some ⟨B,0,none⟩),.pointer (some ⟨B+1,0,none⟩)] w fun e w'=>e=.returned (.bool (decide (0<lock)&&decide (last+lock≤now)))∧Below w.heap.size w w':=by
 go_enter Tryz.func109,Tryz.ntmps109
 by_cases hz:lock=0
 ·have hz':(lock != 0)=false:=by simp[hz]
  have HN:=Lib.hid (show(decide (0<lock)&&decide (last+lock≤now))=false by rw[decide_eq_false (by omega)];rfl)
  clear hz
  go_wp2_with fail
  all_goals go_ret
  all_goals exact⟨by rw[HN.out];rfl,Below.refl _ _⟩
 ·have hz':(lock != 0)=true:=by simp[hz]
  have HN:=Lib.hid (show(decide (0<lock)&&decide (last+lock≤now))=decide (last+lock≤now) by rw[decide_eq_true (p:=0<lock) (by omega)];rfl)
  clear hz
  go_wp2_with (go_at_call 110;refine(ab4 _ _ _ last lock _ (by simp[go_sem]) (by simp[go_sem]) hx hy).mono ?_;rintro e w' ⟨rfl,rfl⟩)
  all_goals go_ret
  all_goals exact⟨by rw[HN.out];rfl,(Below.refl _ _).alloc (Nat.le_refl _) _⟩
theorem Q8(B:Nat)(now last lock:Int)(w:World)(h1:w.cell? ⟨B,25,none⟩=some (.int .i64 lock))(h2:w.cell? ⟨B,12,none⟩=some (.int .i64 last))(h3:w.cell? ⟨B+1,0,none⟩=some (.int .i64 now))
  (hx:0≤last∧last≤1099511627776) (hy:0≤lock∧lock≤1099511627776) :
  Calls Tryz.prog 111 #[.pointer (some ⟨B,0,none⟩),.pointer (some ⟨B+1,0,none⟩)] w fun e w'=>e=.returned (.bool (decide (0<lock)&&decide (last+lock<now)))∧Below w.heap.size w w':=by
 go_enter Tryz.func111,Tryz.ntmps111
 by_cases hz:lock=0
 ·have hz':(lock != 0)=false:=by simp[hz]
  have HN:=Lib.hid (show(decide (0<lock)&&decide (last+lock<now))=false by rw[decide_eq_false (by omega)];rfl)
  clear hz
  go_wp2_with fail
  all_goals go_ret
  all_goals exact⟨by rw[HN.out];rfl,Below.refl _ _⟩
 ·have hz':(lock != 0)=true:=by simp[hz]
  have HN:=Lib.hid (show(decide (0<lock)&&decide (last+lock<now))=decide (last+lock<now) by rw[decide_eq_true (p:=0<lock) (by omega)];rfl)
  clear hz
  go_wp2_with (go_at_call 112;refine(ab5 _ _ _ last lock _ (by simp[go_sem]) (by simp[go_sem]) hx hy).mono ?_;rintro e w' ⟨rfl,rfl⟩)
  all_goals go_ret
  all_goals exact⟨by rw[HN.out];rfl,(Below.refl _ _).alloc (Nat.le_refl _) _⟩
end Go.Proofs.YtpfifochimkpfaaGreatDoor
