/- A part of the proof. -/
import Derived.Test.YtibhckkjciflaaaGreatDoorA17
import Derived.Test.YtibhckkjciflaaaGreatDoorA15
import Derived.Test.YtibhckkjciflaaaGreatDoorA16
import Derived.Deep.RegionWith
import Derived.BigRegion
set_option maxRecDepth 100000
set_option maxHeartbeats 2000000
namespace Go.WW
open Go.RowKit
theorem Bq{α:Type}{q:α→Bool}{l:List α}{most:Int}(h:decide (most<(l.length:Int))=true):(decide ((l.length:Int)≤most)&&l.all q)=false:=by
 rw[decide_eq_true_eq]at h
 rw[decide_eq_false (by omega)];rfl
theorem Bv{α:Type}{q:α→Bool}{l:List α}{most:Int}(h:decide (most<(l.length:Int))=false):(decide ((l.length:Int)≤most)&&l.all q)=l.all q:=by
 rw[decide_eq_false_iff_not]at h
 rw[decide_eq_true (p:=(l.length:Int)≤most) (by omega)];rfl
end Go.WW
namespace Go.Proofs.YtibhckkjciflaaaGreatDoor
open Go.RowKit Go.WW
structure Enters(f:FuncId):Prop where
 run:∀(args:Array Value) (w:World),(callFunc f args).run Tryz.prog w=.ok (.enter f args) w
theorem acA(a:Option Addr)(cap f:Nat)(most:Int)(w:World):Calls Tryz.prog 132 #[.slice a 0 cap,.int .i64 most,.func (.func f) #[] #[]] w fun e w'=>e=.returned (.bool (decide ((0:Int)≤most)))∧Below w.heap.size w w':=by
 go_enter Tryz.func132,Tryz.ntmps132
 cases hm:decide (most<(0:Int))
 ·have HN:=Lib.hid (show decide ((0:Int)≤most)=true by simp at hm ⊢;omega)
  go_wp2_with fail
  refine wp_loop_rounds 1 ?_
  rw[rounds_succ]
  go_wp2_with fail
  go_ret
  exact⟨by rw[HN.out];rfl,Below.refl _ _⟩
 ·have HN:=Lib.hid (show decide ((0:Int)≤most)=false by simp at hm ⊢;omega)
  go_wp2_with fail
  go_ret
  exact⟨by rw[HN.out];rfl,Below.refl _ _⟩
theorem acB(a:Option Addr)(cap f:Nat)(most:Int)(l:List aG)(q:aG→Bool)(w:World)(hcf:Enters f)(hl:fH w a l)
  (hf:∀(x:Later w) (s:Sl) (p:aG),p∈l→gu x.w s p→Calls Tryz.prog f #[.agg (aJ s p)] x.w fun e w'=>e=.returned (.bool (q p))∧Below x.w.heap.size x.w w') :
  Calls Tryz.prog 132 #[.slice a l.length cap,.int .i64 most,.func (.func f) #[] #[]] w fun e w'=>e=.returned (.bool (decide ((l.length:Int)≤most)&&l.all q))∧Below w.heap.size w w':=by
 have hn:l.length≤4294967000:=hl.1
 rcases cu.addr hl with h0|⟨b,o,rfl,hb⟩
 ·obtain rfl:l=[]:=List.eq_nil_of_length_eq_zero h0
  have:=acA a cap f most w
  simpa using this
 have HF:=Lib.hid hf
 have EJ:=hcf.run
 clear hf hcf
 go_enter Tryz.func132,Tryz.ntmps132
 cases hm:decide (most<(l.length:Int))
 ·have HM:=Lib.hid (Bv (q:=q) hm)
  go_wp2_with fail
  go_loopw [15] (fun i wr=>Below w.heap.size w wr∧∃k:Nat,k≤l.length∧i=.int .i64 k∧Hid ((l.take k).all q=true)) (fun i _=>l.length-(intOf i).toNat)
  case atStart=>exact⟨Below.refl _ _,0,Nat.zero_le _,rfl,by simp[Hid]⟩
  case round=>
   obtain⟨hbr,k,hk,rfl,hall⟩:=hrel
   by_cases hlt:k<l.length
   ·obtain⟨t,hc,hp⟩:=hl.at k hlt
    obtain⟨hcc,ax,hrr⟩:=aK hbr
    go_wp2_with fail
    have hb1:=az hbr (.cells (aJ t l[k]) 25)
    have HB:=Lib.hid hb1
    clear hb1
    refine(HF.out ⟨_,HB.out⟩ t l[k] (List.getElem_mem hlt) (hp.later HB.out)).mono ?_
    rintro e w1 ⟨rfl,hb2⟩
    have hb3:=af HB.out hb2
    clear hcc ax hrr
    cases hv:q l[k]
    ·have HN:=Lib.hid (o6 l k hlt hv)
     go_wp2_with fail
     go_ret
     exact⟨by rw[HM.out,HN.out];rfl,hb3⟩
    ·have HN:=Lib.hid (lM l k hlt hall.out hv)
     go_wp2_with fail
     go_roundw
     case rel=>exact⟨hb3,k+1,by omega,by go_num,HN.out⟩
     case measure=>simp[intOf];omega
   ·have HN:=Lib.hid (o7 l k (by omega) hall.out)
    go_wp2_with fail
    go_ret
    exact⟨by rw[HM.out,HN.out];rfl,hbr⟩
 ·have HM:=Lib.hid (Bq (q:=q) hm)
  go_wp2_with fail
  go_ret
  exact⟨by rw[HM.out];rfl,Below.refl _ _⟩
theorem acC(a:Option Addr)(cap f:Nat)(most:Int)(B0:Nat)(w:World):Calls Tryz.prog 132 #[.slice a 0 cap,.int .i64 most,.func (.func f) #[] #[.pointer (some ⟨B0,0,none⟩)]] w fun e w'=>e=.returned (.bool (decide ((0:Int)≤most)))∧Below w.heap.size w w':=by
 go_enter Tryz.func132,Tryz.ntmps132
 cases hm:decide (most<(0:Int))
 ·have HN:=Lib.hid (show decide ((0:Int)≤most)=true by simp at hm ⊢;omega)
  go_wp2_with fail
  refine wp_loop_rounds 1 ?_
  rw[rounds_succ]
  go_wp2_with fail
  go_ret
  exact⟨by rw[HN.out];rfl,Below.refl _ _⟩
 ·have HN:=Lib.hid (show decide ((0:Int)≤most)=false by simp at hm ⊢;omega)
  go_wp2_with fail
  go_ret
  exact⟨by rw[HN.out];rfl,Below.refl _ _⟩
theorem acD(a:Option Addr)(cap f:Nat)(most:Int)(l:List aG)(B0:Nat)(q:aG→Bool)(w:World)(hcf:Enters f)(hl:fH w a l)
  (hf:∀(x:Later w) (s:Sl) (p:aG),p∈l→gu x.w s p→Calls Tryz.prog f #[.agg (aJ s p),.pointer (some ⟨B0,0,none⟩)] x.w fun e w'=>e=.returned (.bool (q p))∧Below x.w.heap.size x.w w') :
  Calls Tryz.prog 132 #[.slice a l.length cap,.int .i64 most,.func (.func f) #[] #[.pointer (some ⟨B0,0,none⟩)]] w fun e w'=>e=.returned (.bool (decide ((l.length:Int)≤most)&&l.all q))∧Below w.heap.size w w':=by
 have hn:l.length≤4294967000:=hl.1
 rcases cu.addr hl with h0|⟨b,o,rfl,hb⟩
 ·obtain rfl:l=[]:=List.eq_nil_of_length_eq_zero h0
  have:=acC a cap f most B0 w
  simpa using this
 have HF:=Lib.hid hf
 have EJ:=hcf.run
 clear hf hcf
 go_enter Tryz.func132,Tryz.ntmps132
 cases hm:decide (most<(l.length:Int))
 ·have HM:=Lib.hid (Bv (q:=q) hm)
  go_wp2_with fail
  go_loopw [15] (fun i wr=>Below w.heap.size w wr∧∃k:Nat,k≤l.length∧i=.int .i64 k∧Hid ((l.take k).all q=true)) (fun i _=>l.length-(intOf i).toNat)
  case atStart=>exact⟨Below.refl _ _,0,Nat.zero_le _,rfl,by simp[Hid]⟩
  case round=>
   obtain⟨hbr,k,hk,rfl,hall⟩:=hrel
   by_cases hlt:k<l.length
   ·obtain⟨t,hc,hp⟩:=hl.at k hlt
    obtain⟨hcc,ax,hrr⟩:=aK hbr
    go_wp2_with fail
    have hb1:=az hbr (.cells (aJ t l[k]) 25)
    have HB:=Lib.hid hb1
    clear hb1
    refine(HF.out ⟨_,HB.out⟩ t l[k] (List.getElem_mem hlt) (hp.later HB.out)).mono ?_
    rintro e w1 ⟨rfl,hb2⟩
    have hb3:=af HB.out hb2
    clear hcc ax hrr
    cases hv:q l[k]
    ·have HN:=Lib.hid (o6 l k hlt hv)
     go_wp2_with fail
     go_ret
     exact⟨by rw[HM.out,HN.out];rfl,hb3⟩
    ·have HN:=Lib.hid (lM l k hlt hall.out hv)
     go_wp2_with fail
     go_roundw
     case rel=>exact⟨hb3,k+1,by omega,by go_num,HN.out⟩
     case measure=>simp[intOf];omega
   ·have HN:=Lib.hid (o7 l k (by omega) hall.out)
    go_wp2_with fail
    go_ret
    exact⟨by rw[HM.out,HN.out];rfl,hbr⟩
 ·have HM:=Lib.hid (Bq (q:=q) hm)
  go_wp2_with fail
  go_ret
  exact⟨by rw[HM.out];rfl,Below.refl _ _⟩
theorem acE(a:Option Addr)(cap f:Nat)(most:Int)(B0:Nat)(w:World):Calls Tryz.prog 134 #[.slice a 0 cap,.int .i64 most,.func (.func f) #[] #[.pointer (some ⟨B0,0,none⟩)]] w fun e w'=>e=.returned (.bool (decide ((0:Int)≤most)))∧Below w.heap.size w w':=by
 go_enter Tryz.func134,Tryz.ntmps134
 cases hm:decide (most<(0:Int))
 ·have HN:=Lib.hid (show decide ((0:Int)≤most)=true by simp at hm ⊢;omega)
  go_wp2_with fail
  refine wp_loop_rounds 1 ?_
  rw[rounds_succ]
  go_wp2_with fail
  go_ret
  exact⟨by rw[HN.out];rfl,Below.refl _ _⟩
 ·have HN:=Lib.hid (show decide ((0:Int)≤most)=false by simp at hm ⊢;omega)
  go_wp2_with fail
  go_ret
  exact⟨by rw[HN.out];rfl,Below.refl _ _⟩
theorem acF(a:Option Addr)(cap f:Nat)(most:Int)(l:List aW)(B0:Nat)(q:aW→Bool)(w:World)(hcf:Enters f)(hl:kV w a l)
  (hf:∀(x:Later w) (s:Sl) (p:aW),p∈l→ig x.w s p→Calls Tryz.prog f #[.agg (aV s p),.pointer (some ⟨B0,0,none⟩)] x.w fun e w'=>e=.returned (.bool (q p))∧Below x.w.heap.size x.w w') :
  Calls Tryz.prog 134 #[.slice a l.length cap,.int .i64 most,.func (.func f) #[] #[.pointer (some ⟨B0,0,none⟩)]] w fun e w'=>e=.returned (.bool (decide ((l.length:Int)≤most)&&l.all q))∧Below w.heap.size w w':=by
 have hn:l.length≤4294967000:=hl.1
 rcases cu.addr hl with h0|⟨b,o,rfl,hb⟩
 ·obtain rfl:l=[]:=List.eq_nil_of_length_eq_zero h0
  have:=acE a cap f most B0 w
  simpa using this
 have HF:=Lib.hid hf
 have EJ:=hcf.run
 clear hf hcf
 go_enter Tryz.func134,Tryz.ntmps134
 cases hm:decide (most<(l.length:Int))
 ·have HM:=Lib.hid (Bv (q:=q) hm)
  go_wp2_with fail
  go_loopw [15] (fun i wr=>Below w.heap.size w wr∧∃k:Nat,k≤l.length∧i=.int .i64 k∧Hid ((l.take k).all q=true)) (fun i _=>l.length-(intOf i).toNat)
  case atStart=>exact⟨Below.refl _ _,0,Nat.zero_le _,rfl,by simp[Hid]⟩
  case round=>
   obtain⟨hbr,k,hk,rfl,hall⟩:=hrel
   by_cases hlt:k<l.length
   ·obtain⟨t,hc,hp⟩:=hl.at k hlt
    obtain⟨hcc,ax,hrr⟩:=aK hbr
    go_wp2_with fail
    have hb1:=az hbr (.cells (aV t l[k]) 49)
    have HB:=Lib.hid hb1
    clear hb1
    refine(HF.out ⟨_,HB.out⟩ t l[k] (List.getElem_mem hlt) (hp.later HB.out)).mono ?_
    rintro e w1 ⟨rfl,hb2⟩
    have hb3:=af HB.out hb2
    clear hcc ax hrr
    cases hv:q l[k]
    ·have HN:=Lib.hid (o6 l k hlt hv)
     go_wp2_with fail
     go_ret
     exact⟨by rw[HM.out,HN.out];rfl,hb3⟩
    ·have HN:=Lib.hid (lM l k hlt hall.out hv)
     go_wp2_with fail
     go_roundw
     case rel=>exact⟨hb3,k+1,by omega,by go_num,HN.out⟩
     case measure=>simp[intOf];omega
   ·have HN:=Lib.hid (o7 l k (by omega) hall.out)
    go_wp2_with fail
    go_ret
    exact⟨by rw[HM.out,HN.out];rfl,hbr⟩
 ·have HM:=Lib.hid (Bq (q:=q) hm)
  go_wp2_with fail
  go_ret
  exact⟨by rw[HM.out];rfl,Below.refl _ _⟩
theorem acG(a:Option Addr)(cap f:Nat)(most:Int)(B0:Nat)(B1:Nat)(w:World):Calls Tryz.prog 179 #[.slice a 0 cap,.int .i64 most,.func (.func f) #[] #[.pointer (some ⟨B0,0,none⟩),.pointer (some ⟨B1,0,none⟩)]] w fun e w'=>e=.returned (.bool (decide ((0:Int)≤most)))∧Below w.heap.size w w':=by
 go_enter Tryz.func179,Tryz.ntmps179
 cases hm:decide (most<(0:Int))
 ·have HN:=Lib.hid (show decide ((0:Int)≤most)=true by simp at hm ⊢;omega)
  go_wp2_with fail
  refine wp_loop_rounds 1 ?_
  rw[rounds_succ]
  go_wp2_with fail
  go_ret
  exact⟨by rw[HN.out];rfl,Below.refl _ _⟩
 ·have HN:=Lib.hid (show decide ((0:Int)≤most)=false by simp at hm ⊢;omega)
  go_wp2_with fail
  go_ret
  exact⟨by rw[HN.out];rfl,Below.refl _ _⟩
theorem acH(a:Option Addr)(cap f:Nat)(most:Int)(l:List Key)(B0:Nat)(B1:Nat)(q:Key→Bool)(w:World)(hcf:Enters f)(hl:jw w a l)
  (hf:∀(x:Later w) (s:Sl) (p:Key),p∈l→iR x.w s p→Calls Tryz.prog f #[.agg (bG s p),.pointer (some ⟨B0,0,none⟩),.pointer (some ⟨B1,0,none⟩)] x.w fun e w'=>e=.returned (.bool (q p))∧Below x.w.heap.size x.w w') :
  Calls Tryz.prog 179 #[.slice a l.length cap,.int .i64 most,.func (.func f) #[] #[.pointer (some ⟨B0,0,none⟩),.pointer (some ⟨B1,0,none⟩)]] w fun e w'=>e=.returned (.bool (decide ((l.length:Int)≤most)&&l.all q))∧Below w.heap.size w w':=by
 have hn:l.length≤4294967000:=hl.1
 rcases cu.addr hl with h0|⟨b,o,rfl,hb⟩
 ·obtain rfl:l=[]:=List.eq_nil_of_length_eq_zero h0
  have:=acG a cap f most B0 B1 w
  simpa using this
 have HF:=Lib.hid hf
 have EJ:=hcf.run
 clear hf hcf
 go_enter Tryz.func179,Tryz.ntmps179
 cases hm:decide (most<(l.length:Int))
 ·have HM:=Lib.hid (Bv (q:=q) hm)
  go_wp2_with fail
  go_loopw [15] (fun i wr=>Below w.heap.size w wr∧∃k:Nat,k≤l.length∧i=.int .i64 k∧Hid ((l.take k).all q=true)) (fun i _=>l.length-(intOf i).toNat)
  case atStart=>exact⟨Below.refl _ _,0,Nat.zero_le _,rfl,by simp[Hid]⟩
  case round=>
   obtain⟨hbr,k,hk,rfl,hall⟩:=hrel
   by_cases hlt:k<l.length
   ·obtain⟨t,hc,hp⟩:=hl.at k hlt
    obtain⟨hcc,ax,hrr⟩:=aK hbr
    go_wp2_with fail
    have hb1:=az hbr (.cells (bG t l[k]) 151)
    have HB:=Lib.hid hb1
    clear hb1
    refine(HF.out ⟨_,HB.out⟩ t l[k] (List.getElem_mem hlt) (hp.later HB.out)).mono ?_
    rintro e w1 ⟨rfl,hb2⟩
    have hb3:=af HB.out hb2
    clear hcc ax hrr
    cases hv:q l[k]
    ·have HN:=Lib.hid (o6 l k hlt hv)
     go_wp2_with fail
     go_ret
     exact⟨by rw[HM.out,HN.out];rfl,hb3⟩
    ·have HN:=Lib.hid (lM l k hlt hall.out hv)
     go_wp2_with fail
     go_roundw
     case rel=>exact⟨hb3,k+1,by omega,by go_num,HN.out⟩
     case measure=>simp[intOf];omega
   ·have HN:=Lib.hid (o7 l k (by omega) hall.out)
    go_wp2_with fail
    go_ret
    exact⟨by rw[HM.out,HN.out];rfl,hbr⟩
 ·have HM:=Lib.hid (Bq (q:=q) hm)
  go_wp2_with fail
  go_ret
  exact⟨by rw[HM.out];rfl,Below.refl _ _⟩
theorem acI(a:Option Addr)(cap f:Nat)(most:Int)(w:World):Calls Tryz.prog 81 #[.slice a 0 cap,.int .i64 most,.func (.func f) #[] #[]] w fun e w'=>e=.returned (.bool (decide ((0:Int)≤most)))∧Below w.heap.size w w':=by
 go_enter Tryz.func81,Tryz.ntmps81
 cases hm:decide (most<(0:Int))
 ·have HN:=Lib.hid (show decide ((0:Int)≤most)=true by simp at hm ⊢;omega)
  go_wp2_with fail
  refine wp_loop_rounds 1 ?_
  rw[rounds_succ]
  go_wp2_with fail
  go_ret
  exact⟨by rw[HN.out];rfl,Below.refl _ _⟩
 ·have HN:=Lib.hid (show decide ((0:Int)≤most)=false by simp at hm ⊢;omega)
  go_wp2_with fail
  go_ret
  exact⟨by rw[HN.out];rfl,Below.refl _ _⟩
theorem acJ(a:Option Addr)(cap f:Nat)(most:Int)(l:List (List UInt8))(q:(List UInt8)→Bool)(w:World)(hcf:Enters f)(hl:dH w a l)
  (hf:∀(x:Later w) (s:Sl) (p:(List UInt8)),p∈l→(fun w (s:Sl) p=>BytesAt w s.a p) x.w s p→Calls Tryz.prog f #[.slice s.a p.length s.cap] x.w fun e w'=>e=.returned (.bool (q p))∧Below x.w.heap.size x.w w') :
  Calls Tryz.prog 81 #[.slice a l.length cap,.int .i64 most,.func (.func f) #[] #[]] w fun e w'=>e=.returned (.bool (decide ((l.length:Int)≤most)&&l.all q))∧Below w.heap.size w w':=by
 have hn:l.length≤4294967000:=hl.1
 rcases eu.addr hl with h0|⟨b,o,rfl,hb⟩
 ·obtain rfl:l=[]:=List.eq_nil_of_length_eq_zero h0
  have:=acI a cap f most w
  simpa using this
 have HF:=Lib.hid hf
 have EJ:=hcf.run
 clear hf hcf
 go_enter Tryz.func81,Tryz.ntmps81
 cases hm:decide (most<(l.length:Int))
 ·have HM:=Lib.hid (Bv (q:=q) hm)
  go_wp2_with fail
  go_loopw [15] (fun i wr=>Below w.heap.size w wr∧∃k:Nat,k≤l.length∧i=.int .i64 k∧Hid ((l.take k).all q=true)) (fun i _=>l.length-(intOf i).toNat)
  case atStart=>exact⟨Below.refl _ _,0,Nat.zero_le _,rfl,by simp[Hid]⟩
  case round=>
   obtain⟨hbr,k,hk,rfl,hall⟩:=hrel
   by_cases hlt:k<l.length
   ·obtain⟨t,hc,hp⟩:=hl.at k hlt
    obtain⟨hcc,ax,hrr⟩:=aK hbr
    go_wp2_with fail
    have hb1:=hbr
    have HB:=Lib.hid hb1
    clear hb1
    refine(HF.out ⟨_,HB.out⟩ t l[k] (List.getElem_mem hlt) (hp.later HB.out)).mono ?_
    rintro e w1 ⟨rfl,hb2⟩
    have hb3:=af HB.out hb2
    clear hcc ax hrr
    cases hv:q l[k]
    ·have HN:=Lib.hid (o6 l k hlt hv)
     go_wp2_with fail
     go_ret
     exact⟨by rw[HM.out,HN.out];rfl,hb3⟩
    ·have HN:=Lib.hid (lM l k hlt hall.out hv)
     go_wp2_with fail
     go_roundw
     case rel=>exact⟨hb3,k+1,by omega,by go_num,HN.out⟩
     case measure=>simp[intOf];omega
   ·have HN:=Lib.hid (o7 l k (by omega) hall.out)
    go_wp2_with fail
    go_ret
    exact⟨by rw[HM.out,HN.out];rfl,hbr⟩
 ·have HM:=Lib.hid (Bq (q:=q) hm)
  go_wp2_with fail
  go_ret
  exact⟨by rw[HM.out];rfl,Below.refl _ _⟩
end Go.Proofs.YtibhckkjciflaaaGreatDoor
namespace Go.WW
theorem QW{α:Type}{r:α→α→Bool}{l:List α}(j:Nat)(h:j+1<l.length)(hr:r l[j] l[j+1]=false):ordered r l=false:=by
 refine Ap _ (j+1) h ?_
 simp[iZ,h,show j<l.length by omega,hr]
theorem QX{α:Type}{r:α→α→Bool}{l:List α}(j:Nat)(h:j+1<l.length)(hall:(List.range (j+1)).all (iZ r l)=true)(hr:r l[j] l[j+1]=true):(List.range (j+1+1)).all (iZ r l)=true:=by
 refine Eb (j+1) hall ?_
 simp[iZ,h,show j<l.length by omega,hr]
theorem QY{α:Type}{r:α→α→Bool}{l:List α}(j:Nat)(h:¬j+1<l.length)(hall:(List.range (j+1)).all (iZ r l)=true):ordered r l=true:=by
 rw[ordered,List.all_eq_true]
 rw[List.all_eq_true]at hall
 intro i hi
 exact hall i (by simp at hi ⊢;omega)
theorem QZ{α:Type}(r:α→α→Bool)(l:List α):(List.range (0+1)).all (iZ r l)=true:=by simp[iZ]
theorem acK{a b:aW}(h:decide (b.version<a.version)=false):jH a b=false:=by rw[jH,h];rfl
theorem acL{a b:aW}(h:decide (b.version<a.version)=true):jH a b=decide (b.created≤a.created):=by rw[jH,h];rfl
end Go.WW
namespace Go.Proofs.YtibhckkjciflaaaGreatDoor
open Go.RowKit Go.WW
theorem Q3(s t:Sl)(a b:Key)(w:World):Calls Tryz.prog 181 #[.agg (bG s a),.agg (bG t b)] w fun e w'=>e=.returned (.bool (kY a b))∧Below w.heap.size w w':=by
 go_enter Tryz.func181,Tryz.ntmps181
 go_wp2_with fail
 go_ret
 exact⟨by rfl,((Below.refl _ _).alloc (Nat.le_refl _) _).alloc (by simp) _⟩
theorem Q4(s t:Sl)(a b:aW)(w:World):Calls Tryz.prog 138 #[.agg (aV s a),.agg (aV t b)] w fun e w'=>e=.returned (.bool (jH a b))∧Below w.heap.size w w':=by
 go_enter Tryz.func138,Tryz.ntmps138
 cases h:decide (b.version<a.version)
 ·have HN:=Lib.hid (acK h)
  go_wp2_with fail
  go_ret
  exact⟨by rw[HN.out];rfl,((Below.refl _ _).alloc (Nat.le_refl _) _).alloc (by simp) _⟩
 ·have HN:=Lib.hid (acL h)
  go_wp2_with fail
  go_ret
  exact⟨by rw[HN.out];rfl,((Below.refl _ _).alloc (Nat.le_refl _) _).alloc (by simp) _⟩
theorem acM(a:Option Addr)(cap:Nat)(w:World):Calls Tryz.prog 180 #[.slice a 0 cap,.func (.func 181) #[] #[]] w fun e w'=>e=.returned (.bool true)∧Below w.heap.size w w':=by
 go_enter Tryz.func180,Tryz.ntmps180
 go_wp2_with fail
 refine wp_loop_rounds 1 ?_
 rw[rounds_succ]
 go_wp2_with fail
 go_ret
 exact⟨rfl,Below.refl _ _⟩
theorem acN(a:Option Addr)(cap:Nat)(l:List Key)(w:World)(hl:jw w a l) :
  Calls Tryz.prog 180 #[.slice a l.length cap,.func (.func 181) #[] #[]] w fun e w'=>e=.returned (.bool (ordered kY l))∧Below w.heap.size w w':=by
 have hn:l.length≤4294967000:=hl.1
 rcases cu.addr hl with h0|⟨b,o,rfl,hb⟩
 ·obtain rfl:l=[]:=List.eq_nil_of_length_eq_zero h0
  exact acM a cap w
 go_enter Tryz.func180,Tryz.ntmps180
 go_wp2_with fail
 go_loopw [5] (fun i wr=>Below w.heap.size w wr∧∃j:Nat,j≤l.length∧i=.int .i64 ((j:Int)+1)∧Hid ((List.range (j+1)).all (iZ kY l)=true)) (fun i _=>l.length+1-(intOf i).toNat)
 case atStart=>exact⟨Below.refl _ _,0,Nat.zero_le _,rfl,QZ _ _⟩
 case round=>
  obtain⟨hbr,j,hj,rfl,hall⟩:=hrel
  by_cases hlt:j+1<l.length
  ·obtain⟨s,hc,hp⟩:=hl.at j (by omega)
   obtain⟨t,hc',hp'⟩:=hl.at (j+1) hlt
   have hlt':((j:Int)+1<(l.length:Int)):=by omega
   have hjj:(j:Int)+1-1=(j:Int):=by omega
   have ht1:((j:Int)+1).toNat=j+1:=by omega
   have h00:(0:Int)≤(j:Int)+1:=by omega
   have hw1:IntKind.i64.wrap ((j:Int)+1-1)=(j:Int):=by rw[hjj];exact IntWalk.i64_in _ (by omega)
   have hjl:j<l.length:=by omega
   cases hv:kY l[j] l[j+1]
   ·have HN:=Lib.hid (QW j hlt hv)
    go_wp2_with fail
    refine dZ hbr (by kernel_rfl) (by kernel_rfl) ?_
    repeat (go_big_quiet_step ((go_at_call 181;exact Calls.iF (Q3 _ _ _ _ _))))
    refine wpQuiet_nil ?_
    intro w2 hb2
    rw[hv]
    go_wp2_with fail
    go_ret
    exact⟨by rw[HN.out];rfl,hb2⟩
   ·have HN:=Lib.hid (QX j hlt hall.out hv)
    go_wp2_with fail
    refine dZ hbr (by kernel_rfl) (by kernel_rfl) ?_
    repeat (go_big_quiet_step ((go_at_call 181;exact Calls.iF (Q3 _ _ _ _ _))))
    refine wpQuiet_nil ?_
    intro w2 hb2
    rw[hv]
    go_wp2_with fail
    clear hjj ht1 h00 hw1
    go_roundw
    case rel=>exact⟨hb2,j+1,by omega,by go_num,HN.out⟩
    case measure=>simp[intOf];omega
  ·have HN:=Lib.hid (QY j hlt hall.out)
   have hlt':¬((j:Int)+1<(l.length:Int)):=by omega
   go_wp2_with fail
   go_ret
   exact⟨by rw[HN.out];rfl,hbr⟩
theorem acO(a:Option Addr)(cap:Nat)(w:World):Calls Tryz.prog 137 #[.slice a 0 cap,.func (.func 138) #[] #[]] w fun e w'=>e=.returned (.bool true)∧Below w.heap.size w w':=by
 go_enter Tryz.func137,Tryz.ntmps137
 go_wp2_with fail
 refine wp_loop_rounds 1 ?_
 rw[rounds_succ]
 go_wp2_with fail
 go_ret
 exact⟨rfl,Below.refl _ _⟩
theorem acP(a:Option Addr)(cap:Nat)(l:List aW)(w:World)(hl:kV w a l) :
  Calls Tryz.prog 137 #[.slice a l.length cap,.func (.func 138) #[] #[]] w fun e w'=>e=.returned (.bool (ordered jH l))∧Below w.heap.size w w':=by
 have hn:l.length≤4294967000:=hl.1
 rcases cu.addr hl with h0|⟨b,o,rfl,hb⟩
 ·obtain rfl:l=[]:=List.eq_nil_of_length_eq_zero h0
  exact acO a cap w
 go_enter Tryz.func137,Tryz.ntmps137
 go_wp2_with fail
 go_loopw [5] (fun i wr=>Below w.heap.size w wr∧∃j:Nat,j≤l.length∧i=.int .i64 ((j:Int)+1)∧Hid ((List.range (j+1)).all (iZ jH l)=true)) (fun i _=>l.length+1-(intOf i).toNat)
 case atStart=>exact⟨Below.refl _ _,0,Nat.zero_le _,rfl,QZ _ _⟩
 case round=>
  obtain⟨hbr,j,hj,rfl,hall⟩:=hrel
  by_cases hlt:j+1<l.length
  ·obtain⟨s,hc,hp⟩:=hl.at j (by omega)
   obtain⟨t,hc',hp'⟩:=hl.at (j+1) hlt
   have hlt':((j:Int)+1<(l.length:Int)):=by omega
   have hjj:(j:Int)+1-1=(j:Int):=by omega
   have ht1:((j:Int)+1).toNat=j+1:=by omega
   have h00:(0:Int)≤(j:Int)+1:=by omega
   have hw1:IntKind.i64.wrap ((j:Int)+1-1)=(j:Int):=by rw[hjj];exact IntWalk.i64_in _ (by omega)
   have hjl:j<l.length:=by omega
   cases hv:jH l[j] l[j+1]
   ·have HN:=Lib.hid (QW j hlt hv)
    go_wp2_with fail
    refine dZ hbr (by kernel_rfl) (by kernel_rfl) ?_
    repeat (go_big_quiet_step ((go_at_call 138;exact Calls.iF (Q4 _ _ _ _ _))))
    refine wpQuiet_nil ?_
    intro w2 hb2
    rw[hv]
    go_wp2_with fail
    go_ret
    exact⟨by rw[HN.out];rfl,hb2⟩
   ·have HN:=Lib.hid (QX j hlt hall.out hv)
    go_wp2_with fail
    refine dZ hbr (by kernel_rfl) (by kernel_rfl) ?_
    repeat (go_big_quiet_step ((go_at_call 138;exact Calls.iF (Q4 _ _ _ _ _))))
    refine wpQuiet_nil ?_
    intro w2 hb2
    rw[hv]
    go_wp2_with fail
    clear hjj ht1 h00 hw1
    go_roundw
    case rel=>exact⟨hb2,j+1,by omega,by go_num,HN.out⟩
    case measure=>simp[intOf];omega
  ·have HN:=Lib.hid (QY j hlt hall.out)
   have hlt':¬((j:Int)+1<(l.length:Int)):=by omega
   go_wp2_with fail
   go_ret
   exact⟨by rw[HN.out];rfl,hbr⟩
end Go.Proofs.YtibhckkjciflaaaGreatDoor
namespace Go.WW
open Go.RowKit
def yI(commaOk:Bool)(z:Value):Option (Nat×Value)→Value
 |some (_,v)=>if commaOk then .tuple #[v,.bool true]else v
 |none=>if commaOk then .tuple #[z,.bool false]else z
theorem JS{P:Program}{w:World}{mty kt et:TypeId}{d:TypeDesc}{r clock:Nat}{es:Array MapEntry}{k z:Value}{found:Option (Nat×Value)}(commaOk:Bool)(hm:P.underlying mty=some (.map kt et))(hd:P.underlying kt=some d)(hk:MapKept.IsKey d k)
  (hf:Instr.findNow d k es.toList 0=some found) (hz:(zeroValue et).run P w=.ok z w) (hb:w.heap[r]?=some (.map es clock)) :
  (Instr.lookup mty (.map (some r)) k commaOk).run P w=.ok (yI commaOk z found) w:=by
 have hc:(Instr.checkKey es.isEmpty 10000 kt k).run P w=.ok () w:=MapKept.run_checkKey hd hk _ 9999
 cases found with
 |none=>simp[Instr.lookup,run_underlying hm,MapKept.run_getObj_map hb,hc,MapKept.run_findKey hd hf,Result.andThen,hz,yI]
 |some x=>obtain⟨i,v⟩:=x;simp[Instr.lookup,run_underlying hm,MapKept.run_getObj_map hb,hc,MapKept.run_findKey hd hf,Result.andThen,yI]
end Go.WW
namespace Go.Proofs.YtibhckkjciflaaaGreatDoor
open Go.RowKit Go.WW
def rH:Array Value:=#[.string ⟨#[97,101,115,49,50,56,45,99,116,115,45,104,109,97,99,45,115,104,97,50,53,54,45,49,50,56]⟩,.int .i64 16,.int .i64 16,.int .i64 16,.int .i64 16,.func (.func 249) #[] #[],.func (.func 250) #[] #[],.func (.func 251) #[] #[]]
def yJ:Array Value:=#[.string ⟨#[115,116,114,101,97,109,45,104,109,97,99,45,115,104,97,50,53,54,45,50,53,54]⟩,.int .i64 32,.int .i64 16,.int .i64 32,.int .i64 32,.func (.func 252) #[] #[],.func (.func 253) #[] #[],.func (.func 254) #[] #[]]
def wG:Array MapEntry:=#[{key:=.int .i64 1,val:=.agg rH,born:=0},{key:=.int .i64 2,val:=.agg yJ,born:=1}]
theorem acQ(w:World):(tX 243 #[(0,.string ⟨#[97,101,115,49,50,56,45,99,116,115,45,104,109,97,99,45,115,104,97,50,53,54,45,49,50,56]⟩),(1,.agg #[.int .i64 16,.int .i64 16,.int .i64 16,.int .i64 16]),(2,.func (.func 249) #[] #[]),(3,.func (.func 250) #[] #[]),(4,.func (.func 251) #[] #[])]).run Tryz.prog w=.ok (.value (.agg rH)) w:=by kernel_rfl
theorem acR(w:World):(tX 243 #[(0,.string ⟨#[115,116,114,101,97,109,45,104,109,97,99,45,115,104,97,50,53,54,45,50,53,54]⟩),(1,.agg #[.int .i64 32,.int .i64 16,.int .i64 32,.int .i64 32]),(2,.func (.func 252) #[] #[]),(3,.func (.func 253) #[] #[]),(4,.func (.func 254) #[] #[])]).run Tryz.prog w=.ok (.value (.agg yJ)) w:=by kernel_rfl
theorem acS(ρ:Operand→Value)(dst:Option Tmp)(a b c d e:Nat×Operand)(ty:TypeId)(pos:String)(after:Array Edge)(guard:Option (Nat×Bool)):execOp ρ {dst,op:=.build 243 #[a,b,c,d,e],type:=ty,pos,after,guard}=tX 243 #[(a.1,ρ a.2),(b.1,ρ b.2),(c.1,ρ c.2),(d.1,ρ d.2),(e.1,ρ e.2)]:=by simp[execOp,tX]
attribute [go_sem] acQ acR
attribute [go_sem ↓] acS
theorem Q5(w:World):Calls Tryz.prog 208 #[] w fun e w'=>e=.returned (.map (some w.heap.size))∧w'.heap[w.heap.size]?=some (.map wG 2)∧Below w.heap.size w w':=by
 have hm1:(w.alloc (.map #[] 0)).heap[w.heap.size]?=some (.map #[] 0):=World.alloc_heap_new w (.map #[] 0)
 have hi1:=Jg (P:=Tryz.prog) (.agg rH) Tryz.underlying244 Tryz.underlying3 (k:=.int .i64 1) rfl (by rfl) hm1
 have hm2:((w.alloc (.map #[] 0)).putObj w.heap.size (.map #[{key:=.int .i64 1,val:=.agg rH,born:=0}] 1)).heap[w.heap.size]?=some (.map #[{key:=.int .i64 1,val:=.agg rH,born:=0}] 1):=World.putObj_heap_same (by simp)
 have hi2:=Jg (P:=Tryz.prog) (.agg yJ) Tryz.underlying244 Tryz.underlying3 (k:=.int .i64 2) rfl (by rfl) hm2
 obtain⟨W3,hW3⟩:∃W,((w.alloc (.map #[] 0)).putObj w.heap.size (.map #[{key:=.int .i64 1,val:=.agg rH,born:=0}] 1)).putObj w.heap.size (.map #[{key:=.int .i64 1,val:=.agg rH,born:=0},{key:=.int .i64 2,val:=.agg yJ,born:=1}] 2)=W:=⟨_,rfl⟩
 have Q7:W3.heap[w.heap.size]?=some (.map wG 2):=by rw[←hW3];exact World.putObj_heap_same (by simp)
 simp only[List.push_toArray,List.nil_append,List.cons_append,Nat.zero_add,Nat.reduceAdd]at hi1 hi2
 rw[hW3]at hi2
 have hB3:Below w.heap.size w W3:=by
  rw[←hW3]
  exact((Below.refl _ _).alloc (Nat.le_refl _) _).grown (grownBy_putObj' _ _ _) (by simp) (fun k e=>by cases e;omega) |>.grown (grownBy_putObj' _ _ _) (by simp) (fun k e=>by cases e;omega)
 have hmm:=@run_makeMap Tryz.prog
 have HM:=Lib.hid Q7
 clear Q7 hm1 hm2 hW3
 go_enter Tryz.func208,Tryz.ntmps208
 go_wp2_with fail
 go_ret
 exact⟨rfl,HM.out,hB3⟩
def JU:Array Value:=#[.string ⟨#[]⟩,.int .i64 0,.int .i64 0,.int .i64 0,.int .i64 0,.nilFunc,.nilFunc,.nilFunc]
def nX(n:Int):Bool:=n == 1 || n == 2
def kM(n:Int):Array Value:=if n == 1 then rH else if n == 2 then yJ else JU
theorem acT(w:World):(zeroValue 243).run Tryz.prog w=.ok (.agg JU) w:=by kernel_rfl
def EK(n:Int):Option (Nat×Value):=if n == 1 then some (0,.agg rH)else if n == 2 then some (1,.agg yJ)else none
theorem acU(n:Int):Instr.findNow (.int .i64) (.int .i64 n) wG.toList 0=some (EK n):=by
 unfold EK
 by_cases h1:n=1
 ·subst h1;rfl
 ·by_cases h2:n=2
  ·subst h2;rfl
  ·have e1:(n == 1)=false:=by simpa using h1
   have e2:(n == 2)=false:=by simpa using h2
   simp[Instr.findNow,Instr.sameNow,wG,e1,e2]
theorem acV(b:Bool)(n:Int):yI b (.agg JU) (EK n)=if b then .tuple #[.agg (kM n),.bool (nX n)]else .agg (kM n):=by
 unfold EK kM nX
 by_cases h1:n=1
 ·subst h1;rfl
 ·by_cases h2:n=2
  ·subst h2;rfl
  ·have e1:(n == 1)=false:=by simpa using h1
   have e2:(n == 2)=false:=by simpa using h2
   simp[e1,e2,yI]
theorem Q8(b:Bool)(n:Int){w:World}{r:Nat}(hb:w.heap[r]?=some (.map wG 2)):(Instr.lookup 244 (.map (some r)) (.int .i64 n) b).run Tryz.prog w=.ok (if b then .tuple #[.agg (kM n),.bool (nX n)]else .agg (kM n)) w:=by
 rw[←acV]
 exact JS b Tryz.underlying244 Tryz.underlying3 rfl (acU n) (acT w) hb
def conf(n:Int):Int:=if n == 1 then 16 else if n == 2 then 16 else 0
theorem EL(n:Int):∃a b c d:Value,kM n=#[a,.int .i64 (dQ n),.int .i64 (conf n),.int .i64 (dQ n),.int .i64 (dQ n),b,c,d]∧dG #[a,b,c,d]=true:=by
 unfold kM dQ conf
 by_cases h1:n=1
 ·subst h1;exact⟨_,_,_,_,rfl,by simp[dG,Value.oneCell']⟩
 ·by_cases h2:n=2
  ·subst h2;exact⟨_,_,_,_,rfl,by simp[dG,Value.oneCell']⟩
  ·have e1:(n == 1)=false:=by simpa using h1
   have e2:(n == 2)=false:=by simpa using h2
   rw[e1,e2];exact⟨_,_,_,_,rfl,by simp[dG,Value.oneCell']⟩
theorem acW(w:World)(n:Int):(Instr.field 243 (.agg (kM n)) 1).run Tryz.prog w=.ok (.agg #[.int .i64 (dQ n),.int .i64 (conf n),.int .i64 (dQ n),.int .i64 (dQ n)]) w:=by
 obtain⟨a,b,c,d,h,_⟩:=EL n
 rw[h];kernel_rfl
theorem acX(w:World)(a b c d:Int):(Instr.field 239 (.agg #[.int .i64 a,.int .i64 b,.int .i64 c,.int .i64 d]) 0).run Tryz.prog w=.ok (.int .i64 a) w:=by kernel_rfl
theorem acY(n:Int)(w:World):Calls Tryz.prog 177 #[.int .i64 n] w fun e w'=>e=.returned (.int .i64 (dQ n))∧Below w.heap.size w w':=by
 have hkf:=fun w=>acW w n
 have hlf:=fun w=>acX w (dQ n) (conf n) (dQ n) (dQ n)
 go_enter Tryz.func177,Tryz.ntmps177
 go_wp2_with fail
 refine(Q5 _).mono ?_
 rintro e w1 ⟨rfl,hm,hb⟩
 have hlk:(Instr.lookup 244 (.map (some w.heap.size)) (.int .i64 n) false).run Tryz.prog w1=.ok (.agg (kM n)) w1:=Q8 false n hm
 have HN:=Lib.hid hb
 clear hm hb
 go_wp2_with fail
 go_ret
 exact⟨rfl,HN.out⟩
theorem Q9(n:Int):(kM n).size=8:=by obtain⟨a,b,c,d,h,_⟩:=EL n;rw[h];rfl
theorem acZ(n:Int):dG (kM n)=true:=by
 obtain⟨a,b,c,d,h,h1⟩:=EL n
 rw[h]
 simp[dG,Value.oneCell']at h1 ⊢
 exact⟨h1.1,h1.2.1,h1.2.2.1,h1.2.2.2⟩
theorem JV(n:Int):(kM n)[1]?=some (.int .i64 (dQ n)):=by obtain⟨a,b,c,d,h,_⟩:=EL n;rw[h];rfl
theorem ac0(n:Int)(h:1<(kM n).size):(kM n)[1]'h=.int .i64 (dQ n):=by
 have:=JV n;rw[Array.getElem?_eq_getElem h]at this;exact Option.some.inj this
attribute [go_sem] Q9 acZ JV ac0
theorem ac1(w:World)(b o:Nat):(kG 243 (.pointer (some ⟨b,o,none⟩))).run Tryz.prog w=qP Tryz.prog 243 w b o (row? w b o 8):=vO Tryz.underlying243 rfl (by kernel_rfl) w b o
theorem ac2(ρ:Operand→Value)(dst:Option Tmp)(x:Operand)(ty:TypeId)(pos:String)(after:Array Edge)(guard:Option (Nat×Bool)):execOp ρ {dst,op:=.load 243 x,type:=ty,pos,after,guard}=kG 243 (ρ x):=rfl
attribute [go_sem] ac1
attribute [go_sem ↓] ac2
theorem ac3(w:World)(b o:Nat)(cs:Array Value)(hn:cs.size=8)(h1:dG cs=true):(kH 243 (.pointer (some ⟨b,o,none⟩)) (.agg cs)).run Tryz.prog w=qQ Tryz.prog 243 w b o cs (aS w b o 8):=vP (by kernel_rfl) w b o cs hn h1
theorem ac4(ρ:Operand→Value)(dst:Option Tmp)(x y:Operand)(ty:TypeId)(pos:String)(after:Array Edge)(guard:Option (Nat×Bool)):execOp ρ {dst,op:=.store 243 x y,type:=ty,pos,after,guard}=kH 243 (ρ x) (ρ y):=rfl
attribute [go_sem] ac3
attribute [go_sem ↓] ac4
theorem ac5(w:World):Calls Tryz.prog 208 #[] w fun e w'=>∃r,e=.returned (.map (some r))∧w'.heap[r]?=some (.map wG 2)∧Below w.heap.size w w':=(Q5 w).mono fun _ _ ⟨h1,h2,h3⟩=>⟨_,h1,h2,h3⟩
theorem Rf(n:Int){w:World}{r:Nat}(hb:w.heap[r]?=some (.map wG 2)):(Instr.lookup 244 (.map (some r)) (.int .i64 n) true).run Tryz.prog w=.ok (.tuple #[.agg (kM n),.bool (nX n)]) w:=Q8 true n hb
theorem below2(w:World)(a b:Obj):Below w.heap.size w ((w.alloc a).alloc b).drew:=(((Below.refl _ w).alloc (Nat.le_refl _) _).alloc (by simp) _).drew
theorem below3(w:World)(a b c:Obj):Below w.heap.size w (((w.alloc a).alloc b).alloc c).drew:=((((Below.refl _ w).alloc (Nat.le_refl _) _).alloc (by simp) _).alloc (by simp;omega) _).drew
theorem ac6(c:Array Value)(h:c.size=8)(x:Value)(h1:c[1]?=some x):#[c[0]'(by omega),x,c[2]'(by omega),c[3]'(by omega),c[4]'(by omega),c[5]'(by omega),c[6]'(by omega),c[7]'(by omega)]=c:=by
 obtain⟨l⟩:=c
 match l,h with
 | [a0,a1,a2,a3,a4,a5,a6,a7],_=>simp at h1 ⊢;exact h1.symm
theorem ac7(k:Key):nX k.profile=false∨(nX k.profile=true∧((k.bytes.length:Int) == dQ k.profile)=false)∨(nX k.profile=true∧((k.bytes.length:Int) == dQ k.profile)=true∧decide (0≤k.version)=false)∨
  (nX k.profile=true∧((k.bytes.length:Int) == dQ k.profile)=true∧decide (0≤k.version)=true):=by
 cases nX k.profile<;>cases ((k.bytes.length:Int) == dQ k.profile)<;>cases decide (0≤k.version)<;>simp
theorem ac8(k:Key):lN k=(nX k.profile&&((k.bytes.length:Int) == dQ k.profile)&&decide (0≤k.version)&&decide (k.version≤65535)):=by
 have:decide (0<dQ k.profile)=nX k.profile:=by
  unfold dQ nX
  by_cases h1:k.profile=1
  ·rw[h1];rfl
  ·by_cases h2:k.profile=2
   ·rw[h2];rfl
   ·have e1:(k.profile == 1)=false:=by simpa using h1
    have e2:(k.profile == 2)=false:=by simpa using h2
    rw[e1,e2];rfl
 rw[lN,this,ag,Bool.and_assoc,Bool.and_assoc,Bool.and_assoc]
theorem ac9(s:Sl)(k:Key)(w:World):Calls Tryz.prog 209 #[.agg (bG s k)] w fun e w'=>e=.returned (.tuple #[.agg (kM k.profile),.bool (lN k)])∧Below w.heap.size w w':=by
 rw[ac8]
 go_enter Tryz.func209,Tryz.ntmps209
 go_wp2_with fail
 have hne:w.heap.size≠w.heap.size+1+1:=by omega
 have hne1:w.heap.size+1≠w.heap.size+1+1:=by omega
 go_region_with (go_at_call 208;refine(ac5 _).mono ?_;rintro e w1 ⟨r,rfl,hm,hb⟩;have hsz:w.heap.size+1<w1.heap.size:=(by have:=hb.size;simp at this;omega);have hsz0:w.heap.size<w1.heap.size:=Nat.lt_of_succ_lt hsz;have hsz1:r<w1.heap.size:=(Array.getElem?_eq_some_iff.1 hm).1;obtain⟨hcc,ax,hrr⟩:=aK hb;have hB:Below w.heap.size w w1:=(by first|exact af (below2 w _ _) hb|exact af (below3 w _ _ _) hb);have hpp:=jJ hb;have hlk:=Rf k.profile hm;have amF:=fun o=>Rf (w:=w1.alloc o) k.profile ((Below.heap_alloc w1 o _ (Array.getElem?_eq_some_iff.1 hm).1).trans hm))
 all_goals rcases ac7 k with c1|⟨c1,c2⟩|⟨c1,c2,c3⟩|⟨c1,c2,c3⟩
 all_goals go_wp2_with fail
 all_goals refine bodyPost_ret (v:=.tuple #[.agg (kM k.profile),.bool (nX k.profile&&((k.bytes.length:Int) == dQ k.profile)&&decide (0≤k.version)&&decide (k.version≤65535))]) (by simp[results,Tryz.results209,go_sem, *];exact ac6 _ (Q9 _) _ (JV _)) rfl ⟨rfl,?_⟩
 all_goals first
  |exact Go.WW.Below.putRow (hB.alloc hB.size _) (by omega)
  |exact Go.WW.Below.putRow (Go.WW.Below.putRow hB (by omega)) (by omega)
end Go.Proofs.YtibhckkjciflaaaGreatDoor
namespace Go.WW
theorem ada{m v:Int}{k:Key}(h:(k.version != v)=true):iy m v k=false:=by rw[iy,h];simp
theorem adb{m v:Int}{k:Key}(h:(dQ k.profile == 0)=true):iy m v k=false:=by rw[iy,h];simp
theorem ade{m v:Int}{k:Key}(h:(k.version != v)=false)(h2:(dQ k.profile == 0)=false)(h3:(m == 0)=true):iy m v k=lN k:=by rw[iy,h,h2,h3];simp
theorem adf{m v:Int}{k:Key}(h:(k.version != v)=false)(h2:(dQ k.profile == 0)=false)(h3:(m == 0)=false):iy m v k=ag k.bytes.length 1 256:=by rw[iy,h,h2,h3];simp
theorem adg{m:Int}{x:aW}(h:ag x.version 1 65535=false):gU m x=false:=by rw[gU,iM,h];simp
theorem adh{m:Int}{x:aW}(h:decide (1≤(x.keys.length:Int))=false):gU m x=false:=by
 have e:ag x.keys.length 1 4=false:=by rw[ag,h];rfl
 rw[gU,iM,e];simp
theorem adi{m:Int}{x:aW}(h:(decide ((x.keys.length:Int)≤4)&&x.keys.all (iy m x.version))=false):gU m x=false:=by
 rw[Bool.and_eq_false_iff]at h
 rcases h with h|h
 ·rw[gU,iM,show ag x.keys.length 1 4=false by rw[ag,h];simp];simp
 ·rw[gU,h];simp
theorem adk{m:Int}{x:aW}(h:ordered kY x.keys=false):gU m x=false:=by rw[gU,h];simp
theorem adl{m:Int}{x:aW}(h2:decide (1≤(x.keys.length:Int))=true)(h3:(decide ((x.keys.length:Int)≤4)&&x.keys.all (iy m x.version))=true)(h4:ordered kY x.keys=true):gU m x=iM x∧ag x.keys.length 1 4=true:=by
 rw[Bool.and_eq_true]at h3
 exact⟨by rw[gU,h3.2,h4];rfl,by rw[ag,h2,h3.1];rfl⟩
end Go.WW
namespace Go.Proofs.YtibhckkjciflaaaGreatDoor
open Go.RowKit Go.WW
theorem adm(s:Sl)(k:Key)(w:World):Calls Tryz.prog 178 #[.agg (bG s k)] w fun e w'=>e=.returned (.bool (lN k))∧Below w.heap.size w w':=by
 go_enter Tryz.func178,Tryz.ntmps178
 go_wp2_with fail
 refine(ac9 _ _ _).mono ?_
 rintro e w1 ⟨rfl,hb⟩
 have hB:Below w.heap.size w w1:=af ((Below.refl _ w).alloc (Nat.le_refl _) _) hb
 go_wp2_with fail
 go_ret
 exact⟨rfl,hB.alloc hB.size _⟩
theorem adn(s:Sl)(k:Key)(B0 B1:Nat)(m v:Int)(w:World)(hl:k.bytes.length≤lim)(h0:w.cell? ⟨B0,0,none⟩=some (.int .i64 v))(h1:w.cell? ⟨B1,0,none⟩=some (.int .i64 m)) :
  Calls Tryz.prog 176 #[.agg (bG s k),.pointer (some ⟨B0,0,none⟩),.pointer (some ⟨B1,0,none⟩)] w fun e w'=>e=.returned (.bool (iy m v k))∧Below w.heap.size w w':=by
 have hb0:B0<w.heap.size:=World.block_lt_of_cell? w _ h0
 have hb1:B1<w.heap.size:=World.block_lt_of_cell? w _ h1
 have hl':k.bytes.length≤4294967000:=hl
 have hB:Below w.heap.size w (w.alloc (.cells (bG s k) 151)):=(Below.refl _ w).alloc (Nat.le_refl _) _
 go_enter Tryz.func176,Tryz.ntmps176
 cases c1:(k.version != v)
 ·go_wp2_with fail
  refine(acY _ _).mono ?_
  rintro e w1 ⟨rfl,hb⟩
  have hB1:=af hB hb
  obtain⟨hcc,ax,hrr⟩:=aK hb
  have hsz:w.heap.size<w1.heap.size:=by have:=hb.size;simp at this;omega
  cases c2:(dQ k.profile == 0)
  ·cases c3:(m == 0)
   ·have HN:=Lib.hid (adf c1 c2 c3)
    go_wp2_with (go_at_call 76;refine(tY _ _ _ _).mono ?_;rintro e w' ⟨rfl,rfl⟩)
    go_ret
    exact⟨by rw[HN.out];rfl,hB1⟩
   ·have HN:=Lib.hid (ade c1 c2 c3)
    go_wp2_with fail
    refine(adm _ _ _).mono ?_
    rintro e w2 ⟨rfl,hb2⟩
    go_wp2_with fail
    go_ret
    exact⟨by rw[HN.out];rfl,af hB1 hb2⟩
  ·have HN:=Lib.hid (adb (m:=m) (v:=v) c2)
   go_wp2_with fail
   go_ret
   exact⟨by rw[HN.out];rfl,hB1⟩
 ·have HN:=Lib.hid (ada (m:=m) c1)
  go_wp2_with fail
  go_ret
  exact⟨by rw[HN.out];rfl,hB⟩
theorem ado:Enters 176:=⟨fun args w=>by kernel_rfl⟩
end Go.Proofs.YtibhckkjciflaaaGreatDoor
