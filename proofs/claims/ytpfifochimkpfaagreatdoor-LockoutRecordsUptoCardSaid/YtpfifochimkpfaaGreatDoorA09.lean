/- A part of the proof. -/
import Derived.Test.YtpfifochimkpfaaGreatDoorA08
import Derived.Test.YtpfifochimkpfaaGreatDoorA04
import Derived.Test.YtpfifochimkpfaaGreatDoorA05
import Derived.Deep.RegionWith
import Derived.BigRegion
set_option maxRecDepth 100000
set_option maxHeartbeats 2000000
namespace Go.WW
open Go.RowKit
theorem CO{α:Type}{q:α→Bool}{l:List α}{most:Int}(h:decide (most<(l.length:Int))=true):(decide ((l.length:Int)≤most)&&l.all q)=false:=by
 rw[decide_eq_true_eq]at h
 rw[decide_eq_false (by omega)];rfl
theorem CP{α:Type}{q:α→Bool}{l:List α}{most:Int}(h:decide (most<(l.length:Int))=false):(decide ((l.length:Int)≤most)&&l.all q)=l.all q:=by
 rw[decide_eq_false_iff_not]at h
 rw[decide_eq_true (p:=(l.length:Int)≤most) (by omega)];rfl
end Go.WW
namespace Go.Proofs.YtpfifochimkpfaaGreatDoor
open Go.RowKit Go.WW
structure Enters(f:FuncId):Prop where
 run:∀(args:Array Value) (w:World),(callFunc f args).run Tryz.prog w=.ok (.enter f args) w
theorem adh(a:Option Addr)(cap f:Nat)(most:Int)(w:World):Calls Tryz.prog 166 #[.slice a 0 cap,.int .i64 most,.func (.func f) #[] #[]] w fun e w'=>e=.returned (.bool (decide ((0:Int)≤most)))∧Below w.heap.size w w':=by
 go_enter Tryz.func166,Tryz.ntmps166
 cases hm:decide (most<(0:Int))
 ·have HN:=Lib.hid (show decide ((0:Int)≤most)=true by simp at hm ⊢;omega)
  go_wp2_with fail
  refine wp_loop_rounds 1 ?_
  rw[rounds_succ]
  go_wp2_with fail
  go_ret
  exact⟨by rw[HN.out];rfl,Below.refl _ _⟩
 ·have HN:=Lib.hid (show decide ((0:Int)≤most)=false by simp at hm ⊢;omega)
  go_wp2_with fail
  go_ret
  exact⟨by rw[HN.out];rfl,Below.refl _ _⟩
theorem adi(a:Option Addr)(cap f:Nat)(most:Int)(l:List aH)(q:aH→Bool)(w:World)(hcf:Enters f)(hl:fQ w a l)
  (hf:∀(x:Later w) (s:Sl) (p:aH),p∈l→bK x.w s p→Calls Tryz.prog f #[.agg (az s p)] x.w fun e w'=>e=.returned (.bool (q p))∧Below x.w.heap.size x.w w') :
  Calls Tryz.prog 166 #[.slice a l.length cap,.int .i64 most,.func (.func f) #[] #[]] w fun e w'=>e=.returned (.bool (decide ((l.length:Int)≤most)&&l.all q))∧Below w.heap.size w w':=by
 have hn:l.length≤4294967000:=hl.1
 rcases bH.addr hl with h0|⟨b,o,rfl,hb⟩
 ·obtain rfl:l=[]:=List.eq_nil_of_length_eq_zero h0
  have:=adh a cap f most w
  simpa using this
 have HF:=Lib.hid hf
 have FQ:=hcf.run
 clear hf hcf
 go_enter Tryz.func166,Tryz.ntmps166
 cases hm:decide (most<(l.length:Int))
 ·have HM:=Lib.hid (CP (q:=q) hm)
  go_wp2_with fail
  go_loopw [15] (fun i wr=>Below w.heap.size w wr∧∃k:Nat,k≤l.length∧i=.int .i64 k∧Hid ((l.take k).all q=true)) (fun i _=>l.length-(intOf i).toNat)
  case atStart=>exact⟨Below.refl _ _,0,Nat.zero_le _,rfl,by simp[Hid]⟩
  case round=>
   obtain⟨hbr,k,hk,rfl,hall⟩:=hrel
   by_cases hlt:k<l.length
   ·obtain⟨t,hc,hp⟩:=hl.at k hlt
    obtain⟨hcc,bf,hrr⟩:=aQ hbr
    go_wp2_with fail
    have hb1:=ay hbr (.cells (az t l[k]) 35)
    have HB:=Lib.hid hb1
    clear hb1
    refine(HF.out ⟨_,HB.out⟩ t l[k] (List.getElem_mem hlt) (hp.later HB.out)).mono ?_
    rintro e w1 ⟨rfl,hb2⟩
    have hb3:=ag HB.out hb2
    clear hcc bf hrr
    cases hv:q l[k]
    ·have HN:=Lib.hid (qK l k hlt hv)
     go_wp2_with fail
     go_ret
     exact⟨by rw[HM.out,HN.out];rfl,hb3⟩
    ·have HN:=Lib.hid (lu l k hlt hall.out hv)
     go_wp2_with fail
     go_roundw
     case rel=>exact⟨hb3,k+1,by omega,by go_num,HN.out⟩
     case measure=>simp[intOf];omega
   ·have HN:=Lib.hid (qL l k (by omega) hall.out)
    go_wp2_with fail
    go_ret
    exact⟨by rw[HM.out,HN.out];rfl,hbr⟩
 ·have HM:=Lib.hid (CO (q:=q) hm)
  go_wp2_with fail
  go_ret
  exact⟨by rw[HM.out];rfl,Below.refl _ _⟩
theorem adk(a:Option Addr)(cap f:Nat)(most:Int)(B0:Nat)(w:World):Calls Tryz.prog 166 #[.slice a 0 cap,.int .i64 most,.func (.func f) #[] #[.pointer (some ⟨B0,0,none⟩)]] w fun e w'=>e=.returned (.bool (decide ((0:Int)≤most)))∧Below w.heap.size w w':=by
 go_enter Tryz.func166,Tryz.ntmps166
 cases hm:decide (most<(0:Int))
 ·have HN:=Lib.hid (show decide ((0:Int)≤most)=true by simp at hm ⊢;omega)
  go_wp2_with fail
  refine wp_loop_rounds 1 ?_
  rw[rounds_succ]
  go_wp2_with fail
  go_ret
  exact⟨by rw[HN.out];rfl,Below.refl _ _⟩
 ·have HN:=Lib.hid (show decide ((0:Int)≤most)=false by simp at hm ⊢;omega)
  go_wp2_with fail
  go_ret
  exact⟨by rw[HN.out];rfl,Below.refl _ _⟩
theorem adl(a:Option Addr)(cap f:Nat)(most:Int)(l:List aH)(B0:Nat)(q:aH→Bool)(w:World)(hcf:Enters f)(hl:fQ w a l)
  (hf:∀(x:Later w) (s:Sl) (p:aH),p∈l→bK x.w s p→Calls Tryz.prog f #[.agg (az s p),.pointer (some ⟨B0,0,none⟩)] x.w fun e w'=>e=.returned (.bool (q p))∧Below x.w.heap.size x.w w') :
  Calls Tryz.prog 166 #[.slice a l.length cap,.int .i64 most,.func (.func f) #[] #[.pointer (some ⟨B0,0,none⟩)]] w fun e w'=>e=.returned (.bool (decide ((l.length:Int)≤most)&&l.all q))∧Below w.heap.size w w':=by
 have hn:l.length≤4294967000:=hl.1
 rcases bH.addr hl with h0|⟨b,o,rfl,hb⟩
 ·obtain rfl:l=[]:=List.eq_nil_of_length_eq_zero h0
  have:=adk a cap f most B0 w
  simpa using this
 have HF:=Lib.hid hf
 have FQ:=hcf.run
 clear hf hcf
 go_enter Tryz.func166,Tryz.ntmps166
 cases hm:decide (most<(l.length:Int))
 ·have HM:=Lib.hid (CP (q:=q) hm)
  go_wp2_with fail
  go_loopw [15] (fun i wr=>Below w.heap.size w wr∧∃k:Nat,k≤l.length∧i=.int .i64 k∧Hid ((l.take k).all q=true)) (fun i _=>l.length-(intOf i).toNat)
  case atStart=>exact⟨Below.refl _ _,0,Nat.zero_le _,rfl,by simp[Hid]⟩
  case round=>
   obtain⟨hbr,k,hk,rfl,hall⟩:=hrel
   by_cases hlt:k<l.length
   ·obtain⟨t,hc,hp⟩:=hl.at k hlt
    obtain⟨hcc,bf,hrr⟩:=aQ hbr
    go_wp2_with fail
    have hb1:=ay hbr (.cells (az t l[k]) 35)
    have HB:=Lib.hid hb1
    clear hb1
    refine(HF.out ⟨_,HB.out⟩ t l[k] (List.getElem_mem hlt) (hp.later HB.out)).mono ?_
    rintro e w1 ⟨rfl,hb2⟩
    have hb3:=ag HB.out hb2
    clear hcc bf hrr
    cases hv:q l[k]
    ·have HN:=Lib.hid (qK l k hlt hv)
     go_wp2_with fail
     go_ret
     exact⟨by rw[HM.out,HN.out];rfl,hb3⟩
    ·have HN:=Lib.hid (lu l k hlt hall.out hv)
     go_wp2_with fail
     go_roundw
     case rel=>exact⟨hb3,k+1,by omega,by go_num,HN.out⟩
     case measure=>simp[intOf];omega
   ·have HN:=Lib.hid (qL l k (by omega) hall.out)
    go_wp2_with fail
    go_ret
    exact⟨by rw[HM.out,HN.out];rfl,hbr⟩
 ·have HM:=Lib.hid (CO (q:=q) hm)
  go_wp2_with fail
  go_ret
  exact⟨by rw[HM.out];rfl,Below.refl _ _⟩
theorem adm(a:Option Addr)(cap f:Nat)(most:Int)(B0:Nat)(w:World):Calls Tryz.prog 168 #[.slice a 0 cap,.int .i64 most,.func (.func f) #[] #[.pointer (some ⟨B0,0,none⟩)]] w fun e w'=>e=.returned (.bool (decide ((0:Int)≤most)))∧Below w.heap.size w w':=by
 go_enter Tryz.func168,Tryz.ntmps168
 cases hm:decide (most<(0:Int))
 ·have HN:=Lib.hid (show decide ((0:Int)≤most)=true by simp at hm ⊢;omega)
  go_wp2_with fail
  refine wp_loop_rounds 1 ?_
  rw[rounds_succ]
  go_wp2_with fail
  go_ret
  exact⟨by rw[HN.out];rfl,Below.refl _ _⟩
 ·have HN:=Lib.hid (show decide ((0:Int)≤most)=false by simp at hm ⊢;omega)
  go_wp2_with fail
  go_ret
  exact⟨by rw[HN.out];rfl,Below.refl _ _⟩
theorem adn(a:Option Addr)(cap f:Nat)(most:Int)(l:List bP)(B0:Nat)(q:bP→Bool)(w:World)(hcf:Enters f)(hl:lL w a l)
  (hf:∀(x:Later w) (s:Sl) (p:bP),p∈l→kG x.w s p→Calls Tryz.prog f #[.agg (bY s p),.pointer (some ⟨B0,0,none⟩)] x.w fun e w'=>e=.returned (.bool (q p))∧Below x.w.heap.size x.w w') :
  Calls Tryz.prog 168 #[.slice a l.length cap,.int .i64 most,.func (.func f) #[] #[.pointer (some ⟨B0,0,none⟩)]] w fun e w'=>e=.returned (.bool (decide ((l.length:Int)≤most)&&l.all q))∧Below w.heap.size w w':=by
 have hn:l.length≤4294967000:=hl.1
 rcases bH.addr hl with h0|⟨b,o,rfl,hb⟩
 ·obtain rfl:l=[]:=List.eq_nil_of_length_eq_zero h0
  have:=adm a cap f most B0 w
  simpa using this
 have HF:=Lib.hid hf
 have FQ:=hcf.run
 clear hf hcf
 go_enter Tryz.func168,Tryz.ntmps168
 cases hm:decide (most<(l.length:Int))
 ·have HM:=Lib.hid (CP (q:=q) hm)
  go_wp2_with fail
  go_loopw [15] (fun i wr=>Below w.heap.size w wr∧∃k:Nat,k≤l.length∧i=.int .i64 k∧Hid ((l.take k).all q=true)) (fun i _=>l.length-(intOf i).toNat)
  case atStart=>exact⟨Below.refl _ _,0,Nat.zero_le _,rfl,by simp[Hid]⟩
  case round=>
   obtain⟨hbr,k,hk,rfl,hall⟩:=hrel
   by_cases hlt:k<l.length
   ·obtain⟨t,hc,hp⟩:=hl.at k hlt
    obtain⟨hcc,bf,hrr⟩:=aQ hbr
    go_wp2_with fail
    have hb1:=ay hbr (.cells (bY t l[k]) 80)
    have HB:=Lib.hid hb1
    clear hb1
    refine(HF.out ⟨_,HB.out⟩ t l[k] (List.getElem_mem hlt) (hp.later HB.out)).mono ?_
    rintro e w1 ⟨rfl,hb2⟩
    have hb3:=ag HB.out hb2
    clear hcc bf hrr
    cases hv:q l[k]
    ·have HN:=Lib.hid (qK l k hlt hv)
     go_wp2_with fail
     go_ret
     exact⟨by rw[HM.out,HN.out];rfl,hb3⟩
    ·have HN:=Lib.hid (lu l k hlt hall.out hv)
     go_wp2_with fail
     go_roundw
     case rel=>exact⟨hb3,k+1,by omega,by go_num,HN.out⟩
     case measure=>simp[intOf];omega
   ·have HN:=Lib.hid (qL l k (by omega) hall.out)
    go_wp2_with fail
    go_ret
    exact⟨by rw[HM.out,HN.out];rfl,hbr⟩
 ·have HM:=Lib.hid (CO (q:=q) hm)
  go_wp2_with fail
  go_ret
  exact⟨by rw[HM.out];rfl,Below.refl _ _⟩
theorem ado(a:Option Addr)(cap f:Nat)(most:Int)(B0:Nat)(B1:Nat)(w:World):Calls Tryz.prog 203 #[.slice a 0 cap,.int .i64 most,.func (.func f) #[] #[.pointer (some ⟨B0,0,none⟩),.pointer (some ⟨B1,0,none⟩)]] w fun e w'=>e=.returned (.bool (decide ((0:Int)≤most)))∧Below w.heap.size w w':=by
 go_enter Tryz.func203,Tryz.ntmps203
 cases hm:decide (most<(0:Int))
 ·have HN:=Lib.hid (show decide ((0:Int)≤most)=true by simp at hm ⊢;omega)
  go_wp2_with fail
  refine wp_loop_rounds 1 ?_
  rw[rounds_succ]
  go_wp2_with fail
  go_ret
  exact⟨by rw[HN.out];rfl,Below.refl _ _⟩
 ·have HN:=Lib.hid (show decide ((0:Int)≤most)=false by simp at hm ⊢;omega)
  go_wp2_with fail
  go_ret
  exact⟨by rw[HN.out];rfl,Below.refl _ _⟩
theorem adp(a:Option Addr)(cap f:Nat)(most:Int)(l:List Key)(B0:Nat)(B1:Nat)(q:Key→Bool)(w:World)(hcf:Enters f)(hl:kF w a l)
  (hf:∀(x:Later w) (s:Sl) (p:Key),p∈l→mg x.w s p→Calls Tryz.prog f #[.agg (dD s p),.pointer (some ⟨B0,0,none⟩),.pointer (some ⟨B1,0,none⟩)] x.w fun e w'=>e=.returned (.bool (q p))∧Below x.w.heap.size x.w w') :
  Calls Tryz.prog 203 #[.slice a l.length cap,.int .i64 most,.func (.func f) #[] #[.pointer (some ⟨B0,0,none⟩),.pointer (some ⟨B1,0,none⟩)]] w fun e w'=>e=.returned (.bool (decide ((l.length:Int)≤most)&&l.all q))∧Below w.heap.size w w':=by
 have hn:l.length≤4294967000:=hl.1
 rcases bH.addr hl with h0|⟨b,o,rfl,hb⟩
 ·obtain rfl:l=[]:=List.eq_nil_of_length_eq_zero h0
  have:=ado a cap f most B0 B1 w
  simpa using this
 have HF:=Lib.hid hf
 have FQ:=hcf.run
 clear hf hcf
 go_enter Tryz.func203,Tryz.ntmps203
 cases hm:decide (most<(l.length:Int))
 ·have HM:=Lib.hid (CP (q:=q) hm)
  go_wp2_with fail
  go_loopw [15] (fun i wr=>Below w.heap.size w wr∧∃k:Nat,k≤l.length∧i=.int .i64 k∧Hid ((l.take k).all q=true)) (fun i _=>l.length-(intOf i).toNat)
  case atStart=>exact⟨Below.refl _ _,0,Nat.zero_le _,rfl,by simp[Hid]⟩
  case round=>
   obtain⟨hbr,k,hk,rfl,hall⟩:=hrel
   by_cases hlt:k<l.length
   ·obtain⟨t,hc,hp⟩:=hl.at k hlt
    obtain⟨hcc,bf,hrr⟩:=aQ hbr
    go_wp2_with fail
    have hb1:=ay hbr (.cells (dD t l[k]) 176)
    have HB:=Lib.hid hb1
    clear hb1
    refine(HF.out ⟨_,HB.out⟩ t l[k] (List.getElem_mem hlt) (hp.later HB.out)).mono ?_
    rintro e w1 ⟨rfl,hb2⟩
    have hb3:=ag HB.out hb2
    clear hcc bf hrr
    cases hv:q l[k]
    ·have HN:=Lib.hid (qK l k hlt hv)
     go_wp2_with fail
     go_ret
     exact⟨by rw[HM.out,HN.out];rfl,hb3⟩
    ·have HN:=Lib.hid (lu l k hlt hall.out hv)
     go_wp2_with fail
     go_roundw
     case rel=>exact⟨hb3,k+1,by omega,by go_num,HN.out⟩
     case measure=>simp[intOf];omega
   ·have HN:=Lib.hid (qL l k (by omega) hall.out)
    go_wp2_with fail
    go_ret
    exact⟨by rw[HM.out,HN.out];rfl,hbr⟩
 ·have HM:=Lib.hid (CO (q:=q) hm)
  go_wp2_with fail
  go_ret
  exact⟨by rw[HM.out];rfl,Below.refl _ _⟩
theorem adq(a:Option Addr)(cap f:Nat)(most:Int)(w:World):Calls Tryz.prog 121 #[.slice a 0 cap,.int .i64 most,.func (.func f) #[] #[]] w fun e w'=>e=.returned (.bool (decide ((0:Int)≤most)))∧Below w.heap.size w w':=by
 go_enter Tryz.func121,Tryz.ntmps121
 cases hm:decide (most<(0:Int))
 ·have HN:=Lib.hid (show decide ((0:Int)≤most)=true by simp at hm ⊢;omega)
  go_wp2_with fail
  refine wp_loop_rounds 1 ?_
  rw[rounds_succ]
  go_wp2_with fail
  go_ret
  exact⟨by rw[HN.out];rfl,Below.refl _ _⟩
 ·have HN:=Lib.hid (show decide ((0:Int)≤most)=false by simp at hm ⊢;omega)
  go_wp2_with fail
  go_ret
  exact⟨by rw[HN.out];rfl,Below.refl _ _⟩
theorem adr(a:Option Addr)(cap f:Nat)(most:Int)(l:List (List UInt8))(q:(List UInt8)→Bool)(w:World)(hcf:Enters f)(hl:dY w a l)
  (hf:∀(x:Later w) (s:Sl) (p:(List UInt8)),p∈l→(fun w (s:Sl) p=>BytesAt w s.a p) x.w s p→Calls Tryz.prog f #[.slice s.a p.length s.cap] x.w fun e w'=>e=.returned (.bool (q p))∧Below x.w.heap.size x.w w') :
  Calls Tryz.prog 121 #[.slice a l.length cap,.int .i64 most,.func (.func f) #[] #[]] w fun e w'=>e=.returned (.bool (decide ((l.length:Int)≤most)&&l.all q))∧Below w.heap.size w w':=by
 have hn:l.length≤4294967000:=hl.1
 rcases dO.addr hl with h0|⟨b,o,rfl,hb⟩
 ·obtain rfl:l=[]:=List.eq_nil_of_length_eq_zero h0
  have:=adq a cap f most w
  simpa using this
 have HF:=Lib.hid hf
 have FQ:=hcf.run
 clear hf hcf
 go_enter Tryz.func121,Tryz.ntmps121
 cases hm:decide (most<(l.length:Int))
 ·have HM:=Lib.hid (CP (q:=q) hm)
  go_wp2_with fail
  go_loopw [15] (fun i wr=>Below w.heap.size w wr∧∃k:Nat,k≤l.length∧i=.int .i64 k∧Hid ((l.take k).all q=true)) (fun i _=>l.length-(intOf i).toNat)
  case atStart=>exact⟨Below.refl _ _,0,Nat.zero_le _,rfl,by simp[Hid]⟩
  case round=>
   obtain⟨hbr,k,hk,rfl,hall⟩:=hrel
   by_cases hlt:k<l.length
   ·obtain⟨t,hc,hp⟩:=hl.at k hlt
    obtain⟨hcc,bf,hrr⟩:=aQ hbr
    go_wp2_with fail
    have hb1:=hbr
    have HB:=Lib.hid hb1
    clear hb1
    refine(HF.out ⟨_,HB.out⟩ t l[k] (List.getElem_mem hlt) (hp.later HB.out)).mono ?_
    rintro e w1 ⟨rfl,hb2⟩
    have hb3:=ag HB.out hb2
    clear hcc bf hrr
    cases hv:q l[k]
    ·have HN:=Lib.hid (qK l k hlt hv)
     go_wp2_with fail
     go_ret
     exact⟨by rw[HM.out,HN.out];rfl,hb3⟩
    ·have HN:=Lib.hid (lu l k hlt hall.out hv)
     go_wp2_with fail
     go_roundw
     case rel=>exact⟨hb3,k+1,by omega,by go_num,HN.out⟩
     case measure=>simp[intOf];omega
   ·have HN:=Lib.hid (qL l k (by omega) hall.out)
    go_wp2_with fail
    go_ret
    exact⟨by rw[HM.out,HN.out];rfl,hbr⟩
 ·have HM:=Lib.hid (CO (q:=q) hm)
  go_wp2_with fail
  go_ret
  exact⟨by rw[HM.out];rfl,Below.refl _ _⟩
end Go.Proofs.YtpfifochimkpfaaGreatDoor
namespace Go.WW
theorem Rw{α:Type}{r:α→α→Bool}{l:List α}(j:Nat)(h:j+1<l.length)(hr:r l[j] l[j+1]=false):ordered r l=false:=by
 refine Cf _ (j+1) h ?_
 simp[jA,h,show j<l.length by omega,hr]
theorem Rx{α:Type}{r:α→α→Bool}{l:List α}(j:Nat)(h:j+1<l.length)(hall:(List.range (j+1)).all (jA r l)=true)(hr:r l[j] l[j+1]=true):(List.range (j+1+1)).all (jA r l)=true:=by
 refine Fp (j+1) hall ?_
 simp[jA,h,show j<l.length by omega,hr]
theorem Ry{α:Type}{r:α→α→Bool}{l:List α}(j:Nat)(h:¬j+1<l.length)(hall:(List.range (j+1)).all (jA r l)=true):ordered r l=true:=by
 rw[ordered,List.all_eq_true]
 rw[List.all_eq_true]at hall
 intro i hi
 exact hall i (by simp at hi ⊢;omega)
theorem Rz{α:Type}(r:α→α→Bool)(l:List α):(List.range (0+1)).all (jA r l)=true:=by simp[jA]
theorem ads{a b:bP}(h:decide (b.version<a.version)=false):kK a b=false:=by rw[kK,h];rfl
theorem adt{a b:bP}(h:decide (b.version<a.version)=true):kK a b=decide (b.created≤a.created):=by rw[kK,h];rfl
end Go.WW
namespace Go.Proofs.YtpfifochimkpfaaGreatDoor
open Go.RowKit Go.WW
theorem RD(s t:Sl)(a b:Key)(w:World):Calls Tryz.prog 205 #[.agg (dD s a),.agg (dD t b)] w fun e w'=>e=.returned (.bool (mF a b))∧Below w.heap.size w w':=by
 go_enter Tryz.func205,Tryz.ntmps205
 go_wp2_with fail
 go_ret
 exact⟨by rfl,((Below.refl _ _).alloc (Nat.le_refl _) _).alloc (by simp) _⟩
theorem RF(s t:Sl)(a b:bP)(w:World):Calls Tryz.prog 172 #[.agg (bY s a),.agg (bY t b)] w fun e w'=>e=.returned (.bool (kK a b))∧Below w.heap.size w w':=by
 go_enter Tryz.func172,Tryz.ntmps172
 cases h:decide (b.version<a.version)
 ·have HN:=Lib.hid (ads h)
  go_wp2_with fail
  go_ret
  exact⟨by rw[HN.out];rfl,((Below.refl _ _).alloc (Nat.le_refl _) _).alloc (by simp) _⟩
 ·have HN:=Lib.hid (adt h)
  go_wp2_with fail
  go_ret
  exact⟨by rw[HN.out];rfl,((Below.refl _ _).alloc (Nat.le_refl _) _).alloc (by simp) _⟩
theorem adu(a:Option Addr)(cap:Nat)(w:World):Calls Tryz.prog 204 #[.slice a 0 cap,.func (.func 205) #[] #[]] w fun e w'=>e=.returned (.bool true)∧Below w.heap.size w w':=by
 go_enter Tryz.func204,Tryz.ntmps204
 go_wp2_with fail
 refine wp_loop_rounds 1 ?_
 rw[rounds_succ]
 go_wp2_with fail
 go_ret
 exact⟨rfl,Below.refl _ _⟩
theorem adv(a:Option Addr)(cap:Nat)(l:List Key)(w:World)(hl:kF w a l) :
  Calls Tryz.prog 204 #[.slice a l.length cap,.func (.func 205) #[] #[]] w fun e w'=>e=.returned (.bool (ordered mF l))∧Below w.heap.size w w':=by
 have hn:l.length≤4294967000:=hl.1
 rcases bH.addr hl with h0|⟨b,o,rfl,hb⟩
 ·obtain rfl:l=[]:=List.eq_nil_of_length_eq_zero h0
  exact adu a cap w
 go_enter Tryz.func204,Tryz.ntmps204
 go_wp2_with fail
 go_loopw [5] (fun i wr=>Below w.heap.size w wr∧∃j:Nat,j≤l.length∧i=.int .i64 ((j:Int)+1)∧Hid ((List.range (j+1)).all (jA mF l)=true)) (fun i _=>l.length+1-(intOf i).toNat)
 case atStart=>exact⟨Below.refl _ _,0,Nat.zero_le _,rfl,Rz _ _⟩
 case round=>
  obtain⟨hbr,j,hj,rfl,hall⟩:=hrel
  by_cases hlt:j+1<l.length
  ·obtain⟨s,hc,hp⟩:=hl.at j (by omega)
   obtain⟨t,hc',hp'⟩:=hl.at (j+1) hlt
   have hlt':((j:Int)+1<(l.length:Int)):=by omega
   have hjj:(j:Int)+1-1=(j:Int):=by omega
   have ht1:((j:Int)+1).toNat=j+1:=by omega
   have h00:(0:Int)≤(j:Int)+1:=by omega
   have hw1:IntKind.i64.wrap ((j:Int)+1-1)=(j:Int):=by rw[hjj];exact IntWalk.i64_in _ (by omega)
   have hjl:j<l.length:=by omega
   cases hv:mF l[j] l[j+1]
   ·have HN:=Lib.hid (Rw j hlt hv)
    go_wp2_with fail
    refine dN hbr (by kernel_rfl) (by kernel_rfl) ?_
    repeat (go_big_quiet_step ((go_at_call 205;exact Calls.iq (RD _ _ _ _ _))))
    refine wpQuiet_nil ?_
    intro w2 hb2
    rw[hv]
    go_wp2_with fail
    go_ret
    exact⟨by rw[HN.out];rfl,hb2⟩
   ·have HN:=Lib.hid (Rx j hlt hall.out hv)
    go_wp2_with fail
    refine dN hbr (by kernel_rfl) (by kernel_rfl) ?_
    repeat (go_big_quiet_step ((go_at_call 205;exact Calls.iq (RD _ _ _ _ _))))
    refine wpQuiet_nil ?_
    intro w2 hb2
    rw[hv]
    go_wp2_with fail
    clear hjj ht1 h00 hw1
    go_roundw
    case rel=>exact⟨hb2,j+1,by omega,by go_num,HN.out⟩
    case measure=>simp[intOf];omega
  ·have HN:=Lib.hid (Ry j hlt hall.out)
   have hlt':¬((j:Int)+1<(l.length:Int)):=by omega
   go_wp2_with fail
   go_ret
   exact⟨by rw[HN.out];rfl,hbr⟩
theorem adw(a:Option Addr)(cap:Nat)(w:World):Calls Tryz.prog 171 #[.slice a 0 cap,.func (.func 172) #[] #[]] w fun e w'=>e=.returned (.bool true)∧Below w.heap.size w w':=by
 go_enter Tryz.func171,Tryz.ntmps171
 go_wp2_with fail
 refine wp_loop_rounds 1 ?_
 rw[rounds_succ]
 go_wp2_with fail
 go_ret
 exact⟨rfl,Below.refl _ _⟩
theorem adx(a:Option Addr)(cap:Nat)(l:List bP)(w:World)(hl:lL w a l) :
  Calls Tryz.prog 171 #[.slice a l.length cap,.func (.func 172) #[] #[]] w fun e w'=>e=.returned (.bool (ordered kK l))∧Below w.heap.size w w':=by
 have hn:l.length≤4294967000:=hl.1
 rcases bH.addr hl with h0|⟨b,o,rfl,hb⟩
 ·obtain rfl:l=[]:=List.eq_nil_of_length_eq_zero h0
  exact adw a cap w
 go_enter Tryz.func171,Tryz.ntmps171
 go_wp2_with fail
 go_loopw [5] (fun i wr=>Below w.heap.size w wr∧∃j:Nat,j≤l.length∧i=.int .i64 ((j:Int)+1)∧Hid ((List.range (j+1)).all (jA kK l)=true)) (fun i _=>l.length+1-(intOf i).toNat)
 case atStart=>exact⟨Below.refl _ _,0,Nat.zero_le _,rfl,Rz _ _⟩
 case round=>
  obtain⟨hbr,j,hj,rfl,hall⟩:=hrel
  by_cases hlt:j+1<l.length
  ·obtain⟨s,hc,hp⟩:=hl.at j (by omega)
   obtain⟨t,hc',hp'⟩:=hl.at (j+1) hlt
   have hlt':((j:Int)+1<(l.length:Int)):=by omega
   have hjj:(j:Int)+1-1=(j:Int):=by omega
   have ht1:((j:Int)+1).toNat=j+1:=by omega
   have h00:(0:Int)≤(j:Int)+1:=by omega
   have hw1:IntKind.i64.wrap ((j:Int)+1-1)=(j:Int):=by rw[hjj];exact IntWalk.i64_in _ (by omega)
   have hjl:j<l.length:=by omega
   cases hv:kK l[j] l[j+1]
   ·have HN:=Lib.hid (Rw j hlt hv)
    go_wp2_with fail
    refine dN hbr (by kernel_rfl) (by kernel_rfl) ?_
    repeat (go_big_quiet_step ((go_at_call 172;exact Calls.iq (RF _ _ _ _ _))))
    refine wpQuiet_nil ?_
    intro w2 hb2
    rw[hv]
    go_wp2_with fail
    go_ret
    exact⟨by rw[HN.out];rfl,hb2⟩
   ·have HN:=Lib.hid (Rx j hlt hall.out hv)
    go_wp2_with fail
    refine dN hbr (by kernel_rfl) (by kernel_rfl) ?_
    repeat (go_big_quiet_step ((go_at_call 172;exact Calls.iq (RF _ _ _ _ _))))
    refine wpQuiet_nil ?_
    intro w2 hb2
    rw[hv]
    go_wp2_with fail
    clear hjj ht1 h00 hw1
    go_roundw
    case rel=>exact⟨hb2,j+1,by omega,by go_num,HN.out⟩
    case measure=>simp[intOf];omega
  ·have HN:=Lib.hid (Ry j hlt hall.out)
   have hlt':¬((j:Int)+1<(l.length:Int)):=by omega
   go_wp2_with fail
   go_ret
   exact⟨by rw[HN.out];rfl,hbr⟩
end Go.Proofs.YtpfifochimkpfaaGreatDoor
namespace Go.WW
open Go.RowKit
def AO(commaOk:Bool)(z:Value):Option (Nat×Value)→Value
 |some (_,v)=>if commaOk then .tuple #[v,.bool true]else v
 |none=>if commaOk then .tuple #[z,.bool false]else z
theorem J5{P:Program}{w:World}{mty kt et:TypeId}{d:TypeDesc}{r clock:Nat}{es:Array MapEntry}{k z:Value}{found:Option (Nat×Value)}(commaOk:Bool)(hm:P.underlying mty=some (.map kt et))(hd:P.underlying kt=some d)(hk:MapKept.IsKey d k)
  (hf:Instr.findNow d k es.toList 0=some found) (hz:(zeroValue et).run P w=.ok z w) (hb:w.heap[r]?=some (.map es clock)) :
  (Instr.lookup mty (.map (some r)) k commaOk).run P w=.ok (AO commaOk z found) w:=by
 have hc:(Instr.checkKey es.isEmpty 10000 kt k).run P w=.ok () w:=MapKept.run_checkKey hd hk _ 9999
 cases found with
 |none=>simp[Instr.lookup,run_underlying hm,MapKept.run_getObj_map hb,hc,MapKept.run_findKey hd hf,Result.andThen,hz,AO]
 |some x=>obtain⟨i,v⟩:=x;simp[Instr.lookup,run_underlying hm,MapKept.run_getObj_map hb,hc,MapKept.run_findKey hd hf,Result.andThen,AO]
end Go.WW
namespace Go.Proofs.YtpfifochimkpfaaGreatDoor
open Go.RowKit Go.WW
def vC:Array Value:=#[.string ⟨#[97,101,115,49,50,56,45,99,116,115,45,104,109,97,99,45,115,104,97,50,53,54,45,49,50,56]⟩,.int .i64 16,.int .i64 16,.int .i64 16,.int .i64 16,.func (.func 254) #[] #[],.func (.func 255) #[] #[],.func (.func 256) #[] #[]]
def AP:Array Value:=#[.string ⟨#[115,116,114,101,97,109,45,104,109,97,99,45,115,104,97,50,53,54,45,50,53,54]⟩,.int .i64 32,.int .i64 16,.int .i64 32,.int .i64 32,.func (.func 257) #[] #[],.func (.func 258) #[] #[],.func (.func 259) #[] #[]]
def yC:Array MapEntry:=#[{key:=.int .i64 1,val:=.agg vC,born:=0},{key:=.int .i64 2,val:=.agg AP,born:=1}]
theorem ady(w:World):(iI 249 #[(0,.string ⟨#[97,101,115,49,50,56,45,99,116,115,45,104,109,97,99,45,115,104,97,50,53,54,45,49,50,56]⟩),(1,.agg #[.int .i64 16,.int .i64 16,.int .i64 16,.int .i64 16]),(2,.func (.func 254) #[] #[]),(3,.func (.func 255) #[] #[]),(4,.func (.func 256) #[] #[])]).run Tryz.prog w=.ok (.value (.agg vC)) w:=by kernel_rfl
theorem adz(w:World):(iI 249 #[(0,.string ⟨#[115,116,114,101,97,109,45,104,109,97,99,45,115,104,97,50,53,54,45,50,53,54]⟩),(1,.agg #[.int .i64 32,.int .i64 16,.int .i64 32,.int .i64 32]),(2,.func (.func 257) #[] #[]),(3,.func (.func 258) #[] #[]),(4,.func (.func 259) #[] #[])]).run Tryz.prog w=.ok (.value (.agg AP)) w:=by kernel_rfl
theorem adA(ρ:Operand→Value)(dst:Option Tmp)(a b c d e:Nat×Operand)(ty:TypeId)(pos:String)(after:Array Edge)(guard:Option (Nat×Bool)):execOp ρ {dst,op:=.build 249 #[a,b,c,d,e],type:=ty,pos,after,guard}=iI 249 #[(a.1,ρ a.2),(b.1,ρ b.2),(c.1,ρ c.2),(d.1,ρ d.2),(e.1,ρ e.2)]:=by simp[execOp,iI]
attribute [go_sem] ady adz
attribute [go_sem ↓] adA
theorem RG(w:World):Calls Tryz.prog 235 #[] w fun e w'=>e=.returned (.map (some w.heap.size))∧w'.heap[w.heap.size]?=some (.map yC 2)∧Below w.heap.size w w':=by
 have hm1:(w.alloc (.map #[] 0)).heap[w.heap.size]?=some (.map #[] 0):=World.alloc_heap_new w (.map #[] 0)
 have hi1:=CE (P:=Tryz.prog) (.agg vC) Tryz.underlying250 Tryz.underlying3 (k:=.int .i64 1) rfl (by rfl) hm1
 have hm2:((w.alloc (.map #[] 0)).putObj w.heap.size (.map #[{key:=.int .i64 1,val:=.agg vC,born:=0}] 1)).heap[w.heap.size]?=some (.map #[{key:=.int .i64 1,val:=.agg vC,born:=0}] 1):=World.putObj_heap_same (by simp)
 have hi2:=CE (P:=Tryz.prog) (.agg AP) Tryz.underlying250 Tryz.underlying3 (k:=.int .i64 2) rfl (by rfl) hm2
 obtain⟨W3,hW3⟩:∃W,((w.alloc (.map #[] 0)).putObj w.heap.size (.map #[{key:=.int .i64 1,val:=.agg vC,born:=0}] 1)).putObj w.heap.size (.map #[{key:=.int .i64 1,val:=.agg vC,born:=0},{key:=.int .i64 2,val:=.agg AP,born:=1}] 2)=W:=⟨_,rfl⟩
 have tH:W3.heap[w.heap.size]?=some (.map yC 2):=by rw[←hW3];exact World.putObj_heap_same (by simp)
 simp only[List.push_toArray,List.nil_append,List.cons_append,Nat.zero_add,Nat.reduceAdd]at hi1 hi2
 rw[hW3]at hi2
 have hB3:Below w.heap.size w W3:=by
  rw[←hW3]
  exact((Below.refl _ _).alloc (Nat.le_refl _) _).grown (grownBy_putObj' _ _ _) (by simp) (fun k e=>by cases e;omega) |>.grown (grownBy_putObj' _ _ _) (by simp) (fun k e=>by cases e;omega)
 have hmm:=@run_makeMap Tryz.prog
 have HM:=Lib.hid tH
 clear tH hm1 hm2 hW3
 go_enter Tryz.func235,Tryz.ntmps235
 go_wp2_with fail
 go_ret
 exact⟨rfl,HM.out,hB3⟩
def J6:Array Value:=#[.string ⟨#[]⟩,.int .i64 0,.int .i64 0,.int .i64 0,.int .i64 0,.nilFunc,.nilFunc,.nilFunc]
def o7(n:Int):Bool:=n == 1 || n == 2
def lQ(n:Int):Array Value:=if n == 1 then vC else if n == 2 then AP else J6
theorem adB(w:World):(zeroValue 249).run Tryz.prog w=.ok (.agg J6) w:=by kernel_rfl
def FT(n:Int):Option (Nat×Value):=if n == 1 then some (0,.agg vC)else if n == 2 then some (1,.agg AP)else none
theorem adC(n:Int):Instr.findNow (.int .i64) (.int .i64 n) yC.toList 0=some (FT n):=by
 unfold FT
 by_cases h1:n=1
 ·subst h1;rfl
 ·by_cases h2:n=2
  ·subst h2;rfl
  ·have e1:(n == 1)=false:=by simpa using h1
   have e2:(n == 2)=false:=by simpa using h2
   simp[Instr.findNow,Instr.sameNow,yC,e1,e2]
theorem adD(b:Bool)(n:Int):AO b (.agg J6) (FT n)=if b then .tuple #[.agg (lQ n),.bool (o7 n)]else .agg (lQ n):=by
 unfold FT lQ o7
 by_cases h1:n=1
 ·subst h1;rfl
 ·by_cases h2:n=2
  ·subst h2;rfl
  ·have e1:(n == 1)=false:=by simpa using h1
   have e2:(n == 2)=false:=by simpa using h2
   simp[e1,e2,AO]
theorem RI(b:Bool)(n:Int){w:World}{r:Nat}(hb:w.heap[r]?=some (.map yC 2)):(Instr.lookup 250 (.map (some r)) (.int .i64 n) b).run Tryz.prog w=.ok (if b then .tuple #[.agg (lQ n),.bool (o7 n)]else .agg (lQ n)) w:=by
 rw[←adD]
 exact J5 b Tryz.underlying250 Tryz.underlying3 rfl (adC n) (adB w) hb
def conf(n:Int):Int:=if n == 1 then 16 else if n == 2 then 16 else 0
theorem FU(n:Int):∃a b c d:Value,lQ n=#[a,.int .i64 (dP n),.int .i64 (conf n),.int .i64 (dP n),.int .i64 (dP n),b,c,d]∧dL #[a,b,c,d]=true:=by
 unfold lQ dP conf
 by_cases h1:n=1
 ·subst h1;exact⟨_,_,_,_,rfl,by simp[dL,Value.oneCell']⟩
 ·by_cases h2:n=2
  ·subst h2;exact⟨_,_,_,_,rfl,by simp[dL,Value.oneCell']⟩
  ·have e1:(n == 1)=false:=by simpa using h1
   have e2:(n == 2)=false:=by simpa using h2
   rw[e1,e2];exact⟨_,_,_,_,rfl,by simp[dL,Value.oneCell']⟩
theorem adE(w:World)(n:Int):(Instr.field 249 (.agg (lQ n)) 1).run Tryz.prog w=.ok (.agg #[.int .i64 (dP n),.int .i64 (conf n),.int .i64 (dP n),.int .i64 (dP n)]) w:=by
 obtain⟨a,b,c,d,h,_⟩:=FU n
 rw[h];kernel_rfl
theorem adF(w:World)(a b c d:Int):(Instr.field 245 (.agg #[.int .i64 a,.int .i64 b,.int .i64 c,.int .i64 d]) 0).run Tryz.prog w=.ok (.int .i64 a) w:=by kernel_rfl
theorem adG(n:Int)(w:World):Calls Tryz.prog 201 #[.int .i64 n] w fun e w'=>e=.returned (.int .i64 (dP n))∧Below w.heap.size w w':=by
 have hkf:=fun w=>adE w n
 have hlf:=fun w=>adF w (dP n) (conf n) (dP n) (dP n)
 go_enter Tryz.func201,Tryz.ntmps201
 go_wp2_with fail
 refine(RG _).mono ?_
 rintro e w1 ⟨rfl,hm,hb⟩
 have hlk:(Instr.lookup 250 (.map (some w.heap.size)) (.int .i64 n) false).run Tryz.prog w1=.ok (.agg (lQ n)) w1:=RI false n hm
 have HN:=Lib.hid hb
 clear hm hb
 go_wp2_with fail
 go_ret
 exact⟨rfl,HN.out⟩
theorem RJ(n:Int):(lQ n).size=8:=by obtain⟨a,b,c,d,h,_⟩:=FU n;rw[h];rfl
theorem adH(n:Int):dL (lQ n)=true:=by
 obtain⟨a,b,c,d,h,h1⟩:=FU n
 rw[h]
 simp[dL,Value.oneCell']at h1 ⊢
 exact⟨h1.1,h1.2.1,h1.2.2.1,h1.2.2.2⟩
theorem J7(n:Int):(lQ n)[1]?=some (.int .i64 (dP n)):=by obtain⟨a,b,c,d,h,_⟩:=FU n;rw[h];rfl
theorem adI(n:Int)(h:1<(lQ n).size):(lQ n)[1]'h=.int .i64 (dP n):=by
 have:=J7 n;rw[Array.getElem?_eq_getElem h]at this;exact Option.some.inj this
attribute [go_sem] RJ adH J7 adI
theorem adJ(w:World)(b o:Nat):(kP 249 (.pointer (some ⟨b,o,none⟩))).run Tryz.prog w=sK Tryz.prog 249 w b o (row? w b o 8):=wO Tryz.underlying249 rfl (by kernel_rfl) w b o
theorem adK(ρ:Operand→Value)(dst:Option Tmp)(x:Operand)(ty:TypeId)(pos:String)(after:Array Edge)(guard:Option (Nat×Bool)):execOp ρ {dst,op:=.load 249 x,type:=ty,pos,after,guard}=kP 249 (ρ x):=rfl
attribute [go_sem] adJ
attribute [go_sem ↓] adK
theorem adL(w:World)(b o:Nat)(cs:Array Value)(hn:cs.size=8)(h1:dL cs=true):(kQ 249 (.pointer (some ⟨b,o,none⟩)) (.agg cs)).run Tryz.prog w=sO Tryz.prog 249 w b o cs (aX w b o 8):=wP (by kernel_rfl) w b o cs hn h1
theorem adM(ρ:Operand→Value)(dst:Option Tmp)(x y:Operand)(ty:TypeId)(pos:String)(after:Array Edge)(guard:Option (Nat×Bool)):execOp ρ {dst,op:=.store 249 x y,type:=ty,pos,after,guard}=kQ 249 (ρ x) (ρ y):=rfl
attribute [go_sem] adL
attribute [go_sem ↓] adM
theorem adN(w:World):Calls Tryz.prog 235 #[] w fun e w'=>∃r,e=.returned (.map (some r))∧w'.heap[r]?=some (.map yC 2)∧Below w.heap.size w w':=(RG w).mono fun _ _ ⟨h1,h2,h3⟩=>⟨_,h1,h2,h3⟩
theorem RN(n:Int){w:World}{r:Nat}(hb:w.heap[r]?=some (.map yC 2)):(Instr.lookup 250 (.map (some r)) (.int .i64 n) true).run Tryz.prog w=.ok (.tuple #[.agg (lQ n),.bool (o7 n)]) w:=RI true n hb
theorem below2(w:World)(a b:Obj):Below w.heap.size w ((w.alloc a).alloc b).drew:=(((Below.refl _ w).alloc (Nat.le_refl _) _).alloc (by simp) _).drew
theorem below3(w:World)(a b c:Obj):Below w.heap.size w (((w.alloc a).alloc b).alloc c).drew:=((((Below.refl _ w).alloc (Nat.le_refl _) _).alloc (by simp) _).alloc (by simp;omega) _).drew
theorem adO(c:Array Value)(h:c.size=8)(x:Value)(h1:c[1]?=some x):#[c[0]'(by omega),x,c[2]'(by omega),c[3]'(by omega),c[4]'(by omega),c[5]'(by omega),c[6]'(by omega),c[7]'(by omega)]=c:=by
 obtain⟨l⟩:=c
 match l,h with
 | [a0,a1,a2,a3,a4,a5,a6,a7],_=>simp at h1 ⊢;exact h1.symm
theorem adP(k:Key):o7 k.profile=false∨(o7 k.profile=true∧((k.bytes.length:Int) == dP k.profile)=false)∨(o7 k.profile=true∧((k.bytes.length:Int) == dP k.profile)=true∧decide (0≤k.version)=false)∨
  (o7 k.profile=true∧((k.bytes.length:Int) == dP k.profile)=true∧decide (0≤k.version)=true):=by
 cases o7 k.profile<;>cases ((k.bytes.length:Int) == dP k.profile)<;>cases decide (0≤k.version)<;>simp
theorem adQ(k:Key):nG k=(o7 k.profile&&((k.bytes.length:Int) == dP k.profile)&&decide (0≤k.version)&&decide (k.version≤65535)):=by
 have:decide (0<dP k.profile)=o7 k.profile:=by
  unfold dP o7
  by_cases h1:k.profile=1
  ·rw[h1];rfl
  ·by_cases h2:k.profile=2
   ·rw[h2];rfl
   ·have e1:(k.profile == 1)=false:=by simpa using h1
    have e2:(k.profile == 2)=false:=by simpa using h2
    rw[e1,e2];rfl
 rw[nG,this,aC,Bool.and_assoc,Bool.and_assoc,Bool.and_assoc]
theorem adR(s:Sl)(k:Key)(w:World):Calls Tryz.prog 236 #[.agg (dD s k)] w fun e w'=>e=.returned (.tuple #[.agg (lQ k.profile),.bool (nG k)])∧Below w.heap.size w w':=by
 rw[adQ]
 go_enter Tryz.func236,Tryz.ntmps236
 go_wp2_with fail
 have hne:w.heap.size≠w.heap.size+1+1:=by omega
 have hne1:w.heap.size+1≠w.heap.size+1+1:=by omega
 go_region_with (go_at_call 235;refine(adN _).mono ?_;rintro e w1 ⟨r,rfl,hm,hb⟩;have hsz:w.heap.size+1<w1.heap.size:=(by have:=hb.size;simp at this;omega);have hsz0:w.heap.size<w1.heap.size:=Nat.lt_of_succ_lt hsz;have hsz1:r<w1.heap.size:=(Array.getElem?_eq_some_iff.1 hm).1;obtain⟨hcc,bf,hrr⟩:=aQ hb;have hB:Below w.heap.size w w1:=(by first|exact ag (below2 w _ _) hb|exact ag (below3 w _ _ _) hb);have hpp:=fD hb;have hlk:=RN k.profile hm;have ana:=fun o=>RN (w:=w1.alloc o) k.profile ((Below.heap_alloc w1 o _ (Array.getElem?_eq_some_iff.1 hm).1).trans hm))
 all_goals rcases adP k with c1|⟨c1,c2⟩|⟨c1,c2,c3⟩|⟨c1,c2,c3⟩
 all_goals go_wp2_with fail
 all_goals refine bodyPost_ret (v:=.tuple #[.agg (lQ k.profile),.bool (o7 k.profile&&((k.bytes.length:Int) == dP k.profile)&&decide (0≤k.version)&&decide (k.version≤65535))]) (by simp[results,Tryz.results236,go_sem, *];exact adO _ (RJ _) _ (J7 _)) rfl ⟨rfl,?_⟩
 all_goals first
  |exact Go.WW.Below.putRow (hB.alloc hB.size _) (by omega)
  |exact Go.WW.Below.putRow (Go.WW.Below.putRow hB (by omega)) (by omega)
end Go.Proofs.YtpfifochimkpfaaGreatDoor
namespace Go.WW
theorem adS{m v:Int}{k:Key}(h:(k.version != v)=true):iO m v k=false:=by rw[iO,h];simp
theorem adT{m v:Int}{k:Key}(h:(dP k.profile == 0)=true):iO m v k=false:=by rw[iO,h];simp
theorem adU{m v:Int}{k:Key}(h:(k.version != v)=false)(h2:(dP k.profile == 0)=false)(h3:(m == 0)=true):iO m v k=nG k:=by rw[iO,h,h2,h3];simp
theorem adV{m v:Int}{k:Key}(h:(k.version != v)=false)(h2:(dP k.profile == 0)=false)(h3:(m == 0)=false):iO m v k=aC k.bytes.length 1 256:=by rw[iO,h,h2,h3];simp
theorem adW{m:Int}{x:bP}(h:aC x.version 1 65535=false):gX m x=false:=by rw[gX,jd,h];simp
theorem adX{m:Int}{x:bP}(h:decide (1≤(x.keys.length:Int))=false):gX m x=false:=by
 have e:aC x.keys.length 1 4=false:=by rw[aC,h];rfl
 rw[gX,jd,e];simp
theorem adY{m:Int}{x:bP}(h:(decide ((x.keys.length:Int)≤4)&&x.keys.all (iO m x.version))=false):gX m x=false:=by
 rw[Bool.and_eq_false_iff]at h
 rcases h with h|h
 ·rw[gX,jd,show aC x.keys.length 1 4=false by rw[aC,h];simp];simp
 ·rw[gX,h];simp
theorem adZ{m:Int}{x:bP}(h:ordered mF x.keys=false):gX m x=false:=by rw[gX,h];simp
theorem ad1{m:Int}{x:bP}(h2:decide (1≤(x.keys.length:Int))=true)(h3:(decide ((x.keys.length:Int)≤4)&&x.keys.all (iO m x.version))=true)(h4:ordered mF x.keys=true):gX m x=jd x∧aC x.keys.length 1 4=true:=by
 rw[Bool.and_eq_true]at h3
 exact⟨by rw[gX,h3.2,h4];rfl,by rw[aC,h2,h3.1];rfl⟩
end Go.WW
namespace Go.Proofs.YtpfifochimkpfaaGreatDoor
open Go.RowKit Go.WW
theorem ad2(s:Sl)(k:Key)(w:World):Calls Tryz.prog 202 #[.agg (dD s k)] w fun e w'=>e=.returned (.bool (nG k))∧Below w.heap.size w w':=by
 go_enter Tryz.func202,Tryz.ntmps202
 go_wp2_with fail
 refine(adR _ _ _).mono ?_
 rintro e w1 ⟨rfl,hb⟩
 have hB:Below w.heap.size w w1:=ag ((Below.refl _ w).alloc (Nat.le_refl _) _) hb
 go_wp2_with fail
 go_ret
 exact⟨rfl,hB.alloc hB.size _⟩
theorem ad3(s:Sl)(k:Key)(B0 B1:Nat)(m v:Int)(w:World)(hl:k.bytes.length≤lim)(h0:w.cell? ⟨B0,0,none⟩=some (.int .i64 v))(h1:w.cell? ⟨B1,0,none⟩=some (.int .i64 m)) :
  Calls Tryz.prog 200 #[.agg (dD s k),.pointer (some ⟨B0,0,none⟩),.pointer (some ⟨B1,0,none⟩)] w fun e w'=>e=.returned (.bool (iO m v k))∧Below w.heap.size w w':=by
 have hb0:B0<w.heap.size:=World.block_lt_of_cell? w _ h0
 have hb1:B1<w.heap.size:=World.block_lt_of_cell? w _ h1
 have hl':k.bytes.length≤4294967000:=hl
 have hB:Below w.heap.size w (w.alloc (.cells (dD s k) 176)):=(Below.refl _ w).alloc (Nat.le_refl _) _
 go_enter Tryz.func200,Tryz.ntmps200
 cases c1:(k.version != v)
 ·go_wp2_with fail
  refine(adG _ _).mono ?_
  rintro e w1 ⟨rfl,hb⟩
  have hB1:=ag hB hb
  obtain⟨hcc,bf,hrr⟩:=aQ hb
  have hsz:w.heap.size<w1.heap.size:=by have:=hb.size;simp at this;omega
  cases c2:(dP k.profile == 0)
  ·cases c3:(m == 0)
   ·have HN:=Lib.hid (adV c1 c2 c3)
    go_wp2_with (go_at_call 116;refine(wS _ _ _ _).mono ?_;rintro e w' ⟨rfl,rfl⟩)
    go_ret
    exact⟨by rw[HN.out];rfl,hB1⟩
   ·have HN:=Lib.hid (adU c1 c2 c3)
    go_wp2_with fail
    refine(ad2 _ _ _).mono ?_
    rintro e w2 ⟨rfl,hb2⟩
    go_wp2_with fail
    go_ret
    exact⟨by rw[HN.out];rfl,ag hB1 hb2⟩
  ·have HN:=Lib.hid (adT (m:=m) (v:=v) c2)
   go_wp2_with fail
   go_ret
   exact⟨by rw[HN.out];rfl,hB1⟩
 ·have HN:=Lib.hid (adS (m:=m) c1)
  go_wp2_with fail
  go_ret
  exact⟨by rw[HN.out];rfl,hB⟩
theorem ad4:Enters 200:=⟨fun args w=>by kernel_rfl⟩
end Go.Proofs.YtpfifochimkpfaaGreatDoor
namespace Go.WW
open Go.RowKit
theorem ad5(s:ByteArray)(es:List MapEntry)(keys:List ByteArray)(h:es.map (·.key)=keys.map Value.string) :
  (AB keys s=false∧Instr.findNow .string (.string s) es 0=some none)∨
  (AB keys s=true∧∃j e,Instr.findNow .string (.string s) es 0=some (some (0+j,e.val))∧es[j]?=some e∧e.key=.string s):=by
 have hm:∀x∈es,∃k∈keys,x.key=.string k:=fun x hx=>by
  have:x.key∈es.map (·.key):=List.mem_map.2 ⟨x,hx,rfl⟩
  rw[h,List.mem_map]at this
  obtain⟨k,hk,e⟩:=this
  exact⟨k,hk,e.symm⟩
 rcases MapKept.findNow_spec (d:=.string) (k:=.string s) trivial es 0 (fun x hx=>by obtain⟨k,_,e⟩:=hm x hx;rw[e];trivial)with⟨h1,h2⟩|⟨j,e,h1,h2,h3⟩
 ·refine .inl ⟨?_,h1⟩
  cases hk:AB keys s with
  |false=>rfl
  |true=>
   have:=(FM keys s).1 hk
   have:Value.string s∈es.map (·.key):=by rw[h];exact List.mem_map.2 ⟨s,this,rfl⟩
   obtain⟨x,hx,e⟩:=List.mem_map.1 this
   exact absurd e (h2 x hx)
 ·refine .inr ⟨?_,j,e,h1,h2,h3⟩
  obtain⟨k,hk,e'⟩:=hm e (List.mem_of_getElem? h2)
  rw[h3]at e'
  obtain rfl:s=k:=by injection e'
  exact(FM keys s).2 hk
theorem ad6{P:Program}{w:World}{mty kt et:TypeId}{d:TypeDesc}{r clock i:Nat}{es:Array MapEntry}{e:MapEntry}{v0:Value}(v:Value)(hm:P.underlying mty=some (.map kt et))(hd:P.underlying kt=some d)(hk:MapKept.IsKey d e.key)
  (hf:Instr.findNow d e.key es.toList 0=some (some (i,v0))) (hi:es[i]?=some e) (hb:w.heap[r]?=some (.map es clock)) :
  (Instr.mapUpdate mty (.map (some r)) e.key v).run P w=.ok () (w.putObj r (.map (es.modify i fun e=>{e with val:=v}) clock)):=by
 have hc:(Instr.checkKey false 10000 kt e.key).run P w=.ok () w:=MapKept.run_checkKey hd hk false 9999
 have hx:(es.modify i fun x=>{x with key:=e.key,val:=v})=es.modify i fun e=>{e with val:=v}:=by
  apply Array.ext_getElem?
  intro j
  rw[Array.getElem?_modify,Array.getElem?_modify]
  split
  ·rename_i hij;subst hij;rw[hi];rfl
  ·rfl
 simp[Instr.mapUpdate,run_underlying hm,MapKept.run_getObj_map hb,hc,MapKept.run_findKey hd hf,hi,MapKept.run_keyThatStays hk,MapKept.run_setObj_map _ hb,Result.andThen,World.putObj,hx]
def vF(w:World)(r:Nat)(keys:List ByteArray)(k:Nat):Prop:=
 ∃es clock,w.heap[r]?=some (.map es clock)∧es.toList.map (·.key)=keys.map Value.string∧∀e∈es.toList,∃n:Nat,e.val=.int .i64 n∧n≤k
theorem vF.size{w:World}{r k:Nat}{keys:List ByteArray}(h:vF w r keys k):∃es clock,w.heap[r]?=some (.map es clock)∧es.size=keys.length:=by
 obtain⟨es,clock,h1,h2,_⟩:=h
 refine⟨es,clock,h1,?_⟩
 have:=congrArg List.length h2
 simpa using this
theorem vF.lt{w:World}{r k:Nat}{keys:List ByteArray}(h:vF w r keys k):r<w.heap.size:=by
 obtain⟨es,clock,h1,_⟩:=h
 exact(Array.getElem?_eq_some_iff.1 h1).1
theorem vF.step{P:Program}{w:World}{mty kt et:TypeId}{r k:Nat}{keys:List ByteArray}(h:vF w r keys k)(hm:P.underlying mty=some (.map kt et))(hd:P.underlying kt=some .string)
  (hz:∀w,(zeroValue et).run P w=.ok (.int .i64 0) w) (s:ByteArray) :
  ∃(n:Nat) (w':World),n≤k∧(Instr.lookup mty (.map (some r)) (.string s) false).run P w=.ok (.int .i64 n) w∧
   (Instr.mapUpdate mty (.map (some r)) (.string s) (.int .i64 ((n:Int)+1))).run P w=.ok () w'∧vF w' r (addKey keys s) (k+1)∧w.grownBy w' (some r):=by
 obtain⟨es,clock,h1,h2,h3⟩:=h
 rcases ad5 s es.toList keys h2 with⟨hk,hf⟩|⟨hk,j,e,hf,he,hes⟩
 ·refine⟨0,_,Nat.zero_le _,J5 false hm hd (k:=.string s) trivial hf (hz w) h1,CE _ hm hd (k:=.string s) trivial hf h1,⟨_,_,World.putObj_heap_same (Array.getElem?_eq_some_iff.1 h1).1,?_,?_⟩,grownBy_putObj' _ _ _⟩
  ·simp[addKey,hk,h2]
  ·intro x hx
   rw[Array.toList_push,List.mem_append]at hx
   rcases hx with hx|hx
   ·obtain⟨n,h4,h5⟩:=h3 x hx;exact⟨n,h4,by omega⟩
   ·simp at hx;subst hx;exact⟨1,by simp,by omega⟩
 ·have hj:es[j]?=some e:=by simpa using he
  obtain⟨n,hn,hnk⟩:=h3 e (List.mem_of_getElem? he)
  rw[Nat.zero_add]at hf
  rw[←hes]
  rw[←hes]at hf
  have hik:MapKept.IsKey .string e.key:=by rw[hes];trivial
  have hg:=J5 false hm hd (k:=e.key) hik hf (hz w) h1
  refine⟨n,_,hnk,by rw[hg];simp[AO,hn],ad6 _ hm hd hik hf hj h1,⟨_,_,World.putObj_heap_same (Array.getElem?_eq_some_iff.1 h1).1,?_,?_⟩,grownBy_putObj' _ _ _⟩
  ·rw[addKey,hk,if_pos rfl,←h2]
   apply List.ext_getElem?
   intro i
   simp only[List.getElem?_map,Array.getElem?_toList,Array.getElem?_modify]
   split
   ·cases es[i]?<;>rfl
   ·rfl
  ·intro x hx
   obtain⟨i,hi,rfl⟩:=List.mem_iff_getElem.1 hx
   simp only[Array.length_toList,Array.size_modify]at hi
   rw[Array.getElem_toList,Array.getElem_modify]
   split
   ·exact⟨n+1,by simp,by omega⟩
   ·obtain⟨m,h4,h5⟩:=h3 es[i] (by simp);exact⟨m,h4,by omega⟩
end Go.WW
namespace Go.WW
theorem ad7(l:List aH)(k:Nat)(h:k<l.length):keysOf ((l.take (k+1)).map textOf)=addKey (keysOf ((l.take k).map textOf)) (textOf l[k]):=by
 rw[List.take_succ_eq_append_getElem h,List.map_append,List.map_cons,List.map_nil,acX]
theorem RQ{P:Program}{w:World}{r clock:Nat}{es:Array MapEntry}{t k e:TypeId}(ht:P.underlying t=some (.map k e))(ty:TypeId)(hb:w.heap[r]?=some (.map es clock)):(Builtin.len_ #[t] ty #[.map (some r)]).run P w=.ok (.int .i64 es.size) w:=by
 simp[Builtin.len_,run_underlying ht,MapKept.run_getObj_map hb,Result.andThen,goInt]
end Go.WW
namespace Go.Proofs.YtpfifochimkpfaaGreatDoor
open Go.RowKit Go.WW
theorem ad8(w:World):(zeroValue 3).run Tryz.prog w=.ok (.int .i64 0) w:=by kernel_rfl
theorem ad9(a:Option Addr)(cap:Nat)(w:World):Calls Tryz.prog 167 #[.slice a 0 cap] w fun e w'=>e=.returned (.bool true)∧Below w.heap.size w w':=by
 have hmm:=@run_makeMap Tryz.prog
 have hm1:=fun ty=>RQ (P:=Tryz.prog) Tryz.underlying217 ty (World.alloc_heap_new w (.map #[] 0))
 go_enter Tryz.func167,Tryz.ntmps167
 go_wp2_with fail
 refine wp_loop_rounds 1 ?_
 rw[rounds_succ]
 go_wp2_with fail
 go_ret
 exact⟨rfl,(Below.refl _ _).alloc (Nat.le_refl _) _⟩
theorem RS(a:Option Addr)(cap:Nat)(l:List aH)(w:World)(hl:fQ w a l)(hok:l.all aZ=true):Calls Tryz.prog 167 #[.slice a l.length cap] w fun e w'=>e=.returned (.bool (vk l))∧Below w.heap.size w w':=by
 have hn:l.length≤4294967000:=hl.1
 rcases bH.addr hl with h0|⟨b,o,rfl,hb⟩
 ·obtain rfl:l=[]:=List.eq_nil_of_length_eq_zero h0
  exact ad9 a cap w
 have hmm:=@run_makeMap Tryz.prog
 have HO:=Lib.hid hok
 clear hok
 go_enter Tryz.func167,Tryz.ntmps167
 go_wp2_with fail
 go_loopw [11] (fun i wr=>∃k:Nat,k≤l.length∧i=.int .i64 k∧Below w.heap.size w wr∧vF wr w.heap.size (keysOf ((l.take k).map textOf)) k) (fun i _=>l.length-(intOf i).toNat)
 case atStart=>exact⟨0,Nat.zero_le _,rfl,(Below.refl _ _).alloc (Nat.le_refl _) _,#[],0,World.alloc_heap_new w (.map #[] 0),rfl,by simp⟩
 case round=>
  clear hmm
  obtain⟨k,hk,rfl,hbr,hC⟩:=hrel
  by_cases hlt:k<l.length
  ·obtain⟨t,hc,hp⟩:=hl.at k hlt
   obtain⟨hcc,bf,hrr⟩:=aQ hbr
   go_wp2_with fail
   have hb1:=ay hbr (.cells (az t l[k]) 35)
   refine(Rt _ _ _ (hp.later hb1) (List.all_eq_true.1 HO.out _ (List.getElem_mem hlt))).mono ?_
   rintro e w1 ⟨rfl,hb2⟩
   have hb3:=ag hb1 hb2
   have hr:=hC.lt
   have RU:vF w1 w.heap.size (keysOf ((l.take k).map textOf)) k:=by
    obtain⟨es,clock,h1,h2⟩:=hC
    exact⟨es,clock,(hb2.block _ (by simp;omega)).trans ((Below.heap_alloc wr _ _ hr).trans h1),h2⟩
   obtain⟨n,w2,hnk,hlk,hup,hC2,hg⟩:=RU.step (P:=Tryz.prog) Tryz.underlying217 Tryz.underlying9 ad8 (textOf l[k])
   rw[←ad7 l k hlt]at hC2
   have hb4:Below w.heap.size w w2:=hb3.grown hg hb3.size (fun g e=>by cases e;omega)
   clear hcc bf hrr RU hC hbr
   go_wp2_with fail
   clear hlk hup
   go_roundw
   case rel=>exact⟨k+1,by omega,by go_num,hb4,hC2⟩
   case measure=>simp[intOf];omega
  ·have hE:l.take k=l:=List.take_of_length_le (by omega)
   rw[hE]at hC
   obtain⟨es,clock,hm,hs⟩:=hC.size
   have hkl:=acZ (l.map textOf)
   have HN:=Lib.hid (show vk l=decide ((es.size:Int)=(l.length:Int)) by rw[vk,hs])
   have hsl:es.size≤4294967000:=by rw[hs];simp at hkl;omega
   have hln:=fun ty=>RQ (P:=Tryz.prog) Tryz.underlying217 ty hm
   clear hE hkl hs hm
   go_wp2_with fail
   go_ret
   exact⟨by rw[HN.out];first|rfl|(congr 2),hbr⟩
end Go.Proofs.YtpfifochimkpfaaGreatDoor
