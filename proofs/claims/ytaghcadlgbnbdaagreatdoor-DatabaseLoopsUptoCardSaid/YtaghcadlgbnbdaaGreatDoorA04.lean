/- A part of the proof. -/
import Derived.Test.YtaghcadlgbnbdaaGreatDoorA02
import Derived.Test.YtaghcadlgbnbdaaGreatDoorA03
import Derived.Carry
import Derived.WideMake
import Derived.RangeFuncOwn
import Derived.Test.YtaghcadlgbnbdaaGreatDoorA01
import Derived.OwnWalk
set_option maxRecDepth 100000
set_option maxHeartbeats 4000000
namespace Go.WW
open Go.RowKit
inductive Split:ByteArray→List ByteArray→Prop
 |last (s:ByteArray) (h:Lib.indexByte s.data.toList 46<0):Split s [s]
 |more (s:ByteArray) (k:Nat) (ys:List ByteArray) (h:Lib.indexByte s.data.toList 46=(k:Int)) (hk:k<s.size) (t:Split (s.extract (k+1) s.size) ys):Split s (s.extract 0 k::ys)
def Na(w:World)(b:Nat):Nat:=match w.cell? ⟨b,0,none⟩with|some (.string s)=>s.size|_=>0
theorem UK{w:World}{b:Nat}{s:ByteArray}(h:w.cell? ⟨b,0,none⟩=some (.string s)):Na w b=s.size:=by unfold Na;rw[h]
theorem Nb(s:ByteArray):Lib.indexByte s.data.toList 46=-1∨∃k:Nat,Lib.indexByte s.data.toList 46=(k:Int)∧k<s.size:=by
 have:∀l:List UInt8,Lib.indexByte l 46=-1∨∃k:Nat,Lib.indexByte l 46=(k:Int)∧k<l.length:=by
  intro l
  induction l with
  |nil=>left;rfl
  |cons b l ih=>
   unfold Lib.indexByte
   by_cases hb:(b == 46)=true
   ·right;exact⟨0,by simp[hb],by simp⟩
   ·rcases ih with h|⟨k,h,hk⟩
    ·left;simp[hb,h]
    ·right;refine⟨k+1,?_,by simp;omega⟩
     have:¬((k:Int)=-1):=by omega
     simp[hb,h,this]
 simpa using this s.data.toList
theorem ad4(n:Nat):∀s:ByteArray,s.size≤n→∃ys,Split s ys:=by
 induction n with
 |zero=>
  intro s h
  rcases Nb s with hi|⟨k,hi,hk⟩
  ·exact⟨_,.last s (by rw[hi];decide)⟩
  ·omega
 |succ n ih=>
  intro s h
  rcases Nb s with hi|⟨k,hi,hk⟩
  ·exact⟨_,.last s (by rw[hi];decide)⟩
  ·obtain⟨ys,hys⟩:=ih (s.extract (k+1) s.size) (by simp;omega)
   exact⟨_,.more s k ys hi hk hys⟩
end Go.WW
namespace Go.Proofs.YtaghcadlgbnbdaaGreatDoor
open Go.RowKit Go.WW
attribute [local go_sem] Oper.semAt_some
theorem ad5(n:Nat)(hn:1≤n)(m B:Nat)(s:ByteArray)(hs:s.size≤lim)(w:World)(hB:m+2<B)
 (hc0:w.cell? ⟨m,0,none⟩=some (.string s)) (hc1:w.cell? ⟨m+1,0,none⟩=some (.string ⟨#[46]⟩)) (hc2:w.cell? ⟨m+2,0,none⟩=some (.int .i64 0)) (hf:w.frozen? ⟨m,0,none⟩=false) :
 Uk Fence.wide n Tryz.prog 193 #[.pointer (some ⟨m+1,0,none⟩),.pointer (some ⟨m,0,none⟩),.pointer (some ⟨m+2,0,none⟩)] (fun x:ByteArray=>#[.string x]) m B (fun x=>x.size≤lim) (Split s) (fun pre=>∃ys,Split s (pre++ys)) w:=by
 intro l J Jx W hW hJs hY h0
 have hs':s.size≤4294967000:=hs
 refine callsIn_of_wp Tryz.func193 rfl trivial ?_ rfl
 simp only[Tryz.ntmps193,List.size_toArray,List.length_cons,List.length_nil,Nat.reduceAdd,Nat.reduceSub,Array.replicate_succ,Array.replicate_zero,List.push_toArray,List.append_toArray,List.nil_append,List.cons_append]
 have hd1:W.cell? ⟨m+1,0,none⟩=some (.string ⟨#[46]⟩):=(hW.cell (p:=⟨m+1,0,none⟩) (by simp;omega)).trans hc1
 gi_wp2
 have hfW:W.frozen? ⟨m,0,none⟩=false:=(hW.frozen (p:=⟨m,0,none⟩) (by simp;omega)).trans hf
 gi_loopw [] (fun wr=>∃(pre:List ByteArray) (r:ByteArray),wr.cell? ⟨m,0,none⟩=some (.string r)∧wr.frozen? ⟨m,0,none⟩=false∧wr.cell? ⟨m+1,0,none⟩=some (.string ⟨#[46]⟩)∧wr.cell? ⟨m+2,0,none⟩=some (.int .i64 0)∧J pre wr∧r.size≤s.size∧∀ys,Split r ys→Split s (pre++ys)) (fun wr=>Na wr m)
 case atStart=>exact⟨[],s,(hW.cell (p:=⟨m,0,none⟩) (by simp;omega)).trans hc0,hfW,hd1,(hW.cell (p:=⟨m+2,0,none⟩) (by simp;omega)).trans hc2,h0,Nat.le_refl _,fun ys h=>h⟩
 case round=>
  obtain⟨pre,r,h1,hf1,h2,h3,hJ,hrs,hsp⟩:=hrel
  rcases Nb r with hi|⟨k,hi,hk⟩
  ·obtain⟨fn,tmps,assign,body,hy,hR⟩:=hY pre r wr (by unfold lim;omega) hJ
   gi_wp2_with (refine⟨trivial,?_⟩;gi_at_call 195;refine(callsIn_wide.2 (Tryz.strings_Index_one _ _ _)).mono ?_;rintro e w' ⟨rfl,rfl⟩;rw[hi])
   refine hR.mono ?_
   have hS:Split s (pre++[r]):=hsp _ (.last r (by rw[hi];decide))
   rintro e W3 (⟨rfl,hJ3,hk3⟩|⟨rfl,hJx3⟩)
   ·gi_wp2
    go_end0
    exact⟨⟨_,rfl⟩,.inl ⟨_,hS,hJ3⟩⟩
   ·gi_wp2
    go_end0
    exact⟨⟨_,rfl⟩,.inr ⟨_,⟨[],by simpa using hS⟩,hJx3⟩⟩
  ·have hk':k≤r.size:=by omega
   have hr':r.size≤4294967000:=by omega
   obtain⟨fn,tmps,assign,body,hy,hR⟩:=hY pre (r.extract 0 k) wr (by unfold lim;simp;omega) hJ
   gi_wp2_with (refine⟨trivial,?_⟩;gi_at_call 195;refine(callsIn_wide.2 (Tryz.strings_Index_one _ _ _)).mono ?_;rintro e w' ⟨rfl,rfl⟩;rw[hi])
   refine hR.mono ?_
   rintro e W3 (⟨rfl,hJ3,hk3⟩|⟨rfl,hJx3⟩)
   ·have g1:=(hk3.cell (p:=⟨m,0,none⟩) (by simp;omega)).trans h1
    have g2:=(hk3.cell (p:=⟨m+1,0,none⟩) (by simp;omega)).trans h2
    have g3:=(hk3.cell (p:=⟨m+2,0,none⟩) (by simp;omega)).trans h3
    have gf:=(hk3.frozen (p:=⟨m,0,none⟩) (by simp;omega)).trans hf1
    gi_wp2
    go_roundw
    case rel=>
     refine⟨pre++[r.extract 0 k],r.extract (k+1) r.size,World.cell?_setCell_same' _ _ _ (by rw[g1];rfl),by rw[World.frozen?_setCell];exact gf,?_,?_,hJs _ _ _ hJ3,?_,?_⟩
     ·rw[World.cell?_setCell_other _ _ _ _ (by simp)];exact g2
     ·rw[World.cell?_setCell_other _ _ _ _ (by simp)];exact g3
     ·simp;omega
     ·intro ys hy;rw[List.append_assoc];exact hsp _ (.more r k ys hi hk hy)
    case measure=>
     rw[UK (World.cell?_setCell_same' _ _ _ (by rw[g1];rfl)),UK h1]
     simp;omega
   ·gi_wp2
    refine bodyPost_ret (results_none rfl _ _ _) rfl ?_
    obtain⟨ys,hys⟩:=ad4 (r.extract (k+1) r.size).size _ (Nat.le_refl _)
    exact⟨⟨_,rfl⟩,.inr ⟨_,⟨ys,by rw[List.append_assoc];exact hsp _ (.more r k ys hi hk hys)⟩,hJx3⟩⟩
end Go.Proofs.YtaghcadlgbnbdaaGreatDoor
namespace Go.WW
open Go.RowKit
def uh(c:UInt8):Bool:=(decide (65≤(c.toNat:Int))&&decide ((c.toNat:Int)≤90)) || (decide (48≤(c.toNat:Int))&&decide ((c.toNat:Int)≤57)) || (c.toNat:Int) == 45
def qZ(s:ByteArray):Bool:=!s.data.toList.isEmpty&&s.data.toList.all uh
def good:Bool→List UInt8→Bool
 |p,[]=>!p
 |p,c::l=>if fE c then !p&&good true l else uh c&&good false l
theorem UL(c:UInt8):fE c=true↔c=46:=by
 unfold fE
 constructor
 ·intro h;apply UInt8.toNat_inj.1;have:(c.toNat:Int)=46:=by simpa using h
  simp;omega
 ·rintro rfl;rfl
theorem ad7:∀(l:List UInt8) (p:Bool),(∀c∈l,fE c=false)→good p l=(!(p&&l.isEmpty)&&l.all uh):=by
 intro l
 induction l with
 |nil=>intro p _;cases p<;>rfl
 |cons c l ih=>
  intro p h
  have h1:fE c=false:=h c (by simp)
  unfold good
  rw[h1,ih false (fun c hc=>h c (by simp[hc]))]
  simp
theorem ad8:∀(a b:List UInt8) (p:Bool),(∀c∈a,fE c=false)→good p (a++46::b)=(!(p&&a.isEmpty)&&a.all uh&&good true b):=by
 intro a b
 induction a with
 |nil=>intro p _;cases p<;>simp[good,fE]
 |cons c l ih=>
  intro p h
  have h1:fE c=false:=h c (by simp)
  rw[List.cons_append,good,h1,ih false (fun c hc=>h c (by simp[hc]))]
  simp[Bool.and_assoc]
theorem index_none:∀l:List UInt8,Lib.indexByte l 46<0→∀c∈l,fE c=false:=by
 intro l
 induction l with
 |nil=>intro _ c h;simp at h
 |cons b l ih=>
  intro h c hc
  unfold Lib.indexByte at h
  by_cases hb:(b == 46)=true
  ·simp[hb]at h
  ·by_cases hm:Lib.indexByte l 46=-1
   ·rcases List.mem_cons.1 hc with rfl|hc
    ·cases hd:fE c
     ·rfl
     ·exact absurd (by simpa using(UL c).1 hd) hb
    ·exact ih (by omega) c hc
   ·have:=Lib.indexByte_ge l 46
    simp[hb,hm]at h<;>omega
theorem ad9:∀(l:List UInt8) (k:Nat),Lib.indexByte l 46=(k:Int)→(∀c∈l.take k,fE c=false)∧l=l.take k++46::l.drop (k+1):=by
 intro l
 induction l with
 |nil=>intro k h;simp[Lib.indexByte]at h<;>omega
 |cons b l ih=>
  intro k h
  unfold Lib.indexByte at h
  by_cases hb:(b == 46)=true
  ·simp[hb]at h
   have:k=0:=by omega
   subst this
   have:b=46:=by simpa using hb
   subst this;simp
  ·by_cases hm:Lib.indexByte l 46=-1
   ·simp[hb,hm]at h<;>omega
   ·have h':Lib.indexByte l 46+1=(k:Int):=by simpa[hb,hm]using h
    have:=Lib.indexByte_ge l 46
    obtain⟨j,rfl⟩:∃j,k=j+1:=⟨k-1,by omega⟩
    obtain⟨h1,h2⟩:=ih j (by omega)
    have hbd:fE b=false:=by
     cases hd:fE b
     ·rfl
     ·exact absurd (by simpa using(UL b).1 hd) hb
    refine⟨?_,?_⟩
    ·intro c hc;simp at hc;rcases hc with rfl|hc
     ·exact hbd
     ·exact h1 c hc
    ·simp only[List.take_succ_cons,List.drop_succ_cons,List.cons_append];rw[←h2]
theorem aea{s:ByteArray}{ys:List ByteArray}(h:Split s ys):ys.all qZ=good true s.data.toList:=by
 induction h with
 |last s h=>
  rw[ad7 _ _ (index_none _ h)];simp[qZ]
 |more s k ys h hk t ih=>
  obtain⟨h1,h2⟩:=ad9 _ _ h
  have e1:(s.extract 0 k).data.toList=s.data.toList.take k:=by simp[ByteArray.data_extract]
  have e2:(s.extract (k+1) s.size).data.toList=s.data.toList.drop (k+1):=by
   simp[ByteArray.data_extract]
   exact List.take_of_length_le (by simp)
  rw[e2]at ih
  rw[h2,ad8 _ _ _ h1,List.all_cons,ih]
  simp only[qZ,e1]
  simp
theorem aeb(s:ByteArray):∀(k i:Nat),i+k=s.size→good (i == 0 || (s.data.toList[i-1]?).any fE) (s.data.toList.drop i)=((List.range' i k).all (lM s)&&!(k == 0&&(i == 0 || (s.data.toList[i-1]?).any fE))):=by
 intro k
 induction k with
 |zero=>
  intro i h
  have:s.data.toList.drop i=[]:=List.drop_of_length_le (by
    have:s.data.toList.length=s.size:=by simp
    omega)
  rw[this];simp[good]
 |succ k ih=>
  intro i h
  have hl:s.data.toList.length=s.size:=by simp
  have hi:i<s.data.toList.length:=by omega
  rw[List.drop_eq_getElem_cons hi,List.range'_succ,List.all_cons]
  have ih':=ih (i+1) (by omega)
  have e0:(i+1 == 0 || (s.data.toList[i+1-1]?).any fE)=fE (s.data.toList[i]):=by
   rw[Nat.add_sub_cancel,List.getElem?_eq_getElem hi];simp
  rw[e0]at ih'
  rw[good]
  have er:lM s i=(oU s.data.toList[i]&&!(fE s.data.toList[i]&&(i == 0 || i+1 == s.size || (s.data.toList[i-1]?).any fE))):=by
   unfold lM;rw[List.getElem?_eq_getElem hi]
  have e3:(i+1 == s.size)=(k == 0):=by
   rw[Bool.eq_iff_iff];simp;omega
  rw[er,e3]
  cases hd:fE s.data.toList[i]
  ·rw[hd]at ih'
   have e4:uh s.data.toList[i]=oU s.data.toList[i]:=by
    unfold fE at hd
    unfold uh oU
    rw[hd]
    generalize ((s.data.toList[i]).toNat:Int)=z
    rw[Bool.eq_iff_iff];simp;omega
   simp only[Bool.false_eq_true,if_false,e4,ih']
   simp
  ·rw[hd]at ih'
   have e4:oU s.data.toList[i]=true:=Ea (.inl (by unfold fE at hd;simpa using hd))
   simp only[if_true,ih',e4]
   cases k<;>simp[Bool.and_comm]
theorem aec(s:ByteArray)(hz:sized s=true):gZ s=good true s.data.toList:=by
 have h1:1≤(s.size:Int):=by unfold sized at hz;simp at hz;exact hz.1
 have:=aeb s s.size 0 (by simp)
 simp only[List.drop_zero,BEq.rfl,Bool.true_or]at this
 have hk:(s.size == 0)=false:=by simp;intro e;rw[e]at h1;simp at h1
 rw[hk]at this
 rw[this,gZ,hz,List.range_eq_range']
 simp
theorem UM{s:ByteArray}{ys:List ByteArray}(hz:sized s=true)(h:Split s ys):gZ s=ys.all qZ:=by
 rw[aea h,aec s hz]
theorem aed{s:ByteArray}(hz:sized s=false):gZ s=false:=by rw[gZ,hz];simp
end Go.WW
namespace Go.Proofs.YtaghcadlgbnbdaaGreatDoor
open Go.RowKit Go.WW
theorem aee(s t:ByteArray)(k:Int)(w:World):Calls Tryz.prog 132 #[.string s,.string t,.int .i64 k] w fun e w'=>e=.returned (.func (.func 193) #[] #[.pointer (some ⟨w.heap.size+1,0,none⟩),.pointer (some ⟨w.heap.size,0,none⟩),.pointer (some ⟨w.heap.size+2,0,none⟩)])∧
  w'=((w.alloc (.cells #[.string s] 9)).alloc (.cells #[.string t] 9)).alloc (.cells #[.int .i64 k] 3):=by
 go_enter Tryz.func132,Tryz.ntmps132
 go_wp2
 go_ret
 exact⟨rfl,rfl⟩
theorem aef(s t:ByteArray)(w:World):Calls Tryz.prog 84 #[.string s,.string t] w fun e w'=>e=.returned (.func (.func 193) #[] #[.pointer (some ⟨w.heap.size+1,0,none⟩),.pointer (some ⟨w.heap.size,0,none⟩),.pointer (some ⟨w.heap.size+2,0,none⟩)])∧
  w'=((w.alloc (.cells #[.string s] 9)).alloc (.cells #[.string t] 9)).alloc (.cells #[.int .i64 0] 3):=by
 go_enter Tryz.func84,Tryz.ntmps84
 go_wp2_with (go_at_call 132;refine(aee _ _ _ _).mono ?_;rintro e w' ⟨rfl,rfl⟩)
 go_ret
 exact⟨rfl,rfl⟩
def Nc(w:World)(pre:List ByteArray)(W:World):Prop:=(W.cell? ⟨w.heap.size,0,none⟩=some (.bool false)∧W.frozen? ⟨w.heap.size,0,none⟩=false)∧Below w.heap.size w W∧Hid (pre.all qZ=true)
def Nh(w:World)(pre:List ByteArray)(W:World):Prop:=(W.cell? ⟨w.heap.size,0,none⟩=some (.bool false))∧Below w.heap.size w W∧Hid (pre.all qZ=false)
attribute [local go_sem] Oper.semAt_some
theorem UN(s:ByteArray)(w:World)(hs:s.size≤lim):Calls Tryz.prog 43 #[.string s] w fun e w'=>e=.returned (.bool (gZ s))∧Below w.heap.size w w':=by
 refine(callsIn_wide (n:=5)).1 ?_
 have h1:1≤5:=by omega
 refine callsIn_of_wp_marks Tryz.func43 rfl trivial ?_ rfl
 simp only[Tryz.ntmps43,List.size_toArray,List.length_cons,List.length_nil,Nat.reduceAdd,Nat.reduceSub,Array.replicate_succ,Array.replicate_zero,List.push_toArray,List.append_toArray,List.nil_append,List.cons_append]
 cases hz:sized s
 ·have HN:=Lib.hid (aed hz)
  gi_wp2_with (refine⟨trivial,?_⟩;gi_at_call 83;refine(callsIn_wide.2 (MM _ _ (le_max hs))).mono ?_;rintro e w' ⟨rfl,rfl⟩;rw[hz])
  refine⟨.bool false,?_,by rw[HN.out],(Below.refl _ w).alloc (Nat.le_refl _) _⟩
  simp[results,Tryz.f43,go_sem]
 gi_wp2_with (first
  |(refine⟨trivial,?_⟩;gi_at_call 83;refine(callsIn_wide.2 (MM _ _ (le_max hs))).mono ?_;rintro e w' ⟨rfl,rfl⟩;rw[hz])
  |(refine⟨trivial,?_⟩;gi_at_call 84;refine(callsIn_wide.2 (aef _ _ _)).mono ?_;rintro e w' ⟨rfl,rfl⟩))
 obtain⟨W0,hW0⟩:∃W0,(((w.alloc (.cells #[.bool false] 4)).alloc (.cells #[.string s] 9)).alloc (.cells #[.string ⟨#[46]⟩] 9)).alloc (.cells #[.int .i64 0] 3)=W0:=⟨_,rfl⟩
 have hsz:W0.heap.size=w.heap.size+4:=by rw[←hW0];simp
 have hB0:Below w.heap.size w W0:=by rw[←hW0];exact((((Below.refl _ w).alloc (Nat.le_refl _) _).alloc (by simp) _).alloc (by simp;omega) _).alloc (by simp;omega) _
 have g0:W0.cell? ⟨w.heap.size,0,none⟩=some (.bool false):=by rw[←hW0];simp[go_sem]
 have f0:W0.frozen? ⟨w.heap.size,0,none⟩=false:=by rw[←hW0];simp[go_sem]
 have g1:W0.cell? ⟨w.heap.size+1,0,none⟩=some (.string s):=by rw[←hW0];simp[go_sem]
 have f1:W0.frozen? ⟨w.heap.size+1,0,none⟩=false:=by rw[←hW0];simp[go_sem]
 have g2:W0.cell? ⟨w.heap.size+1+1,0,none⟩=some (.string ⟨#[46]⟩):=by rw[←hW0];simp[go_sem]
 have g3:W0.cell? ⟨w.heap.size+1+2,0,none⟩=some (.int .i64 0):=by rw[←hW0];simp[go_sem]
 rw[hW0]
 refine adF (α:=ByteArray) rfl h1 (gf:=193) (lb:=#[.pointer (some ⟨w.heap.size+1+1,0,none⟩),.pointer (some ⟨w.heap.size+1,0,none⟩),.pointer (some ⟨w.heap.size+1+2,0,none⟩)]) (by simp[go_sem]) trivial (enters_of Tryz.func193 (by kernel_rfl) rfl)
  (ad5 4 (by omega) (w.heap.size+1) W0.heap.size s hs W0 (by omega) g1 g2 g3 f1) (by omega) (fun _=>rfl)
  (Nc w)
  (Nh w)
  ?_ ?_ ?_ ⟨⟨g0,f0⟩,hB0,by simp[Hid]⟩
  (fun x=>{tmps:=#[.string s,undef,.pointer (some ⟨w.heap.size,0,none⟩),.string x,undef,undef,.string s,.bool true,.bool false,.string s,.func (.func 193) #[] #[.pointer (some ⟨w.heap.size+1+1,0,none⟩),.pointer (some ⟨w.heap.size+1,0,none⟩),.pointer (some ⟨w.heap.size+1+2,0,none⟩)],.string x,undef,undef,undef,undef,undef,undef,undef,undef,undef,undef,undef,undef,undef,undef,undef,undef,undef,undef,undef,undef,undef,undef,undef,undef,undef,undef,undef,undef,undef],defers:=[]}) ?assign ?body ?done ?stop
 ·unfold Nc
  refine OwnFrom.and (Own.from (fun s A B row hs hg hr=>⟨cell_kept hs.1 hg hr,(frozen_kept hs.1 hg hr).trans hs.2⟩) _) (OwnFrom.and (ownFrom_below (Nat.le_refl _) (by omega)) ?_)
  exact fun s A B row hs hg hr=>hs
 ·rintro pre W v ⟨⟨hc,hf⟩,hB,hall⟩
  exact⟨⟨by rw[World.cell?_setCell_other _ _ _ _ (by simp)];exact hc,by rw[World.frozen?_setCell];exact hf⟩,hB.setCell (p:=⟨w.heap.size+1,0,none⟩) (by simp) _,hall⟩
 ·unfold Nh
  refine OwnFrom.and (Own.from (fun s A B row hs hg hr=>cell_kept hs hg hr) _) (OwnFrom.and (ownFrom_below (Nat.le_refl _) (by omega)) ?_)
  exact fun s A B row hs hg hr=>hs
 all_goals clear hsz
 case assign=>
  intro l x W K hK
  gi_wp2
  exact hK
 case body=>
  rintro l pre x W hx ⟨⟨hc,hf⟩,hB,hall⟩
  have hx':x.size≤4294967000:=hx
  have hno:qZ x=false→Ul W0.heap.size
   (Nc w)
   (Nh w) (pre++[x]) W Exit.ret {tmps:=#[],defers:=[]} (W.setCell ⟨w.heap.size,0,none⟩ (.bool false)):=fun h=>
   ⟨KeepsOthers.setCell _ _ _,World.cell?_setCell_same' _ _ _ (by rw[hc];rfl),hB.setCell (p:=⟨w.heap.size,0,none⟩) (Nat.le_refl _) _,by simp[Hid,h]⟩
  cases he:x.toList.isEmpty
  ·gi_wp2
   gi_loop [16] (fun i=>∃k:Nat,k≤x.size∧i=.int .i64 k∧Hid ((x.data.toList.take k).all uh=true)) (fun i=>x.size-(intOf i).toNat)
   case atStart=>exact⟨0,Nat.zero_le _,rfl,by simp[Hid]⟩
   case round=>
    obtain⟨k,hk,rfl,rq⟩:=hrel
    by_cases hlt:k<x.size
    ·by_cases h45:(x[k].toNat:Int)=45
     ·have aeg:((x[k].toNat:Int) != 45)=false:=by simp[h45]
      gi_wp2
      all_goals
       go_round
       case rel=>exact⟨k+1,by omega,by go_num,oQ x k hlt rq.out (by simp[uh,h45])⟩
       case measure=>simp[intOf];omega
     ·have aeg:((x[k].toNat:Int) != 45)=true:=by simp[h45]
      gi_wp2
      all_goals first
       |(go_round
         case rel=>exact⟨k+1,by omega,by go_num,oQ x k hlt rq.out (by simp[uh];omega)⟩
         case measure=>simp[intOf];omega)
       |exact hno (by rw[qZ,D8 x k hlt (by simp[uh];omega)];simp)
    ·gi_wp2
     refine⟨KeepsOthers.refl _,Below.refl _ _,⟨hc,hf⟩,hB,?_⟩
     have:qZ x=true:=by rw[qZ,D9 x k (by omega) rq.out,←Lib.toList_data,he];rfl
     have h2:=hall.out
     simp[Hid,this];simpa using h2
  ·gi_wp2
   exact hno (by rw[qZ,←Lib.toList_data,he];rfl)
 case done=>
  rintro D ys W hD hS ⟨⟨hc,hf⟩,hB,hall⟩ hK
  have hok:gZ s=true:=by rw[UM hz hS];exact hall.out
  have hD':w.heap.size≤D:=Nat.le_trans hB0.size hD
  gi_wp2
  have hK':=(KeepsOthers.setCell W ⟨w.heap.size,0,none⟩ (.bool true)).same D _ hK rfl
  refine⟨by simp,.inl ⟨_,_,rfl,run_takeDeferred hK',?_⟩⟩
  have hc5:=cell_kept (World.cell?_setCell_same' W ⟨w.heap.size,0,none⟩ (.bool true) (by rw[hc];rfl)) (grownBy_putObj' _ D (.deferred none)) (fun r e=>by cases e;exact⟨_,hK',rfl⟩)
  refine⟨.bool true,?_,by rw[hok],(hB.setCell (p:=⟨w.heap.size,0,none⟩) (Nat.le_refl _) _).trans (belowK_b (w:=w) (Nat.le_refl _) _ D _ _ hD' hK' rfl rfl)⟩
  simp[results,Tryz.f43,go_sem,hc5]
 case stop=>
  rintro D pre W hD ⟨ys,hS⟩ ⟨hc,hB,hall⟩ hK
  have hok:gZ s=false:=by rw[UM hz hS,List.all_append,hall.out];rfl
  have hD':w.heap.size≤D:=Nat.le_trans hB0.size hD
  gi_wp2
  refine⟨by simp,.inl ⟨_,_,rfl,run_takeDeferred hK,?_⟩⟩
  have hc5:=cell_kept hc (grownBy_putObj' _ D (.deferred none)) (fun r e=>by cases e;exact⟨_,hK,rfl⟩)
  refine⟨.bool false,?_,by rw[hok],hB.trans (belowK_b (w:=w) (Nat.le_refl _) _ D _ _ hD' hK rfl rfl)⟩
  simp[results,Tryz.f43,go_sem,hc5]
end Go.Proofs.YtaghcadlgbnbdaaGreatDoor
namespace Go.WW
def yM(l:List Bool):Int:=if l.all (fun b=>b)=true then -1 else(l.findIdx (fun b=>!b):Int)
theorem aeh{l:List Bool}(k:Nat)(h:k<l.length)(h1:(l.take k).all (fun b=>b)=true)(h2:l[k]=false):yM l=(k:Int):=by
 have hn:l.all (fun b=>b)=false:=by rw[List.all_eq_false];exact⟨l[k],List.getElem_mem h,by simp[h2]⟩
 rw[yM,hn]
 have:l.findIdx (fun b=>!b)=k:=by
  rw[List.findIdx_eq h]
  refine⟨by simp[h2],fun j hj=>?_⟩
  have:=List.all_eq_true.1 h1 (l[j]'(by omega)) (by rw[List.mem_take_iff_getElem];exact⟨j,by omega,rfl⟩)
  simpa using this
 simp[this]
theorem aei{l:List Bool}(k:Nat)(h:l.length≤k)(h1:(l.take k).all (fun b=>b)=true):yM l=-1:=by
 rw[List.take_of_length_le h]at h1;rw[yM,h1];rfl
theorem aej(l:List Bool):decide (0≤yM l)=!l.all (fun b=>b):=by
 unfold yM
 cases h:l.all (fun b=>b)
 ·simp
 ·simp
end Go.WW
namespace Go.Proofs.YtaghcadlgbnbdaaGreatDoor
open Go.RowKit Go.WW
theorem aek(b o cap:Nat)(l:List Bool)(w:World)(hl:qN w (some ⟨b,o,none⟩) l)(hn:l.length≤lim):Calls Tryz.prog 346 #[.slice (some ⟨b,o,none⟩) l.length cap,.bool false] w fun e w'=>e=.returned (.int .i64 (yM l))∧w=w':=by
 have hn':l.length≤4294967000:=hn
 go_enter Tryz.func346,Tryz.ntmps346
 go_wp2
 go_loop [8] (fun i=>∃k:Nat,k≤l.length∧i=.int .i64 k∧Hid ((l.take k).all (fun b=>b)=true)) (fun i=>l.length-(intOf i).toNat)
 case atStart=>exact⟨0,Nat.zero_le _,rfl,by simp[Hid]⟩
 case round=>
  obtain⟨k,hk,rfl,hall⟩:=hrel
  by_cases hlt:k<l.length
  ·have hc:=hl.at k hlt
   have hb:b<w.heap.size:=World.block_lt_of_cell? w _ hc
   cases hv:l[k]
   ·rw[hv]at hc
    have HN:=Lib.hid (aeh k hlt hall.out hv)
    go_wp2
    go_ret
    exact⟨by rw[HN.out];rfl,rfl⟩
   ·rw[hv]at hc
    have HN:=Lib.hid (kC l k hlt hall.out hv)
    go_wp2
    go_round
    case rel=>exact⟨k+1,by omega,by go_num,HN.out⟩
    case measure=>simp[intOf];omega
  ·have HN:=Lib.hid (aei k (by omega) hall.out)
   go_wp2
   go_ret
   exact⟨by rw[HN.out];rfl,rfl⟩
theorem ael(b o cap:Nat)(l:List Bool)(w:World)(hl:qN w (some ⟨b,o,none⟩) l)(hn:l.length≤lim):Calls Tryz.prog 318 #[.slice (some ⟨b,o,none⟩) l.length cap,.bool false] w fun e w'=>e=.returned (.bool (!l.all (fun b=>b)))∧w=w':=by
 go_enter Tryz.func318,Tryz.ntmps318
 have HN:=Lib.hid (aej l)
 go_wp2_with (go_at_call 346;refine(aek _ _ _ _ _ hl hn).mono ?_;rintro e w' ⟨rfl,rfl⟩)
 all_goals go_ret
 all_goals exact⟨by rw[←HN.out];rfl,rfl⟩
theorem aem(b o cap:Nat)(l:List Bool)(w:World)(hl:qN w (some ⟨b,o,none⟩) l)(hn:l.length≤lim):Calls Tryz.prog 249 #[.slice (some ⟨b,o,none⟩) l.length cap] w fun e w'=>e=.returned (.bool (l.all (fun b=>b)))∧w=w':=by
 go_enter Tryz.func249,Tryz.ntmps249
 cases h:l.all (fun b=>b)
 iterate 2
  ·go_wp2_with (go_at_call 318;refine(ael _ _ _ _ _ hl hn).mono ?_;rintro e w' ⟨rfl,rfl⟩;rw[h])
   go_ret
   exact⟨rfl,rfl⟩
end Go.Proofs.YtaghcadlgbnbdaaGreatDoor
namespace Go.WW
open Go.RowKit
theorem aen{w:World}{b:Nat}(x y z:Bool)(h:w.cell? ⟨b,0,none⟩=some (.bool x))(h1:w.cell? ⟨b,1,none⟩=some (.bool y))(h2:w.cell? ⟨b,2,none⟩=some (.bool z)):qN w (some ⟨b,0,none⟩) [x,y,z]:=by
 refine⟨by simp[lim],fun i hi=>?_⟩
 match i,hi with
 |0,_=>exact⟨_,_,_,rfl,h,x,rfl,rfl⟩
 |1,_=>exact⟨_,_,_,rfl,h1,y,rfl,rfl⟩
 |2,_=>exact⟨_,_,_,rfl,h2,z,rfl,rfl⟩
theorem aeo{p:aB}(h:([decide (1≤(p.parts.length:Int)),decide ((p.parts.length:Int)≤4),gZ p.aG].all fun b=>b)=false):bD p=false:=by
 simp only[List.all_cons,List.all_nil,Bool.and_true]at h
 rw[bD,Bool.and_assoc,Bool.and_assoc,h];simp
theorem aep{p:aB}(h:([decide (1≤(p.parts.length:Int)),decide ((p.parts.length:Int)≤4),gZ p.aG].all fun b=>b)=true):p.parts.all ji=true→bD p=true:=by
 intro h2
 simp only[List.all_cons,List.all_nil,Bool.and_true]at h
 rw[bD,Bool.and_assoc,Bool.and_assoc,h,h2];rfl
theorem aeq{p:aB}(h:([decide (1≤(p.parts.length:Int)),decide ((p.parts.length:Int)≤4),gZ p.aG].all fun b=>b)=true):0<p.parts.length:=by
 simp at h;omega
end Go.WW
namespace Go.Proofs.YtaghcadlgbnbdaaGreatDoor
open Go.RowKit Go.WW
theorem Ed(s:Sl)(p:aB)(w:World)(hp:bg w s p):Calls Tryz.prog 172 #[.agg (ak s p)] w fun e w'=>e=.returned (.bool (bD p))∧Below w.heap.size w w':=by
 have hl:p.parts.length≤4294967000:=hp.1.1
 go_enter Tryz.func172,Tryz.ntmps172
 go_wp2_with fail
 refine Td (Below.refl _ (w.alloc (.cells (ak s p) 25))) (by kernel_rfl) (by kernel_rfl) ?_
 intro w1 hb1
 obtain⟨hc,hf,hr⟩:=bf hb1
 have hsz:w.heap.size<w1.heap.size:=by have:=hb1.size;simp at this;omega
 repeat (first|(refine aP (by rfl) ?_)|(refine gI (by rfl) (by rfl) (fun K hK=>?_);go_big_quiet_op;refine hK _ ?_;clear hK K))
 refine jg (by rfl) (by rfl) (fun K hK=>?_)
 go_wp2_with fail
 refine(UN _ _ hp.2).mono ?_
 rintro e w2 ⟨rfl,hb2⟩
 have hb3:=ag hb1 hb2
 go_wp2_with fail
 refine hK _ _ (dC hb3) ?_
 clear hK K
 clear hc hf hr hsz
 obtain⟨hc,hf,hr⟩:=bf hb3
 have hsz:w.heap.size<w2.heap.size:=by have:=hb3.size;simp at this;omega
 repeat (first|(refine aP (by rfl) ?_)|(refine gI (by rfl) (by rfl) (fun K hK=>?_);go_big_quiet_op;refine hK _ ?_;clear hK K))
 refine jg (by rfl) (by rfl) (fun K hK=>?_)
 go_wp2_with fail
 have hb4:=aC hb3 (.cells #[.bool (decide (1≤(p.parts.length:Int))),.bool (decide ((p.parts.length:Int)≤4)),.bool (gZ p.aG)] 4)
 refine hK _ _ (dC hb4) ?_
 clear hK K
 repeat (first|(refine aP (by rfl) ?_)|(refine gI (by rfl) (by rfl) (fun K hK=>?_);go_big_quiet_op;refine hK _ ?_;clear hK K))
 refine jg (by rfl) (by rfl) (fun K hK=>?_)
 go_wp2_with fail
 refine(aem _ _ _ [decide (1≤(p.parts.length:Int)),decide ((p.parts.length:Int)≤4),gZ p.aG] _ (aen _ _ _ (by simp[go_sem]) (by simp[go_sem]) (by simp[go_sem])) (by simp[lim])).mono ?_
 rintro e w5 ⟨rfl,rfl⟩
 obtain⟨c,h3⟩:∃c,([decide (1≤(p.parts.length:Int)),decide ((p.parts.length:Int)≤4),gZ p.aG].all fun b=>b)=c:=⟨_,rfl⟩
 rw[h3]
 go_wp2_with fail
 refine hK _ _ (dC hb4) ?_
 clear hK K
 repeat (first|(refine aP (by rfl) ?_)|(refine gI (by rfl) (by rfl) (fun K hK=>?_);go_big_quiet_op;refine hK _ ?_;clear hK K))
 refine bW ?_
 have hb5:Below w.heap.size w (w2.alloc (.cells #[.bool (decide (1≤(p.parts.length:Int))),.bool (decide ((p.parts.length:Int)≤4)),.bool (gZ p.aG)] 4)):=((Below.refl _ w).alloc (Nat.le_refl _) _).trans (hb4.mono (by simp))
 cases c
 ·have HN:=Lib.hid (aeo h3)
  go_wp2_with fail
  go_ret
  exact⟨by rw[HN.out];rfl,hb5⟩
 simp only[Bool.not_true]
 have HH:=Lib.hid (aep h3)
 obtain⟨sa,scap⟩:=s
 obtain⟨b,o,ha,-,-⟩:=hp.1.get 0 (aeq h3)
 dsimp only at ha
 subst ha
 clear h3 hc hf hr hsz
 obtain⟨hc,hf,hr⟩:=bf hb4
 have hsz:w.heap.size<(w2.alloc (.cells #[.bool (decide (1≤(p.parts.length:Int))),.bool (decide ((p.parts.length:Int)≤4)),.bool (gZ p.aG)] 4)).heap.size:=by have:=hb4.size;simp at this ⊢;omega
 have hp5:=hp.later hb5
 generalize w2.alloc (.cells #[.bool (decide (1≤(p.parts.length:Int))),.bool (decide ((p.parts.length:Int)≤4)),.bool (gZ p.aG)] 4)=w6 at *
 clear hb1 hb2 hb3 hb4
 go_wp2_with fail
 go_loop [22] (fun i=>∃k:Nat,k≤p.parts.length∧i=.int .i64 k∧Hid ((p.parts.take k).all ji=true)) (fun i=>p.parts.length-(intOf i).toNat)
 case atStart=>exact⟨0,Nat.zero_le _,rfl,by simp[Hid]⟩
 case round=>
  obtain⟨k,hk,rfl,hall⟩:=hrel
  by_cases hlt:k<p.parts.length
  ·obtain⟨hcc,hss⟩:=hp5.1.at k hlt
   have hbb:b<w6.heap.size:=World.block_lt_of_cell? w6 _ hcc
   cases hpart:ji p.parts[k]
   ·have HN:=Lib.hid (Ur k hlt hpart)
    go_wp2_with (go_at_call 250;refine(Un _ _ (le_max hss)).mono ?_;rintro e w' ⟨rfl,rfl⟩;rw[hpart])
    go_ret
    exact⟨by rw[HN.out];rfl,hb5⟩
   ·have HN:=Lib.hid (kC p.parts k hlt hall.out hpart)
    go_wp2_with (go_at_call 250;refine(Un _ _ (le_max hss)).mono ?_;rintro e w' ⟨rfl,rfl⟩;rw[hpart])
    go_round
    case rel=>exact⟨k+1,by omega,by go_num,HN.out⟩
    case measure=>simp[intOf];omega
  ·have HN:=Lib.hid (HH.out (qW p.parts k (by omega) hall.out))
   go_wp2_with fail
   go_ret
   exact⟨by rw[HN.out];rfl,hb5⟩
end Go.Proofs.YtaghcadlgbnbdaaGreatDoor
namespace Go.WW
def countOf(d:Entry)(p:ah)(now:Int):Int:=
 if 0<p.fails∧p.fails≤d.fails then(if 0<p.lock∧d.iw+p.lock≤now then 0 else d.fails)
 else if 0<p.window∧d.iw+p.window<now then 0 else d.fails
def aqK(d:Entry)(p:ah)(now:Int):Bool:=decide (0<p.fails)&&decide (p.fails≤countOf d p now)
def aqL(d:Entry)(p:ah):Int:=if p.lock=0 then 0 else min (d.iw+p.lock) 1099511627776
structure Small(d:Entry)(p:ah):Prop where
 l0:0≤d.iw
 l1:d.iw≤1099511627776
 f0:0≤d.fails
 f1:d.fails≤65535
 w0:0≤p.window
 w1:p.window≤1099511627776
 k0:0≤p.lock
 k1:p.lock≤1099511627776
 m0:0≤p.fails
end Go.WW
namespace Go.Proofs.YtaghcadlgbnbdaaGreatDoor
open Go.RowKit Go.WW
end Go.Proofs.YtaghcadlgbnbdaaGreatDoor
namespace Go.WW
def xy(l:List Key):Nat→Int
 |0=>0
 |j+1=>((l[j]?).map (·.profile)).getD 0
theorem aes(x:aW)(h:¬au x.version 1 65535=true):iI x=false:=by
 have hb:(au x.version 1 65535)=false:=by first|exact h|(simpa using h)|(simp;omega)
 simp only[iI,hb,Bool.false_and]
theorem aet(x:aW)(h:¬au x.keys.length 1 4=true):iI x=false:=by
 have hb:(au x.keys.length 1 4)=false:=by first|exact h|(simpa using h)|(simp;omega)
 simp only[iI,hb,Bool.false_and,Bool.and_false]
theorem aeu(x:aW)(h:256<(x.fP.size:Int)):iI x=false:=by
 have hb:(decide ((x.fP.size:Int)≤256))=false:=by first|exact h|(simpa using h)|(simp;omega)
 simp only[iI,hb,Bool.false_and,Bool.and_false]
theorem aev(x:aW)(h:¬au x.jr 0 65536=true):iI x=false:=by
 have hb:(au x.jr 0 65536)=false:=by first|exact h|(simpa using h)|(simp;omega)
 simp only[iI,hb,Bool.false_and,Bool.and_false]
theorem aew(x:aW)(h:¬(0<x.jr∨x.fP.toList=[])):iI x=false:=by
 have hb:(decide (0<x.jr) || x.fP.toList.isEmpty)=false:=by first|exact h|(simpa using h)|(simp;omega)
 simp only[iI,hb,Bool.false_and,Bool.and_false]
theorem aex(x:aW)(h:¬au x.created 0 1099511627776=true):iI x=false:=by
 have hb:(au x.created 0 1099511627776)=false:=by first|exact h|(simpa using h)|(simp;omega)
 simp only[iI,hb,Bool.and_false]
theorem UO(x:aW)(h1:au x.version 1 65535=true)(h2:au x.keys.length 1 4=true)(h3:(x.fP.size:Int)≤256)(h4:au x.jr 0 65536=true)(h5:0<x.jr∨x.fP.toList=[]):iI x=(au x.created 0 1099511627776):=by
 have e1:(au x.version 1 65535)=true:=by first|exact h1|(simpa using h1)|(simp;omega)
 have e2:(au x.keys.length 1 4)=true:=by first|exact h2|(simpa using h2)|(simp;omega)
 have e3:(decide ((x.fP.size:Int)≤256))=true:=by first|exact h3|(simpa using h3)|(simp;omega)
 have e4:(au x.jr 0 65536)=true:=by first|exact h4|(simpa using h4)|(simp;omega)
 have e5:(decide (0<x.jr) || x.fP.toList.isEmpty)=true:=by first|exact h5|(simpa using h5)|(simp;omega)
 simp only[iI,e1,e2,e3,e4,e5,Bool.true_and]
theorem aey(x:aW)(h1:au x.version 1 65535=true)(h2:au x.keys.length 1 4=true)(h3:(x.fP.size:Int)≤256)(h4:au x.jr 0 65536=true)(h5:0<x.jr):iI x=au x.created 0 1099511627776:=UO x h1 h2 h3 h4 (.inl h5)
theorem aez(x:aW)(h1:au x.version 1 65535=true)(h2:au x.keys.length 1 4=true)(h3:(x.fP.size:Int)≤256)(h4:au x.jr 0 65536=true):iI x=((decide (0<x.jr) || x.fP.toList.isEmpty)&&au x.created 0 1099511627776):=by
 have e3:decide ((x.fP.size:Int)≤256)=true:=by simpa using h3
 simp only[iI,h1,h2,e3,h4,Bool.true_and]
theorem aeA{m:Int}{x:aW}(k:Nat)(hk:k=x.keys.length)(h1:(x.keys.take k).all (iC m x.version)=true)(h2:(List.range k).all (iQ lN x.keys)=true):gV m x=iI x:=by
 subst hk;rw[List.take_of_length_le (Nat.le_refl _)]at h1;simp[gV,ordered,h1,h2]
theorem Ee{m:Int}{x:aW}(k:Nat)(hk:k<x.keys.length)(h:iC m x.version x.keys[k]=false):gV m x=false:=by
 rw[gV,qV x.keys k hk h];rfl
theorem aeB(l:List Key):xy l 0=0:=rfl
theorem Ia(l:List Key)(j:Nat)(h:j<l.length):xy l (j+1)=l[j].profile:=by simp[xy,h]
theorem aeC{p:Int}(h:p≤0):dS p=0:=by
 have h1:(p == 1)=false:=by simp;omega
 have h2:(p == 2)=false:=by simp;omega
 simp[dS,h1,h2]
theorem aeD{m:Int}{x:aW}(k:Nat)(hk:k<x.keys.length)(h:x.keys[k].profile≤xy x.keys k):gV m x=false:=by
 cases k with
 |zero=>exact Ee 0 hk (by rw[iC,aeC (by simpa[aeB]using h)];rfl)
 |succ j=>
  rw[Ia x.keys j (by omega)]at h
  have:iQ lN x.keys (j+1)=false:=by
   have h1:j<x.keys.length:=by omega
   simp[iQ,hk,h1,lN];exact h
  have:ordered lN x.keys=false:=Eb _ _ hk this
  simp[gV,this]
theorem aeE{x:aW}(k:Nat)(hk:k<x.keys.length)(h:xy x.keys k<x.keys[k].profile)(h2:(List.range k).all (iQ lN x.keys)=true):(List.range (k+1)).all (iQ lN x.keys)=true:=by
 refine Hz k h2 ?_
 cases k with
 |zero=>rfl
 |succ j=>
  have h1:j<x.keys.length:=by omega
  rw[Ia x.keys j h1]at h
  simp[iQ,hk,h1,lN];exact h
end Go.WW
namespace Go.Proofs.YtaghcadlgbnbdaaGreatDoor
open Go.RowKit Go.WW
theorem Ef(s:Sl)(x:aW)(m:Int)(w:World)(hx:jG w s x):Calls Tryz.prog 126 #[.agg (aV s x),.int .i64 m] w fun e w'=>e=.returned (.bool (gV m x))∧Below w.heap.size w w':=by
 have hl:x.keys.length≤4294967000:=hx.1.1
 have hB:Below w.heap.size w (w.alloc (.cells (aV s x) 61)):=(Below.refl _ _).alloc (Nat.le_refl _) _
 go_enter Tryz.func126,Tryz.ntmps126
 go_wp2
 go_loopw [5,6] (fun t i wr=>Below (w.alloc (.cells (aV s x) 61)).heap.size (w.alloc (.cells (aV s x) 61)) wr∧∃k:Nat,k≤x.keys.length∧i=.int .i64 k∧t=.int .i64 (xy x.keys k)∧Hid ((x.keys.take k).all (iC m x.version)=true)∧Hid ((List.range k).all (iQ lN x.keys)=true)) (fun _ i _=>x.keys.length-(intOf i).toNat)
 case atStart=>exact⟨Below.refl _ _,0,Nat.zero_le _,rfl,rfl,by simp[Hid],by simp[Hid]⟩
 case round=>
  obtain⟨hbr,k,hk,rfl,rfl,hall,hord⟩:=hrel
  obtain⟨hcc,aU,hrr⟩:=bf hbr
  have hsz:w.heap.size<wr.heap.size:=by have:=hbr.size;simp at this;omega
  by_cases hlt:k<x.keys.length
  ·obtain⟨b,o,t,ha,hc,hkey⟩:=hx.1.get k hlt
   have hb:b<w.heap.size:=gq hc
   have hb1:b<w.heap.size+1:=by omega
   have hki:(k:Int)<(x.keys.length:Int):=by omega
   by_cases hA:x.keys[k].profile≤xy x.keys k
   ·have HN:=Lib.hid (aeD (m:=m) k hlt hA)
    go_wp2_with (first|(go_at_call 189;refine(ug _ _).mono ?_;rintro e w' ⟨rfl,rfl⟩)|(go_at_call 127;refine(qU _ _ _ _).mono ?_;rintro e w' ⟨rfl,rfl⟩)|(go_at_call 190;refine(yK _ _ _).mono ?_;rintro e w2 ⟨rfl,hb2⟩;obtain⟨hc2,hf2,hr2⟩:=bf hb2))
    go_ret
    exact⟨by rw[HN.out];rfl,hB.trans ((aC hbr _).mono (by simp))⟩
   ·have hA':xy x.keys k<x.keys[k].profile:=by omega
    have HO:=Lib.hid (aeE k hlt hA' hord.out)
    clear hA
    by_cases hK:dS x.keys[k].profile=0
    ·have hK':(dS x.keys[k].profile == 0)=true:=by simp[hK]
     have HN:=Lib.hid (Ee (m:=m) k hlt (by simp[iC,hK']))
     clear hK
     go_wp2_with (first|(go_at_call 189;refine(ug _ _).mono ?_;rintro e w' ⟨rfl,rfl⟩)|(go_at_call 127;refine(qU _ _ _ _).mono ?_;rintro e w' ⟨rfl,rfl⟩)|(go_at_call 190;refine(yK _ _ _).mono ?_;rintro e w2 ⟨rfl,hb2⟩;obtain⟨hc2,hf2,hr2⟩:=bf hb2))
     go_ret
     exact⟨by rw[HN.out];rfl,hB.trans ((aC hbr _).mono (by simp))⟩
    ·have hK':(dS x.keys[k].profile == 0)=false:=by simp[hK]
     clear hK
     cases hC:(x.keys[k].version != x.version)
     ·by_cases hm:m=0
      ·subst hm
       cases hD:nV x.keys[k]
       ·have HN:=Lib.hid (Ee (m:=0) k hlt (by simp[iC,hD]))
        go_wp2_with (first|(go_at_call 189;refine(ug _ _).mono ?_;rintro e w' ⟨rfl,rfl⟩)|(go_at_call 127;refine(qU _ _ _ _).mono ?_;rintro e w' ⟨rfl,rfl⟩)|(go_at_call 190;refine(yK _ _ _).mono ?_;rintro e w2 ⟨rfl,hb2⟩;obtain⟨hc2,hf2,hr2⟩:=bf hb2))
        go_ret
        exact⟨by rw[HN.out];rfl,hB.trans ((ag (aC hbr _) hb2).mono (by simp))⟩
       ·have HN:=Lib.hid (kC (p:=iC 0 x.version) x.keys k hlt hall.out (by simp[iC,hK',hC,hD]))
        go_wp2_with (first|(go_at_call 189;refine(ug _ _).mono ?_;rintro e w' ⟨rfl,rfl⟩)|(go_at_call 127;refine(qU _ _ _ _).mono ?_;rintro e w' ⟨rfl,rfl⟩)|(go_at_call 190;refine(yK _ _ _).mono ?_;rintro e w2 ⟨rfl,hb2⟩;obtain⟨hc2,hf2,hr2⟩:=bf hb2))
        go_roundw
        case rel=>exact⟨ag (aC hbr _) hb2,k+1,by omega,by go_num,by rw[Ia _ _ hlt],HN.out,HO.out⟩
        case measure=>simp[intOf];omega
      ·have hm1:(m == 0)=false:=by simp[hm]
       have hm2:(m != 0)=true:=by simp[hm]
       clear hm
       cases hD:au x.keys[k].bytes.length 1 256
       ·have HN:=Lib.hid (Ee (m:=m) k hlt (by simp[iC,hD,hm1]))
        go_wp2_with (first|(go_at_call 189;refine(ug _ _).mono ?_;rintro e w' ⟨rfl,rfl⟩)|(go_at_call 127;refine(qU _ _ _ _).mono ?_;rintro e w' ⟨rfl,rfl⟩)|(go_at_call 190;refine(yK _ _ _).mono ?_;rintro e w2 ⟨rfl,hb2⟩;obtain⟨hc2,hf2,hr2⟩:=bf hb2))
        go_ret
        exact⟨by rw[HN.out];rfl,hB.trans ((aC hbr _).mono (by simp))⟩
       ·have HN:=Lib.hid (kC (p:=iC m x.version) x.keys k hlt hall.out (by simp[iC,hK',hC,hD,hm1]))
        go_wp2_with (first|(go_at_call 189;refine(ug _ _).mono ?_;rintro e w' ⟨rfl,rfl⟩)|(go_at_call 127;refine(qU _ _ _ _).mono ?_;rintro e w' ⟨rfl,rfl⟩)|(go_at_call 190;refine(yK _ _ _).mono ?_;rintro e w2 ⟨rfl,hb2⟩;obtain⟨hc2,hf2,hr2⟩:=bf hb2))
        go_roundw
        case rel=>exact⟨aC hbr _,k+1,by omega,by go_num,by rw[Ia _ _ hlt],HN.out,HO.out⟩
        case measure=>simp[intOf];omega
     ·have HN:=Lib.hid (Ee (m:=m) k hlt (by simp[iC,hC]))
      go_wp2_with (first|(go_at_call 189;refine(ug _ _).mono ?_;rintro e w' ⟨rfl,rfl⟩)|(go_at_call 127;refine(qU _ _ _ _).mono ?_;rintro e w' ⟨rfl,rfl⟩)|(go_at_call 190;refine(yK _ _ _).mono ?_;rintro e w2 ⟨rfl,hb2⟩;obtain⟨hc2,hf2,hr2⟩:=bf hb2))
      go_ret
      exact⟨by rw[HN.out];rfl,hB.trans ((aC hbr _).mono (by simp))⟩
  ·have HE:=Lib.hid (aeA (m:=m) k (by omega) hall.out hord.out)
   go_wp2_with (first|(go_at_call 127;refine(qU _ _ _ _).mono ?_;rintro e w' ⟨rfl,rfl⟩))
   all_goals go_ret
   all_goals exact⟨by rw[HE.out];first|(rw[aes x ‹_›];rfl)|(rw[aet x ‹_›];rfl)|(rw[aeu x ‹_›];rfl)|(rw[aev x ‹_›];rfl)|(rw[aew x ‹_›];rfl)|(rw[aex x ‹_›];rfl)|(rw[UO x ‹_› ‹_› ‹_› ‹_› ‹_›];rfl)|(rw[aey x ‹_› ‹_› ‹_› ‹_› ‹_›];rfl)|(rw[aez x ‹_› ‹_› ‹_› ‹_›];rfl),hB.trans (hbr.mono (by simp))⟩
end Go.Proofs.YtaghcadlgbnbdaaGreatDoor
namespace Go.WW
def oW(l:List aB)(i:Nat):Bool:=
 match l[i]? with
 |none=>true
 |some p=>bD p&&(l.take i).all (fun q=>!bn q p)
def AY(l:List aB):Bool:=(List.range l.length).all (oW l)
def different(l:List aB):Bool:=AY l&&decide ((l.length:Int)≤16)
theorem UQ{l:List aB}(i:Nat)(hi:i<l.length)(h:bD l[i]=false):different l=false:=by
 have:oW l i=false:=by simp[oW,hi,h]
 rw[different,AY,Eb _ i hi this];rfl
theorem aeF{l:List aB}(i k:Nat)(hi:i<l.length)(hk:k<i)(h:bn l[k] l[i]=true):different l=false:=by
 have h2:(l.take i).all (fun q=>!bn q l[i])=false:=by
  rw[List.all_eq_false]
  exact⟨l[k],by rw[List.mem_iff_getElem];exact⟨k,by simp;omega,by simp⟩,by simp[h]⟩
 have:oW l i=false:=by simp[oW,hi,h2]
 rw[different,AY,Eb _ i hi this];rfl
theorem aeG{l:List aB}(i:Nat)(hi:i<l.length)(h:(List.range i).all (oW l)=true)(h1:bD l[i]=true)(h2:(l.take i).all (fun q=>!bn q l[i])=true):(List.range (i+1)).all (oW l)=true:=
 Hz i h (by simp[oW,hi,h1,h2])
theorem aeH{l:List aB}(i:Nat)(hi:i=l.length)(h:(List.range i).all (oW l)=true):different l=decide ((l.length:Int)≤16):=by
 subst hi;rw[different,AY,h];rfl
end Go.WW
namespace Go.Proofs.YtaghcadlgbnbdaaGreatDoor
open Go.RowKit Go.WW
theorem aeI(a:Option Addr)(cap:Nat)(w:World):Calls Tryz.prog 125 #[.slice a 0 cap] w fun e w'=>e=.returned (.bool (different []))∧Below w.heap.size w w':=by
 go_enter Tryz.func125,Tryz.ntmps125
 go_wp2
 refine wp_loop_rounds 1 ?_
 rw[rounds_succ]
 go_wp2
 go_ret
 exact⟨rfl,Below.refl _ _⟩
theorem vw(a:Option Addr)(cap:Nat)(l:List aB)(w:World)(hl:eG w a l):Calls Tryz.prog 125 #[.slice a l.length cap] w fun e w'=>e=.returned (.bool (different l))∧Below w.heap.size w w':=by
 have hn:l.length≤4294967000:=hl.1
 rcases aO.addr hl with h0|⟨b,o,rfl,hb⟩
 ·obtain rfl:l=[]:=List.eq_nil_of_length_eq_zero h0
  exact aeI a cap w
 go_enter Tryz.func125,Tryz.ntmps125
 go_wp2
 go_loopw [3] (fun i wr=>Below w.heap.size w wr∧∃k:Nat,k≤l.length∧i=.int .i64 k∧Hid ((List.range k).all (oW l)=true)) (fun i _=>l.length-(intOf i).toNat)
 case atStart=>exact⟨Below.refl _ _,0,Nat.zero_le _,rfl,by simp[Hid]⟩
 case round=>
  obtain⟨hbr,i,hi,rfl,hall⟩:=hrel
  by_cases hlt:i<l.length
  ·obtain⟨t,hc,hp⟩:=hl.at i hlt
   have hii:(i:Int)<(l.length:Int):=by omega
   obtain⟨hcc,aU,hrr⟩:=bf hbr
   go_wp2_with fail
   refine(AU _ _ _ (hp.later hbr)).mono ?_
   rintro e w1 ⟨rfl,hb1⟩
   replace hb1:=ag hbr hb1
   clear hcc aU hrr
   cases hv:bD l[i]
   ·have HN:=Lib.hid (UQ i hlt hv)
    go_wp2
    go_ret
    exact⟨by rw[HN.out];rfl,hb1⟩
   ·have HV:=Lib.hid hv;clear hv
    obtain⟨wo,rfl⟩:∃wo:World,wo=wr:=⟨_,rfl⟩
    go_wp2
    go_loopw [4] (fun j wr=>Below w.heap.size w wr∧∃k:Nat,k≤i∧j=.int .i64 k∧Hid ((l.take k).all (fun q=>!bn q l[i])=true)) (fun j _=>i-(intOf j).toNat)
    case atStart=>exact⟨hb1,0,Nat.zero_le _,rfl,by simp[Hid]⟩
    case round=>
     obtain⟨ui,k,hk,rfl,rq⟩:=hrel
     by_cases hk2:k<i
     ·have hkl:k<l.length:=by omega
      have hkk:(k:Int)<(l.length:Int):=by omega
      obtain⟨t',hc',hp'⟩:=hl.at k hkl
      cases hs:bn l[k] l[i]
      ·have HS:=Lib.hid (kC (p:=fun q=>!bn q l[i]) l k hkl rq.out (by simp[hs]))
       go_wp2
       refine dP ui (by kernel_rfl) (by kernel_rfl) ?_
       repeat (go_big_quiet_step ((go_at_call 21;rename_i xw;exact Calls.gX (hs▸qX _ _ _ _ _ (hp'.later xw.b) (hp.later xw.b)))))
       refine wpQuiet_nil ?_
       intro w2 hb2
       go_wp2
       go_roundw
       case rel=>exact⟨hb2,k+1,by omega,by go_num,HS.out⟩
       case measure=>simp[intOf];omega
      ·have HS:=Lib.hid (aeF i k hlt hk2 hs)
       go_wp2
       refine dP ui (by kernel_rfl) (by kernel_rfl) ?_
       repeat (go_big_quiet_step ((go_at_call 21;rename_i xw;exact Calls.gX (hs▸qX _ _ _ _ _ (hp'.later xw.b) (hp.later xw.b)))))
       refine wpQuiet_nil ?_
       intro w2 hb2
       go_wp2
       go_ret
       exact⟨by rw[HS.out];rfl,hb2⟩
     ·have AZ:=rq.out
      have e:k=i:=by omega
      rw[e]at AZ
      have HS:=Lib.hid (aeG i hlt hall.out HV.out AZ)
      clear AZ e
      go_wp2
      go_roundw
      case rel=>first|exact⟨ui,i+1,by omega,by go_num,HS.out⟩|((repeat apply Exists.intro);exact⟨⟨ui,i+1,by omega,by go_num,HS.out⟩,rfl⟩)
      case measure=>simp[intOf];omega
  ·have HE:=Lib.hid (aeH i (by omega) hall.out)
   go_wp2
   go_ret
   exact⟨by rw[HE.out];rfl,hbr⟩
end Go.Proofs.YtaghcadlgbnbdaaGreatDoor
namespace Go.WW
def jI(a b:aW):Bool:=decide (b.version<a.version)&&decide (b.created≤a.created)
def ru(n a:aB):Bool:=decide (a.aG=n.aG)&&!bn a n
def yN(a:Int):Bool:=decide (a≤1023)
def jk(e:Entry):Bool:=au e.mO 0 1099511627776&&au e.mP 0 1099511627776&&au e.mQ 0 2147483648&&au e.mV 0 2147483648&&au e.fails 0 65535&&au e.iw 0 1099511627776&&au e.jw 0 1099511627776
def jT(e:Entry):Bool:=yN e.attrs&&au e.gU 0 65535&&decide ((e.keys.length:Int)≤16)&&decide ((e.aK.size:Int)≤32)&&visible e.aK&&decide ((e.history.length:Int)≤16)
def bF(e:Entry):Bool:=bD e.name&&different e.aliases&&different e.targets&&different e.bH&&e.aliases.all (ru e.name)&&e.keys.all (gV e.gU)&&ordered jI e.keys&&e.history.all (fun h=>(h.length:Int) == 16)&&jT e&&jk e
theorem UR(n:Nat):((n ||| 1023)=1023)↔n≤1023:=by
 constructor
 ·intro h
  have h1:(n ||| 1023) >>> 10=0:=by rw[h];rfl
  rw[Nat.shiftRight_or_distrib]at h1
  have h2:n >>> 10=0:=by
   have:=Nat.or_eq_zero_iff.1 h1
   exact this.1
  rw[Nat.shiftRight_eq_div_pow]at h2
  omega
 ·intro h
  have h1:n<2 ^ 10:=by omega
  apply Nat.eq_of_testBit_eq
  intro i
  rw[Nat.testBit_or]
  have e:(1023:Nat)=2 ^ 10-1:=rfl
  rw[e,Nat.testBit_two_pow_sub_one]
  by_cases hi:i<10
  ·simp[hi]
  ·simp[hi]
   exact Nat.testBit_lt_two_pow (Nat.lt_of_lt_of_le h1 (Nat.pow_le_pow_right (by omega) (by omega)))
theorem aeJ(e:Entry)(h:¬au e.mO 0 1099511627776=true):jk e=false:=by
 have hb:(au e.mO 0 1099511627776)=false:=by first|exact h|(simpa using h)|(simp;omega)
 simp only[jk,hb,Bool.false_and]
theorem aeK(e:Entry)(h:¬au e.mP 0 1099511627776=true):jk e=false:=by
 have hb:(au e.mP 0 1099511627776)=false:=by first|exact h|(simpa using h)|(simp;omega)
 simp only[jk,hb,Bool.false_and,Bool.and_false]
theorem aeL(e:Entry)(h:¬au e.mQ 0 2147483648=true):jk e=false:=by
 have hb:(au e.mQ 0 2147483648)=false:=by first|exact h|(simpa using h)|(simp;omega)
 simp only[jk,hb,Bool.false_and,Bool.and_false]
theorem aeM(e:Entry)(h:¬au e.mV 0 2147483648=true):jk e=false:=by
 have hb:(au e.mV 0 2147483648)=false:=by first|exact h|(simpa using h)|(simp;omega)
 simp only[jk,hb,Bool.false_and,Bool.and_false]
theorem aeN(e:Entry)(h:¬au e.fails 0 65535=true):jk e=false:=by
 have hb:(au e.fails 0 65535)=false:=by first|exact h|(simpa using h)|(simp;omega)
 simp only[jk,hb,Bool.false_and,Bool.and_false]
theorem aeO(e:Entry)(h:¬au e.iw 0 1099511627776=true):jk e=false:=by
 have hb:(au e.iw 0 1099511627776)=false:=by first|exact h|(simpa using h)|(simp;omega)
 simp only[jk,hb,Bool.false_and,Bool.and_false]
theorem aeP(e:Entry)(h:¬au e.jw 0 1099511627776=true):jk e=false:=by
 have hb:(au e.jw 0 1099511627776)=false:=by first|exact h|(simpa using h)|(simp;omega)
 simp only[jk,hb,Bool.and_false]
theorem aeQ(e:Entry)(h1:au e.mO 0 1099511627776=true)(h2:au e.mP 0 1099511627776=true)(h3:au e.mQ 0 2147483648=true)(h4:au e.mV 0 2147483648=true)(h5:au e.fails 0 65535=true)(h6:au e.iw 0 1099511627776=true):jk e=(au e.jw 0 1099511627776):=by
 have e1:(au e.mO 0 1099511627776)=true:=by first|exact h1|(simpa using h1)|(simp;omega)
 have e2:(au e.mP 0 1099511627776)=true:=by first|exact h2|(simpa using h2)|(simp;omega)
 have e3:(au e.mQ 0 2147483648)=true:=by first|exact h3|(simpa using h3)|(simp;omega)
 have e4:(au e.mV 0 2147483648)=true:=by first|exact h4|(simpa using h4)|(simp;omega)
 have e5:(au e.fails 0 65535)=true:=by first|exact h5|(simpa using h5)|(simp;omega)
 have e6:(au e.iw 0 1099511627776)=true:=by first|exact h6|(simpa using h6)|(simp;omega)
 simp only[jk,e1,e2,e3,e4,e5,e6,Bool.true_and]
theorem UT(a:Int)(h0:0≤a)(h1:a≤4294967295):(bits .or .i64 a 1023=1023)↔a≤1023:=by
 obtain⟨n,rfl⟩:=Int.eq_ofNat_of_zero_le h0
 have hn:n<4294967296:=by omega
 have hb:(BitVec.ofInt 64 (n:Int) ||| BitVec.ofInt 64 1023).toNat=n ||| 1023:=by
  rw[BitVec.toNat_or]
  have e1:(BitVec.ofInt 64 (n:Int)).toNat=n:=by simp;omega
  rw[e1];rfl
 have hlt:n ||| 1023<2 ^ 32:=Nat.or_lt_two_pow (by omega) (by omega)
 have:bits .or .i64 (n:Int) 1023=((n ||| 1023:Nat):Int):=by
  show IntKind.i64.wrap ((BitVec.ofInt 64 (n:Int) ||| BitVec.ofInt 64 1023).toNat:Int)=_
  rw[hb]
  exact IntWalk.i64_in _ (by omega)
 rw[this]
 have:=UR n
 omega
theorem Nj{e:Entry}(h:(16<(e.keys.length:Int)∨32<(e.aK.size:Int))∨16<(e.history.length:Int)):jT e=false:=by
 have:(decide ((e.keys.length:Int)≤16)&&decide ((e.aK.size:Int)≤32)&&decide ((e.history.length:Int)≤16))=false:=by simp;omega
 simp only[jT]
 revert this
 cases decide ((e.keys.length:Int)≤16)<;>cases decide ((e.aK.size:Int)≤32)<;>cases decide ((e.history.length:Int)≤16)<;>simp
theorem aeR{e:Entry}(h:¬visible e.aK=true):jT e=false:=by
 have:visible e.aK=false:=by simpa using h
 simp[jT,this]
theorem aeS{e:Entry}(h:32<(e.aK.size:Int)):jT e=false:=Nj (.inl (.inr h))
theorem aeT{e:Entry}(h:16<(e.keys.length:Int)):jT e=false:=Nj (.inl (.inl h))
theorem aeU{e:Entry}(h:¬au e.gU 0 65535=true):jT e=false:=by
 have:au e.gU 0 65535=false:=by simpa using h
 simp[jT,this]
theorem aeV{e:Entry}(h:¬e.attrs≤1023):jT e=false:=by simp[jT,yN,h]
theorem aeW{e:Entry}(h:e.attrs≤1023)(h1:au e.gU 0 65535=true)(h2:visible e.aK=true)(h3:((e.keys.length:Int)≤16∧(e.aK.size:Int)≤32)∧(e.history.length:Int)≤16):jT e=true:=by
 simp[jT,yN,h,h1,h2,h3]
theorem aeX{e:Entry}(h:bD e.name=false):bF e=false:=by simp[bF,h]
theorem aeY{e:Entry}(h:different e.aliases=false):bF e=false:=by simp[bF,h]
theorem aeZ{e:Entry}(h:different e.targets=false):bF e=false:=by simp[bF,h]
theorem ae0{e:Entry}(h:different e.bH=false):bF e=false:=by simp[bF,h]
theorem UU{e:Entry}(k:Nat)(hk:k<e.aliases.length)(h:ru e.name e.aliases[k]=false):bF e=false:=by
 have:=qV e.aliases k hk h;simp[bF,this]
theorem ae1{e:Entry}(k:Nat)(hk:k<e.keys.length)(h:gV e.gU e.keys[k]=false):bF e=false:=by
 have:=qV e.keys k hk h;simp[bF,this]
theorem UW{α:Type}{f:α→α→Bool}{l:List α}(j:Nat)(hk:j+1<l.length)(h:f l[j] l[j+1]=false):ordered f l=false:=by
 have h1:j<l.length:=by omega
 exact Eb _ (j+1) hk (by simp[iQ,hk,h1,h])
theorem ae2{α:Type}{f:α→α→Bool}{l:List α}(j:Nat)(hk:j+1<l.length)(hh:(List.range (j+1)).all (iQ f l)=true)(h:f l[j] l[j+1]=true):(List.range (j+1+1)).all (iQ f l)=true:=by
 have h1:j<l.length:=by omega
 exact Hz (j+1) hh (by simp[iQ,hk,h1,h])
theorem ae3{α:Type}{f:α→α→Bool}(l:List α):(List.range (0+1)).all (iQ f l)=true:=by simp[iQ]
theorem UX{e:Entry}(h:ordered jI e.keys=false):bF e=false:=by simp[bF,h]
theorem ae4{e:Entry}(k:Nat)(hk:k<e.history.length)(h:((e.history[k].length:Int) == 16)=false):bF e=false:=by
 have:=qV (p:=fun h=>(h.length:Int) == 16) e.history k hk h;simp[bF,this]
theorem A7{e:Entry}(h:jT e=false):bF e=false:=by simp[bF,h]
theorem ae5{e:Entry}(h1:bD e.name=true)(h2:different e.aliases=true)(h3:different e.targets=true)(h4:different e.bH=true)(h5:e.aliases.all (ru e.name)=true)(h6:e.keys.all (gV e.gU)=true)(h7:ordered jI e.keys=true)(h8:e.history.all (fun h=>(h.length:Int) == 16)=true)(h9:jT e=true):bF e=jk e:=by
 simp only[bF,h1,h2,h3,h4,h5,h6,h7,h8,h9,Bool.true_and]
end Go.WW
namespace Go.Proofs.YtaghcadlgbnbdaaGreatDoor
open Go.RowKit Go.WW
theorem ae6(r:aI)(d:Entry)(w:World)(he:bz w r d):Calls Tryz.prog 75 #[.agg (ae r d)] w fun e w'=>e=.returned (.bool (bF d))∧Below w.heap.size w w':=by
 have hB:Below w.heap.size w (w.alloc (.cells (ae r d) 32)):=(Below.refl _ _).alloc (Nat.le_refl _) _
 cases h1:bD d.name
 ·have HN:=Lib.hid (aeX h1)
  go_enter Tryz.func75,Tryz.ntmps75
  go_wp2_with fail
  refine(AU _ _ _ (he.name.later hB)).mono ?_
  rintro e w1 ⟨rfl,hb1⟩
  rw[h1]
  obtain⟨hc1,hf1,hr1⟩:=bf hb1
  go_wp2
  go_ret
  exact⟨by rw[HN.out];rfl,hB.trans (hb1.mono (by simp))⟩
 cases h2:different d.aliases
 ·have HN:=Lib.hid (aeY h2)
  go_enter Tryz.func75,Tryz.ntmps75
  go_wp2_with fail
  refine(AU _ _ _ (he.name.later hB)).mono ?_
  rintro e w1 ⟨rfl,hb1⟩
  rw[h1]
  obtain⟨hc1,hf1,hr1⟩:=bf hb1
  go_wp2_with fail
  refine(vw _ _ _ _ (he.aliases.later (hB.trans (hb1.mono (by simp))))).mono ?_
  rintro e w2 ⟨rfl,hb2⟩
  rw[h2]
  replace hb2:=ag hb1 hb2
  clear hc1 hf1 hr1
  obtain⟨hc2,hf2,hr2⟩:=bf hb2
  go_wp2
  go_ret
  exact⟨by rw[HN.out];rfl,hB.trans (hb2.mono (by simp))⟩
 cases h3:different d.targets
 ·have HN:=Lib.hid (aeZ h3)
  go_enter Tryz.func75,Tryz.ntmps75
  go_wp2_with fail
  refine(AU _ _ _ (he.name.later hB)).mono ?_
  rintro e w1 ⟨rfl,hb1⟩
  rw[h1]
  obtain⟨hc1,hf1,hr1⟩:=bf hb1
  go_wp2_with fail
  refine(vw _ _ _ _ (he.aliases.later (hB.trans (hb1.mono (by simp))))).mono ?_
  rintro e w2 ⟨rfl,hb2⟩
  rw[h2]
  replace hb2:=ag hb1 hb2
  clear hc1 hf1 hr1
  obtain⟨hc2,hf2,hr2⟩:=bf hb2
  go_wp2_with fail
  refine(vw _ _ _ _ (he.targets.later (hB.trans (hb2.mono (by simp))))).mono ?_
  rintro e w3 ⟨rfl,hb3⟩
  rw[h3]
  replace hb3:=ag hb2 hb3
  clear hc2 hf2 hr2
  obtain⟨hc3,hf3,hr3⟩:=bf hb3
  go_wp2
  go_ret
  exact⟨by rw[HN.out];rfl,hB.trans (hb3.mono (by simp))⟩
 cases h4:different d.bH
 ·have HN:=Lib.hid (ae0 h4)
  go_enter Tryz.func75,Tryz.ntmps75
  go_wp2_with fail
  refine(AU _ _ _ (he.name.later hB)).mono ?_
  rintro e w1 ⟨rfl,hb1⟩
  rw[h1]
  obtain⟨hc1,hf1,hr1⟩:=bf hb1
  go_wp2_with fail
  refine(vw _ _ _ _ (he.aliases.later (hB.trans (hb1.mono (by simp))))).mono ?_
  rintro e w2 ⟨rfl,hb2⟩
  rw[h2]
  replace hb2:=ag hb1 hb2
  clear hc1 hf1 hr1
  obtain⟨hc2,hf2,hr2⟩:=bf hb2
  go_wp2_with fail
  refine(vw _ _ _ _ (he.targets.later (hB.trans (hb2.mono (by simp))))).mono ?_
  rintro e w3 ⟨rfl,hb3⟩
  rw[h3]
  replace hb3:=ag hb2 hb3
  clear hc2 hf2 hr2
  obtain⟨hc3,hf3,hr3⟩:=bf hb3
  go_wp2_with fail
  refine(vw _ _ _ _ (he.bH.later (hB.trans (hb3.mono (by simp))))).mono ?_
  rintro e w4 ⟨rfl,hb4⟩
  rw[h4]
  replace hb4:=ag hb3 hb4
  clear hc3 hf3 hr3
  obtain⟨hc4,hf4,hr4⟩:=bf hb4
  go_wp2
  go_ret
  exact⟨by rw[HN.out];rfl,hB.trans (hb4.mono (by simp))⟩
 go_enter Tryz.func75,Tryz.ntmps75
 go_wp2_with fail
 refine(AU _ _ _ (he.name.later hB)).mono ?_
 rintro e w1 ⟨rfl,hb1⟩
 rw[h1]
 obtain⟨hc1,hf1,hr1⟩:=bf hb1
 go_wp2_with fail
 refine(vw _ _ _ _ (he.aliases.later (hB.trans (hb1.mono (by simp))))).mono ?_
 rintro e w2 ⟨rfl,hb2⟩
 rw[h2]
 replace hb2:=ag hb1 hb2
 clear hc1 hf1 hr1
 obtain⟨hc2,hf2,hr2⟩:=bf hb2
 go_wp2_with fail
 refine(vw _ _ _ _ (he.targets.later (hB.trans (hb2.mono (by simp))))).mono ?_
 rintro e w3 ⟨rfl,hb3⟩
 rw[h3]
 replace hb3:=ag hb2 hb3
 clear hc2 hf2 hr2
 obtain⟨hc3,hf3,hr3⟩:=bf hb3
 go_wp2_with fail
 refine(vw _ _ _ _ (he.bH.later (hB.trans (hb3.mono (by simp))))).mono ?_
 rintro e w4 ⟨rfl,hb4⟩
 rw[h4]
 replace hb4:=ag hb3 hb4
 clear hc3 hf3 hr3
 obtain⟨hc4,hf4,hr4⟩:=bf hb4
 clear hc4 hf4 hr4
 have H1:=Lib.hid h1;clear h1
 have H2:=Lib.hid h2;clear h2
 have H3:=Lib.hid h3;clear h3
 have H4:=Lib.hid h4;clear h4
 go_wp2
 go_loopw [3] (fun i wr=>Below (w.alloc (.cells (ae r d) 32)).heap.size (w.alloc (.cells (ae r d) 32)) wr∧∃k:Nat,k≤d.aliases.length∧i=.int .i64 k∧Hid ((d.aliases.take k).all (ru d.name)=true)) (fun i _=>d.aliases.length-(intOf i).toNat)
 case atStart=>exact⟨hb4,0,Nat.zero_le _,rfl,by simp[Hid]⟩
 case round=>
  obtain⟨hbr,k,hk,rfl,hall⟩:=hrel
  have hn1:d.aliases.length≤4294967000:=he.aliases.1
  obtain⟨hcc,aU,hrr⟩:=bf hbr
  have hsz:w.heap.size<wr.heap.size:=by have:=hbr.size;simp at this;omega
  by_cases hlt:k<d.aliases.length
  ·obtain⟨b,o,t,ha,hc,hp⟩:=he.aliases.get k hlt
   have hb:b<w.heap.size:=gq hc
   have hb1:b<w.heap.size+1:=by omega
   have hki:(k:Int)<(d.aliases.length:Int):=by omega
   have c1:w.cell? ⟨b,o+k*2+1,none⟩=some (.string d.aliases[k].aG):=by simpa[G9]using gp hc 1 (by omega)
   by_cases hr:d.aliases[k].aG=d.name.aG
   ·have hr':=str_eq _ _ hr
    cases hs:bn d.aliases[k] d.name
    ·have HS:=Lib.hid (kC (p:=ru d.name) d.aliases k hlt hall.out (by simp[ru,hr,hs]))
     clear hr
     go_wp2
     refine dP hbr (by kernel_rfl) (by kernel_rfl) ?_
     repeat (go_big_quiet_step ((go_at_call 21;rename_i xw;exact Calls.gX (hs▸qX _ _ _ _ _ (hp.later (hB.trans (xw.b.mono (by simp)))) (he.name.later (hB.trans (xw.b.mono (by simp))))))))
     refine wpQuiet_nil ?_
     intro w2 hb2
     go_wp2
     go_roundw
     case rel=>exact⟨hb2,k+1,by omega,by go_num,HS.out⟩
     case measure=>simp[intOf];omega
    ·have HS:=Lib.hid (UU k hlt (by simp[ru,hs]))
     clear hr
     go_wp2
     refine dP hbr (by kernel_rfl) (by kernel_rfl) ?_
     repeat (go_big_quiet_step ((go_at_call 21;rename_i xw;exact Calls.gX (hs▸qX _ _ _ _ _ (hp.later (hB.trans (xw.b.mono (by simp)))) (he.name.later (hB.trans (xw.b.mono (by simp))))))))
     refine wpQuiet_nil ?_
     intro w2 hb2
     go_wp2
     go_ret
     exact⟨by rw[HS.out];rfl,hB.trans (hb2.mono (by simp))⟩
   ·have hr':=kD _ _ hr
    have HS:=Lib.hid (UU k hlt (by simp[ru,hr]))
    clear hr
    go_wp2
    refine dP hbr (by kernel_rfl) (by kernel_rfl) ?_
    repeat (go_big_quiet_step (fail))
    refine wpQuiet_nil ?_
    intro w2 hb2
    go_wp2
    go_ret
    exact⟨by rw[HS.out];rfl,hB.trans (hb2.mono (by simp))⟩
  ·have H5:=Lib.hid (qW d.aliases k (by omega) hall.out)
   clear hall
   go_wp2
   clear hcc aU hrr hn1
   have oZ:=hbr
   clear hbr hk hlt
   obtain⟨wo,hwo⟩:∃wo:World,wo=wr:=⟨_,rfl⟩
   subst hwo
   go_loopw [4] (fun i wr=>Below (w.alloc (.cells (ae r d) 32)).heap.size (w.alloc (.cells (ae r d) 32)) wr∧∃k:Nat,k≤d.keys.length∧i=.int .i64 k∧Hid ((d.keys.take k).all (gV d.gU)=true)∧Hid ((List.range k).all (iQ jI d.keys)=true)) (fun i _=>d.keys.length-(intOf i).toNat)
   case atStart=>exact⟨oZ,0,Nat.zero_le _,rfl,by simp[Hid],by simp[Hid]⟩
   case round=>
    obtain⟨hbr,k,hk,rfl,hall,hord⟩:=hrel
    have hn1:d.keys.length≤4294967000:=he.keys.1
    obtain⟨hcc,aU,hrr⟩:=bf hbr
    have hsz:w.heap.size<wr.heap.size:=by have:=hbr.size;simp at this;omega
    by_cases hlt:k<d.keys.length
    ·obtain⟨b,o,t,ha,hc,hp⟩:=he.keys.get k hlt
     have hb:b<w.heap.size:=gq hc
     have hb1:b<w.heap.size+1:=by omega
     have hki:(k:Int)<(d.keys.length:Int):=by omega
     have c0:w.cell? ⟨b,o+k*5,none⟩=some (.int .i64 d.keys[k].version):=by simpa[DR]using gp hc 0 (by omega)
     have c4:w.cell? ⟨b,o+k*5+4,none⟩=some (.int .i64 d.keys[k].created):=by simpa[LC]using gp hc 4 (by omega)
     cases hs:gV d.gU d.keys[k]
     ·have HS:=Lib.hid (ae1 k hlt hs)
      go_wp2
      refine dP hbr (by kernel_rfl) (by kernel_rfl) ?_
      repeat (go_big_quiet_step ((go_at_call 126;rename_i xw;exact Calls.gX (hs▸Ef _ _ _ _ (hp.later (hB.trans (xw.b.mono (by simp))))))))
      refine wpQuiet_nil ?_
      intro w2 hb2
      go_wp2
      go_ret
      exact⟨by rw[HS.out];rfl,hB.trans (hb2.mono (by simp))⟩
     ·have HS:=Lib.hid (kC (p:=gV d.gU) d.keys k hlt hall.out hs)
      by_cases h0:k=0
      ·subst h0
       simp only[Nat.zero_mul,Nat.add_zero]at hc c0 c4
       have hkz:(0:Int)<(d.keys.length:Int):=by omega
       clear hki
       rw[show((0:Nat):Int)=0 from rfl]
       go_wp2
       refine dP hbr (by kernel_rfl) (by kernel_rfl) ?_
       repeat (go_big_quiet_step ((go_at_call 126;rename_i xw;exact Calls.gX (hs▸Ef _ _ _ _ (hp.later (hB.trans (xw.b.mono (by simp))))))))
       refine wpQuiet_nil ?_
       intro w2 hb2
       go_wp2
       go_roundw
       case rel=>exact⟨hb2,1,by omega,by go_num,HS.out,ae3 _⟩
       case measure=>simp[intOf];omega
      ·obtain⟨j,rfl⟩:∃j,k=j+1:=⟨k-1,by omega⟩
       clear h0
       have hj:j<d.keys.length:=by omega
       obtain⟨b',o',t',ha',hc',hp'⟩:=he.keys.get j hj
       rw[ha]at ha'
       obtain⟨rfl,rfl⟩:b=b'∧o=o':=by cases ha';exact⟨rfl,rfl⟩
       clear ha' hp'
       have e0:w.cell? ⟨b,o+j*5,none⟩=some (.int .i64 d.keys[j].version):=by simpa[DR]using gp hc' 0 (by omega)
       have e4:w.cell? ⟨b,o+j*5+4,none⟩=some (.int .i64 d.keys[j].created):=by simpa[LC]using gp hc' 4 (by omega)
       clear hc'
       have hp0:(0:Int)<(j:Int)+1:=by omega
       have hp1:decide ((0:Int)<(j:Int)+1)=true:=by simp
       have hp2:(j:Int)<(d.keys.length:Int):=by omega
       by_cases hv:d.keys[j].version≤d.keys[j+1].version
       ·have hv':decide (d.keys[j].version≤d.keys[j+1].version)=true:=by simpa using hv
        have HN:=Lib.hid (UX (UW (f:=jI) j hlt (by simp[jI];omega)))
        go_wp2
        refine dP hbr (by kernel_rfl) (by kernel_rfl) ?_
        repeat (go_big_quiet_step ((go_at_call 126;rename_i xw;exact Calls.gX (hs▸Ef _ _ _ _ (hp.later (hB.trans (xw.b.mono (by simp))))))))
        refine wpQuiet_nil ?_
        intro w2 hb2
        go_wp2
        go_ret
        exact⟨by rw[HN.out];rfl,hB.trans (hb2.mono (by simp))⟩
       ·have hv':decide (d.keys[j].version≤d.keys[j+1].version)=false:=by simpa using hv
        by_cases hx:d.keys[j].created<d.keys[j+1].created
        ·have hx':decide (d.keys[j].created<d.keys[j+1].created)=true:=by simpa using hx
         have HN:=Lib.hid (UX (UW (f:=jI) j hlt (by simp[jI];omega)))
         go_wp2
         refine dP hbr (by kernel_rfl) (by kernel_rfl) ?_
         repeat (go_big_quiet_step ((go_at_call 126;rename_i xw;exact Calls.gX (hs▸Ef _ _ _ _ (hp.later (hB.trans (xw.b.mono (by simp))))))))
         refine wpQuiet_nil ?_
         intro w2 hb2
         go_wp2
         go_ret
         exact⟨by rw[HN.out];rfl,hB.trans (hb2.mono (by simp))⟩
        ·have hx':decide (d.keys[j].created<d.keys[j+1].created)=false:=by simpa using hx
         have HN:=Lib.hid (ae2 (f:=jI) j hlt hord.out (by simp[jI];omega))
         go_wp2
         refine dP hbr (by kernel_rfl) (by kernel_rfl) ?_
         repeat (go_big_quiet_step ((go_at_call 126;rename_i xw;exact Calls.gX (hs▸Ef _ _ _ _ (hp.later (hB.trans (xw.b.mono (by simp))))))))
         refine wpQuiet_nil ?_
         intro w2 hb2
         go_wp2
         go_roundw
         case rel=>exact⟨hb2,j+1+1,by omega,by go_num,HS.out,HN.out⟩
         case measure=>simp[intOf];omega
    ·have H6:=Lib.hid (qW d.keys k (by omega) hall.out)
     have H7:=Lib.hid (adZ d.keys.length k (by omega) hord.out)
     clear hall hord
     go_wp2
     clear hn1
     have hn2:d.history.length≤4294967000:=he.history.1
     go_loop [5] (fun i=>∃k:Nat,k≤d.history.length∧i=.int .i64 k∧Hid ((d.history.take k).all (fun h=>(h.length:Int) == 16)=true)) (fun i=>d.history.length-(intOf i).toNat)
     case atStart=>exact⟨0,Nat.zero_le _,rfl,by simp[Hid]⟩
     case round=>
      obtain⟨j,hj,rfl,hall⟩:=hrel
      by_cases hjl:j<d.history.length
      ·obtain⟨b,o,t,ha,hc,hp⟩:=he.history.get j hjl
       have hb:b<w.heap.size:=World.block_lt_of_cell? w _ hc
       have hb1:b<w.heap.size+1:=by omega
       have hki:(j:Int)<(d.history.length:Int):=by omega
       cases hs:((d.history[j].length:Int) == 16)
       ·have HS:=Lib.hid (ae4 j hjl hs)
        have hs':((d.history[j].length:Int) != 16)=true:=by simp[bne,hs]
        go_wp2
        go_ret
        exact⟨by rw[HS.out];rfl,hB.trans (hbr.mono (by simp))⟩
       ·have HS:=Lib.hid (kC (p:=fun h=>(h.length:Int) == 16) d.history j hjl hall.out hs)
        have hs':((d.history[j].length:Int) != 16)=false:=by simp[bne,hs]
        go_wp2
        go_round
        case rel=>exact⟨j+1,by omega,by go_num,HS.out⟩
        case measure=>simp[intOf];omega
      ·have H8:=Lib.hid (qW d.history j (by omega) hall.out)
       clear hall
       have hpo:=he.aK
       have ha0:=he.attrs.1
       have ha1:=he.attrs.2
       by_cases hat:d.attrs≤1023
       ·have hbit:(bits BinOp.or IntKind.i64 d.attrs 1023 != 1023)=false:=by simpa using(UT d.attrs ha0 ha1).2 hat
        go_wp2_with (first|(go_at_call 127;refine(qU _ _ _ _).mono ?_;rintro e w' ⟨rfl,rfl⟩)|(go_at_call 128;refine(MK _ _ (le_max hpo)).mono ?_;rintro e w' ⟨rfl,rfl⟩))
        all_goals go_ret
        all_goals
         refine⟨?_,hB.trans (hbr.mono (by simp))⟩
         first
          |(rw[A7 (Nj ‹_›)];rfl)
          |(rw[A7 (aeR ‹_›)];rfl)
          |(rw[A7 (aeS ‹_›)];rfl)
          |(rw[A7 (aeT ‹_›)];rfl)
          |(rw[A7 (aeU ‹_›)];rfl)
          |(rw[ae5 H1.out H2.out H3.out H4.out H5.out H6.out H7.out H8.out (aeW hat ‹_› ‹_› ‹_›)];first|(rw[aeJ d ‹_›];rfl)|(rw[aeK d ‹_›];rfl)|(rw[aeL d ‹_›];rfl)|(rw[aeM d ‹_›];rfl)|(rw[aeN d ‹_›];rfl)|(rw[aeO d ‹_›];rfl)|(rw[aeP d ‹_›];rfl)|(rw[aeQ d ‹_› ‹_› ‹_› ‹_› ‹_› ‹_›];rfl))
       ·have hbit:(bits BinOp.or IntKind.i64 d.attrs 1023 != 1023)=true:=by simpa using mt (UT d.attrs ha0 ha1).1 hat
        have HN:=Lib.hid (A7 (aeV hat))
        clear hat
        go_wp2_with (first|(go_at_call 127;refine(qU _ _ _ _).mono ?_;rintro e w' ⟨rfl,rfl⟩)|(go_at_call 128;refine(MK _ _ (le_max hpo)).mono ?_;rintro e w' ⟨rfl,rfl⟩))
        go_ret
        exact⟨by rw[HN.out];rfl,hB.trans (hbr.mono (by simp))⟩
end Go.Proofs.YtaghcadlgbnbdaaGreatDoor
namespace Go.WW
def aqM(d:Entry)(p:ah)(now:Int):Bool:=bF d&&dN p&&adG now
end Go.WW
namespace Go.Proofs.YtaghcadlgbnbdaaGreatDoor
open Go.RowKit Go.WW
end Go.Proofs.YtaghcadlgbnbdaaGreatDoor
namespace Go.WW
open Go.RowKit
theorem Nk{P:Program}{w:World}{mty kt et:TypeId}{d:TypeDesc}{r clock:Nat}{es:Array MapEntry}{k:Value}(v:Value)(hm:P.underlying mty=some (.map kt et))(hd:P.underlying kt=some d)(hk:MapKept.IsKey d k)
  (hf:Instr.findNow d k es.toList 0=some none) (hb:w.heap[r]?=some (.map es clock)) :
  (Instr.mapUpdate mty (.map (some r)) k v).run P w=.ok () (w.putObj r (.map (es.push {key:=k,val:=v,born:=clock}) (clock+1))):=by
 have hc:(Instr.checkKey false 10000 kt k).run P w=.ok () w:=MapKept.run_checkKey hd hk false 9999
 simp[Instr.mapUpdate,run_underlying hm,MapKept.run_getObj_map hb,hc,MapKept.run_findKey hd hf,MapKept.run_setObj_map _ hb,Result.andThen,World.putObj]
end Go.WW
namespace Go.WW
end Go.WW
namespace Go.Proofs.YtaghcadlgbnbdaaGreatDoor
open Go.RowKit Go.WW
theorem UY(v most:Int)(B:Nat)(w:World)(h:w.cell? ⟨B,0,none⟩=some (.int .i64 most)):Calls Tryz.prog 101 #[.int .i64 v,.pointer (some ⟨B,0,none⟩)] w fun e w'=>e=.returned (.bool (au v 0 most))∧w=w':=by
 go_enter Tryz.func101,Tryz.ntmps101
 go_wp2_with (go_at_call 102;refine(xq _ _ _ _).mono ?_;rintro e w' ⟨rfl,rfl⟩)
 go_ret
 exact⟨rfl,rfl⟩
theorem ae7(b o cap B:Nat)(most:Int)(l:List Int)(w:World)(hl:pW w (some ⟨b,o,none⟩) l)(hB:w.cell? ⟨B,0,none⟩=some (.int .i64 most)) :
  Calls Tryz.prog 100 #[.slice (some ⟨b,o,none⟩) l.length cap,.int .i64 l.length,.func (.func 101) #[] #[.pointer (some ⟨B,0,none⟩)]] w fun e w'=>e=.returned (.bool (l.all (fun v=>au v 0 most)))∧w=w':=by
 have hn':l.length≤4294967000:=hl.1
 go_enter Tryz.func100,Tryz.ntmps100
 go_wp2_with fail
 go_loop [15] (fun i=>∃k:Nat,k≤l.length∧i=.int .i64 k∧Hid ((l.take k).all (fun v=>au v 0 most)=true)) (fun i=>l.length-(intOf i).toNat)
 case atStart=>exact⟨0,Nat.zero_le _,rfl,by simp[Hid]⟩
 case round=>
  obtain⟨k,hk,rfl,hall⟩:=hrel
  by_cases hlt:k<l.length
  ·have hc:=hl.at k hlt
   have hb:b<w.heap.size:=World.block_lt_of_cell? w _ hc
   cases hv:au l[k] 0 most
   ·have HN:=Lib.hid (qV (p:=fun v=>au v 0 most) l k hlt hv)
    go_wp2_with (go_at_call 101;refine(UY _ _ _ _ hB).mono ?_;rintro e w' ⟨rfl,rfl⟩;rw[hv])
    go_ret
    exact⟨by rw[HN.out];rfl,rfl⟩
   ·have HN:=Lib.hid (kC (p:=fun v=>au v 0 most) l k hlt hall.out hv)
    go_wp2_with (go_at_call 101;refine(UY _ _ _ _ hB).mono ?_;rintro e w' ⟨rfl,rfl⟩;rw[hv])
    go_round
    case rel=>exact⟨k+1,by omega,by go_num,HN.out⟩
    case measure=>simp[intOf];omega
  ·have HN:=Lib.hid (qW (p:=fun v=>au v 0 most) l k (by omega) hall.out)
   go_wp2_with fail
   go_ret
   exact⟨by rw[HN.out];rfl,rfl⟩
theorem Ib(b o cap:Nat)(most:Int)(l:List Int)(w:World)(hl:pW w (some ⟨b,o,none⟩) l) :
  Calls Tryz.prog 99 #[.int .i64 most,.slice (some ⟨b,o,none⟩) l.length cap] w fun e w'=>e=.returned (.bool (l.all (fun v=>au v 0 most)))∧Below w.heap.size w w':=by
 have hB:Below w.heap.size w (w.alloc (.cells #[.int .i64 most] 3)):=(Below.refl _ _).alloc (Nat.le_refl _) _
 have hl':=hl.later hB
 go_enter Tryz.func99,Tryz.ntmps99
 go_wp2_with (go_at_call 100;refine(ae7 _ _ _ _ most _ _ hl' (by simp[go_sem])).mono ?_;rintro e w' ⟨rfl,rfl⟩)
 go_ret
 exact⟨rfl,hB⟩
end Go.Proofs.YtaghcadlgbnbdaaGreatDoor
namespace Go.WW
def o5(c:UInt8):Bool:=(c.toNat:Int) == 47 || (c.toNat:Int) == 64 || (c.toNat:Int) == 92
def kF(c:UInt8):List UInt8:=if o5 c then [92,c]else [c]
def esc(l:List UInt8):List UInt8:=l.flatMap kF
def kG(l:List ByteArray):List UInt8:=l.flatMap fun q=>47::esc q.data.toList
def ig:List ByteArray→List UInt8
 | []=>[]
 |p::ps=>esc p.data.toList++kG ps
def rC(p:aB):List UInt8:=ig p.parts++64::p.aG.data.toList
def textOf(p:aB):ByteArray:=⟨(rC p).toArray⟩
theorem Nl:esc []=[]:=rfl
theorem A8(c:UInt8)(l:List UInt8):esc (c::l)=kF c++esc l:=rfl
theorem xA(l:List UInt8)(c:UInt8):esc (l++[c])=esc l++kF c:=by simp[esc]
theorem ae8(l:List ByteArray)(q:ByteArray):ig (l++[q])=(if l.length=0 then []else ig l++[47])++esc q.data.toList:=by
 cases l with
 |nil=>simp[ig,kG]
 |cons p ps=>simp[ig,kG]
def Ic:List UInt8→Prop
 | []=>False
 |c::_=>c=47∨c=64
theorem UZ:o5 47=true:=by decide
theorem U4:o5 64=true:=by decide
theorem U5:o5 92=true:=by decide
theorem Ie:∀(p q x y:List UInt8),Ic x→Ic y→esc p++x=esc q++y→p=q∧x=y
 | [],[],x,y,_,_,h=>⟨rfl,by simpa[esc]using h⟩
 | [],d::q,x,y,hx,_,h=>by
  exfalso
  rw[Nl,List.nil_append,A8]at h
  cases x with
  |nil=>exact hx
  |cons a x=>
   unfold kF at h
   split at h
   ·simp only[List.cons_append,List.cons.injEq]at h
    rcases hx with e|e<;>rw[e]at h<;>simp at h
   ·rename_i hs
    simp only[List.cons_append,List.cons.injEq]at h
    rcases hx with e|e<;>rw[←h.1,e]at hs
    ·exact hs UZ
    ·exact hs U4
 |c::p,[],x,y,hx,hy,h=>by
  exfalso
  rw[Nl,List.nil_append,A8]at h
  cases y with
  |nil=>exact hy
  |cons a y=>
   unfold kF at h
   split at h
   ·simp only[List.cons_append,List.cons.injEq]at h
    rcases hy with e|e<;>rw[e]at h<;>simp at h
   ·rename_i hs
    simp only[List.cons_append,List.cons.injEq]at h
    rcases hy with e|e<;>rw[h.1,e]at hs
    ·exact hs UZ
    ·exact hs U4
 |c::p,d::q,x,y,hx,hy,h=>by
  rw[A8,A8]at h
  unfold kF at h
  split at h<;>split at h
  ·simp only[List.cons_append,List.cons.injEq,List.nil_append,true_and]at h
   obtain⟨rfl,h⟩:=h
   obtain⟨rfl,rfl⟩:=Ie p q x y hx hy h
   exact⟨rfl,rfl⟩
  ·rename_i h1 h2
   simp only[List.cons_append,List.cons.injEq]at h
   rw[←h.1]at h2
   exact absurd U5 h2
  ·rename_i h1 h2
   simp only[List.cons_append,List.cons.injEq]at h
   rw[h.1]at h1
   exact absurd U5 h1
  ·simp only[List.cons_append,List.cons.injEq,List.nil_append]at h
   obtain⟨rfl,h⟩:=h
   obtain⟨rfl,rfl⟩:=Ie p q x y hx hy h
   exact⟨rfl,rfl⟩
theorem Ig(ps:List ByteArray)(r:List UInt8):Ic (kG ps++64::r):=by
 cases ps<;>simp[kG,Ic]
theorem Np{a b:ByteArray}(h:a.data.toList=b.data.toList):a=b:=by
 cases a;cases b;congr;exact Array.ext' h
theorem U6:∀(ps qs:List ByteArray) (r s:List UInt8),kG ps++64::r=kG qs++64::s→ps=qs∧r=s
 | [],[],r,s,h=>⟨rfl,by simpa[kG]using h⟩
 | [],q::qs,r,s,h=>by exfalso;simp[kG]at h
 |p::ps,[],r,s,h=>by exfalso;simp[kG]at h
 |p::ps,q::qs,r,s,h=>by
  have e:∀(p:ByteArray) ps r,kG (p::ps)++64::r=47::(esc p.data.toList++(kG ps++64::r)):=fun p ps r=>by simp[kG]
  rw[e,e]at h
  simp only[List.cons.injEq,true_and]at h
  obtain⟨h1,h2⟩:=Ie _ _ _ _ (Ig ps r) (Ig qs s) h
  obtain⟨rfl,rfl⟩:=U6 ps qs r s h2
  exact⟨by rw[Np h1],rfl⟩
theorem ae9{p q:aB}(hp:p.parts≠[])(hq:q.parts≠[])(h:rC p=rC q):p.parts=q.parts∧p.aG=q.aG:=by
 obtain⟨pp,pr⟩:=p
 obtain⟨qp,qr⟩:=q
 cases pp with
 |nil=>exact absurd rfl hp
 |cons a ps=>
  cases qp with
  |nil=>exact absurd rfl hq
  |cons b qs=>
   simp only[rC,ig,List.append_assoc]at h
   obtain⟨h1,h2⟩:=Ie _ _ _ _ (Ig ps _) (Ig qs _) h
   obtain⟨rfl,h3⟩:=U6 _ _ _ _ h2
   exact⟨by rw[Np h1],Np h3⟩
theorem Nq{p q:aB}(hp:p.parts≠[])(hq:q.parts≠[]):textOf p=textOf q↔bn p q=true:=by
 simp only[bn,Bool.and_eq_true,decide_eq_true_eq]
 constructor
 ·intro h
  have:rC p=rC q:=by
   have:=congrArg (fun b:ByteArray=>b.data.toList) h
   simpa[textOf]using this
  exact(ae9 hp hq this).symm
 ·rintro⟨h1,h2⟩
  unfold textOf rC;rw[h1,h2]
theorem xB{p:aB}(h:bD p=true):p.parts≠[]:=by
 rintro e
 simp[bD,e]at h
def Ba(acc:List ByteArray)(s:ByteArray):Bool:=acc.any fun x=>decide (x=s)
theorem Ii(acc:List ByteArray)(s:ByteArray):Ba acc s=true↔s∈acc:=by simp[Ba]
def addKey(acc:List ByteArray)(s:ByteArray):List ByteArray:=if Ba acc s then acc else acc++[s]
def keysOf(l:List ByteArray):List ByteArray:=l.foldl addKey []
theorem afa(l:List ByteArray)(s:ByteArray):keysOf (l++[s])=addKey (keysOf l) s:=by simp[keysOf]
theorem afb(acc:List ByteArray)(s:ByteArray):(addKey acc s).length≤acc.length+1:=by unfold addKey;split<;>simp
theorem Nr:∀(l acc:List ByteArray),(l.foldl addKey acc).length≤acc.length+l.length
 | [],acc=>by simp
 |s::l,acc=>by
  rw[List.foldl_cons,List.length_cons]
  have:=Nr l (addKey acc s)
  have:=afb acc s
  omega
theorem U7:∀(l acc:List ByteArray),acc.Nodup→((l.foldl addKey acc).length=acc.length+l.length↔(acc++l).Nodup)
 | [],acc,h=>by simp[h]
 |s::l,acc,h=>by
  rw[List.foldl_cons,List.length_cons]
  by_cases hs:s∈acc
  ·have e:addKey acc s=acc:=by rw[addKey,(Ii acc s).2 hs];rfl
   rw[e]
   have:=Nr l acc
   constructor
   ·intro h';omega
   ·intro h'
    exfalso
    rw[List.nodup_append]at h'
    exact h'.2.2 s hs s (by simp) rfl
  ·have e:addKey acc s=acc++[s]:=by rw[addKey,if_neg (fun h'=>hs ((Ii acc s).1 h'))]
   rw[e]
   have hn:(acc++[s]).Nodup:=by
    rw[List.nodup_append]
    refine⟨h,by simp,?_⟩
    intro a ha b hb
    simp at hb;subst hb
    rintro rfl;exact hs ha
   have ih:=U7 l (acc++[s]) hn
   rw[List.length_append,List.length_singleton,List.append_assoc,List.singleton_append]at ih
   rw[←ih]
   omega
theorem afc(l:List ByteArray):(keysOf l).length≤l.length:=by have:=Nr l [];simpa[keysOf]using this
def vz(l:List aB):Bool:=decide (((keysOf (l.map textOf)).length:Int)=(l.length:Int))
theorem Ns(l:List aB):vz l=true↔(l.map textOf).Nodup:=by
 have:=U7 (l.map textOf) [] List.nodup_nil
 simp only[List.length_nil,List.length_map,Nat.zero_add,List.nil_append]at this
 rw[←this,vz,decide_eq_true_eq,keysOf]
 omega
theorem Bc{p q:aB}:bn p q=true↔p=q:=by
 obtain⟨a,b⟩:=p;obtain⟨c,d⟩:=q
 simp only[bn,Bool.and_eq_true,decide_eq_true_eq,aB.mk.injEq]
 exact And.comm
theorem Ij{l:List aB}(h:l.all bD=true):(l.map textOf).Nodup↔l.Nodup:=by
 induction l with
 |nil=>simp
 |cons p l ih=>
  simp only[List.all_cons,Bool.and_eq_true]at h
  rw[List.map_cons,List.nodup_cons,List.nodup_cons,ih h.2]
  have:textOf p∈l.map textOf↔p∈l:=by
   rw[List.mem_map]
   constructor
   ·rintro⟨q,hq,e⟩
    have hq':bD q=true:=List.all_eq_true.1 h.2 q hq
    rw[←Bc.1 ((Nq (xB hq') (xB h.1)).1 e)];exact hq
   ·intro hp;exact⟨p,hp,rfl⟩
  rw[this]
theorem U8(l:List aB):AY l=true↔l.all bD=true∧l.Nodup:=by
 simp only[AY,List.all_eq_true,List.mem_range]
 constructor
 ·intro h
  refine⟨fun p hp=>?_,?_⟩
  ·obtain⟨i,hi,rfl⟩:=List.mem_iff_getElem.1 hp
   have:=h i hi
   simp only[oW,List.getElem?_eq_getElem hi,Bool.and_eq_true]at this
   exact this.1
  ·rw[List.nodup_iff_pairwise_ne,List.pairwise_iff_getElem]
   intro i j hi hj hij e
   have:=h j hj
   simp only[oW,List.getElem?_eq_getElem hj,Bool.and_eq_true,List.all_eq_true]at this
   have h2:=this.2 l[i] (by rw[List.mem_iff_getElem];exact⟨i,by simp;omega,by simp⟩)
   rw[Bc.2 e]at h2
   simp at h2
 ·rintro⟨h1,h2⟩ i hi
  simp only[oW,List.getElem?_eq_getElem hi,Bool.and_eq_true,List.all_eq_true]
  refine⟨h1 _ (List.getElem_mem hi),fun q hq=>?_⟩
  obtain⟨k,hk,rfl⟩:=List.mem_iff_getElem.1 hq
  rw[List.nodup_iff_pairwise_ne,List.pairwise_iff_getElem]at h2
  simp only[List.length_take]at hk
  have hne:=h2 k i (by omega) hi (by omega)
  rw[List.getElem_take]
  cases hs:bn l[k] l[i]with
  |false=>rfl
  |true=>exact absurd (Bc.1 hs) hne
theorem afd(l:List aB):(decide ((l.length:Int)≤16)&&l.all bD&&vz l)=different l:=by
 rw[Bool.eq_iff_iff]
 simp only[different,Bool.and_eq_true]
 rw[U8]
 constructor
 ·rintro⟨⟨h1,h2⟩,h3⟩
  exact⟨⟨h2,(Ij h2).1 ((Ns l).1 h3)⟩,h1⟩
 ·rintro⟨⟨h2,h3⟩,h1⟩
  exact⟨⟨h1,h2⟩,(Ns l).2 ((Ij h2).2 h3)⟩
def rF(n a:aB):Bool:=bD a&&decide (a.aG=n.aG)
def rG(d:Entry):Bool:=bD d.name&&(decide ((d.aliases.length:Int)≤16)&&d.aliases.all (rF d.name))&&vz (d.name::d.aliases)
theorem afe(d:Entry):rG d=(bD d.name&&different d.aliases&&d.aliases.all (ru d.name)):=by
 rw[Bool.eq_iff_iff]
 simp only[rG,different,Bool.and_eq_true]
 rw[U8,Ns]
 have hfit:d.aliases.all (rF d.name)=true↔d.aliases.all bD=true∧∀a∈d.aliases,a.aG=d.name.aG:=by
  simp only[List.all_eq_true,rF,Bool.and_eq_true,decide_eq_true_eq]
  exact⟨fun h=>⟨fun a ha=>(h a ha).1,fun a ha=>(h a ha).2⟩,fun h a ha=>⟨h.1 a ha,h.2 a ha⟩⟩
 have hal:d.aliases.all (ru d.name)=true↔(∀a∈d.aliases,a.aG=d.name.aG)∧d.name∉d.aliases:=by
  simp only[List.all_eq_true,ru,Bool.and_eq_true,decide_eq_true_eq,Bool.not_eq_true']
  constructor
  ·intro h
   refine⟨fun a ha=>(h a ha).1,fun hm=>?_⟩
   have:=(h _ hm).2
   rw[Bc.2 rfl]at this;cases this
  ·rintro⟨h1,h2⟩ a ha
   refine⟨h1 a ha,?_⟩
   cases hs:bn a d.name with
   |false=>rfl
   |true=>rw[Bc.1 hs]at ha;exact absurd ha h2
 rw[hfit,hal]
 constructor
 ·rintro⟨⟨h1,h2,h3,h4⟩,h5⟩
  have h6:=(Ij (l:=d.name::d.aliases) (by simp only[List.all_cons,h1,h3,Bool.and_true])).1 h5
  rw[List.nodup_cons]at h6
  exact⟨⟨h1,⟨h3,h6.2⟩,h2⟩,h4,h6.1⟩
 ·rintro⟨⟨h1,⟨h3,h7⟩,h2⟩,h4,h6⟩
  exact⟨⟨h1,h2,h3,h4⟩,(Ij (l:=d.name::d.aliases) (by simp only[List.all_cons,h1,h3,Bool.and_true])).2 (List.nodup_cons.2 ⟨h6,h7⟩)⟩
end Go.WW
namespace Go.WW
open Go.RowKit
def vC(l:List UInt8):List (Array Value):=l.map fun c=>#[.int .u8 c.toNat]
theorem aff(l:List UInt8)(c:UInt8):vC l++[#[.int .u8 c.toNat]]=vC (l++[c]):=by simp[vC]
theorem lQ(l:List UInt8):(vC l).length=l.length:=by simp[vC]
theorem Ik(l:List UInt8):(esc l).length≤2*l.length:=by
 induction l with
 |nil=>simp[esc]
 |cons c l ih=>
   rw[A8,List.length_append,List.length_cons];have:(kF c).length≤2:=by unfold kF;split<;>simp
   omega
theorem afg{l:List ByteArray}(h:∀s∈l,s.size≤32):(kG l).length≤65*l.length:=by
 induction l with
 |nil=>simp[kG]
 |cons s l ih=>
  have e:kG (s::l)=47::esc s.data.toList++kG l:=by simp[kG]
  have h1:=h s (by simp)
  have h2:=Ik s.data.toList
  have h3:=ih (fun x hx=>h x (by simp[hx]))
  have h4:s.data.toList.length=s.size:=by simp
  rw[e,List.length_append,List.length_cons,List.length_cons]
  omega
theorem U9{l:List ByteArray}(h:∀s∈l,s.size≤32):(ig l).length≤65*l.length:=by
 cases l with
 |nil=>simp[ig]
 |cons s l=>
  have h1:=h s (by simp)
  have h2:=Ik s.data.toList
  have h3:=afg (l:=l) (fun x hx=>h x (by simp[hx]))
  have h4:s.data.toList.length=s.size:=by simp
  rw[ig,List.length_append,List.length_cons]
  omega
theorem afh{p:aB}(h:bD p=true):p.parts.length≤4∧(∀s∈p.parts,s.size≤32)∧p.aG.size≤32:=by
 simp only[bD,Bool.and_eq_true,List.all_eq_true,decide_eq_true_eq]at h
 refine⟨by omega,fun s hs=>?_,?_⟩
 ·have:=h.1.1.1 s hs
  simp only[ji,sized,Bool.and_eq_true,decide_eq_true_eq]at this
  omega
 ·have:=h.2
  simp only[gZ,sized,Bool.and_eq_true,decide_eq_true_eq]at this
  omega
theorem take_snoc'(s:ByteArray)(j:Nat)(h:j<s.size):s.data.toList.take (j+1)=s.data.toList.take j++[s[j]]:=by
 rw[List.take_succ_eq_append_getElem (by simpa using h)];rfl
end Go.WW
namespace Go.Proofs.YtaghcadlgbnbdaaGreatDoor
open Go.RowKit Go.WW
theorem Il(c:UInt8)(w:World):Calls Tryz.prog 181 #[.int .u8 c.toNat] w fun e w'=>e=.returned (.bool (o5 c))∧w=w':=by
 go_enter Tryz.func181,Tryz.ntmps181
 cases c1:((c.toNat:Int) == 47)
 ·cases c2:((c.toNat:Int) == 64)
  ·have HN:=Lib.hid (show o5 c=((c.toNat:Int) == 92) by rw[o5,c1,c2];rfl)
   go_wp2_with fail
   go_ret
   exact⟨by rw[HN.out];rfl,rfl⟩
  ·have HN:=Lib.hid (show o5 c=true by rw[o5,c1,c2];rfl)
   go_wp2_with fail
   go_ret
   exact⟨by rw[HN.out];rfl,rfl⟩
 ·have HN:=Lib.hid (show o5 c=true by rw[o5,c1];rfl)
  go_wp2_with fail
  go_ret
  exact⟨by rw[HN.out];rfl,rfl⟩
theorem uj:gJ Tryz.prog 62 5 1 1:=gJ.of Tryz.underlying62 (by kernel_rfl)
end Go.Proofs.YtaghcadlgbnbdaaGreatDoor
namespace Go.WW
open Go.RowKit
theorem Own.empty(w:World)(e:TypeId)(k:Nat):Own (w.alloc (.cells #[] e)) w.heap.size e k ⟨some ⟨w.heap.size,0,none⟩,0⟩ []:=
 ⟨World.ownsRow_made w #[] 0 (Nat.le_refl _) (by unfold maxLen;omega) (by simp),by simp⟩
theorem Own.fresh{w w':World}{base:Nat}{e:TypeId}{k:Nat}{s:Sl}{rows:List (Array Value)}(h:Own w base e k s rows)(hw:∀j,fresh base w j→w'.heap[j]?=w.heap[j]?):Own w' base e k s rows:=
 h.kept fun _ hg=>hw _ (h.base hg)
def aqN(w:World)(l:List ByteArray)(e:Ending)(w':World):Prop:=
 ∃s:Sl,e=.returned (.slice s.a l.length s.cap)∧Below w.heap.size w w'∧aZ w' (fresh w.heap.size w') (fun x=>iU x s.a l)
def Va(w:World)(l:List UInt8)(e:Ending)(w':World):Prop:=
 ∃s:Sl,e=.returned (.slice s.a l.length s.cap)∧Below w.heap.size w w'∧aZ w' (fresh w.heap.size w') (fun x=>BytesAt x s.a l)
theorem Vb{l:List ByteArray}(i:Nat)(v:Value)(h:∃s,l[i]?=some s∧v=.string s∧s.size≤lim):v.oneCell'=true:=by obtain⟨s,_,rfl,_⟩:=h;rfl
theorem Nu{l:List UInt8}(i:Nat)(v:Value)(h:∃c,l[i]?=some c∧v=.int .u8 c.toNat):v.oneCell'=true:=by obtain⟨s,_,rfl⟩:=h;rfl
theorem afi{w w':World}{e:TypeId}{s:Sl}{rows:List (Array Value)}{l:List UInt8}(h:Own w' w.heap.size e 1 s rows)(hl:rows.length=l.length)(hn:l.length≤lim)(hb:Below w.heap.size w w')
  (hR:∀i (hi:i<rows.length),∃v,rows[i]=#[v]∧∃c,l[i]?=some c∧v=.int .u8 c.toNat):Va w l (.returned (.slice s.a l.length s.cap)) w':=
 ⟨s,rfl,hb,fun _ hx=>dJ.dX (h.fresh hx) hl hn hR⟩
theorem dJ.none{w:World}{n:Nat}{R:Nat→Value→Prop}(h:dJ w none n R):n=0:=by
 rcases h.addr with h|⟨b,o,h,_⟩
 ·exact h
 ·cases h
theorem bJ.later{w w':World}{k:Nat}{A:Option Addr}{rows:List (Array Value)}(h:bJ w k A rows)(hb:Below w.heap.size w w'):bJ w' k A rows:=
 ⟨h.size,h.one,fun i hi=>by obtain⟨b,o,h1,h2⟩:=h.at_ i hi;exact⟨b,o,h1,by rw[fO (hb.block b (gq h2))];exact h2⟩⟩
end Go.WW
namespace Go.Proofs.YtaghcadlgbnbdaaGreatDoor
open Go.RowKit Go.WW
theorem afj(cap:Nat)(w:World):(binOp .eql 23 (.slice none 0 cap) (.slice none 0 0)).run Tryz.prog w=.ok (.bool true) w:=by kernel_rfl
theorem afk(ad:Addr)(n cap:Nat)(w:World):(binOp .eql 23 (.slice (some ad) n cap) (.slice none 0 0)).run Tryz.prog w=.ok (.bool false) w:=by kernel_rfl
theorem afl(cap:Nat)(w:World):(binOp .eql 62 (.slice none 0 cap) (.slice none 0 0)).run Tryz.prog w=.ok (.bool true) w:=by kernel_rfl
theorem afm(ad:Addr)(n cap:Nat)(w:World):(binOp .eql 62 (.slice (some ad) n cap) (.slice none 0 0)).run Tryz.prog w=.ok (.bool false) w:=by kernel_rfl
attribute [go_sem] afj afk afl afm
theorem Vd:gJ Tryz.prog 23 9 1 16:=gJ.of Tryz.underlying23 (by kernel_rfl)
theorem afn(a:Option Addr)(cap:Nat)(l:List UInt8)(w:World)(hl:BytesAt w a l):Calls Tryz.prog 70 #[.slice a l.length cap] w (Va w l):=by
 have hn:l.length≤4294967000:=hl.1
 obtain⟨rows,hlr,o6,hrR⟩:=dJ.src hl Nu
 have hown:=Go.WW.Own.nil w w.heap.size 5 1
 have mY:=Lib.hid hlr
 have HRR:=Lib.hid hrR
 have Eg:=Lib.hid hl.1
 clear hlr hrR hl
 go_enter Tryz.func70,Tryz.ntmps70
 go_wp2_with (at_builtin;refine gK rfl (.const (.slice none 0 0)) (.tmp 3) _ rfl uj (n:=0) (s:=⟨none,0⟩) rfl rfl hown rfl mY.out.symm o6 (by rw[mY.out];simp;omega) (by simp) ?_;intro s3 w3 hown3 hg3 fQ)
 go_ret
 have hb3:Below w.heap.size w w3:=(Below.refl _ w).grown hg3 (by simp) (fun k e=>by cases e)
 have:=afi (l:=l) hown3 (by simpa using mY.out) Eg.out hb3 (fun i hi=>by simpa using HRR.out i (by simpa using hi))
 simpa using this
end Go.Proofs.YtaghcadlgbnbdaaGreatDoor
namespace Go.WW
open Go.RowKit
def afo(w:World)(p:aB)(e:Ending)(w':World):Prop:=
 ∃s:Sl,e=.returned (.agg (ak s p))∧Below w.heap.size w w'∧aZ w' (fresh w.heap.size w') (fun x=>bg x s p)
theorem kW{w:World}{p:Addr}{v:Value}{k o n:Nat}(h:k≠p.block):aJ (w.setCell p v) k o n=aJ w k o n:=tJ (Below.heap_setCell w p v k h) o n
theorem lS(w:World)(a b:Obj):((w.alloc a).alloc b).heap[w.heap.size]?=some a:=by
 rw[Below.heap_alloc _ _ _ (by simp)];exact World.alloc_heap_new w a
attribute [go_sem] kW
end Go.WW
namespace Go.Proofs.YtaghcadlgbnbdaaGreatDoor
open Go.RowKit Go.WW
end Go.Proofs.YtaghcadlgbnbdaaGreatDoor
namespace Go.WW
open Go.RowKit
structure kH(E:TypeId)(kk:Nat)(R:World→Nat→Array Value→Prop)(wr:World)(base:Nat)(so:Sl)(rows:List (Array Value)):Prop where
 own:Own wr base E kk so rows
 each:∀i (hi:i<rows.length),aZ wr (acQ base wr so.blk) (fun x=>R x i rows[i])
theorem kH.nil(E:TypeId)(kk:Nat)(R:World→Nat→Array Value→Prop)(w:World)(base:Nat):kH E kk R w base ⟨none,0⟩ []:=⟨Own.nil w base E kk,fun i hi=>by simp at hi⟩
theorem kH.carry{E:TypeId}{kk:Nat}{R:World→Nat→Array Value→Prop}{wr w2:World}{base:Nat}{so:Sl}{rows:List (Array Value)}(h:kH E kk R wr base so rows)(hb:Below wr.heap.size wr w2)(o:Obj):Own (w2.alloc o) base E kk so rows:=
 h.own.kept fun g hg=>by rw[Below.heap_alloc _ _ _ (Nat.lt_of_lt_of_le (h.own.base hg).2 hb.size)];exact hb.block g (h.own.base hg).2
theorem kH.step{E:TypeId}{kk:Nat}{R:World→Nat→Array Value→Prop}{wr w1 w2 w3:World}{base:Nat}{so s3:Sl}{rows:List (Array Value)}{cs:Array Value}{o:Obj}(h:kH E kk R wr base so rows)(hb1:Below wr.heap.size wr w1)(hb:Below w1.heap.size w1 w2)
  (hnew:aZ w2 (fresh w1.heap.size w2) (fun x=>R x rows.length cs)) (hown:Own w3 base E kk s3 (rows++[cs])) (hg:(w2.alloc o).grownBy w3 so.blk) (hat:s3.blk=so.blk∨s3.blk=some (w2.alloc o).heap.size) (hbase:base≤wr.heap.size):kH E kk R w3 base s3 (rows++[cs]):=by
 have hs1:=hb1.size
 have hs2:=hb.size
 have hs3:=hg.size
 have hsa:(w2.alloc o).heap.size=w2.heap.size+1:=by simp
 have hso:∀g,so.blk=some g→g<wr.heap.size:=fun g hg=>(h.own.base hg).2
 refine⟨hown,fun i hi=>?_⟩
 by_cases hlt:i<rows.length
 ·rw[List.getElem_append_left hlt]
  refine(h.each i hlt).to (fun k hk=>?_) (fun k hk=>⟨hk.1,by have:=hk.2.1;omega,?_⟩)
  ·have hk1:=hk.2.1
   rw[hg.block k (by omega) hk.2.2,Below.heap_alloc _ _ _ (by omega),hb.block k (by omega),hb1.block k hk1]
  ·have hk1:=hk.2.1
   rcases hat with e|e
   ·rw[e];exact hk.2.2
   ·rw[e];intro h';cases h';omega
 ·obtain rfl:i=rows.length:=by simp at hi;omega
  rw[List.getElem_append_right (by omega)]
  simp only[Nat.sub_self,List.getElem_cons_zero]
  refine hnew.to (fun k hk=>?_) (fun k hk=>⟨by have:=hk.1;omega,by have:=hk.2;omega,?_⟩)
  ·have hk1:=hk.1
   have hk2:=hk.2
   rw[hg.block k (by omega) (fun e=>by have:=hso k e.symm;omega),Below.heap_alloc _ _ _ hk2]
  ·have hk1:=hk.1
   have hk2:=hk.2
   rcases hat with e|e
   ·intro h';have:=hso k (e▸h'.symm);omega
   ·rw[e];intro h';cases h';omega
theorem kH.done{E:TypeId}{kk n:Nat}{R:World→Nat→Array Value→Prop}{w':World}{base:Nat}{so:Sl}{rows:List (Array Value)}(h:kH E kk R w' base so rows)(hn:rows.length=n)(hl:n≤lim):aZ w' (fresh base w') (fun x=>aO x kk so.a n (R x)):=fun x hx=>
 aO.dX (h.own.fresh hx) hn hl (fun i hi=>h.each i hi x (fun k hk=>hx k ⟨hk.1,hk.2.1⟩))
def Eh(Φ:World→Sl→Prop)(n:Nat)(w:World)(e:Ending)(w':World):Prop:=∃s:Sl,e=.returned (.slice s.a n s.cap)∧Below w.heap.size w w'∧aZ w' (fresh w.heap.size w') (fun x=>Φ x s)
theorem Io{W wr w1 w2 w3:World}{so:Sl}{o:Obj}{E:TypeId}{kk:Nat}{R:World→Nat→Array Value→Prop}{rows:List (Array Value)}(h:kH E kk R wr W.heap.size so rows)(hb:Below W.heap.size W wr)(hb1:Below wr.heap.size wr w1)(hb2:Below w1.heap.size w1 w2)(hg:(w2.alloc o).grownBy w3 so.blk):Below W.heap.size W w3:=
 have h2:=ag (ag hb hb1) hb2
 (h2.alloc h2.size o).grown hg (by have:=h2.size;simp;omega) (fun _ e=>(h.own.base e).1)
end Go.WW
namespace Go.Proofs.YtaghcadlgbnbdaaGreatDoor
open Go.RowKit Go.WW
theorem Bd:gJ Tryz.prog 26 25 2 40:=gJ.of Tryz.underlying26 (by kernel_rfl)
theorem Ve:gJ Tryz.prog 59 64 3 40:=gJ.of Tryz.underlying59 (by kernel_rfl)
theorem Vf:gJ Tryz.prog 29 61 5 64:=gJ.of Tryz.underlying29 (by kernel_rfl)
theorem afp:gJ Tryz.prog 30 62 1 24:=gJ.of Tryz.underlying30 (by kernel_rfl)
def Vg(l:List (List UInt8))(x:World)(i:Nat)(cs:Array Value):Prop:=∃v,cs=#[v]∧∃p,∃s:Sl,l[i]?=some p∧v=.slice s.a p.length s.cap∧BytesAt x s.a p
theorem afq(a:Option Addr)(cap:Nat)(l:List (List UInt8))(w:World)(hl:lL w a l) :
  Calls Tryz.prog 69 #[.slice a l.length cap,.func (.func 70) #[] #[]] w (Eh (fun x s=>lL x s.a l) l.length w):=by
 have hn:l.length≤4294967000:=hl.1
 rcases dJ.addr hl with h0|⟨b,o,rfl,hb⟩
 ·obtain rfl:l=[]:=List.eq_nil_of_length_eq_zero h0
  go_enter Tryz.func69,Tryz.ntmps69
  go_wp2_with fail
  refine wp_loop_rounds 1 ?_
  rw[rounds_succ]
  go_wp2_with fail
  go_ret
  exact⟨⟨none,0⟩,rfl,Below.refl _ _,fun x _=>⟨by simp[lim],fun i hi=>by simp at hi⟩⟩
 go_enter Tryz.func69,Tryz.ntmps69
 go_wp2_with fail
 go_loopw [5,10] (fun ov i wr=>∃(k:Nat) (so:Sl) (rows:List (Array Value)),k≤l.length∧i=.int .i64 k∧ov=.slice so.a k so.cap∧Hid (rows.length=k)∧Below w.heap.size w wr∧kH 62 1 (Vg l) wr w.heap.size so rows) (fun _ i _=>l.length-(intOf i).toNat)
 case atStart=>exact⟨0,⟨none,0⟩,[],Nat.zero_le _,rfl,rfl,rfl,Below.refl _ _,kH.nil _ _ _ _ _⟩
 case round=>
  obtain⟨k,so,rows,hk,rfl,rfl,hlr,hbr,hC⟩:=hrel
  by_cases hlt:k<l.length
  ·obtain⟨t,hc,hp⟩:=hl.at k hlt
   obtain⟨hcc,aU,hrr⟩:=bf hbr
   go_wp2_with fail
   have hb1:Below wr.heap.size wr wr:=Below.refl _ _
   refine(afn _ _ _ _ (hp.later (ag hbr hb1))).mono ?_
   rintro e w2 ⟨s',rfl,hb2,hd2⟩
   have hr2:=ag hb1 hb2
   have hown:=hC.carry hr2 (.cells #[Value.slice s'.a l[k].length s'.cap] 62)
   clear hcc aU hrr
   go_wp2_with (at_builtin;refine gK rfl (.tmp 14) (.tmp 18) _ rfl afp (n:=k) rfl hlr.out.symm hown rfl rfl (bJ.new _ #[Value.slice s'.a l[k].length s'.cap] _ _ (by simp[go_sem]) (by simp[go_sem,dD,Value.oneCell'])) (by have:=hlr.out;rw[this];simp;omega) (by have h9:=hbr.size;have h8:=hr2.size;simp;omega) ?_;intro s3 w3 hown3 hg3 fQ)
   have yO:=hC.step hb1 hb2 (o:=.cells #[Value.slice s'.a l[k].length s'.cap] 62) (R:=Vg l) (fun x hx=>⟨_,rfl,l[k],s',by rw[hlr.out];exact List.getElem?_eq_getElem hlt,rfl,hd2 x hx⟩) hown3 hg3 fQ hbr.size
   have hb3:=Io hC hbr hb1 hb2 hg3
   have HL:=Lib.hid (show(rows++[#[Value.slice s'.a l[k].length s'.cap]]).length=k+1 by have:=hlr.out;simp[this])
   clear hown hown3 hg3 fQ hC hd2 hr2 hb1 hb2 hlr
   go_wp2_with fail
   go_roundw
   case rel=>exact⟨k+1,s3,_,by omega,by go_num,rfl,HL.out,hb3,yO⟩
   case measure=>simp[intOf];omega
  ·obtain rfl:k=l.length:=by omega
   go_wp2_with fail
   go_ret
   exact⟨so,rfl,hbr,fun x hx=>dJ.dX (hC.own.fresh hx) hlr.out hl.1 (fun i hi=>hC.each i hi x (fun j hj=>hx j ⟨hj.1,hj.2.1⟩))⟩
end Go.Proofs.YtaghcadlgbnbdaaGreatDoor
namespace Go.WW
open Go.RowKit
def afr(w:World)(d:Entry)(e:Ending)(w':World):Prop:=∃r:aI,e=.returned (.agg (ae r d))∧Below w.heap.size w w'∧aZ w' (fresh w.heap.size w') (fun x=>bz x r d)
theorem run_loadVar_row{P:Program}{T:TypeId}{d:TypeDesc}{n:Nat}(hu:P.underlying T=some d)(hd:d.isRow=true)(hi:(P.info? T).map (·.size)=some n){w:World}{b o:Nat}{cs:Array Value}(h:row? w b o n=some cs) :
  (loadVar T ⟨b,o,none⟩).run P w=.ok (.agg cs) w:=by
 have hs:=yE h
 have:=run_loadVar_mid (P:=P) w b o T cs.toList d (SL h) hu hd (by rw[hi];simp[hs])
 simpa using this
theorem Vh{P:Program}{fn:Func}{a:Tmp}{T:TypeId}{d:TypeDesc}{n:Nat}(hf:fn.results=#[.cell a T])(hu:P.underlying T=some d)(hd:d.isRow=true)(hi:(P.info? T).map (·.size)=some n){tmps:Array Value}{w:World}{b o:Nat}{cs:Array Value}(ha:tmps.getD a undef=.pointer (some ⟨b,o,none⟩))(h:row? w b o n=some cs) :
  (results fn tmps).run P w=.ok (.agg cs) w:=by
 have hl:=run_loadVar_row hu hd hi h
 have ha':(asAddr (tmps.getD a undef)).run P w=.ok ⟨b,o,none⟩ w:=by rw[ha];rfl
 rw[Array.getD_eq_getD_getElem?]at ha'
 unfold results
 rw[hf]
 simp[Sem.run_bind,ha',hl,Result.andThen]
theorem kX{P:Program}{fn:Func}{a t:Tmp}{T:TypeId}{d:TypeDesc}{n:Nat}(hf:fn.results=#[.cell a T,.tmp t])(hu:P.underlying T=some d)(hd:d.isRow=true)(hi:(P.info? T).map (·.size)=some n){tmps:Array Value}{w:World}{b o:Nat}{cs:Array Value}(ha:tmps.getD a undef=.pointer (some ⟨b,o,none⟩))(h:row? w b o n=some cs) :
  (results fn tmps).run P w=.ok (.tuple #[.agg cs,tmps.getD t undef]) w:=by
 have hl:=run_loadVar_row hu hd hi h
 have ha':(asAddr (tmps.getD a undef)).run P w=.ok ⟨b,o,none⟩ w:=by rw[ha];rfl
 rw[Array.getD_eq_getD_getElem?]at ha'
 unfold results
 rw[hf]
 simp[Sem.run_bind,ha',hl,Result.andThen]
theorem ai{w:World}{b:Nat}{c:Array Value}{t:TypeId}(h:w.heap[b]?=some (.cells c t)):(∀o,w.cell? ⟨b,o,none⟩=c[o]?)∧(∀o,w.frozen? ⟨b,o,none⟩=false)∧(∀o n,row? w b o n=eQ c o n)∧(b<w.heap.size):=
 ⟨fun o=>cell_of_row w b o c t _ h,fun o=>frozen_of_row w b o c t h,fun _ _=>bV h,(Array.getElem?_eq_some_iff.1 h).1⟩
end Go.WW
namespace Go.Proofs.YtaghcadlgbnbdaaGreatDoor
open Go.RowKit Go.WW
end Go.Proofs.YtaghcadlgbnbdaaGreatDoor
namespace Go.WW
open Go.RowKit
def iJ(m:Nat)(w:World)(a:Option Addr)(n k:Nat):Prop:=∀i,i<n→∃b o,a=some ⟨b,o,Option.none⟩∧m≤b∧aJ w b (o+i*k) k=true
theorem iJ.zero{m:Nat}{w:World}{a:Option Addr}{k:Nat}:iJ m w a 0 k:=fun _ h=>absurd h (Nat.not_lt_zero _)
theorem iJ.le{m m':Nat}{w:World}{a:Option Addr}{n k:Nat}(h:iJ m w a n k)(hm:m'≤m):iJ m' w a n k:=fun i hi=>by
 obtain⟨b,o,e,h1,h2⟩:=h i hi
 exact⟨b,o,e,Nat.le_trans hm h1,h2⟩
theorem iJ.dX{w:World}{base k:Nat}{e:TypeId}{s:Sl}{rows:List (Array Value)}(h:Own w base e k s rows){n:Nat}(hn:rows.length=n):iJ base w s.a n k:=by
 subst hn
 intro i hi
 rcases h.own.2 with⟨_,hn⟩|⟨g,cap,cur,hv,hb,hh,hle,_,hsz,_⟩
 ·omega
 ·have ha:s.a=some ⟨g,0,none⟩:=by injection hv
  refine⟨g,0,ha,hb,nO hh ?_⟩
  rw[hsz,Nat.zero_add,←Nat.succ_mul]
  exact Nat.le_trans (Nat.mul_le_mul_right _ hi) (Nat.mul_le_mul_right _ hle)
def afs(m:Nat)(w:World)(a:Option Addr)(l:List ByteArray):Prop:=iU w a l∧iJ m w a l.length 1
def xC(m:Nat)(w:World)(a:Option Addr)(l:List UInt8):Prop:=BytesAt w a l∧iJ m w a l.length 1
def xF(m:Nat)(w:World)(s:Sl)(p:aB):Prop:=bg w s p∧iJ m w s.a p.parts.length 1
def yP(m:Nat)(w:World)(a:Option Addr)(l:List aB):Prop:=eG w a l∧iJ m w a l.length 2
def vF(m:Nat)(w:World)(s:Sl)(k:Key):Prop:=xC m w s.a k.bytes
def uk(m:Nat)(w:World)(a:Option Addr)(l:List Key):Prop:=aO w 3 a l.length fun i cs=>∃p s,l[i]?=some p∧cs=bY s p∧vF m w s p
def xG(m:Nat)(w:World)(s:Sl)(k:aW):Prop:=uk m w s.a k.keys∧k.fP.size≤lim
def nX(m:Nat)(w:World)(a:Option Addr)(l:List aW):Prop:=(aO w 5 a l.length fun i cs=>∃p s,l[i]?=some p∧cs=aV s p∧xG m w s p)∧iJ m w a l.length 5
structure kY(m:Nat)(w:World)(r:aI)(d:Entry):Prop where
 at_:bz w r d
 name:iJ m w r.parts.a d.name.parts.length 1
 aliases:iJ m w r.aliases.a d.aliases.length 2
 keys:nX m w r.keys.a d.keys
theorem aO.imp{w:World}{k:Nat}{a:Option Addr}{n:Nat}{R R':Nat→Array Value→Prop}(h:aO w k a n R)(hR:∀i cs,R i cs→R' i cs):aO w k a n R':=
 ⟨h.1,fun i hi=>by obtain⟨b,o,cs,h1,h2,h3⟩:=h.2 i hi;exact⟨b,o,cs,h1,h2,hR i cs h3⟩⟩
theorem xC.le{m m':Nat}{w:World}{a:Option Addr}{l:List UInt8}(h:xC m w a l)(hm:m'≤m):xC m' w a l:=⟨h.1,h.2.le hm⟩
theorem vF.le{m m':Nat}{w:World}{s:Sl}{k:Key}(h:vF m w s k)(hm:m'≤m):vF m' w s k:=⟨h.1,h.2.le hm⟩
theorem uk.le{m m':Nat}{w:World}{a:Option Addr}{l:List Key}(h:uk m w a l)(hm:m'≤m):uk m' w a l:=aO.imp h fun _ _ ⟨p,s,h1,h2,h3⟩=>⟨p,s,h1,h2,h3.le hm⟩
theorem xG.le{m m':Nat}{w:World}{s:Sl}{k:aW}(h:xG m w s k)(hm:m'≤m):xG m' w s k:=⟨h.1.le hm,h.2⟩
theorem uk.at_{m:Nat}{w:World}{a:Option Addr}{l:List Key}(h:uk m w a l):jR w a l:=aO.imp h fun _ _ ⟨p,s,h1,h2,h3⟩=>⟨p,s,h1,h2,h3.1⟩
theorem xG.at_{m:Nat}{w:World}{s:Sl}{k:aW}(h:xG m w s k):jG w s k:=⟨h.1.at_,h.2⟩
theorem nX.at_{m:Nat}{w:World}{a:Option Addr}{l:List aW}(h:nX m w a l):jZ w a l:=aO.imp h.1 fun _ _ ⟨p,s,h1,h2,h3⟩=>⟨p,s,h1,h2,h3.at_⟩
def Vj(w:World)(l:List ByteArray)(e:Ending)(w':World):Prop:=
 ∃s:Sl,e=.returned (.slice s.a l.length s.cap)∧Below w.heap.size w w'∧aZ w' (fresh w.heap.size w') (fun x=>afs w.heap.size x s.a l)
def Vk(w:World)(l:List UInt8)(e:Ending)(w':World):Prop:=
 ∃s:Sl,e=.returned (.slice s.a l.length s.cap)∧Below w.heap.size w w'∧aZ w' (fresh w.heap.size w') (fun x=>xC w.heap.size x s.a l)
theorem aft{w w':World}{e:TypeId}{s:Sl}{rows:List (Array Value)}{l:List ByteArray}(h:Own w' w.heap.size e 1 s rows)(hl:rows.length=l.length)(hn:l.length≤lim)(hb:Below w.heap.size w w')
  (hR:∀i (hi:i<rows.length),∃v,rows[i]=#[v]∧∃s,l[i]?=some s∧v=.string s∧s.size≤lim):Vj w l (.returned (.slice s.a l.length s.cap)) w':=
 ⟨s,rfl,hb,fun _ hx=>⟨dJ.dX (h.fresh hx) hl hn hR,iJ.dX (h.fresh hx) hl⟩⟩
theorem afu{w w':World}{e:TypeId}{s:Sl}{rows:List (Array Value)}{l:List UInt8}(h:Own w' w.heap.size e 1 s rows)(hl:rows.length=l.length)(hn:l.length≤lim)(hb:Below w.heap.size w w')
  (hR:∀i (hi:i<rows.length),∃v,rows[i]=#[v]∧∃c,l[i]?=some c∧v=.int .u8 c.toNat):Vk w l (.returned (.slice s.a l.length s.cap)) w':=
 ⟨s,rfl,hb,fun _ hx=>⟨dJ.dX (h.fresh hx) hl hn hR,iJ.dX (h.fresh hx) hl⟩⟩
def afv(w:World)(p:aB)(e:Ending)(w':World):Prop:=
 ∃s:Sl,e=.returned (.agg (ak s p))∧Below w.heap.size w w'∧aZ w' (fresh w.heap.size w') (fun x=>xF w.heap.size x s p)
def afw(w:World)(k:Key)(e:Ending)(w':World):Prop:=
 ∃s:Sl,e=.returned (.agg (bY s k))∧Below w.heap.size w w'∧aZ w' (fresh w.heap.size w') (fun x=>vF w.heap.size x s k)
end Go.WW
namespace Go.Proofs.YtaghcadlgbnbdaaGreatDoor
open Go.RowKit Go.WW
theorem afx(a:Option Addr)(cap:Nat)(l:List ByteArray)(w:World)(hl:iU w a l):Calls Tryz.prog 112 #[.slice a l.length cap] w (Vj w l):=by
 have hn:l.length≤4294967000:=hl.1
 cases a with
 |none=>
  obtain rfl:l=[]:=List.eq_nil_of_length_eq_zero (dJ.none hl)
  go_enter Tryz.func112,Tryz.ntmps112
  go_wp2_with fail
  go_ret
  exact⟨⟨none,0⟩,rfl,Below.refl _ _,fun x _=>⟨⟨by simp[lim],fun i hi=>by simp at hi⟩,iJ.zero⟩⟩
 |some ad=>
  obtain⟨rows,hlr,o6,hrR⟩:=dJ.src hl Vb
  have hown:=Own.empty w 9 1
  have HS:=o6.later ((Below.refl _ w).alloc (Nat.le_refl _) (.cells #[] 9))
  have mY:=Lib.hid hlr
  have HRR:=Lib.hid hrR
  have hln:l.length≤lim:=hl.1
  have Eg:=Lib.hid hln
  clear hlr hrR hl o6 hln
  go_enter Tryz.func112,Tryz.ntmps112
  go_wp2_with (at_builtin;refine gK rfl (.tmp 5) (.tmp 6) _ rfl Vd (n:=0) (s:=⟨some ⟨w.heap.size,0,none⟩,0⟩) rfl rfl hown rfl mY.out.symm HS (by rw[mY.out];simp;omega) (by simp) ?_;intro s3 w3 hown3 hg3 fQ)
  go_ret
  have hb3:Below w.heap.size w w3:=((Below.refl _ w).alloc (Nat.le_refl _) _).grown hg3 (by simp) (fun k e=>by cases e;exact Nat.le_refl _)
  have:=aft (l:=l) hown3 (by simpa using mY.out) Eg.out hb3 (fun i hi=>by simpa using HRR.out i (by simpa using hi))
  simpa using this
theorem afy(a:Option Addr)(cap:Nat)(l:List UInt8)(w:World)(hl:BytesAt w a l):Calls Tryz.prog 186 #[.slice a l.length cap] w (Vk w l):=by
 have hn:l.length≤4294967000:=hl.1
 cases a with
 |none=>
  obtain rfl:l=[]:=List.eq_nil_of_length_eq_zero (dJ.none hl)
  go_enter Tryz.func186,Tryz.ntmps186
  go_wp2_with fail
  go_ret
  exact⟨⟨none,0⟩,rfl,Below.refl _ _,fun x _=>⟨⟨by simp[lim],fun i hi=>by simp at hi⟩,iJ.zero⟩⟩
 |some ad=>
  obtain⟨rows,hlr,o6,hrR⟩:=dJ.src hl Nu
  have hown:=Own.empty w 5 1
  have HS:=o6.later ((Below.refl _ w).alloc (Nat.le_refl _) (.cells #[] 5))
  have mY:=Lib.hid hlr
  have HRR:=Lib.hid hrR
  have hln:l.length≤lim:=hl.1
  have Eg:=Lib.hid hln
  clear hlr hrR hl o6 hln
  go_enter Tryz.func186,Tryz.ntmps186
  go_wp2_with (at_builtin;refine gK rfl (.tmp 5) (.tmp 6) _ rfl uj (n:=0) (s:=⟨some ⟨w.heap.size,0,none⟩,0⟩) rfl rfl hown rfl mY.out.symm HS (by rw[mY.out];simp;omega) (by simp) ?_;intro s3 w3 hown3 hg3 fQ)
  go_ret
  have hb3:Below w.heap.size w w3:=((Below.refl _ w).alloc (Nat.le_refl _) _).grown hg3 (by simp) (fun k e=>by cases e;exact Nat.le_refl _)
  have:=afu (l:=l) hown3 (by simpa using mY.out) Eg.out hb3 (fun i hi=>by simpa using HRR.out i (by simpa using hi))
  simpa using this
theorem Nv(s:Sl)(p:aB)(w:World)(hp:bg w s p):Calls Tryz.prog 58 #[.agg (ak s p)] w (afv w p):=by
 obtain⟨Z,hZ⟩:∃Z:Array Value,Z=#[.slice none 0 0,.string ⟨#[]⟩]:=⟨_,rfl⟩
 have hB:Below w.heap.size w ((w.alloc (.cells (ak s p) 25)).alloc (.cells Z 25)):=((Below.refl _ w).alloc (Nat.le_refl _) _).alloc (by simp) _
 have hq:iU ((w.alloc (.cells (ak s p) 25)).alloc (.cells Z 25)) s.a p.parts:=hp.1.later hB
 have hrl:=hp.2
 subst hZ
 go_enter Tryz.func58,Tryz.ntmps58
 go_wp2_with fail
 refine(afx _ _ _ _ hq).mono ?_
 rintro e w2 ⟨s',rfl,hb2,hd2⟩
 have hblk:=cZ (o:=0) (.slice s'.a p.parts.length s'.cap) ((hb2.block w.heap.size (by simp;omega)).trans (lS w _ _))
 have hrow:row? (w2.setCell ⟨w.heap.size,0,none⟩ (.slice s'.a p.parts.length s'.cap)) w.heap.size 0 2=some (ak s' p):=by rw[bV hblk];rfl
 obtain⟨hcc,aU,hrr⟩:=bf hb2
 have hpp:=gY hb2
 have hsz:w.heap.size+1<w2.heap.size:=by have:=hb2.size;simp at this;omega
 have hsz0:w.heap.size<w2.heap.size:=by omega
 have hne:w.heap.size+1≠w.heap.size:=by omega
 clear hblk
 go_wp2_with fail
 refine bodyPost_ret (v:=.agg (ak s' p)) (by simp[results,Tryz.results58,go_sem, *];rfl) rfl ⟨s',rfl,?_,?_⟩
 ·exact Go.WW.Below.putRow ((hB.trans (hb2.mono hB.size)).setCell (by simp) _) (by omega)
 ·have hls:=hB.size
  refine aZ.to (fun x hx=>⟨⟨(hd2 x hx).1,hrl⟩,(hd2 x hx).2.le hls⟩) (fun j hj=>?_) (fun j hj=>?_)
  ·have h1:=hj.1
   simp at h1
   rw[jh (by omega),Below.heap_setCell _ _ _ _ (by simp;omega)]
  ·have h1:=hj.1
   have h2:=hj.2
   simp at h1
   exact⟨by omega,by rw[jS];simpa[World.setCell]using h2⟩
theorem afz(s:Sl)(p:Key)(w:World)(hp:kV w s p):Calls Tryz.prog 121 #[.agg (bY s p)] w (afw w p):=by
 obtain⟨Z,hZ⟩:∃Z:Array Value,Z=#[.int .i64 0,.int .i64 0,.slice none 0 0]:=⟨_,rfl⟩
 have hB:Below w.heap.size w ((w.alloc (.cells (bY s p) 64)).alloc (.cells Z 64)):=((Below.refl _ w).alloc (Nat.le_refl _) _).alloc (by simp) _
 have hq:BytesAt ((w.alloc (.cells (bY s p) 64)).alloc (.cells Z 64)) s.a p.bytes:=BytesAt.later hB hp
 subst hZ
 go_enter Tryz.func121,Tryz.ntmps121
 go_wp2_with fail
 refine(afy _ _ _ _ hq).mono ?_
 rintro e w2 ⟨s',rfl,hb2,hd2⟩
 have hblk:=cZ (o:=2) (.slice s'.a p.bytes.length s'.cap) ((hb2.block w.heap.size (by simp;omega)).trans (lS w _ _))
 have hrow:row? (w2.setCell ⟨w.heap.size,2,none⟩ (.slice s'.a p.bytes.length s'.cap)) w.heap.size 0 3=some (bY s' p):=by rw[bV hblk];rfl
 obtain⟨hcc,aU,hrr⟩:=bf hb2
 have hpp:=gY hb2
 have hsz:w.heap.size+1<w2.heap.size:=by have:=hb2.size;simp at this;omega
 have hsz0:w.heap.size<w2.heap.size:=by omega
 have hne:w.heap.size+1≠w.heap.size:=by omega
 clear hblk
 go_wp2_with fail
 refine bodyPost_ret (v:=.agg (bY s' p)) (by simp[results,Tryz.results121,go_sem, *];rfl) rfl ⟨s',rfl,?_,?_⟩
 ·exact Go.WW.Below.putRow ((hB.trans (hb2.mono hB.size)).setCell (by simp) _) (by omega)
 ·have hls:=hB.size
  refine aZ.to (Φ:=fun x=>vF w.heap.size x s' p) (fun x hx=>(hd2 x hx).le hls) (fun j hj=>?_) (fun j hj=>?_)
  ·have h1:=hj.1
   simp at h1
   rw[jh (by omega),Below.heap_setCell _ _ _ _ (by simp;omega)]
  ·have h1:=hj.1
   have h2:=hj.2
   simp at h1
   exact⟨by omega,by rw[jS];simpa[World.setCell]using h2⟩
end Go.Proofs.YtaghcadlgbnbdaaGreatDoor
namespace Go.WW
open Go.RowKit
theorem vF.lt{m:Nat}{w:World}{s:Sl}{k:Key}(h:vF m w s k):kV w s k:=h.1
end Go.WW
namespace Go.Proofs.YtaghcadlgbnbdaaGreatDoor
open Go.RowKit Go.WW
def Vl(_:Nat)(l:List aB)(x:World)(i:Nat)(cs:Array Value):Prop:=∃p s,l[i]?=some p∧cs=ak s p∧bg x s p
theorem Vm(a:Option Addr)(cap:Nat)(l:List aB)(w:World)(hl:eG w a l) :
  Calls Tryz.prog 66 #[.slice a l.length cap,.func (.func 58) #[] #[]] w (Eh (fun x s=>yP w.heap.size x s.a l) l.length w):=by
 have hn:l.length≤4294967000:=hl.1
 rcases aO.addr hl with h0|⟨b,o,rfl,hb⟩
 ·obtain rfl:l=[]:=List.eq_nil_of_length_eq_zero h0
  go_enter Tryz.func66,Tryz.ntmps66
  go_wp2_with fail
  refine wp_loop_rounds 1 ?_
  rw[rounds_succ]
  go_wp2_with fail
  go_ret
  exact⟨⟨none,0⟩,rfl,Below.refl _ _,fun x _=>⟨⟨by simp[lim],fun i hi=>by simp at hi⟩,iJ.zero⟩⟩
 go_enter Tryz.func66,Tryz.ntmps66
 go_wp2_with fail
 go_loopw [5,10] (fun ov i wr=>∃(k:Nat) (so:Sl) (rows:List (Array Value)),k≤l.length∧i=.int .i64 k∧ov=.slice so.a k so.cap∧Hid (rows.length=k)∧Below w.heap.size w wr∧kH 25 2 (Vl w.heap.size l) wr w.heap.size so rows) (fun _ i _=>l.length-(intOf i).toNat)
 case atStart=>exact⟨0,⟨none,0⟩,[],Nat.zero_le _,rfl,rfl,rfl,Below.refl _ _,kH.nil _ _ _ _ _⟩
 case round=>
  obtain⟨k,so,rows,hk,rfl,rfl,hlr,hbr,hC⟩:=hrel
  by_cases hlt:k<l.length
  ·obtain⟨t,hc,hp⟩:=hl.at k hlt
   obtain⟨hcc,aU,hrr⟩:=bf hbr
   go_wp2_with fail
   have hb1:Below wr.heap.size wr (wr.alloc (.cells (ak t l[k]) 25)):=(Below.refl _ wr).alloc (Nat.le_refl _) _
   have hls:w.heap.size≤(wr.alloc (.cells (ak t l[k]) 25)).heap.size:=by have:=hbr.size;simp;omega
   refine(Nv _ _ _ (hp.later (ag hbr hb1))).mono ?_
   rintro e w2 ⟨s',rfl,hb2,hd2⟩
   have hr2:=ag hb1 hb2
   have hown:=hC.carry hr2 (.cells (ak s' l[k]) 25)
   clear hcc aU hrr
   go_wp2_with (at_builtin;refine gK rfl (.tmp 14) (.tmp 18) _ rfl Bd (n:=k) rfl hlr.out.symm hown rfl rfl (bJ.new _ (ak s' l[k]) _ _ (by simp[go_sem]) (by simp[go_sem])) (by have:=hlr.out;rw[this];simp;omega) (by have h9:=hbr.size;have h8:=hr2.size;simp;omega) ?_;intro s3 w3 hown3 hg3 fQ)
   have yO:=hC.step hb1 hb2 (o:=.cells (ak s' l[k]) 25) (R:=Vl w.heap.size l) (fun x hx=>⟨l[k],s',by rw[hlr.out];exact List.getElem?_eq_getElem hlt,rfl,(hd2 x hx).1⟩) hown3 hg3 fQ hbr.size
   have hb3:=Io hC hbr hb1 hb2 hg3
   have HL:=Lib.hid (show(rows++[(ak s' l[k])]).length=k+1 by have:=hlr.out;simp[this])
   clear hown hown3 hg3 fQ hC hd2 hr2 hb1 hb2 hlr
   go_wp2_with fail
   go_roundw
   case rel=>exact⟨k+1,s3,_,by omega,by go_num,rfl,HL.out,hb3,yO⟩
   case measure=>simp[intOf];omega
  ·obtain rfl:k=l.length:=by omega
   go_wp2_with fail
   go_ret
   exact⟨so,rfl,hbr,fun x hx=>⟨hC.done hlr.out hl.1 x hx,iJ.dX (hC.own.fresh hx) hlr.out⟩⟩
def Vo(m:Nat)(l:List Key)(x:World)(i:Nat)(cs:Array Value):Prop:=∃p s,l[i]?=some p∧cs=bY s p∧vF m x s p
theorem afA(a:Option Addr)(cap:Nat)(l:List Key)(w:World)(hl:jR w a l) :
  Calls Tryz.prog 120 #[.slice a l.length cap,.func (.func 121) #[] #[]] w (Eh (fun x s=>uk w.heap.size x s.a l) l.length w):=by
 have hn:l.length≤4294967000:=hl.1
 rcases aO.addr hl with h0|⟨b,o,rfl,hb⟩
 ·obtain rfl:l=[]:=List.eq_nil_of_length_eq_zero h0
  go_enter Tryz.func120,Tryz.ntmps120
  go_wp2_with fail
  refine wp_loop_rounds 1 ?_
  rw[rounds_succ]
  go_wp2_with fail
  go_ret
  exact⟨⟨none,0⟩,rfl,Below.refl _ _,fun x _=>⟨by simp[lim],fun i hi=>by simp at hi⟩⟩
 go_enter Tryz.func120,Tryz.ntmps120
 go_wp2_with fail
 go_loopw [5,10] (fun ov i wr=>∃(k:Nat) (so:Sl) (rows:List (Array Value)),k≤l.length∧i=.int .i64 k∧ov=.slice so.a k so.cap∧Hid (rows.length=k)∧Below w.heap.size w wr∧kH 64 3 (Vo w.heap.size l) wr w.heap.size so rows) (fun _ i _=>l.length-(intOf i).toNat)
 case atStart=>exact⟨0,⟨none,0⟩,[],Nat.zero_le _,rfl,rfl,rfl,Below.refl _ _,kH.nil _ _ _ _ _⟩
 case round=>
  obtain⟨k,so,rows,hk,rfl,rfl,hlr,hbr,hC⟩:=hrel
  by_cases hlt:k<l.length
  ·obtain⟨t,hc,hp⟩:=hl.at k hlt
   obtain⟨hcc,aU,hrr⟩:=bf hbr
   go_wp2_with fail
   have hb1:Below wr.heap.size wr (wr.alloc (.cells (bY t l[k]) 64)):=(Below.refl _ wr).alloc (Nat.le_refl _) _
   have hls:w.heap.size≤(wr.alloc (.cells (bY t l[k]) 64)).heap.size:=by have:=hbr.size;simp;omega
   refine(afz _ _ _ (hp.later (ag hbr hb1))).mono ?_
   rintro e w2 ⟨s',rfl,hb2,hd2⟩
   have hr2:=ag hb1 hb2
   have hown:=hC.carry hr2 (.cells (bY s' l[k]) 64)
   clear hcc aU hrr
   go_wp2_with (at_builtin;refine gK rfl (.tmp 14) (.tmp 18) _ rfl Ve (n:=k) rfl hlr.out.symm hown rfl rfl (bJ.new _ (bY s' l[k]) _ _ (by simp[go_sem]) (by simp[go_sem])) (by have:=hlr.out;rw[this];simp;omega) (by have h9:=hbr.size;have h8:=hr2.size;simp;omega) ?_;intro s3 w3 hown3 hg3 fQ)
   have yO:=hC.step hb1 hb2 (o:=.cells (bY s' l[k]) 64) (R:=Vo w.heap.size l) (fun x hx=>⟨l[k],s',by rw[hlr.out];exact List.getElem?_eq_getElem hlt,rfl,(hd2 x hx).le hls⟩) hown3 hg3 fQ hbr.size
   have hb3:=Io hC hbr hb1 hb2 hg3
   have HL:=Lib.hid (show(rows++[(bY s' l[k])]).length=k+1 by have:=hlr.out;simp[this])
   clear hown hown3 hg3 fQ hC hd2 hr2 hb1 hb2 hlr
   go_wp2_with fail
   go_roundw
   case rel=>exact⟨k+1,s3,_,by omega,by go_num,rfl,HL.out,hb3,yO⟩
   case measure=>simp[intOf];omega
  ·obtain rfl:k=l.length:=by omega
   go_wp2_with fail
   go_ret
   exact⟨so,rfl,hbr,hC.done hlr.out hl.1⟩
def afB(w:World)(k:aW)(e:Ending)(w':World):Prop:=
 ∃s:Sl,e=.returned (.agg (aV s k))∧Below w.heap.size w w'∧aZ w' (fresh w.heap.size w') (fun x=>xG w.heap.size x s k)
theorem afC(s:Sl)(p:aW)(w:World)(hp:jG w s p):Calls Tryz.prog 68 #[.agg (aV s p)] w (afB w p):=by
 obtain⟨Z,hZ⟩:∃Z:Array Value,Z=#[.int .i64 0,.slice none 0 0,.string ⟨#[]⟩,.int .i64 0,.int .i64 0]:=⟨_,rfl⟩
 have hB:Below w.heap.size w ((w.alloc (.cells (aV s p) 61)).alloc (.cells Z 61)):=((Below.refl _ w).alloc (Nat.le_refl _) _).alloc (by simp) _
 have hq:jR ((w.alloc (.cells (aV s p) 61)).alloc (.cells Z 61)) s.a p.keys:=hp.1.later hB
 have hrl:=hp.2
 subst hZ
 go_enter Tryz.func68,Tryz.ntmps68
 go_wp2_with fail
 refine(afA _ _ _ _ hq).mono ?_
 rintro e w2 ⟨s',rfl,hb2,hd2⟩
 have hblk:=cZ (o:=1) (.slice s'.a p.keys.length s'.cap) ((hb2.block w.heap.size (by simp;omega)).trans (lS w _ _))
 have hrow:row? (w2.setCell ⟨w.heap.size,1,none⟩ (.slice s'.a p.keys.length s'.cap)) w.heap.size 0 5=some (aV s' p):=by rw[bV hblk];rfl
 obtain⟨hcc,aU,hrr⟩:=bf hb2
 have hpp:=gY hb2
 have hsz:w.heap.size+1<w2.heap.size:=by have:=hb2.size;simp at this;omega
 have hsz0:w.heap.size<w2.heap.size:=by omega
 have hne:w.heap.size+1≠w.heap.size:=by omega
 clear hblk
 go_wp2_with fail
 refine bodyPost_ret (v:=.agg (aV s' p)) (by simp[results,Tryz.results68,go_sem, *];rfl) rfl ⟨s',rfl,?_,?_⟩
 ·exact Go.WW.Below.putRow ((hB.trans (hb2.mono hB.size)).setCell (by simp) _) (by omega)
 ·have hls:=hB.size
  refine aZ.to (fun x hx=>⟨(hd2 x hx).le hls,hrl⟩) (fun j hj=>?_) (fun j hj=>?_)
  ·have h1:=hj.1
   simp at h1
   rw[jh (by omega),Below.heap_setCell _ _ _ _ (by simp;omega)]
  ·have h1:=hj.1
   have h2:=hj.2
   simp at h1
   exact⟨by omega,by rw[jS];simpa[World.setCell]using h2⟩
def Vp(m:Nat)(l:List aW)(x:World)(i:Nat)(cs:Array Value):Prop:=∃p s,l[i]?=some p∧cs=aV s p∧xG m x s p
theorem afD(a:Option Addr)(cap:Nat)(l:List aW)(w:World)(hl:jZ w a l) :
  Calls Tryz.prog 67 #[.slice a l.length cap,.func (.func 68) #[] #[]] w (Eh (fun x s=>nX w.heap.size x s.a l) l.length w):=by
 have hn:l.length≤4294967000:=hl.1
 rcases aO.addr hl with h0|⟨b,o,rfl,hb⟩
 ·obtain rfl:l=[]:=List.eq_nil_of_length_eq_zero h0
  go_enter Tryz.func67,Tryz.ntmps67
  go_wp2_with fail
  refine wp_loop_rounds 1 ?_
  rw[rounds_succ]
  go_wp2_with fail
  go_ret
  exact⟨⟨none,0⟩,rfl,Below.refl _ _,fun x _=>⟨⟨by simp[lim],fun i hi=>by simp at hi⟩,iJ.zero⟩⟩
 go_enter Tryz.func67,Tryz.ntmps67
 go_wp2_with fail
 go_loopw [5,10] (fun ov i wr=>∃(k:Nat) (so:Sl) (rows:List (Array Value)),k≤l.length∧i=.int .i64 k∧ov=.slice so.a k so.cap∧Hid (rows.length=k)∧Below w.heap.size w wr∧kH 61 5 (Vp w.heap.size l) wr w.heap.size so rows) (fun _ i _=>l.length-(intOf i).toNat)
 case atStart=>exact⟨0,⟨none,0⟩,[],Nat.zero_le _,rfl,rfl,rfl,Below.refl _ _,kH.nil _ _ _ _ _⟩
 case round=>
  obtain⟨k,so,rows,hk,rfl,rfl,hlr,hbr,hC⟩:=hrel
  by_cases hlt:k<l.length
  ·obtain⟨t,hc,hp⟩:=hl.at k hlt
   obtain⟨hcc,aU,hrr⟩:=bf hbr
   go_wp2_with fail
   have hb1:Below wr.heap.size wr (wr.alloc (.cells (aV t l[k]) 61)):=(Below.refl _ wr).alloc (Nat.le_refl _) _
   have hls:w.heap.size≤(wr.alloc (.cells (aV t l[k]) 61)).heap.size:=by have:=hbr.size;simp;omega
   refine(afC _ _ _ (hp.later (ag hbr hb1))).mono ?_
   rintro e w2 ⟨s',rfl,hb2,hd2⟩
   have hr2:=ag hb1 hb2
   have hown:=hC.carry hr2 (.cells (aV s' l[k]) 61)
   clear hcc aU hrr
   go_wp2_with (at_builtin;refine gK rfl (.tmp 14) (.tmp 18) _ rfl Vf (n:=k) rfl hlr.out.symm hown rfl rfl (bJ.new _ (aV s' l[k]) _ _ (by simp[go_sem]) (by simp[go_sem])) (by have:=hlr.out;rw[this];simp;omega) (by have h9:=hbr.size;have h8:=hr2.size;simp;omega) ?_;intro s3 w3 hown3 hg3 fQ)
   have yO:=hC.step hb1 hb2 (o:=.cells (aV s' l[k]) 61) (R:=Vp w.heap.size l) (fun x hx=>⟨l[k],s',by rw[hlr.out];exact List.getElem?_eq_getElem hlt,rfl,(hd2 x hx).le hls⟩) hown3 hg3 fQ hbr.size
   have hb3:=Io hC hbr hb1 hb2 hg3
   have HL:=Lib.hid (show(rows++[(aV s' l[k])]).length=k+1 by have:=hlr.out;simp[this])
   clear hown hown3 hg3 fQ hC hd2 hr2 hb1 hb2 hlr
   go_wp2_with fail
   go_roundw
   case rel=>exact⟨k+1,s3,_,by omega,by go_num,rfl,HL.out,hb3,yO⟩
   case measure=>simp[intOf];omega
  ·obtain rfl:k=l.length:=by omega
   go_wp2_with fail
   go_ret
   exact⟨so,rfl,hbr,fun x hx=>⟨hC.done hlr.out hl.1 x hx,iJ.dX (hC.own.fresh hx) hlr.out⟩⟩
theorem Vq(s:Sl)(p:aB)(w:World)(hp:bg w s p):Calls Tryz.prog 58 #[.agg (ak s p)] w (afo w p):=
 (Nv s p w hp).mono fun _ _ ⟨s',h1,h2,h3⟩=>⟨s',h1,h2,fun x hx=>(h3 x hx).1⟩
theorem Nw(a:Option Addr)(cap:Nat)(l:List aB)(w:World)(hl:eG w a l) :
  Calls Tryz.prog 66 #[.slice a l.length cap,.func (.func 58) #[] #[]] w (Eh (fun x s=>eG x s.a l) l.length w):=
 (Vm a cap l w hl).mono fun _ _ ⟨s,h1,h2,h3⟩=>⟨s,h1,h2,fun x hx=>(h3 x hx).1⟩
end Go.Proofs.YtaghcadlgbnbdaaGreatDoor
