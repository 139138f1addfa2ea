/- A part of the proof. -/
import Derived.Test.YtibhckkjciflaaaGreatDoorA16
import Derived.Test.YtibhckkjciflaaaGreatDoorA15
import Derived.Carry
import Derived.WideMake
import Derived.RangeFuncOwn
import Derived.OwnWalk
set_option maxRecDepth 100000
set_option maxHeartbeats 2000000
namespace Go.WW
open Go.RowKit
def qm(c:UInt8):Bool:=(decide (65≤(c.toNat:Int))&&decide ((c.toNat:Int)≤90)) || (decide (48≤(c.toNat:Int))&&decide ((c.toNat:Int)≤57)) || (c.toNat:Int) == 45
def pg(s:ByteArray):Bool:=!s.data.toList.isEmpty&&s.data.toList.all qm
def good:Bool→List UInt8→Bool
 |p,[]=>!p
 |p,c::l=>if fJ c then !p&&good true l else qm c&&good false l
theorem PO(c:UInt8):fJ c=true↔c=46:=by
 unfold fJ
 constructor
 ·intro h;apply UInt8.toNat_inj.1;have:(c.toNat:Int)=46:=by simpa using h
  simp;omega
 ·rintro rfl;rfl
theorem aaU:∀(l:List UInt8) (p:Bool),(∀c∈l,fJ c=false)→good p l=(!(p&&l.isEmpty)&&l.all qm):=by
 intro l
 induction l with
 |nil=>intro p _;cases p<;>rfl
 |cons c l ih=>
  intro p h
  have h1:fJ c=false:=h c (by simp)
  unfold good
  rw[h1,ih false (fun c hc=>h c (by simp[hc]))]
  simp
theorem aaV:∀(a b:List UInt8) (p:Bool),(∀c∈a,fJ c=false)→good p (a++46::b)=(!(p&&a.isEmpty)&&a.all qm&&good true b):=by
 intro a b
 induction a with
 |nil=>intro p _;cases p<;>simp[good,fJ]
 |cons c l ih=>
  intro p h
  have h1:fJ c=false:=h c (by simp)
  rw[List.cons_append,good,h1,ih false (fun c hc=>h c (by simp[hc]))]
  simp[Bool.and_assoc]
theorem index_none:∀l:List UInt8,Lib.indexByte l 46<0→∀c∈l,fJ c=false:=by
 intro l
 induction l with
 |nil=>intro _ c h;simp at h
 |cons b l ih=>
  intro h c hc
  unfold Lib.indexByte at h
  by_cases hb:(b == 46)=true
  ·simp[hb]at h
  ·by_cases hm:Lib.indexByte l 46=-1
   ·rcases List.mem_cons.1 hc with rfl|hc
    ·cases hd:fJ c
     ·rfl
     ·exact absurd (by simpa using(PO c).1 hd) hb
    ·exact ih (by omega) c hc
   ·have:=Lib.indexByte_ge l 46
    simp[hb,hm]at h<;>omega
theorem aaW:∀(l:List UInt8) (k:Nat),Lib.indexByte l 46=(k:Int)→(∀c∈l.take k,fJ c=false)∧l=l.take k++46::l.drop (k+1):=by
 intro l
 induction l with
 |nil=>intro k h;simp[Lib.indexByte]at h<;>omega
 |cons b l ih=>
  intro k h
  unfold Lib.indexByte at h
  by_cases hb:(b == 46)=true
  ·simp[hb]at h
   have:k=0:=by omega
   subst this
   have:b=46:=by simpa using hb
   subst this;simp
  ·by_cases hm:Lib.indexByte l 46=-1
   ·simp[hb,hm]at h<;>omega
   ·have h':Lib.indexByte l 46+1=(k:Int):=by simpa[hb,hm]using h
    have:=Lib.indexByte_ge l 46
    obtain⟨j,rfl⟩:∃j,k=j+1:=⟨k-1,by omega⟩
    obtain⟨h1,h2⟩:=ih j (by omega)
    have hbd:fJ b=false:=by
     cases hd:fJ b
     ·rfl
     ·exact absurd (by simpa using(PO b).1 hd) hb
    refine⟨?_,?_⟩
    ·intro c hc;simp at hc;rcases hc with rfl|hc
     ·exact hbd
     ·exact h1 c hc
    ·simp only[List.take_succ_cons,List.drop_succ_cons,List.cons_append];rw[←h2]
theorem aaX{s:ByteArray}{ys:List ByteArray}(h:Split s ys):ys.all pg=good true s.data.toList:=by
 induction h with
 |last s h=>
  rw[aaU _ _ (index_none _ h)];simp[pg]
 |more s k ys h hk t ih=>
  obtain⟨h1,h2⟩:=aaW _ _ h
  have e1:(s.extract 0 k).data.toList=s.data.toList.take k:=by simp[ByteArray.data_extract]
  have e2:(s.extract (k+1) s.size).data.toList=s.data.toList.drop (k+1):=by
   simp[ByteArray.data_extract]
   exact List.take_of_length_le (by simp)
  rw[e2]at ih
  rw[h2,aaV _ _ _ h1,List.all_cons,ih]
  simp only[pg,e1]
  simp
theorem aaY(s:ByteArray):∀(k i:Nat),i+k=s.size→good (i == 0 || (s.data.toList[i-1]?).any fJ) (s.data.toList.drop i)=((List.range' i k).all (kX s)&&!(k == 0&&(i == 0 || (s.data.toList[i-1]?).any fJ))):=by
 intro k
 induction k with
 |zero=>
  intro i h
  have:s.data.toList.drop i=[]:=List.drop_of_length_le (by
    have:s.data.toList.length=s.size:=by simp
    omega)
  rw[this];simp[good]
 |succ k ih=>
  intro i h
  have hl:s.data.toList.length=s.size:=by simp
  have hi:i<s.data.toList.length:=by omega
  rw[List.drop_eq_getElem_cons hi,List.range'_succ,List.all_cons]
  have ih':=ih (i+1) (by omega)
  have e0:(i+1 == 0 || (s.data.toList[i+1-1]?).any fJ)=fJ (s.data.toList[i]):=by
   rw[Nat.add_sub_cancel,List.getElem?_eq_getElem hi];simp
  rw[e0]at ih'
  rw[good]
  have er:kX s i=(nO s.data.toList[i]&&!(fJ s.data.toList[i]&&(i == 0 || i+1 == s.size || (s.data.toList[i-1]?).any fJ))):=by
   unfold kX;rw[List.getElem?_eq_getElem hi]
  have e3:(i+1 == s.size)=(k == 0):=by
   rw[Bool.eq_iff_iff];simp;omega
  rw[er,e3]
  cases hd:fJ s.data.toList[i]
  ·rw[hd]at ih'
   have e4:qm s.data.toList[i]=nO s.data.toList[i]:=by
    unfold fJ at hd
    unfold qm nO
    rw[hd]
    generalize ((s.data.toList[i]).toNat:Int)=z
    rw[Bool.eq_iff_iff];simp;omega
   simp only[Bool.false_eq_true,if_false,e4,ih']
   simp
  ·rw[hd]at ih'
   have e4:nO s.data.toList[i]=true:=Ak (.inl (by unfold fJ at hd;simpa using hd))
   simp only[if_true,ih',e4]
   cases k<;>simp[Bool.and_comm]
theorem aaZ(s:ByteArray)(hz:sized s=true):iL s=good true s.data.toList:=by
 have h1:1≤(s.size:Int):=by unfold sized at hz;simp at hz;exact hz.1
 have:=aaY s s.size 0 (by simp)
 simp only[List.drop_zero,BEq.rfl,Bool.true_or]at this
 have hk:(s.size == 0)=false:=by simp;intro e;rw[e]at h1;simp at h1
 rw[hk]at this
 rw[this,iL,hz,List.range_eq_range']
 simp
theorem PQ{s:ByteArray}{ys:List ByteArray}(hz:sized s=true)(h:Split s ys):iL s=ys.all pg:=by
 rw[aaX h,aaZ s hz]
theorem aa0{s:ByteArray}(hz:sized s=false):iL s=false:=by rw[iL,hz];simp
end Go.WW
namespace Go.Proofs.YtibhckkjciflaaaGreatDoor
open Go.RowKit Go.WW
theorem aa1(s t:ByteArray)(k:Int)(w:World):Calls Tryz.prog 183 #[.string s,.string t,.int .i64 k] w fun e w'=>e=.returned (.func (.func 210) #[] #[.pointer (some ⟨w.heap.size+1,0,none⟩),.pointer (some ⟨w.heap.size,0,none⟩),.pointer (some ⟨w.heap.size+2,0,none⟩)])∧
  w'=((w.alloc (.cells #[.string s] 9)).alloc (.cells #[.string t] 9)).alloc (.cells #[.int .i64 k] 3):=by
 go_enter Tryz.func183,Tryz.ntmps183
 go_wp2
 go_ret
 exact⟨rfl,rfl⟩
theorem aa2(s t:ByteArray)(w:World):Calls Tryz.prog 141 #[.string s,.string t] w fun e w'=>e=.returned (.func (.func 210) #[] #[.pointer (some ⟨w.heap.size+1,0,none⟩),.pointer (some ⟨w.heap.size,0,none⟩),.pointer (some ⟨w.heap.size+2,0,none⟩)])∧
  w'=((w.alloc (.cells #[.string s] 9)).alloc (.cells #[.string t] 9)).alloc (.cells #[.int .i64 0] 3):=by
 go_enter Tryz.func141,Tryz.ntmps141
 go_wp2_with (go_at_call 183;refine(aa1 _ _ _ _).mono ?_;rintro e w' ⟨rfl,rfl⟩)
 go_ret
 exact⟨rfl,rfl⟩
def Je(w:World)(pre:List ByteArray)(W:World):Prop:=(W.cell? ⟨w.heap.size,0,none⟩=some (.bool false)∧W.frozen? ⟨w.heap.size,0,none⟩=false)∧Below w.heap.size w W∧Hid (pre.all pg=true)
def Jf(w:World)(pre:List ByteArray)(W:World):Prop:=(W.cell? ⟨w.heap.size,0,none⟩=some (.bool false))∧Below w.heap.size w W∧Hid (pre.all pg=false)
attribute [local go_sem] Oper.semAt_some
theorem aa3(s:ByteArray)(w:World)(hs:s.size≤lim):Calls Tryz.prog 84 #[.string s] w fun e w'=>e=.returned (.bool (iL s))∧Below w.heap.size w w':=by
 refine(callsIn_wide (n:=5)).1 ?_
 have h1:1≤5:=by omega
 refine callsIn_of_wp_marks Tryz.func84 rfl trivial ?_ rfl
 simp only[Tryz.ntmps84,List.size_toArray,List.length_cons,List.length_nil,Nat.reduceAdd,Nat.reduceSub,Array.replicate_succ,Array.replicate_zero,List.push_toArray,List.append_toArray,List.nil_append,List.cons_append]
 cases hz:sized s
 ·have HN:=Lib.hid (aa0 hz)
  gi_wp2_with (refine⟨trivial,?_⟩;gi_at_call 140;refine(callsIn_wide.2 (IB _ _ (le_max hs))).mono ?_;rintro e w' ⟨rfl,rfl⟩;rw[hz])
  refine⟨.bool false,?_,by rw[HN.out],(Below.refl _ w).alloc (Nat.le_refl _) _⟩
  simp[results,Tryz.f84,go_sem]
 gi_wp2_with (first
  |(refine⟨trivial,?_⟩;gi_at_call 140;refine(callsIn_wide.2 (IB _ _ (le_max hs))).mono ?_;rintro e w' ⟨rfl,rfl⟩;rw[hz])
  |(refine⟨trivial,?_⟩;gi_at_call 141;refine(callsIn_wide.2 (aa2 _ _ _)).mono ?_;rintro e w' ⟨rfl,rfl⟩))
 obtain⟨W0,hW0⟩:∃W0,(((w.alloc (.cells #[.bool false] 4)).alloc (.cells #[.string s] 9)).alloc (.cells #[.string ⟨#[46]⟩] 9)).alloc (.cells #[.int .i64 0] 3)=W0:=⟨_,rfl⟩
 have hsz:W0.heap.size=w.heap.size+4:=by rw[←hW0];simp
 have hB0:Below w.heap.size w W0:=by rw[←hW0];exact((((Below.refl _ w).alloc (Nat.le_refl _) _).alloc (by simp) _).alloc (by simp;omega) _).alloc (by simp;omega) _
 have g0:W0.cell? ⟨w.heap.size,0,none⟩=some (.bool false):=by rw[←hW0];simp[go_sem]
 have f0:W0.frozen? ⟨w.heap.size,0,none⟩=false:=by rw[←hW0];simp[go_sem]
 have g1:W0.cell? ⟨w.heap.size+1,0,none⟩=some (.string s):=by rw[←hW0];simp[go_sem]
 have f1:W0.frozen? ⟨w.heap.size+1,0,none⟩=false:=by rw[←hW0];simp[go_sem]
 have g2:W0.cell? ⟨w.heap.size+1+1,0,none⟩=some (.string ⟨#[46]⟩):=by rw[←hW0];simp[go_sem]
 have g3:W0.cell? ⟨w.heap.size+1+2,0,none⟩=some (.int .i64 0):=by rw[←hW0];simp[go_sem]
 rw[hW0]
 refine aaM (α:=ByteArray) rfl h1 (gf:=210) (lb:=#[.pointer (some ⟨w.heap.size+1+1,0,none⟩),.pointer (some ⟨w.heap.size+1,0,none⟩),.pointer (some ⟨w.heap.size+1+2,0,none⟩)]) (by simp[go_sem]) trivial (enters_of Tryz.func210 (by kernel_rfl) rfl)
  (aaS 4 (by omega) (w.heap.size+1) W0.heap.size s hs W0 (by omega) g1 g2 g3 f1) (by omega) (fun _=>rfl)
  (Je w)
  (Jf w)
  ?_ ?_ ?_ ⟨⟨g0,f0⟩,hB0,by simp[Hid]⟩
  (fun x=>{tmps:=#[.string s,undef,.pointer (some ⟨w.heap.size,0,none⟩),.string x,undef,undef,.string s,.bool true,.bool false,.string s,.func (.func 210) #[] #[.pointer (some ⟨w.heap.size+1+1,0,none⟩),.pointer (some ⟨w.heap.size+1,0,none⟩),.pointer (some ⟨w.heap.size+1+2,0,none⟩)],.string x,undef,undef,undef,undef,undef,undef,undef,undef,undef,undef,undef,undef,undef,undef,undef,undef,undef,undef,undef,undef,undef,undef,undef,undef,undef,undef,undef,undef,undef],defers:=[]}) ?assign ?body ?done ?stop
 ·unfold Je
  refine OwnFrom.and (Own.from (fun s A B row hs hg hr=>⟨cell_kept hs.1 hg hr,(frozen_kept hs.1 hg hr).trans hs.2⟩) _) (OwnFrom.and (ownFrom_below (Nat.le_refl _) (by omega)) ?_)
  exact fun s A B row hs hg hr=>hs
 ·rintro pre W v ⟨⟨hc,hf⟩,hB,hall⟩
  exact⟨⟨by rw[World.cell?_setCell_other _ _ _ _ (by simp)];exact hc,by rw[World.frozen?_setCell];exact hf⟩,hB.setCell (p:=⟨w.heap.size+1,0,none⟩) (by simp) _,hall⟩
 ·unfold Jf
  refine OwnFrom.and (Own.from (fun s A B row hs hg hr=>cell_kept hs hg hr) _) (OwnFrom.and (ownFrom_below (Nat.le_refl _) (by omega)) ?_)
  exact fun s A B row hs hg hr=>hs
 all_goals clear hsz
 case assign=>
  intro l x W K hK
  gi_wp2
  exact hK
 case body=>
  rintro l pre x W hx ⟨⟨hc,hf⟩,hB,hall⟩
  have hx':x.size≤4294967000:=hx
  have hno:pg x=false→Ph W0.heap.size
   (Je w)
   (Jf w) (pre++[x]) W Exit.ret {tmps:=#[],defers:=[]} (W.setCell ⟨w.heap.size,0,none⟩ (.bool false)):=fun h=>
   ⟨KeepsOthers.setCell _ _ _,World.cell?_setCell_same' _ _ _ (by rw[hc];rfl),hB.setCell (p:=⟨w.heap.size,0,none⟩) (Nat.le_refl _) _,by simp[Hid,h]⟩
  cases he:x.toList.isEmpty
  ·gi_wp2
   gi_loop [16] (fun i=>∃k:Nat,k≤x.size∧i=.int .i64 k∧Hid ((x.data.toList.take k).all qm=true)) (fun i=>x.size-(intOf i).toNat)
   case atStart=>exact⟨0,Nat.zero_le _,rfl,by simp[Hid]⟩
   case round=>
    obtain⟨k,hk,rfl,yg⟩:=hrel
    by_cases hlt:k<x.size
    ·by_cases h45:(x[k].toNat:Int)=45
     ·have aa4:((x[k].toNat:Int) != 45)=false:=by simp[h45]
      gi_wp2
      all_goals
       go_round
       case rel=>exact⟨k+1,by omega,by go_num,lL x k hlt yg.out (by simp[qm,h45])⟩
       case measure=>simp[intOf];omega
     ·have aa4:((x[k].toNat:Int) != 45)=true:=by simp[h45]
      gi_wp2
      all_goals first
       |(go_round
         case rel=>exact⟨k+1,by omega,by go_num,lL x k hlt yg.out (by simp[qm];omega)⟩
         case measure=>simp[intOf];omega)
       |exact hno (by rw[pg,vT x k hlt (by simp[qm];omega)];simp)
    ·gi_wp2
     refine⟨KeepsOthers.refl _,Below.refl _ _,⟨hc,hf⟩,hB,?_⟩
     have:pg x=true:=by rw[pg,vU x k (by omega) yg.out,←Lib.toList_data,he];rfl
     have h2:=hall.out
     simp[Hid,this];simpa using h2
  ·gi_wp2
   exact hno (by rw[pg,←Lib.toList_data,he];rfl)
 case done=>
  rintro D ys W hD hS ⟨⟨hc,hf⟩,hB,hall⟩ hK
  have hok:iL s=true:=by rw[PQ hz hS];exact hall.out
  have hD':w.heap.size≤D:=Nat.le_trans hB0.size hD
  gi_wp2
  have hK':=(KeepsOthers.setCell W ⟨w.heap.size,0,none⟩ (.bool true)).same D _ hK rfl
  refine⟨by simp,.inl ⟨_,_,rfl,run_takeDeferred hK',?_⟩⟩
  have hc5:=cell_kept (World.cell?_setCell_same' W ⟨w.heap.size,0,none⟩ (.bool true) (by rw[hc];rfl)) (grownBy_putObj' _ D (.deferred none)) (fun r e=>by cases e;exact⟨_,hK',rfl⟩)
  refine⟨.bool true,?_,by rw[hok],(hB.setCell (p:=⟨w.heap.size,0,none⟩) (Nat.le_refl _) _).trans (belowK_b (w:=w) (Nat.le_refl _) _ D _ _ hD' hK' rfl rfl)⟩
  simp[results,Tryz.f84,go_sem,hc5]
 case stop=>
  rintro D pre W hD ⟨ys,hS⟩ ⟨hc,hB,hall⟩ hK
  have hok:iL s=false:=by rw[PQ hz hS,List.all_append,hall.out];rfl
  have hD':w.heap.size≤D:=Nat.le_trans hB0.size hD
  gi_wp2
  refine⟨by simp,.inl ⟨_,_,rfl,run_takeDeferred hK,?_⟩⟩
  have hc5:=cell_kept hc (grownBy_putObj' _ D (.deferred none)) (fun r e=>by cases e;exact⟨_,hK,rfl⟩)
  refine⟨.bool false,?_,by rw[hok],hB.trans (belowK_b (w:=w) (Nat.le_refl _) _ D _ _ hD' hK rfl rfl)⟩
  simp[results,Tryz.f84,go_sem,hc5]
end Go.Proofs.YtibhckkjciflaaaGreatDoor
namespace Go.WW
def wu(l:List Bool):Int:=if l.all (fun b=>b)=true then -1 else(l.findIdx (fun b=>!b):Int)
theorem aa5{l:List Bool}(k:Nat)(h:k<l.length)(h1:(l.take k).all (fun b=>b)=true)(h2:l[k]=false):wu l=(k:Int):=by
 have hn:l.all (fun b=>b)=false:=by rw[List.all_eq_false];exact⟨l[k],List.getElem_mem h,by simp[h2]⟩
 rw[wu,hn]
 have:l.findIdx (fun b=>!b)=k:=by
  rw[List.findIdx_eq h]
  refine⟨by simp[h2],fun j hj=>?_⟩
  have:=List.all_eq_true.1 h1 (l[j]'(by omega)) (by rw[List.mem_take_iff_getElem];exact⟨j,by omega,rfl⟩)
  simpa using this
 simp[this]
theorem aa6{l:List Bool}(k:Nat)(h:l.length≤k)(h1:(l.take k).all (fun b=>b)=true):wu l=-1:=by
 rw[List.take_of_length_le h]at h1;rw[wu,h1];rfl
theorem aa7(l:List Bool):decide (0≤wu l)=!l.all (fun b=>b):=by
 unfold wu
 cases h:l.all (fun b=>b)
 ·simp
 ·simp
end Go.WW
namespace Go.Proofs.YtibhckkjciflaaaGreatDoor
open Go.RowKit Go.WW
theorem aa8(b o cap:Nat)(l:List Bool)(w:World)(hl:oZ w (some ⟨b,o,none⟩) l)(hn:l.length≤lim):Calls Tryz.prog 182 #[.slice (some ⟨b,o,none⟩) l.length cap,.bool false] w fun e w'=>e=.returned (.int .i64 (wu l))∧w=w':=by
 have hn':l.length≤4294967000:=hn
 go_enter Tryz.func182,Tryz.ntmps182
 go_wp2
 go_loop [8] (fun i=>∃k:Nat,k≤l.length∧i=.int .i64 k∧Hid ((l.take k).all (fun b=>b)=true)) (fun i=>l.length-(intOf i).toNat)
 case atStart=>exact⟨0,Nat.zero_le _,rfl,by simp[Hid]⟩
 case round=>
  obtain⟨k,hk,rfl,hall⟩:=hrel
  by_cases hlt:k<l.length
  ·have hc:=hl.at k hlt
   have hb:b<w.heap.size:=World.block_lt_of_cell? w _ hc
   cases hv:l[k]
   ·rw[hv]at hc
    have HN:=Lib.hid (aa5 k hlt hall.out hv)
    go_wp2
    go_ret
    exact⟨by rw[HN.out];rfl,rfl⟩
   ·rw[hv]at hc
    have HN:=Lib.hid (lM l k hlt hall.out hv)
    go_wp2
    go_round
    case rel=>exact⟨k+1,by omega,by go_num,HN.out⟩
    case measure=>simp[intOf];omega
  ·have HN:=Lib.hid (aa6 k (by omega) hall.out)
   go_wp2
   go_ret
   exact⟨by rw[HN.out];rfl,rfl⟩
theorem aa9(b o cap:Nat)(l:List Bool)(w:World)(hl:oZ w (some ⟨b,o,none⟩) l)(hn:l.length≤lim):Calls Tryz.prog 139 #[.slice (some ⟨b,o,none⟩) l.length cap,.bool false] w fun e w'=>e=.returned (.bool (!l.all (fun b=>b)))∧w=w':=by
 go_enter Tryz.func139,Tryz.ntmps139
 have HN:=Lib.hid (aa7 l)
 go_wp2_with (go_at_call 182;refine(aa8 _ _ _ _ _ hl hn).mono ?_;rintro e w' ⟨rfl,rfl⟩)
 all_goals go_ret
 all_goals exact⟨by rw[←HN.out];rfl,rfl⟩
theorem aba(b o cap:Nat)(l:List Bool)(w:World)(hl:oZ w (some ⟨b,o,none⟩) l)(hn:l.length≤lim):Calls Tryz.prog 83 #[.slice (some ⟨b,o,none⟩) l.length cap] w fun e w'=>e=.returned (.bool (l.all (fun b=>b)))∧w=w':=by
 go_enter Tryz.func83,Tryz.ntmps83
 cases h:l.all (fun b=>b)
 iterate 2
  ·go_wp2_with (go_at_call 139;refine(aa9 _ _ _ _ _ hl hn).mono ?_;rintro e w' ⟨rfl,rfl⟩;rw[h])
   go_ret
   exact⟨rfl,rfl⟩
end Go.Proofs.YtibhckkjciflaaaGreatDoor
namespace Go.WW
open Go.RowKit
theorem abb{w:World}{b:Nat}(x y z:Bool)(h:w.cell? ⟨b,0,none⟩=some (.bool x))(h1:w.cell? ⟨b,1,none⟩=some (.bool y))(h2:w.cell? ⟨b,2,none⟩=some (.bool z)):oZ w (some ⟨b,0,none⟩) [x,y,z]:=by
 refine⟨by simp[lim],fun i hi=>?_⟩
 match i,hi with
 |0,_=>exact⟨_,_,_,rfl,h,x,rfl,rfl⟩
 |1,_=>exact⟨_,_,_,rfl,h1,y,rfl,rfl⟩
 |2,_=>exact⟨_,_,_,rfl,h2,z,rfl,rfl⟩
theorem abd{p:aG}(h:([decide (1≤(p.parts.length:Int)),decide ((p.parts.length:Int)≤4),iL p.aQ].all fun b=>b)=false):aY p=false:=by
 simp only[List.all_cons,List.all_nil,Bool.and_true]at h
 rw[aY,Bool.and_assoc,Bool.and_assoc,h];simp
theorem abe{p:aG}(h:([decide (1≤(p.parts.length:Int)),decide ((p.parts.length:Int)≤4),iL p.aQ].all fun b=>b)=true):p.parts.all eQ=true→aY p=true:=by
 intro h2
 simp only[List.all_cons,List.all_nil,Bool.and_true]at h
 rw[aY,Bool.and_assoc,Bool.and_assoc,h,h2];rfl
theorem abf{p:aG}(h:([decide (1≤(p.parts.length:Int)),decide ((p.parts.length:Int)≤4),iL p.aQ].all fun b=>b)=true):0<p.parts.length:=by
 simp at h;omega
end Go.WW
namespace Go.Proofs.YtibhckkjciflaaaGreatDoor
open Go.RowKit Go.WW
theorem wz(s:Sl)(p:aG)(w:World)(hp:gu w s p):Calls Tryz.prog 30 #[.agg (aJ s p)] w fun e w'=>e=.returned (.bool (aY p))∧Below w.heap.size w w':=by
 have hl:p.parts.length≤4294967000:=hp.1.1
 go_enter Tryz.func30,Tryz.ntmps30
 go_wp2_with fail
 refine jr (Below.refl _ (w.alloc (.cells (aJ s p) 25))) (by kernel_rfl) (by kernel_rfl) ?_
 intro w1 hb1
 obtain⟨hc,hf,hr⟩:=aK hb1
 have hsz:w.heap.size<w1.heap.size:=by have:=hb1.size;simp at this;omega
 repeat (first|(refine ah (by rfl) ?_)|(refine ai (by rfl) (by rfl) (fun K hK=>?_);go_big_quiet_op;refine hK _ ?_;clear hK K))
 refine au (by rfl) (by rfl) (fun K hK=>?_)
 go_wp2_with fail
 refine(aa3 _ _ hp.2).mono ?_
 rintro e w2 ⟨rfl,hb2⟩
 have hb3:=af hb1 hb2
 go_wp2_with fail
 refine hK _ _ (ak hb3) ?_
 clear hK K
 clear hc hf hr hsz
 obtain⟨hc,hf,hr⟩:=aK hb3
 have hsz:w.heap.size<w2.heap.size:=by have:=hb3.size;simp at this;omega
 repeat (first|(refine ah (by rfl) ?_)|(refine ai (by rfl) (by rfl) (fun K hK=>?_);go_big_quiet_op;refine hK _ ?_;clear hK K))
 refine au (by rfl) (by rfl) (fun K hK=>?_)
 go_wp2_with fail
 have hb4:=az hb3 (.cells #[.bool (decide (1≤(p.parts.length:Int))),.bool (decide ((p.parts.length:Int)≤4)),.bool (iL p.aQ)] 4)
 refine hK _ _ (ak hb4) ?_
 clear hK K
 repeat (first|(refine ah (by rfl) ?_)|(refine ai (by rfl) (by rfl) (fun K hK=>?_);go_big_quiet_op;refine hK _ ?_;clear hK K))
 refine au (by rfl) (by rfl) (fun K hK=>?_)
 go_wp2_with fail
 refine(aba _ _ _ [decide (1≤(p.parts.length:Int)),decide ((p.parts.length:Int)≤4),iL p.aQ] _ (abb _ _ _ (by simp[go_sem]) (by simp[go_sem]) (by simp[go_sem])) (by simp[lim])).mono ?_
 rintro e w5 ⟨rfl,rfl⟩
 obtain⟨c,h3⟩:∃c,([decide (1≤(p.parts.length:Int)),decide ((p.parts.length:Int)≤4),iL p.aQ].all fun b=>b)=c:=⟨_,rfl⟩
 rw[h3]
 go_wp2_with fail
 refine hK _ _ (ak hb4) ?_
 clear hK K
 repeat (first|(refine ah (by rfl) ?_)|(refine ai (by rfl) (by rfl) (fun K hK=>?_);go_big_quiet_op;refine hK _ ?_;clear hK K))
 refine iH ?_
 have hb5:Below w.heap.size w (w2.alloc (.cells #[.bool (decide (1≤(p.parts.length:Int))),.bool (decide ((p.parts.length:Int)≤4)),.bool (iL p.aQ)] 4)):=((Below.refl _ w).alloc (Nat.le_refl _) _).trans (hb4.mono (by simp))
 cases c
 ·have HN:=Lib.hid (abd h3)
  go_wp2_with fail
  go_ret
  exact⟨by rw[HN.out];rfl,hb5⟩
 simp only[Bool.not_true]
 have HH:=Lib.hid (abe h3)
 obtain⟨sa,scap⟩:=s
 obtain⟨b,o,ha,-,-⟩:=hp.1.get 0 (abf h3)
 dsimp only at ha
 subst ha
 clear h3 hc hf hr hsz
 obtain⟨hc,hf,hr⟩:=aK hb4
 have hsz:w.heap.size<(w2.alloc (.cells #[.bool (decide (1≤(p.parts.length:Int))),.bool (decide ((p.parts.length:Int)≤4)),.bool (iL p.aQ)] 4)).heap.size:=by have:=hb4.size;simp at this ⊢;omega
 have hp5:=hp.later hb5
 generalize w2.alloc (.cells #[.bool (decide (1≤(p.parts.length:Int))),.bool (decide ((p.parts.length:Int)≤4)),.bool (iL p.aQ)] 4)=w6 at *
 clear hb1 hb2 hb3 hb4
 go_wp2_with fail
 go_loop [22] (fun i=>∃k:Nat,k≤p.parts.length∧i=.int .i64 k∧Hid ((p.parts.take k).all eQ=true)) (fun i=>p.parts.length-(intOf i).toNat)
 case atStart=>exact⟨0,Nat.zero_le _,rfl,by simp[Hid]⟩
 case round=>
  obtain⟨k,hk,rfl,hall⟩:=hrel
  by_cases hlt:k<p.parts.length
  ·obtain⟨hcc,hss⟩:=hp5.1.at k hlt
   have hbb:b<w6.heap.size:=World.block_lt_of_cell? w6 _ hcc
   cases hpart:eQ p.parts[k]
   ·have HN:=Lib.hid (OT k hlt hpart)
    go_wp2_with (go_at_call 85;refine(OO _ _ (le_max hss)).mono ?_;rintro e w' ⟨rfl,rfl⟩;rw[hpart])
    go_ret
    exact⟨by rw[HN.out];rfl,hb5⟩
   ·have HN:=Lib.hid (lM p.parts k hlt hall.out hpart)
    go_wp2_with (go_at_call 85;refine(OO _ _ (le_max hss)).mono ?_;rintro e w' ⟨rfl,rfl⟩;rw[hpart])
    go_round
    case rel=>exact⟨k+1,by omega,by go_num,HN.out⟩
    case measure=>simp[intOf];omega
  ·have HN:=Lib.hid (HH.out (o7 p.parts k (by omega) hall.out))
   go_wp2_with fail
   go_ret
   exact⟨by rw[HN.out];rfl,hb5⟩
end Go.Proofs.YtibhckkjciflaaaGreatDoor
namespace Go.WW
def countOf(d:Entry)(p:aO)(now:Int):Int:=
 if 0<p.fails∧p.fails≤d.fails then(if 0<p.lock∧d.eP+p.lock≤now then 0 else d.fails)
 else if 0<p.window∧d.eP+p.window<now then 0 else d.fails
def amd(d:Entry)(p:aO)(now:Int):Bool:=decide (0<p.fails)&&decide (p.fails≤countOf d p now)
def ame(d:Entry)(p:aO):Int:=if p.lock=0 then 0 else min (d.eP+p.lock) 1099511627776
structure Small(d:Entry)(p:aO):Prop where
 l0:0≤d.eP
 l1:d.eP≤1099511627776
 f0:0≤d.fails
 f1:d.fails≤65535
 w0:0≤p.window
 w1:p.window≤1099511627776
 k0:0≤p.lock
 k1:p.lock≤1099511627776
 m0:0≤p.fails
end Go.WW
namespace Go.Proofs.YtibhckkjciflaaaGreatDoor
open Go.RowKit Go.WW
end Go.Proofs.YtibhckkjciflaaaGreatDoor
namespace Go.WW
def amf(d:Entry)(p:aO)(now:Int):Bool:=fV d&&eX p&&Zr now
end Go.WW
namespace Go.Proofs.YtibhckkjciflaaaGreatDoor
open Go.RowKit Go.WW
end Go.Proofs.YtibhckkjciflaaaGreatDoor
namespace Go.WW
open Go.RowKit
theorem Jg{P:Program}{w:World}{mty kt et:TypeId}{d:TypeDesc}{r clock:Nat}{es:Array MapEntry}{k:Value}(v:Value)(hm:P.underlying mty=some (.map kt et))(hd:P.underlying kt=some d)(hk:MapKept.IsKey d k)
  (hf:Instr.findNow d k es.toList 0=some none) (hb:w.heap[r]?=some (.map es clock)) :
  (Instr.mapUpdate mty (.map (some r)) k v).run P w=.ok () (w.putObj r (.map (es.push {key:=k,val:=v,born:=clock}) (clock+1))):=by
 have hc:(Instr.checkKey false 10000 kt k).run P w=.ok () w:=MapKept.run_checkKey hd hk false 9999
 simp[Instr.mapUpdate,run_underlying hm,MapKept.run_getObj_map hb,hc,MapKept.run_findKey hd hf,MapKept.run_setObj_map _ hb,Result.andThen,World.putObj]
end Go.WW
namespace Go.WW
end Go.WW
namespace Go.Proofs.YtibhckkjciflaaaGreatDoor
open Go.RowKit Go.WW
theorem PR(v most:Int)(B:Nat)(w:World)(h:w.cell? ⟨B,0,none⟩=some (.int .i64 most)):Calls Tryz.prog 75 #[.int .i64 v,.pointer (some ⟨B,0,none⟩)] w fun e w'=>e=.returned (.bool (ag v 0 most))∧w=w':=by
 go_enter Tryz.func75,Tryz.ntmps75
 go_wp2_with (go_at_call 76;refine(tY _ _ _ _).mono ?_;rintro e w' ⟨rfl,rfl⟩)
 go_ret
 exact⟨rfl,rfl⟩
theorem abh(b o cap B:Nat)(most:Int)(l:List Int)(w:World)(hl:oI w (some ⟨b,o,none⟩) l)(hB:w.cell? ⟨B,0,none⟩=some (.int .i64 most)) :
  Calls Tryz.prog 74 #[.slice (some ⟨b,o,none⟩) l.length cap,.int .i64 l.length,.func (.func 75) #[] #[.pointer (some ⟨B,0,none⟩)]] w fun e w'=>e=.returned (.bool (l.all (fun v=>ag v 0 most)))∧w=w':=by
 have hn':l.length≤4294967000:=hl.1
 go_enter Tryz.func74,Tryz.ntmps74
 go_wp2_with fail
 go_loop [15] (fun i=>∃k:Nat,k≤l.length∧i=.int .i64 k∧Hid ((l.take k).all (fun v=>ag v 0 most)=true)) (fun i=>l.length-(intOf i).toNat)
 case atStart=>exact⟨0,Nat.zero_le _,rfl,by simp[Hid]⟩
 case round=>
  obtain⟨k,hk,rfl,hall⟩:=hrel
  by_cases hlt:k<l.length
  ·have hc:=hl.at k hlt
   have hb:b<w.heap.size:=World.block_lt_of_cell? w _ hc
   cases hv:ag l[k] 0 most
   ·have HN:=Lib.hid (o6 (p:=fun v=>ag v 0 most) l k hlt hv)
    go_wp2_with (go_at_call 75;refine(PR _ _ _ _ hB).mono ?_;rintro e w' ⟨rfl,rfl⟩;rw[hv])
    go_ret
    exact⟨by rw[HN.out];rfl,rfl⟩
   ·have HN:=Lib.hid (lM (p:=fun v=>ag v 0 most) l k hlt hall.out hv)
    go_wp2_with (go_at_call 75;refine(PR _ _ _ _ hB).mono ?_;rintro e w' ⟨rfl,rfl⟩;rw[hv])
    go_round
    case rel=>exact⟨k+1,by omega,by go_num,HN.out⟩
    case measure=>simp[intOf];omega
  ·have HN:=Lib.hid (o7 (p:=fun v=>ag v 0 most) l k (by omega) hall.out)
   go_wp2_with fail
   go_ret
   exact⟨by rw[HN.out];rfl,rfl⟩
theorem Eh(b o cap:Nat)(most:Int)(l:List Int)(w:World)(hl:oI w (some ⟨b,o,none⟩) l) :
  Calls Tryz.prog 73 #[.int .i64 most,.slice (some ⟨b,o,none⟩) l.length cap] w fun e w'=>e=.returned (.bool (l.all (fun v=>ag v 0 most)))∧Below w.heap.size w w':=by
 have hB:Below w.heap.size w (w.alloc (.cells #[.int .i64 most] 3)):=(Below.refl _ _).alloc (Nat.le_refl _) _
 have hl':=hl.later hB
 go_enter Tryz.func73,Tryz.ntmps73
 go_wp2_with (go_at_call 74;refine(abh _ _ _ _ most _ _ hl' (by simp[go_sem])).mono ?_;rintro e w' ⟨rfl,rfl⟩)
 go_ret
 exact⟨rfl,hB⟩
end Go.Proofs.YtibhckkjciflaaaGreatDoor
namespace Go.WW
def nU(c:UInt8):Bool:=(c.toNat:Int) == 47 || (c.toNat:Int) == 64 || (c.toNat:Int) == 92
def jU(c:UInt8):List UInt8:=if nU c then [92,c]else [c]
def esc(l:List UInt8):List UInt8:=l.flatMap jU
def jV(l:List ByteArray):List UInt8:=l.flatMap fun q=>47::esc q.data.toList
def iC:List ByteArray→List UInt8
 | []=>[]
 |p::ps=>esc p.data.toList++jV ps
def uk(p:aG):List UInt8:=iC p.parts++64::p.aQ.data.toList
def textOf(p:aG):ByteArray:=⟨(uk p).toArray⟩
theorem Jh:esc []=[]:=rfl
theorem yx(c:UInt8)(l:List UInt8):esc (c::l)=jU c++esc l:=rfl
theorem um(l:List UInt8)(c:UInt8):esc (l++[c])=esc l++jU c:=by simp[esc]
theorem abj(l:List ByteArray)(q:ByteArray):iC (l++[q])=(if l.length=0 then []else iC l++[47])++esc q.data.toList:=by
 cases l with
 |nil=>simp[iC,jV]
 |cons p ps=>simp[iC,jV]
def Ei:List UInt8→Prop
 | []=>False
 |c::_=>c=47∨c=64
theorem PS:nU 47=true:=by decide
theorem PT:nU 64=true:=by decide
theorem PU:nU 92=true:=by decide
theorem Ej:∀(p q x y:List UInt8),Ei x→Ei y→esc p++x=esc q++y→p=q∧x=y
 | [],[],x,y,_,_,h=>⟨rfl,by simpa[esc]using h⟩
 | [],d::q,x,y,hx,_,h=>by
  exfalso
  rw[Jh,List.nil_append,yx]at h
  cases x with
  |nil=>exact hx
  |cons a x=>
   unfold jU at h
   split at h
   ·simp only[List.cons_append,List.cons.injEq]at h
    rcases hx with e|e<;>rw[e]at h<;>simp at h
   ·rename_i hs
    simp only[List.cons_append,List.cons.injEq]at h
    rcases hx with e|e<;>rw[←h.1,e]at hs
    ·exact hs PS
    ·exact hs PT
 |c::p,[],x,y,hx,hy,h=>by
  exfalso
  rw[Jh,List.nil_append,yx]at h
  cases y with
  |nil=>exact hy
  |cons a y=>
   unfold jU at h
   split at h
   ·simp only[List.cons_append,List.cons.injEq]at h
    rcases hy with e|e<;>rw[e]at h<;>simp at h
   ·rename_i hs
    simp only[List.cons_append,List.cons.injEq]at h
    rcases hy with e|e<;>rw[h.1,e]at hs
    ·exact hs PS
    ·exact hs PT
 |c::p,d::q,x,y,hx,hy,h=>by
  rw[yx,yx]at h
  unfold jU at h
  split at h<;>split at h
  ·simp only[List.cons_append,List.cons.injEq,List.nil_append,true_and]at h
   obtain⟨rfl,h⟩:=h
   obtain⟨rfl,rfl⟩:=Ej p q x y hx hy h
   exact⟨rfl,rfl⟩
  ·rename_i h1 h2
   simp only[List.cons_append,List.cons.injEq]at h
   rw[←h.1]at h2
   exact absurd PU h2
  ·rename_i h1 h2
   simp only[List.cons_append,List.cons.injEq]at h
   rw[h.1]at h1
   exact absurd PU h1
  ·simp only[List.cons_append,List.cons.injEq,List.nil_append]at h
   obtain⟨rfl,h⟩:=h
   obtain⟨rfl,rfl⟩:=Ej p q x y hx hy h
   exact⟨rfl,rfl⟩
theorem Em(ps:List ByteArray)(r:List UInt8):Ei (jV ps++64::r):=by
 cases ps<;>simp[jV,Ei]
theorem Ji{a b:ByteArray}(h:a.data.toList=b.data.toList):a=b:=by
 cases a;cases b;congr;exact Array.ext' h
theorem PV:∀(ps qs:List ByteArray) (r s:List UInt8),jV ps++64::r=jV qs++64::s→ps=qs∧r=s
 | [],[],r,s,h=>⟨rfl,by simpa[jV]using h⟩
 | [],q::qs,r,s,h=>by exfalso;simp[jV]at h
 |p::ps,[],r,s,h=>by exfalso;simp[jV]at h
 |p::ps,q::qs,r,s,h=>by
  have e:∀(p:ByteArray) ps r,jV (p::ps)++64::r=47::(esc p.data.toList++(jV ps++64::r)):=fun p ps r=>by simp[jV]
  rw[e,e]at h
  simp only[List.cons.injEq,true_and]at h
  obtain⟨h1,h2⟩:=Ej _ _ _ _ (Em ps r) (Em qs s) h
  obtain⟨rfl,rfl⟩:=PV ps qs r s h2
  exact⟨by rw[Ji h1],rfl⟩
theorem abk{p q:aG}(hp:p.parts≠[])(hq:q.parts≠[])(h:uk p=uk q):p.parts=q.parts∧p.aQ=q.aQ:=by
 obtain⟨pp,pr⟩:=p
 obtain⟨qp,qr⟩:=q
 cases pp with
 |nil=>exact absurd rfl hp
 |cons a ps=>
  cases qp with
  |nil=>exact absurd rfl hq
  |cons b qs=>
   simp only[uk,iC,List.append_assoc]at h
   obtain⟨h1,h2⟩:=Ej _ _ _ _ (Em ps _) (Em qs _) h
   obtain⟨rfl,h3⟩:=PV _ _ _ _ h2
   exact⟨by rw[Ji h1],Ji h3⟩
theorem abl{p q:aG}(hp:p.parts≠[])(hq:q.parts≠[]):textOf p=textOf q↔bH p q=true:=by
 simp only[bH,Bool.and_eq_true,decide_eq_true_eq]
 constructor
 ·intro h
  have:uk p=uk q:=by
   have:=congrArg (fun b:ByteArray=>b.data.toList) h
   simpa[textOf]using this
  exact(abk hp hq this).symm
 ·rintro⟨h1,h2⟩
  unfold textOf uk;rw[h1,h2]
theorem yz{p:aG}(h:aY p=true):p.parts≠[]:=by
 rintro e
 simp[aY,e]at h
def yA(acc:List ByteArray)(s:ByteArray):Bool:=acc.any fun x=>decide (x=s)
theorem En(acc:List ByteArray)(s:ByteArray):yA acc s=true↔s∈acc:=by simp[yA]
def addKey(acc:List ByteArray)(s:ByteArray):List ByteArray:=if yA acc s then acc else acc++[s]
def keysOf(l:List ByteArray):List ByteArray:=l.foldl addKey []
theorem abm(l:List ByteArray)(s:ByteArray):keysOf (l++[s])=addKey (keysOf l) s:=by simp[keysOf]
theorem abn(acc:List ByteArray)(s:ByteArray):(addKey acc s).length≤acc.length+1:=by unfold addKey;split<;>simp
theorem Jj:∀(l acc:List ByteArray),(l.foldl addKey acc).length≤acc.length+l.length
 | [],acc=>by simp
 |s::l,acc=>by
  rw[List.foldl_cons,List.length_cons]
  have:=Jj l (addKey acc s)
  have:=abn acc s
  omega
theorem PW:∀(l acc:List ByteArray),acc.Nodup→((l.foldl addKey acc).length=acc.length+l.length↔(acc++l).Nodup)
 | [],acc,h=>by simp[h]
 |s::l,acc,h=>by
  rw[List.foldl_cons,List.length_cons]
  by_cases hs:s∈acc
  ·have e:addKey acc s=acc:=by rw[addKey,(En acc s).2 hs];rfl
   rw[e]
   have:=Jj l acc
   constructor
   ·intro h';omega
   ·intro h'
    exfalso
    rw[List.nodup_append]at h'
    exact h'.2.2 s hs s (by simp) rfl
  ·have e:addKey acc s=acc++[s]:=by rw[addKey,if_neg (fun h'=>hs ((En acc s).1 h'))]
   rw[e]
   have hn:(acc++[s]).Nodup:=by
    rw[List.nodup_append]
    refine⟨h,by simp,?_⟩
    intro a ha b hb
    simp at hb;subst hb
    rintro rfl;exact hs ha
   have ih:=PW l (acc++[s]) hn
   rw[List.length_append,List.length_singleton,List.append_assoc,List.singleton_append]at ih
   rw[←ih]
   omega
theorem abo(l:List ByteArray):(keysOf l).length≤l.length:=by have:=Jj l [];simpa[keysOf]using this
def qY(l:List aG):Bool:=decide (((keysOf (l.map textOf)).length:Int)=(l.length:Int))
theorem Jk(l:List aG):qY l=true↔(l.map textOf).Nodup:=by
 have:=PW (l.map textOf) [] List.nodup_nil
 simp only[List.length_nil,List.length_map,Nat.zero_add,List.nil_append]at this
 rw[←this,qY,decide_eq_true_eq,keysOf]
 omega
theorem AO{p q:aG}:bH p q=true↔p=q:=by
 obtain⟨a,b⟩:=p;obtain⟨c,d⟩:=q
 simp only[bH,Bool.and_eq_true,decide_eq_true_eq,aG.mk.injEq]
 exact And.comm
theorem Eo{l:List aG}(h:l.all aY=true):(l.map textOf).Nodup↔l.Nodup:=by
 induction l with
 |nil=>simp
 |cons p l ih=>
  simp only[List.all_cons,Bool.and_eq_true]at h
  rw[List.map_cons,List.nodup_cons,List.nodup_cons,ih h.2]
  have:textOf p∈l.map textOf↔p∈l:=by
   rw[List.mem_map]
   constructor
   ·rintro⟨q,hq,e⟩
    have hq':aY q=true:=List.all_eq_true.1 h.2 q hq
    rw[←AO.1 ((abl (yz hq') (yz h.1)).1 e)];exact hq
   ·intro hp;exact⟨p,hp,rfl⟩
  rw[this]
theorem PX(l:List aG):vW l=true↔l.all aY=true∧l.Nodup:=by
 simp only[vW,List.all_eq_true,List.mem_range]
 constructor
 ·intro h
  refine⟨fun p hp=>?_,?_⟩
  ·obtain⟨i,hi,rfl⟩:=List.mem_iff_getElem.1 hp
   have:=h i hi
   simp only[mM,List.getElem?_eq_getElem hi,Bool.and_eq_true]at this
   exact this.1
  ·rw[List.nodup_iff_pairwise_ne,List.pairwise_iff_getElem]
   intro i j hi hj hij e
   have:=h j hj
   simp only[mM,List.getElem?_eq_getElem hj,Bool.and_eq_true,List.all_eq_true]at this
   have h2:=this.2 l[i] (by rw[List.mem_iff_getElem];exact⟨i,by simp;omega,by simp⟩)
   rw[AO.2 e]at h2
   simp at h2
 ·rintro⟨h1,h2⟩ i hi
  simp only[mM,List.getElem?_eq_getElem hi,Bool.and_eq_true,List.all_eq_true]
  refine⟨h1 _ (List.getElem_mem hi),fun q hq=>?_⟩
  obtain⟨k,hk,rfl⟩:=List.mem_iff_getElem.1 hq
  rw[List.nodup_iff_pairwise_ne,List.pairwise_iff_getElem]at h2
  simp only[List.length_take]at hk
  have hne:=h2 k i (by omega) hi (by omega)
  rw[List.getElem_take]
  cases hs:bH l[k] l[i]with
  |false=>rfl
  |true=>exact absurd (AO.1 hs) hne
theorem abp(l:List aG):(decide ((l.length:Int)≤16)&&l.all aY&&qY l)=different l:=by
 rw[Bool.eq_iff_iff]
 simp only[different,Bool.and_eq_true]
 rw[PX]
 constructor
 ·rintro⟨⟨h1,h2⟩,h3⟩
  exact⟨⟨h2,(Eo h2).1 ((Jk l).1 h3)⟩,h1⟩
 ·rintro⟨⟨h2,h3⟩,h1⟩
  exact⟨⟨h1,h2⟩,(Jk l).2 ((Eo h2).2 h3)⟩
def pq(n a:aG):Bool:=aY a&&decide (a.aQ=n.aQ)
def pz(d:Entry):Bool:=aY d.name&&(decide ((d.aliases.length:Int)≤16)&&d.aliases.all (pq d.name))&&qY (d.name::d.aliases)
theorem abq(d:Entry):pz d=(aY d.name&&different d.aliases&&d.aliases.all (o8 d.name)):=by
 rw[Bool.eq_iff_iff]
 simp only[pz,different,Bool.and_eq_true]
 rw[PX,Jk]
 have hfit:d.aliases.all (pq d.name)=true↔d.aliases.all aY=true∧∀a∈d.aliases,a.aQ=d.name.aQ:=by
  simp only[List.all_eq_true,pq,Bool.and_eq_true,decide_eq_true_eq]
  exact⟨fun h=>⟨fun a ha=>(h a ha).1,fun a ha=>(h a ha).2⟩,fun h a ha=>⟨h.1 a ha,h.2 a ha⟩⟩
 have hal:d.aliases.all (o8 d.name)=true↔(∀a∈d.aliases,a.aQ=d.name.aQ)∧d.name∉d.aliases:=by
  simp only[List.all_eq_true,o8,Bool.and_eq_true,decide_eq_true_eq,Bool.not_eq_true']
  constructor
  ·intro h
   refine⟨fun a ha=>(h a ha).1,fun hm=>?_⟩
   have:=(h _ hm).2
   rw[AO.2 rfl]at this;cases this
  ·rintro⟨h1,h2⟩ a ha
   refine⟨h1 a ha,?_⟩
   cases hs:bH a d.name with
   |false=>rfl
   |true=>rw[AO.1 hs]at ha;exact absurd ha h2
 rw[hfit,hal]
 constructor
 ·rintro⟨⟨h1,h2,h3,h4⟩,h5⟩
  have h6:=(Eo (l:=d.name::d.aliases) (by simp only[List.all_cons,h1,h3,Bool.and_true])).1 h5
  rw[List.nodup_cons]at h6
  exact⟨⟨h1,⟨h3,h6.2⟩,h2⟩,h4,h6.1⟩
 ·rintro⟨⟨h1,⟨h3,h7⟩,h2⟩,h4,h6⟩
  exact⟨⟨h1,h2,h3,h4⟩,(Eo (l:=d.name::d.aliases) (by simp only[List.all_cons,h1,h3,Bool.and_true])).2 (List.nodup_cons.2 ⟨h6,h7⟩)⟩
end Go.WW
namespace Go.WW
open Go.RowKit
def gV(l:List UInt8):List (Array Value):=l.map fun c=>#[.int .u8 c.toNat]
theorem abr(l:List UInt8)(c:UInt8):gV l++[#[.int .u8 c.toNat]]=gV (l++[c]):=by simp[gV]
theorem iQ(l:List UInt8):(gV l).length=l.length:=by simp[gV]
theorem Ep(l:List UInt8):(esc l).length≤2*l.length:=by
 induction l with
 |nil=>simp[esc]
 |cons c l ih=>
   rw[yx,List.length_append,List.length_cons];have:(jU c).length≤2:=by unfold jU;split<;>simp
   omega
theorem abt{l:List ByteArray}(h:∀s∈l,s.size≤32):(jV l).length≤65*l.length:=by
 induction l with
 |nil=>simp[jV]
 |cons s l ih=>
  have e:jV (s::l)=47::esc s.data.toList++jV l:=by simp[jV]
  have h1:=h s (by simp)
  have h2:=Ep s.data.toList
  have h3:=ih (fun x hx=>h x (by simp[hx]))
  have h4:s.data.toList.length=s.size:=by simp
  rw[e,List.length_append,List.length_cons,List.length_cons]
  omega
theorem PY{l:List ByteArray}(h:∀s∈l,s.size≤32):(iC l).length≤65*l.length:=by
 cases l with
 |nil=>simp[iC]
 |cons s l=>
  have h1:=h s (by simp)
  have h2:=Ep s.data.toList
  have h3:=abt (l:=l) (fun x hx=>h x (by simp[hx]))
  have h4:s.data.toList.length=s.size:=by simp
  rw[iC,List.length_append,List.length_cons]
  omega
theorem abu{p:aG}(h:aY p=true):p.parts.length≤4∧(∀s∈p.parts,s.size≤32)∧p.aQ.size≤32:=by
 simp only[aY,Bool.and_eq_true,List.all_eq_true,decide_eq_true_eq]at h
 refine⟨by omega,fun s hs=>?_,?_⟩
 ·have:=h.1.1.1 s hs
  simp only[eQ,sized,Bool.and_eq_true,decide_eq_true_eq]at this
  omega
 ·have:=h.2
  simp only[iL,sized,Bool.and_eq_true,decide_eq_true_eq]at this
  omega
theorem take_snoc'(s:ByteArray)(j:Nat)(h:j<s.size):s.data.toList.take (j+1)=s.data.toList.take j++[s[j]]:=by
 rw[List.take_succ_eq_append_getElem (by simpa using h)];rfl
end Go.WW
namespace Go.Proofs.YtibhckkjciflaaaGreatDoor
open Go.RowKit Go.WW
theorem Es(c:UInt8)(w:World):Calls Tryz.prog 207 #[.int .u8 c.toNat] w fun e w'=>e=.returned (.bool (nU c))∧w=w':=by
 go_enter Tryz.func207,Tryz.ntmps207
 cases c1:((c.toNat:Int) == 47)
 ·cases c2:((c.toNat:Int) == 64)
  ·have HN:=Lib.hid (show nU c=((c.toNat:Int) == 92) by rw[nU,c1,c2];rfl)
   go_wp2_with fail
   go_ret
   exact⟨by rw[HN.out];rfl,rfl⟩
  ·have HN:=Lib.hid (show nU c=true by rw[nU,c1,c2];rfl)
   go_wp2_with fail
   go_ret
   exact⟨by rw[HN.out];rfl,rfl⟩
 ·have HN:=Lib.hid (show nU c=true by rw[nU,c1];rfl)
  go_wp2_with fail
  go_ret
  exact⟨by rw[HN.out];rfl,rfl⟩
theorem gy:ik Tryz.prog 41 5 1 1:=ik.of Tryz.underlying41 (by kernel_rfl)
end Go.Proofs.YtibhckkjciflaaaGreatDoor
namespace Go.WW
open Go.RowKit
theorem Own.empty(w:World)(e:TypeId)(k:Nat):Own (w.alloc (.cells #[] e)) w.heap.size e k ⟨some ⟨w.heap.size,0,none⟩,0⟩ []:=
 ⟨World.ownsRow_made w #[] 0 (Nat.le_refl _) (by unfold maxLen;omega) (by simp),by simp⟩
theorem Own.fresh{w w':World}{base:Nat}{e:TypeId}{k:Nat}{s:Sl}{rows:List (Array Value)}(h:Own w base e k s rows)(hw:∀j,fresh base w j→w'.heap[j]?=w.heap[j]?):Own w' base e k s rows:=
 h.kept fun _ hg=>hw _ (h.base hg)
def amg(w:World)(l:List ByteArray)(e:Ending)(w':World):Prop:=
 ∃s:Sl,e=.returned (.slice s.a l.length s.cap)∧Below w.heap.size w w'∧bg w' (fresh w.heap.size w') (fun x=>lK x s.a l)
def AP(w:World)(l:List UInt8)(e:Ending)(w':World):Prop:=
 ∃s:Sl,e=.returned (.slice s.a l.length s.cap)∧Below w.heap.size w w'∧bg w' (fresh w.heap.size w') (fun x=>BytesAt x s.a l)
theorem abv{l:List ByteArray}(i:Nat)(v:Value)(h:∃s,l[i]?=some s∧v=.string s∧s.size≤lim):v.oneCell'=true:=by obtain⟨s,_,rfl,_⟩:=h;rfl
theorem Jl{l:List UInt8}(i:Nat)(v:Value)(h:∃c,l[i]?=some c∧v=.int .u8 c.toNat):v.oneCell'=true:=by obtain⟨s,_,rfl⟩:=h;rfl
theorem PZ{w w':World}{e:TypeId}{s:Sl}{rows:List (Array Value)}{l:List UInt8}(h:Own w' w.heap.size e 1 s rows)(hl:rows.length=l.length)(hn:l.length≤lim)(hb:Below w.heap.size w w')
  (hR:∀i (hi:i<rows.length),∃v,rows[i]=#[v]∧∃c,l[i]?=some c∧v=.int .u8 c.toNat):AP w l (.returned (.slice s.a l.length s.cap)) w':=
 ⟨s,rfl,hb,fun _ hx=>eu.lQ (h.fresh hx) hl hn hR⟩
theorem eu.none{w:World}{n:Nat}{R:Nat→Value→Prop}(h:eu w none n R):n=0:=by
 rcases h.addr with h|⟨b,o,h,_⟩
 ·exact h
 ·cases h
theorem eF.later{w w':World}{k:Nat}{A:Option Addr}{rows:List (Array Value)}(h:eF w k A rows)(hb:Below w.heap.size w w'):eF w' k A rows:=
 ⟨h.size,h.one,fun i hi=>by obtain⟨b,o,h1,h2⟩:=h.at_ i hi;exact⟨b,o,h1,by rw[tJ (hb.block b (kT h2))];exact h2⟩⟩
end Go.WW
namespace Go.Proofs.YtibhckkjciflaaaGreatDoor
open Go.RowKit Go.WW
theorem abw(cap:Nat)(w:World):(binOp .eql 23 (.slice none 0 cap) (.slice none 0 0)).run Tryz.prog w=.ok (.bool true) w:=by kernel_rfl
theorem abx(ad:Addr)(n cap:Nat)(w:World):(binOp .eql 23 (.slice (some ad) n cap) (.slice none 0 0)).run Tryz.prog w=.ok (.bool false) w:=by kernel_rfl
theorem aby(cap:Nat)(w:World):(binOp .eql 41 (.slice none 0 cap) (.slice none 0 0)).run Tryz.prog w=.ok (.bool true) w:=by kernel_rfl
theorem abz(ad:Addr)(n cap:Nat)(w:World):(binOp .eql 41 (.slice (some ad) n cap) (.slice none 0 0)).run Tryz.prog w=.ok (.bool false) w:=by kernel_rfl
attribute [go_sem] abw abx aby abz
theorem abA:ik Tryz.prog 23 9 1 16:=ik.of Tryz.underlying23 (by kernel_rfl)
theorem abB(a:Option Addr)(cap:Nat)(l:List UInt8)(w:World)(hl:BytesAt w a l):Calls Tryz.prog 72 #[.slice a l.length cap] w (AP w l):=by
 have hn:l.length≤4294967000:=hl.1
 obtain⟨rows,hlr,qo,hrR⟩:=eu.src hl Jl
 have hown:=Go.WW.Own.nil w w.heap.size 5 1
 have lS:=Lib.hid hlr
 have HRR:=Lib.hid hrR
 have AQ:=Lib.hid hl.1
 clear hlr hrR hl
 go_enter Tryz.func72,Tryz.ntmps72
 go_wp2_with (at_builtin;refine kZ rfl (.const (.slice none 0 0)) (.tmp 3) _ rfl gy (n:=0) (s:=⟨none,0⟩) rfl rfl hown rfl lS.out.symm qo (by rw[lS.out];simp;omega) (by simp) ?_;intro s3 w3 hown3 hg3 jh)
 go_ret
 have hb3:Below w.heap.size w w3:=(Below.refl _ w).grown hg3 (by simp) (fun k e=>by cases e)
 have:=PZ (l:=l) hown3 (by simpa using lS.out) AQ.out hb3 (fun i hi=>by simpa using HRR.out i (by simpa using hi))
 simpa using this
end Go.Proofs.YtibhckkjciflaaaGreatDoor
