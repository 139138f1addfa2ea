/- A part of the proof. -/
import Derived.Test.YtpfifochimkpfaaGreatDoorA19
import Derived.Test.YtpfifochimkpfaaGreatDoorA21
import Derived.Test.YtpfifochimkpfaaGreatDoorA20
import Derived.Test.YtpfifochimkpfaaGreatDoorA12
import Derived.Test.YtpfifochimkpfaaGreatDoorA17
import Derived.Test.YtpfifochimkpfaaGreatDoorA18
import Derived.Test.YtpfifochimkpfaaGreatDoorA03
set_option maxRecDepth 100000
set_option maxHeartbeats 2000000
namespace Go.WW
open Go.RowKit
def eu(L:List ah)(d:Entry):ah:=if d.aP=⟨#[]⟩then dE else(L.find? fun x=>decide (x.name=d.aP)).getD dE
theorem ail{L:List ah}{d:Entry}(h:L.any (fun x=>decide (x.name=d.aP))=false):eu L d=dE:=by
 unfold eu
 split
 ·rfl
 ·have:L.find? (fun x=>decide (x.name=d.aP))=none:=List.find?_eq_none.2 fun x hx=>by have:=List.any_eq_false.1 h x hx;simpa using this
  rw[this];rfl
theorem VH{L:List ah}{d:Entry}(h:d.aP=⟨#[]⟩):eu L d=dE:=by unfold eu;rw[if_pos h]
theorem aim{L:List ah}{d:Entry}(h:¬d.aP=⟨#[]⟩){i:Nat}(hi:i<L.length)(hx:idxOf (fun z=>decide (z.name=d.aP)) L=(i:Int)):eu L d=L[i]:=by
 unfold eu
 rw[if_neg h]
 unfold idxOf at hx
 cases hf:L.findIdx? (fun z=>decide (z.name=d.aP))with
 |none=>rw[hf]at hx;simp at hx
 |some j=>
  rw[hf]at hx
  have hji:j=i:=by simp at hx;omega
  subst hji
  obtain⟨hj,h1,h2⟩:=List.findIdx?_eq_some_iff_getElem.1 hf
  have:L.find? (fun x=>decide (x.name=d.aP))=some L[j]:=List.find?_eq_some_iff_getElem.2 ⟨h1,j,hj,rfl,fun k hk=>by have:=h2 k hk;simpa using this⟩
  rw[this];rfl
def DR(PL:List ah)(X:List EE)(w:World)(z:Ending)(w':World):Prop:=Below w.heap.size w w'∧∃bl:Bool,z=.returned (.bool bl)∧(bl=true→PL.length≤4∧X.length≤6)
end Go.WW
namespace Go.Proofs.YtpfifochimkpfaaGreatDoor
open Go.RowKit Go.WW
theorem ain(a:Option Addr)(a2:Option Addr)(cap cap':Nat)(w:World) :
  Calls Tryz.prog 4 #[.slice a 0 cap,.slice a2 0 cap'] w (DR [] [] w):=by
 have h1:([]:List ah).length≤4:=by simp
 have h2:([]:List EE).length≤6:=by simp
 go_enter Tryz.func4,Tryz.ntmps4
 go_wp2_with fail
 refine wp_loop_rounds 1 ?_
 rw[rounds_succ]
 go_wp2_with fail
 refine wp_loop_rounds 1 ?_
 rw[rounds_succ]
 go_wp2_with fail
 go_ret
 exact⟨Below.refl _ _,true,rfl,fun _=>⟨h1,h2⟩⟩
theorem aio(a:Option Addr)(b2 o2:Nat)(cap cap':Nat)(X:List EE)(w:World)(hx:qj w (some ⟨b2,o2,none⟩) X)(h2:X.length≤6) :
  Calls Tryz.prog 4 #[.slice a 0 cap,.slice (some ⟨b2,o2,none⟩) X.length cap'] w (DR [] X w):=by
 have h1:([]:List ah).length≤4:=by simp
 have g2:¬(6:Int)<(X.length:Int):=by omega
 go_enter Tryz.func4,Tryz.ntmps4
 go_wp2_with fail
 refine wp_loop_rounds 1 ?_
 rw[rounds_succ]
 go_wp2_with fail
 go_loopw [6] (fun i wr=>Below w.heap.size w wr∧∃k:Nat,k≤X.length∧i=.int .i64 k) (fun i _=>X.length-(intOf i).toNat)
 case atStart=>exact⟨Below.refl _ _,0,Nat.zero_le _,rfl⟩
 case round=>
  obtain⟨hbr,k,hk,rfl⟩:=hrel
  by_cases hlt:k<X.length
  ·have hki:(k:Int)<(X.length:Int):=by omega
   have hr0:=(hx.rows.at k hlt)
   have hr:row? wr b2 (o2+k*17) 17=some (ae X[k].1 X[k].2):=(fG (hbr.block _ (fA hr0)) _ _).trans hr0
   have he:=(hx.each X[k] (List.getElem_mem hlt)).later hbr
   clear hr0
   go_wp2_with fail
   refine(MX _ _ _ he).mono ?_
   rintro z w2 ⟨bl,rfl,hb2⟩
   cases bl
   ·dsimp only
    go_wp2_with fail
    go_roundw
    case rel=>exact⟨ag hbr hb2,k+1,by omega,by go_num⟩
    case measure=>simp[intOf];omega
   ·dsimp only
    go_wp2_with fail
    go_ret
    exact⟨ag hbr hb2,false,rfl,by simp⟩
  ·obtain rfl:k=X.length:=by omega
   go_wp2_with fail
   go_ret
   exact⟨hbr,true,rfl,fun _=>⟨h1,h2⟩⟩
theorem aip(b o:Nat)(a2:Option Addr)(cap cap':Nat)(PL:List ah)(w:World)(hp:gQ w (some ⟨b,o,none⟩) PL)(h1:PL.length≤4) :
  Calls Tryz.prog 4 #[.slice (some ⟨b,o,none⟩) PL.length cap,.slice a2 0 cap'] w (DR PL [] w):=by
 have g1:¬(4:Int)<(PL.length:Int):=by omega
 have h2:([]:List EE).length≤6:=by simp
 go_enter Tryz.func4,Tryz.ntmps4
 go_wp2_with fail
 go_loop [5] (fun i=>∃k:Nat,k≤PL.length∧i=.int .i64 k) (fun i=>PL.length-(intOf i).toNat)
 case atStart=>exact⟨0,Nat.zero_le _,rfl⟩
 case round=>
  obtain⟨k,hk,rfl⟩:=hrel
  by_cases hlt:k<PL.length
  ·have hki:(k:Int)<(PL.length:Int):=by omega
   obtain⟨hc,hpl⟩:=hp.at k hlt
   have hb:b<w.heap.size:=fA hc
   have hc2:w.cell? ⟨b,o+k*10,none⟩=some (.string PL[k].name):=by have:=ji hc 0 (by omega);simpa[go_sem]using this
   clear hc
   by_cases h60:60<PL[k].name.size
   ·have MZ:(60:Int)<(PL[k].name.size:Int):=by omega
    go_wp2_with fail
    go_ret
    exact⟨Below.refl _ _,false,rfl,by simp⟩
   ·have MZ:¬(60:Int)<(PL[k].name.size:Int):=by omega
    go_wp2_with fail
    go_round
    case rel=>exact⟨k+1,by omega,by go_num⟩
    case measure=>simp[intOf];omega
  ·obtain rfl:k=PL.length:=by omega
   go_wp2_with fail
   refine wp_loop_rounds 1 ?_
   rw[rounds_succ]
   go_wp2_with fail
   go_ret
   exact⟨Below.refl _ _,true,rfl,fun _=>⟨h1,h2⟩⟩
theorem aiq(b o:Nat)(b2 o2:Nat)(cap cap':Nat)(PL:List ah)(X:List EE)(w:World)(hp:gQ w (some ⟨b,o,none⟩) PL)(hx:qj w (some ⟨b2,o2,none⟩) X)(h1:PL.length≤4)(h2:X.length≤6) :
  Calls Tryz.prog 4 #[.slice (some ⟨b,o,none⟩) PL.length cap,.slice (some ⟨b2,o2,none⟩) X.length cap'] w (DR PL X w):=by
 have g1:¬(4:Int)<(PL.length:Int):=by omega
 have g2:¬(6:Int)<(X.length:Int):=by omega
 go_enter Tryz.func4,Tryz.ntmps4
 go_wp2_with fail
 go_loop [5] (fun i=>∃k:Nat,k≤PL.length∧i=.int .i64 k) (fun i=>PL.length-(intOf i).toNat)
 case atStart=>exact⟨0,Nat.zero_le _,rfl⟩
 case round=>
  obtain⟨k,hk,rfl⟩:=hrel
  by_cases hlt:k<PL.length
  ·have hki:(k:Int)<(PL.length:Int):=by omega
   obtain⟨hc,hpl⟩:=hp.at k hlt
   have hb:b<w.heap.size:=fA hc
   have hc2:w.cell? ⟨b,o+k*10,none⟩=some (.string PL[k].name):=by have:=ji hc 0 (by omega);simpa[go_sem]using this
   clear hc
   by_cases h60:60<PL[k].name.size
   ·have MZ:(60:Int)<(PL[k].name.size:Int):=by omega
    go_wp2_with fail
    go_ret
    exact⟨Below.refl _ _,false,rfl,by simp⟩
   ·have MZ:¬(60:Int)<(PL[k].name.size:Int):=by omega
    go_wp2_with fail
    go_round
    case rel=>exact⟨k+1,by omega,by go_num⟩
    case measure=>simp[intOf];omega
  ·obtain rfl:k=PL.length:=by omega
   go_wp2_with fail
   go_loopw [6] (fun i wr=>Below w.heap.size w wr∧∃k:Nat,k≤X.length∧i=.int .i64 k) (fun i _=>X.length-(intOf i).toNat)
   case atStart=>exact⟨Below.refl _ _,0,Nat.zero_le _,rfl⟩
   case round=>
    obtain⟨hbr,k,hk,rfl⟩:=hrel
    by_cases hlt:k<X.length
    ·have hki:(k:Int)<(X.length:Int):=by omega
     have hr0:=(hx.rows.at k hlt)
     have hr:row? wr b2 (o2+k*17) 17=some (ae X[k].1 X[k].2):=(fG (hbr.block _ (fA hr0)) _ _).trans hr0
     have he:=(hx.each X[k] (List.getElem_mem hlt)).later hbr
     clear hr0
     go_wp2_with fail
     refine(MX _ _ _ he).mono ?_
     rintro z w2 ⟨bl,rfl,hb2⟩
     cases bl
     ·dsimp only
      go_wp2_with fail
      go_roundw
      case rel=>exact⟨ag hbr hb2,k+1,by omega,by go_num⟩
      case measure=>simp[intOf];omega
     ·dsimp only
      go_wp2_with fail
      go_ret
      exact⟨ag hbr hb2,false,rfl,by simp⟩
    ·obtain rfl:k=X.length:=by omega
     go_wp2_with fail
     go_ret
     exact⟨hbr,true,rfl,fun _=>⟨h1,h2⟩⟩
theorem air(a a2:Option Addr)(cap cap' n m:Nat)(w:World)(hn:4<n):Calls Tryz.prog 4 #[.slice a n cap,.slice a2 m cap'] w fun z w'=>z=.returned (.bool false)∧w=w':=by
 have g1:(4:Int)<(n:Int):=by omega
 go_enter Tryz.func4,Tryz.ntmps4
 go_wp2_with fail
 go_ret
 exact⟨rfl,rfl⟩
theorem ais(a a2:Option Addr)(cap cap' n m:Nat)(w:World)(hn:¬4<n)(hm:6<m):Calls Tryz.prog 4 #[.slice a n cap,.slice a2 m cap'] w fun z w'=>z=.returned (.bool false)∧w=w':=by
 have g1:¬(4:Int)<(n:Int):=by omega
 have g2:(6:Int)<(m:Int):=by omega
 go_enter Tryz.func4,Tryz.ntmps4
 go_wp2_with fail
 go_ret
 exact⟨rfl,rfl⟩
theorem ait(a a2:Option Addr)(cap cap':Nat)(PL:List ah)(X:List EE)(w:World)(hp:gQ w a PL)(hx:qj w a2 X) :
  Calls Tryz.prog 4 #[.slice a PL.length cap,.slice a2 X.length cap'] w (DR PL X w):=by
 by_cases h1:4<PL.length
 ·refine(air a a2 cap cap' _ _ w h1).mono ?_
  rintro z w' ⟨rfl,rfl⟩
  exact⟨Below.refl _ _,false,rfl,by simp⟩
 by_cases h2:6<X.length
 ·refine(ais a a2 cap cap' _ _ w h1 h2).mono ?_
  rintro z w' ⟨rfl,rfl⟩
  exact⟨Below.refl _ _,false,rfl,by simp⟩
 have h1:PL.length≤4:=by omega
 have h2:X.length≤6:=by omega
 rcases bH.addr hp with n1|⟨b,o,rfl,-⟩<;>rcases bH.addr hx.rows with n2|⟨b2,o2,rfl,-⟩
 ·obtain rfl:=List.eq_nil_of_length_eq_zero n1
  obtain rfl:=List.eq_nil_of_length_eq_zero n2
  exact ain _ _ _ _ _
 ·obtain rfl:=List.eq_nil_of_length_eq_zero n1
  exact aio _ _ _ _ _ _ _ hx h2
 ·obtain rfl:=List.eq_nil_of_length_eq_zero n2
  exact aip _ _ _ _ _ _ _ hp h1
 ·exact aiq _ _ _ _ _ _ _ _ _ hp hx h1 h2
theorem aiu(ρ:Operand→Value)(dst:Option Tmp)(ty:TypeId)(pos:String)(after:Array Edge)(guard:Option (Nat×Bool)) :
  execOp ρ {dst,op:=.build 52 #[],type:=ty,pos,after,guard}=iI 52 #[]:=by simp[execOp,iI]
theorem aiv(w:World):(iI 52 #[]).run Tryz.prog w=.ok (.value (.agg (ak dE))) w:=by kernel_rfl
attribute [go_sem] aiv
attribute [go_sem ↓] aiu
theorem Ih(e p:Sl)(D:Db)(r:aK)(d:Entry)(w:World)(hp:gQ w p.a D.aF):Calls Tryz.prog 13 #[.agg (aA e p D),.agg (ae r d)] w fun z w'=>z=.returned (.agg (ak (eu D.aF d)))∧Below w.heap.size w w':=by
 have hB:Below w.heap.size w (((w.alloc (.cells (aA e p D) 30)).alloc (.cells (ae r d) 44)).alloc (.cells (ak dE) 52)):=ay (ay (ay (Below.refl _ _) _) _) _
 have hd3:(((w.alloc (.cells (aA e p D) 30)).alloc (.cells (ae r d) 44)).alloc (.cells (ak dE) 52)).heap[w.heap.size]?=some (.cells (aA e p D) 30):=(Below.heap_alloc _ _ _ (by simp;omega)).trans (kS _ _ _)
 have hx3:(((w.alloc (.cells (aA e p D) 30)).alloc (.cells (ae r d) 44)).alloc (.cells (ak dE) 52)).heap[w.heap.size+1]?=some (.cells (ae r d) 44):=by have:=kS (w.alloc (.cells (aA e p D) 30)) (.cells (ae r d) 44) (.cells (ak dE) 52);rwa[World.size_alloc]at this
 have hz3:aX (((w.alloc (.cells (aA e p D) 30)).alloc (.cells (ae r d) 44)).alloc (.cells (ak dE) 52)) (w.heap.size+1+1) 0 10=true:=by simp[go_sem]
 have hl:w.heap.size+1+1<(((w.alloc (.cells (aA e p D) 30)).alloc (.cells (ae r d) 44)).alloc (.cells (ak dE) 52)).heap.size:=by simp
 have HC:=Lib.hid (Ff e p D d.aP _ (hp.later hB))
 have HQ:=Lib.hid (hp.later hB)
 clear hp
 rw[GZ]at hB hd3 hx3 hz3 hl HC HQ
 obtain⟨q,hq⟩:∃q,eu D.aF d=q:=⟨_,rfl⟩
 rw[hq]
 go_enter Tryz.func13,Tryz.ntmps13
 obtain⟨xc,xf,xr,xl⟩:=ax hx3
 obtain⟨dc,df,dr,dl⟩:=ax hd3
 go_wp2_with fail
 generalize (((w.alloc (.cells (aA e p D) 30)).alloc (.cells (ae r d) 44)).alloc (.cells #[.string ⟨#[]⟩,.int .i64 0,.int .i64 0,.int .i64 0,.int .i64 0,.int .i64 0,.int .i64 0,.int .i64 0,.int .i64 0,.int .i64 0] 52))=W at *
 refine HC.out.mono ?_
 rintro z w2 ⟨rfl,hb2⟩
 have hx2:=aI hb2 hx3
 have hd2:=aI hb2 hd3
 have hz2:=(fD hb2 (w.heap.size+1+1) 0 10 hl).trans hz3
 have hl2:w.heap.size+1+1<w2.heap.size:=by have:=hb2.size;omega
 have DT:=HQ.out.later hb2
 clear xc xf xr xl dc df dr dl
 obtain⟨xc,xf,xr,xl⟩:=ax hx2
 obtain⟨dc,df,dr,dl⟩:=ax hd2
 dsimp only
 by_cases he:d.aP=⟨#[]⟩
 ·have h0:=str_eq _ _ he
  have h2:d.aP.toList.isEmpty=true:=by rw[he];simp[ByteArray.toList_eq]
  obtain rfl:dE=q:=(VH he).symm.trans hq
  go_wp2_with fail
  have hrow:=gJ (w:=w2) (og dE) hz2
  exact bodyPost_ret (xe (by rfl) Tryz.underlying52 rfl (by kernel_rfl) rfl hrow) rfl ⟨rfl,Go.WW.Below.putRow (ag hB hb2) (by omega)⟩
 ·have h0:=kJ _ _ he
  have h1:¬d.aP.toList=[]:=fun h=>he (toList_inj (b:=⟨#[]⟩) (by rw[h,ByteArray.toList_eq]))
  have h2:d.aP.toList.isEmpty=false:=by cases h:d.aP.toList<;>simp_all
  rcases GU D.aF d.aP with⟨hi,hn⟩|⟨i,hil,hi,hn,ha⟩
  ·obtain rfl:dE=q:=(ail hn).symm.trans hq
   rw[hi]
   go_wp2_with fail
   have hrow:=gJ (w:=w2) (og dE) hz2
   exact bodyPost_ret (xe (by rfl) Tryz.underlying52 rfl (by kernel_rfl) rfl hrow) rfl ⟨rfl,Go.WW.Below.putRow (ag hB hb2) (by omega)⟩
  ·obtain rfl:D.aF[i]=q:=(aim he hil hi).symm.trans hq
   rw[hi]
   obtain⟨bq,oq,haq,hrq,-⟩:=DT.get i hil
   have hll:D.aF.length≤4294967000:=DT.1
   have hi0:(0:Int)≤(i:Int):=by omega
   have hki:(i:Int)<(D.aF.length:Int):=by omega
   go_wp2_with fail
   have hrow:=gJ (w:=w2) (og D.aF[i]) hz2
   exact bodyPost_ret (xe (by rfl) Tryz.underlying52 rfl (by kernel_rfl) rfl hrow) rfl ⟨rfl,Go.WW.Below.putRow (ag hB hb2) (by omega)⟩
end Go.Proofs.YtpfifochimkpfaaGreatDoor
namespace Go.WW
open Go.RowKit
theorem gY.wide{S S':Nat→Prop}{w w':World}{Φ:World→Prop}(h:gY S w Φ)(hb:Below w.heap.size w w')(hS:∀k,S' k→S k∨w.heap.size≤k):gY S' w' Φ:=
 fun y hy=>h y ⟨hy.os.trans hb.os,hy.tape.trans hb.tape,hy.output.trans hb.output,Nat.le_trans hb.size hy.size,fun k hk hn=>(hy.block k (Nat.lt_of_lt_of_le hk hb.size) fun hs=>by
  rcases hS k hs with h1|h1
  ·exact hn h1
  ·omega).trans (hb.block k hk)⟩
theorem gY.less{S S':Nat→Prop}{w:World}{Φ:World→Prop}(h:gY S w Φ)(hS:∀k,S' k→S k):gY S' w Φ:=fun y hy=>h y (hy.mono hS)
theorem gG.wide{S S':Nat→Prop}{es ps:Sl}{D:Db}{X:List EE}{w w':World}(h:gG S es ps D X w)(hb:Below w.heap.size w w')(hS:∀k,S' k→S k∨w.heap.size≤k):gG S' es ps D X w':=⟨h.dS.wide hb hS,h.dJ.wide hb hS,h.cap⟩
theorem gG.less{S S':Nat→Prop}{es ps:Sl}{D:Db}{X:List EE}{w:World}(h:gG S es ps D X w)(hS:∀k,S' k→S k):gG S' es ps D X w:=⟨h.dS.less hS,h.dJ.less hS,h.cap⟩
theorem Ii{ι κ μ ν ξ:Type}{c:Code}{P:Program}{Q:Exit→Act→World→Prop}{a:Act}{w:World}(M:ι→κ→μ→ν→ξ→World→Prop)(F:ι→κ→μ→ν→ξ→Act)
  (h1:c.wp P (fun e a' w'=>e=.normal∧∃i j k l x,a'=F i j k l x∧M i j k l x w') a w) (h2:∀i j k l x w',M i j k l x w'→Q .normal (F i j k l x) w'):c.wp P Q a w:=by
 refine wp_mono h1 ?_
 rintro e a' w' ⟨rfl,i,j,k,l,x,rfl,h⟩
 exact h2 i j k l x w' h
theorem Ij{P:Program}{fn:Func}{a t c:Tmp}{T:TypeId}{d:TypeDesc}{n:Nat}(hf:fn.results=#[.tmp a,.cell t T,.tmp c])(hu:P.underlying T=some d)(hd:d.isRow=true)(hi:(P.info? T).map (·.size)=some n){tmps:Array Value}{w:World}{b o:Nat}{cs:Array Value}(ha:tmps.getD t undef=.pointer (some ⟨b,o,none⟩))(h:row? w b o n=some cs) :
  (results fn tmps).run P w=.ok (.tuple #[tmps.getD a undef,.agg cs,tmps.getD c undef]) w:=by
 have hl:=run_loadVar_row hu hd hi h
 have ha':(asAddr (tmps.getD t undef)).run P w=.ok ⟨b,o,none⟩ w:=by rw[ha];rfl
 rw[Array.getD_eq_getD_getElem?]at ha'
 unfold results
 rw[hf]
 simp[Sem.run_bind,ha',hl,Result.andThen]
abbrev dF:ByteArray:=⟨#[82]⟩
theorem Bi:¬dF=⟨#[]⟩:=by intro h;have:=congrArg ByteArray.size h;simp[ByteArray.size]at this
theorem xH:iK dF=true:=by decide +kernel
def je:Db:=⟨⟨#[]⟩,0,[],[]⟩
def di(re:ByteArray):Db:=⟨re,0,[],[]⟩
abbrev aT:Sl:=⟨Option.none,0⟩
theorem aiw:aA aT aT je=#[.string ⟨#[]⟩,.int .i64 0,.slice Option.none 0 0,.slice Option.none 0 0]:=rfl
theorem Ik:fO (di dF) [] [] [] []:=⟨rfl,fun k o=>by simp,iR.nil,List.Perm.refl _,List.Pairwise.nil,kY.nil,by simp⟩
end Go.WW
namespace Go.Proofs.YtpfifochimkpfaaGreatDoor
open Go.RowKit Go.WW
theorem aix(ρ:Operand→Value)(dst:Option Tmp)(x:Operand)(ty:TypeId)(pos:String)(after:Array Edge)(guard:Option (Nat×Bool)) :
  execOp ρ {dst,op:=.build 30 #[(0,x)],type:=ty,pos,after,guard}=iI 30 #[(0,ρ x)]:=by simp[execOp,iI]
theorem aiy(re:ByteArray)(w:World):(iI 30 #[(0,.string re)]).run Tryz.prog w=.ok (.value (.agg (aA aT aT (di re)))) w:=by kernel_rfl
attribute [go_sem] aiy
attribute [go_sem ↓] aix
theorem Il(re:ByteArray)(w:World)(hs:re.size≤lim)(hok:iK re=true):Calls Tryz.prog 27 #[.string re] w fun z w'=>z=.returned (.tuple #[.agg (aA aT aT (di re)),.int .i64 0])∧Below w.heap.size w w':=by
 have hz3:aX (w.alloc (.cells (aA aT aT je) 30)) w.heap.size 0 4=true:=by simp[go_sem]
 have hB:Below w.heap.size w (w.alloc (.cells (aA aT aT je) 30)):=ay (Below.refl _ _) _
 have hR:=Qc re (w.alloc (.cells (aA aT aT je) 30)) hs
 rw[hok]at hR
 rw[aiw]at hz3 hB hR
 have HR:=Lib.hid hR
 clear hok hs hR
 go_enter Tryz.func27,Tryz.ntmps27
 go_wp2_with fail
 refine HR.out.mono ?_
 rintro z w' ⟨rfl,rfl⟩
 dsimp only
 go_wp2_with fail
 have hrow:row? (w.alloc (.cells (aA aT aT (di re)) 30)) w.heap.size 0 4=some (aA aT aT (di re)):=by rw[EM rfl];exact gI (fC _ _ _)
 exact bodyPost_ret (kT (by rfl) Tryz.underlying30 rfl (by kernel_rfl) rfl hrow) rfl ⟨rfl,ay (Below.refl _ _) _⟩
end Go.Proofs.YtpfifochimkpfaaGreatDoor
namespace Go.WW
open Go.RowKit
theorem Io{x:Entry}{q:aH}(hx:bI x=true):bD x.name q=true↔textOf x.name=gu q:=
 (Me (xE hx _ (List.mem_cons_self ..))).symm
theorem aiz{X:List EE}{q:aH}(hg:iR (X.map (·.2))){i j:Nat}(hi:i<X.length)(hj:j<X.length)(h1:bD X[i].2.name q=true)(h2:bD X[j].2.name q=true):i=j:=by
 have a:=(Io (hg.ok _ (List.mem_map.2 ⟨_,List.getElem_mem hi,rfl⟩))).1 h1
 have b:=(Io (hg.ok _ (List.mem_map.2 ⟨_,List.getElem_mem hj,rfl⟩))).1 h2
 exact DI hg (i:=i) (j:=j) (by simpa using hi) (by simpa using hj) (by simpa using a.trans b.symm)
theorem aiA{D D1 D2:Db}{X X1 X2:List EE}{q:aH}{f a b n1 n2:Int}(h1:rF D X q f a b n1 D1 X1)(h2:rF D X q f a b n2 D2 X2):n1=n2∧D1=D2∧X1=X2:=by
 cases h1 with
 |bad hv=>
  cases h2 with
  |bad=>exact⟨rfl,rfl,rfl⟩
  |none hv'=>rw[hv]at hv';cases hv'
  |yes hv'=>rw[hv]at hv';cases hv'
 |none hv hn=>
  cases h2 with
  |bad hv'=>rw[hv]at hv';cases hv'
  |none=>exact⟨rfl,rfl,rfl⟩
  |yes _ i hi hs=>rw[hn _ (List.getElem_mem hi)]at hs;cases hs
 |yes hv i hi hs=>
  cases h2 with
  |bad hv'=>rw[hv]at hv';cases hv'
  |none _ hn=>rw[hn _ (List.getElem_mem hi)]at hs;cases hs
  |yes=>exact⟨rfl,rfl,rfl⟩
theorem aS.touched{w:World}{r:aK}{d:Entry}(h:aS w r d)(k:ByteArray)(f a b:Int):aS w r (jr k f a b d):=by
 unfold jr
 split
 ·exact⟨h.name,h.aliases,h.keys,h.targets,h.bW,h.history,h.aP,h.attrs⟩
 ·exact h
theorem lG.grow{S S':Nat→Prop}{w:World}{x:EE}(h:lG S w x)(hS:∀k,S' k→k<w.heap.size→S k):lG S' w x:=
 fun y hy=>h y ⟨hy.os,hy.tape,hy.output,hy.size,fun k hk hn=>hy.block k hk fun hs=>hn (hS k hs hk)⟩
theorem gY.grow{S S':Nat→Prop}{w:World}{Φ:World→Prop}(h:gY S w Φ)(hS:∀k,S' k→k<w.heap.size→S k):gY S' w Φ:=
 fun y hy=>h y ⟨hy.os,hy.tape,hy.output,hy.size,fun k hk hn=>hy.block k hk fun hs=>hn (hS k hs hk)⟩
end Go.WW
namespace Go.Proofs.YtpfifochimkpfaaGreatDoor
open Go.RowKit Go.WW
def Bj(S:Nat→Prop)(b n e p:Nat)(re:ByteArray)(s:Int)(D D':Db)(X':List EE)(no:Int)(w:World)(z:Ending)(w':World):Prop:=
 z=.returned (.int .i64 no)∧But (aW b n e p) w w'∧∃iL E' P',jW S b n e p re (s+(D'.aN-D.aN)) iL E' P' w'∧fO D' X' iL E' P'
section
variable (S:Nat→Prop) (b n e p:Nat) (re:ByteArray) (s:Int) (NL:List (ByteArray×ByteArray)) (E:List EE) (P:List ah) (D D':Db) (X X':List EE) (no:Int) (w:World)
theorem xI(h:jW S b n e p re s NL E P w)(hr:fO D X NL E P):∀(z:Ending) (w':World),(z=.returned (.int .i64 no)∧Below w.heap.size w w')→Bj S b n e p re s D D X no w z w':=by
 rintro z w' ⟨rfl,hb⟩
 exact⟨rfl,But.of_below hb,NL,E,P,by rw[Int.sub_self,Int.add_zero];exact h.later hb,hr⟩
theorem VI(r:aK)(d:Entry)(r2:aK)(h:jW S b n e p re s NL E P w)(hre:¬re=⟨#[]⟩)(hDr:D.aJ=re)(hr:fO D X NL E P)(hst:pz D X r d no D' X')(he:aS w r2 d)(hlt:∀k,S k→k<w.heap.size)(hn:X.length<4096)(hs0:0≤s)(hs1:s<1000000) :
  Calls Tryz.prog 31 #[.pointer (some ⟨b,0,none⟩),.agg (ae r2 d)] w (Bj S b n e p re s D D' X' no w):=by
 have same:=xI S b n e p re s NL E P D X
 have hEl:E.length<4096:=by have:=hr.perm.length_eq;simp at this;omega
 have main:bI d=true→d.name.aJ=D.aJ→jK D.aF d→∃N1 E1,vN (ed NL) E (textOf d.name) N1 E1∧Calls Tryz.prog 31 #[.pointer (some ⟨b,0,none⟩),.agg (ae r2 d)] w (Ut b n e p re s NL N1 E1 P d w):=by
  intro hv hrl hp
  have hR:∃N1 E1,vN (ed NL) E (textOf d.name) N1 E1:=by
   by_cases hx:∃x∈E,textOf x.2.name=textOf d.name
   ·obtain⟨x,hx,e'⟩:=hx
    exact⟨_,_,.inl ⟨x,hx,e',rfl,rfl⟩⟩
   ·exact⟨_,_,.inr ⟨fun x hx' e'=>hx ⟨x,hx',e'⟩,rfl,rfl⟩⟩
  obtain⟨N1,E1,hR⟩:=hR
  refine⟨N1,E1,hR,agl b n e p re s NL N1 E E1 P r2 d w h.db hre he (fun x hx=>⟨fun y hy=>h.keep x hx y (hy.mono h.sub),fun q hq=>xE (hr.good.ok x.2 (List.mem_map.2 ⟨x,hx,rfl⟩)) q hq⟩) hR (fun q hq=>xE hv q hq) hv (hrl.trans hDr) ?_ ?_ hEl hs0 hs1⟩
  ·rcases hp with hp|hp
   ·exact .inl hp
   ·exact .inr (by rw[hr.dJ.any];exact hp)
  ·intro k o o' ho ho'
   obtain⟨x,hx,rfl,q,hq,hk⟩:=(hr.names k o).1 ho
   obtain⟨y,hy,rfl,q',hq',hk'⟩:=(hr.names k o').1 ho'
   exact hr.good.apart x hx y hy q hq q' hq' (hk.symm.trans hk')
 cases hst with
 |bad hv=>
  rcases hv with hv|hv
  ·exact(Ul b n e p re s _ E P r2 d w h.db hre he hv).mono (same 2 w h hr)
  ·cases hv2:bI d with
   |false=>exact(Ul b n e p re s _ E P r2 d w h.db hre he hv2).mono (same 2 w h hr)
   |true=>exact(agj b n e p re s _ E P r2 d w h.db hre he hv2 (by rw[←hDr];exact hv)).mono (same 2 w h hr)
 |L9 hv hrl hpe ha=>exact(agk b n e p re s _ E P r2 d w h.db hre he hv (hrl.trans hDr) hpe (by rw[hr.dJ.any];exact ha)).mono (same 9 w h hr)
 |busy hv hrl hp hx=>
  obtain⟨N1,E1,hR,hc⟩:=main hv hrl hp
  refine hc.mono ?_
  rintro z w' (⟨rfl,-,hb⟩|⟨-,hf,-⟩)
  ·exact same 11 w h hr _ _ ⟨rfl,hb⟩
  ·obtain⟨x,lW,hxb,qi⟩:=hx
   exact absurd ((U5 hr.names hr.good hv).2 ⟨x,hr.perm.mem_iff.2 lW,hxb,qi⟩) (LU.1 hf)
 |put hv hrl hp hx X1 hs1' h1=>
  obtain⟨N1,E1,hR,hc⟩:=main hv hrl hp
  refine hc.mono ?_
  rintro z w' (⟨rfl,hbz,-⟩|⟨rfl,-,hb,r',hk',lH⟩)
  ·have hf:=(hr.put (r:=r) (r':=r) hv hp hx X1 hs1' h1 hR).1
   exact absurd hbz (LU.1 hf)
  ·obtain⟨-,iL,e1,hpl⟩:=hr.put (r:=r) (r':=r') hv hp hx X1 hs1' h1 hR
   rw[show d.name::d.aliases=jq d from rfl,e1]at lH
   refine⟨rfl,hb,iL,_,P,⟨by show dG _ _ _ _ _ _ (s+(D.aN+1-D.aN)) _ _ _;rw[show s+(D.aN+1-D.aN)=s+1 by omega];exact lH,fun x hx'=>?_,h.sub⟩,hpl⟩
   rcases List.mem_append.1 hx' with hx'|hx'
   ·have:x∈E:=agz hR x hx'
    exact(h.keep x this).on (hb.mono h.sub)
   ·simp only[List.mem_singleton]at hx';subst hx';exact fun y hy=>hk' y (hy.mono hlt)
theorem VJ(q:ah)(h:jW S b n e p re s NL E P w)(hre:¬re=⟨#[]⟩)(hr:fO D X NL E P)(hst:ql D q no D')(hs:q.name.size≤lim)(hn:P.length<64)(hs0:0≤s)(hs1:s<1000000) :
  Calls Tryz.prog 29 #[.pointer (some ⟨b,0,none⟩),.agg (ak q)] w (Bj S b n e p re s D D' X no w):=by
 have hD:=Mc hst
 have hkeep:=ahi hst hr.dJ.nodup
 have out:∀(D':Db),D'.entries=D.entries→D'.aJ=D.aJ→D'.aN=D.aN+1→(∀x∈D.aF,∃y∈D'.aF,y.name=x.name)→kY (qf P q) D'.aF→∀(z:Ending) (w':World),(z=.returned (.int .i64 0)∧But (aW b n e p) w w'∧dG w' b n e p re (s+1) (ed NL) E (qf P q))→
   Bj S b n e p re s D D' X 0 w z w':=by
  rintro D' h1 h2 h3 h5 h4 z w' ⟨rfl,hb,hd⟩
  refine⟨rfl,hb,NL,E,_,⟨by rw[h3,show s+(D.aN+1-D.aN)=s+1 by omega];exact hd,fun x hx=>(h.keep x hx).on (hb.mono h.sub),h.sub⟩,⟨h1.trans hr.eq,hr.names,hr.good,hr.perm,hr.sorted,h4,fun x hx=>?_⟩⟩
  exact(hr.has x hx).mono h5
 cases hst with
 |bad hv=>exact(afk b n e p re s _ E P q w h.db hre hs hv).mono (xI S b n e p re s NL E P D X 2 w h hr)
 |new hv ha=>
  exact(afl b n e p re s _ E P q w h.db hre hs hv (by rw[hr.dJ.any];exact ha) hn hs0 hs1).mono (out {D with aF:=fE q (-1) 0 false D.aF,aN:=D.aN+1} rfl rfl rfl hkeep (hr.dJ.new hv ha))
 |old hv i hi hnm=>
  exact(afm b n e p re s _ E P q w h.db hre hs hv D.aF[i] (hr.dJ.perm.mem_iff.2 (List.getElem_mem hi)) hnm hs0 hs1).mono (out {D with aF:=fE q (i:Int) 0 false D.aF,aN:=D.aN+1} rfl rfl rfl hkeep (hr.dJ.old hv hi hnm))
theorem aiB(t:Sl)(q:aH)(f la su:Int)(h:jW S b n e p re s NL E P w)(hre:¬re=⟨#[]⟩)(hr:fO D X NL E P)(hst:rF D X q f la su no D' X')(hq:bK w t q)(hs0:0≤s)(hs1:s<1000000) :
  Calls Tryz.prog 40 #[.pointer (some ⟨b,0,none⟩),.agg (az t q),.int .i64 f,.int .i64 la,.int .i64 su] w (Bj S b n e p re s D D' X' no w):=by
 cases hst with
 |bad hv=>exact(ahv b n e p re s _ E P t q f la su w h.db hre hv).mono (xI S b n e p re s NL E P D X 2 w h hr)
 |none hv hn=>exact(ahw b n e p re s _ E P t q f la su w h.db hre hq hv (hr.ahm hn)).mono (xI S b n e p re s NL E P D X 9 w h hr)
 |yes hv i hi hn=>
  obtain⟨x0,hx0,hk,-⟩:=hr.ahn hi hn
  refine(ahx b n e p re s _ E P t q f la su w h.db hre hq hv hr.good hs0 hs1 x0 hx0 hk).mono ?_
  rintro z w' ⟨rfl,hb,hd⟩
  refine⟨rfl,hb,NL,_,P,⟨by show dG _ _ _ _ _ _ (s+(D.aN+1-D.aN)) _ _ _;rw[show s+(D.aN+1-D.aN)=s+1 by omega];exact hd,fun x hx=>?_,h.sub⟩,hr.touch (gu q) hv⟩
  obtain⟨z,hz,rfl⟩:=List.mem_map.1 hx
  exact fun y hy=>(h.keep z hz y ((hb.mono h.sub).trans hy)).touched _ _ _ _
end
end Go.Proofs.YtpfifochimkpfaaGreatDoor
namespace Go.WW
open Go.RowKit
theorem Na{cs r:Array Value}{o n j:Nat}{v:Value}(h:gy cs o n=some r)(hj:j<n):gy (cs.setIfInBounds (o+j) v) o n=some (r.setIfInBounds j v):=by
 unfold gy at h ⊢
 rw[Array.size_setIfInBounds]
 split at h
 ·rename_i hle
  rw[if_pos hle]
  cases h
  congr 1
  apply Array.ext_getElem?
  intro i
  rw[Array.getElem?_setIfInBounds]
  by_cases hi:i<n
  ·rw[Array.getElem?_extract,Array.getElem?_extract,Array.getElem?_setIfInBounds]
   have e1:i<min (o+n) cs.size-o:=by omega
   have e2:i<min (o+n) (cs.setIfInBounds (o+j) v).size-o:=by rw[Array.size_setIfInBounds];omega
   simp only[e1,e2,if_true]
   by_cases e:j=i
   ·subst e
    rw[if_pos rfl,if_pos rfl,if_pos (by omega),if_pos (by simp;omega)]
   ·rw[if_neg (by omega),if_neg e]
  ·rw[Array.getElem?_eq_none (by simp;omega),if_neg (by omega),Array.getElem?_eq_none (by simp;omega)]
 ·cases h
theorem Nb{cs:Array Value}{o n j:Nat}{v:Value}(hj:j<o∨o+n≤j):gy (cs.setIfInBounds j v) o n=gy cs o n:=by
 unfold gy
 rw[Array.size_setIfInBounds]
 split
 ·congr 1
  apply Array.ext_getElem?
  intro i
  rw[Array.getElem?_extract,Array.getElem?_extract,Array.getElem?_setIfInBounds,Array.size_setIfInBounds]
  split
  ·rw[if_neg (by omega)]
  ·rfl
 ·rfl
theorem gz.src{w:World}{a:Option Addr}{X:List EE}(h:gz w a X):cO w 17 a (X.map cZ):=
 ⟨fun r hr=>by obtain⟨x,_,rfl⟩:=List.mem_map.1 hr;exact oP _ _,fun r hr=>by obtain⟨x,_,rfl⟩:=List.mem_map.1 hr;exact PQ _ _,fun i hi=>by
  obtain⟨b,o,cs,ha,hr,x,hx,rfl⟩:=h.2 i (by simpa using hi)
  exact⟨b,o,ha,by rw[hr,List.getElem_map,(List.getElem?_eq_some_iff.1 hx).2]⟩⟩
theorem Own.cur{w:World}{base k:Nat}{e:TypeId}{s:Sl}{rows:List (Array Value)}(h:Own w base e k s rows)(hn:0<rows.length) :
  ∃g cur,s.a=some ⟨g,0,none⟩∧base≤g∧w.heap[g]?=some (.cells cur e)∧rows.length≤s.cap∧rows.length*k≤cur.size∧∀i (hi:i<rows.length),gy cur (i*k) k=some rows[i]:=by
 rcases h.own.2 with⟨_,hn'⟩|⟨g,cap,cur,hv,hb,hh,hle,_,hsz,_⟩
 ·omega
 ·have ha:s.a=some ⟨g,0,none⟩:=by injection hv
  have hc:s.cap=cap:=by injection hv
  refine⟨g,cur,ha,hb,hh,by omega,by rw[hsz];exact Nat.mul_le_mul_right _ hle,fun i hi=>?_⟩
  obtain⟨g',ha',-,hr⟩:=h.row i hi
  rw[ha]at ha';cases ha'
  rw[dI hh,Nat.zero_add]at hr
  exact hr
theorem aiC{cs r:Array Value}{o n:Nat}(h:gy cs o n=some r)(j:Nat)(hj:j<n):cs[o+j]?=r[j]?:=by
 unfold gy at h
 split at h
 ·cases h
  rw[Array.getElem?_extract]
  rw[if_pos (by omega)]
 ·cases h
theorem Bl(w:World)(b o:Nat)(v:Value):But (one b) w (w.setCell ⟨b,o,Option.none⟩ v):=⟨rfl,rfl,rfl,by simp[World.setCell],fun k _ hn=>Below.heap_setCell _ _ _ _ (show k≠b from hn)⟩
theorem aiD{V:World}{g:Nat}{cur:Array Value}{t:TypeId}(h:V.heap[g]?=some (.cells cur t))(a b:Nat)(x y:Value):((V.setCell ⟨g,a,Option.none⟩ x).setCell ⟨g,b,Option.none⟩ y).drew.heap[g]?=some (.cells ((cur.setIfInBounds a x).setIfInBounds b y) t):=dH (o:=b) _ (dH (o:=a) _ h)
def xJ(g:Nat):aK:={bg with parts:=⟨some ⟨g,0,none⟩,1⟩}
def qy(f a b:Int):Entry:={aV with name:=⟨[⟨#[97]⟩],⟨#[82]⟩⟩,fails:=f,dw:=a,iw:=b}
theorem Nc{w:World}{g:Nat}{t:TypeId}(h:w.heap[g]?=some (.cells #[Value.string ⟨#[97]⟩] t))(f a b:Int):aS w (xJ g) (qy f a b):=by
 have hz:∀(k:Nat) (R:Nat→Array Value→Prop),bH w k none 0 R:=fun k R=>⟨Nat.zero_le _,fun i hi=>absurd hi (Nat.not_lt_zero _)⟩
 refine⟨⟨⟨show 1≤lim by decide,fun i hi=>?_⟩,show 1≤lim by decide⟩,hz _ _,hz _ _,hz _ _,hz _ _,⟨Nat.zero_le _,fun i hi=>absurd hi (Nat.not_lt_zero _)⟩,show 0≤lim by decide,show(0:Int)≤0∧(0:Int)≤4294967295 by decide⟩
 obtain rfl:i=0:=by
  have:i<1:=hi
  omega
 exact⟨g,0,.string ⟨#[97]⟩,rfl,by rw[(ax h).1];rfl,_,rfl,rfl,by decide⟩
theorem Nh(f a b:Int):bI (qy f a b)=jD f a b:=by
 have h0:bI (qy 0 0 0)=true:=by decide +kernel
 simp only[bI,jl,kL,qy,aV,Bool.and_eq_true]at h0
 simp only[bI,jl,kL,qy,aV,jD,h0,Bool.true_and]
 rfl
theorem aiE{e q:Sl}{D D':Db}(h1:D.entries.length=D'.entries.length)(h2:D.aJ=D'.aJ)(h3:D.aN=D'.aN)(h4:D.aF=D'.aF):aA e q D=aA e q D':=by
 unfold aA
 rw[h1,h2,h3,h4]
theorem aiF(x:EE)(f a b:Int):(((cZ x).setIfInBounds 11 (.int .i64 f)).setIfInBounds 12 (.int .i64 a)).setIfInBounds 13 (.int .i64 b)=cZ (x.1,touched x.2 f a b):=by
 rcases x with⟨r,d⟩
 kernel_rfl
theorem aiG{cur:Array Value}{X:List EE}(i0:Nat)(hi0:i0<X.length)(f a b:Int)(h:∀i (hi:i<X.length),gy cur (i*17) 17=some (cZ X[i])) :
  ∀i (hi:i<(X.set i0 (X[i0].1,touched X[i0].2 f a b)).length),gy (((cur.setIfInBounds (i0*17+11) (.int .i64 f)).setIfInBounds (i0*17+12) (.int .i64 a)).setIfInBounds (i0*17+13) (.int .i64 b)) (i*17) 17=some (cZ ((X.set i0 (X[i0].1,touched X[i0].2 f a b))[i])):=by
 intro i hi
 have hi':i<X.length:=by simpa using hi
 rw[List.getElem_set]
 by_cases e:i0=i
 ·subst e
  rw[if_pos rfl,←aiF]
  exact Na (Na (Na (h i0 hi0) (by omega)) (by omega)) (by omega)
 ·rw[if_neg e,Nb (by omega),Nb (by omega),Nb (by omega)]
  exact h i hi'
end Go.WW
namespace Go.Proofs.YtpfifochimkpfaaGreatDoor
open Go.RowKit Go.WW
theorem aiH(ρ:Operand→Value)(dst:Option Tmp)(a0 a1 a2 a3:Operand)(ty:TypeId)(pos:String)(after:Array Edge)(guard:Option (Nat×Bool)) :
  execOp ρ {dst,op:=.build 44 #[(0,a0),(10,a1),(11,a2),(12,a3)],type:=ty,pos,after,guard}=iI 44 #[(0,ρ a0),(10,ρ a1),(11,ρ a2),(12,ρ a3)]:=by simp[execOp,iI]
theorem aiI(g:Nat)(f a b:Int)(w:World):(iI 44 #[(0,.agg #[.slice (some ⟨g,0,none⟩) 1 1,.string ⟨#[82]⟩]),(10,.int .i64 f),(11,.int .i64 a),(12,.int .i64 b)]).run Tryz.prog w=.ok (.value (.agg (ae (xJ g) (qy f a b)))) w:=by kernel_rfl
attribute [go_sem] aiI
attribute [go_sem ↓] aiH
theorem aiJ(e q:Sl)(D:Db)(t:Sl)(pn:aH)(w:World)(_hq:bK w t pn)(f la su:Int)(hv:jD f la su=false):Calls Tryz.prog 15 #[.agg (aA e q D),.agg (az t pn),.int .i64 f,.int .i64 la,.int .i64 su] w fun x w'=>x=.returned (.tuple #[.agg (aA e q D),.int .i64 2])∧Below w.heap.size w w':=by
 obtain⟨W,dQ,hB,hx2,hx3,hz,hW⟩:=vP e q D (az t pn) 35 w
 replace dQ:=Lib.hid dQ
 go_enter Tryz.func15,Tryz.ntmps15
 go_wp2_with fail
 rw[dQ.out];clear dQ
 have hp1:=kS W (.cells #[Value.string ⟨#[97]⟩] 9) (.cells (ae (xJ (w.heap.size+1+1+1)) (qy f la su)) 44)
 rw[hW]at hp1
 have bV:Below W.heap.size W ((W.alloc (.cells #[Value.string ⟨#[97]⟩] 9)).alloc (.cells (ae (xJ (w.heap.size+1+1+1)) (qy f la su)) 44)):=ay (ay (Below.refl _ W) _) _
 refine(zf _ _ _ (Nc hp1 f la su) false ((Nh f la su).trans hv)).mono ?_
 rintro x w0 ⟨rfl,hb0⟩
 have hb1:=ag bV hb0
 clear hb0 bV hp1
 have hs1':=hb1.size
 obtain⟨hc,hf,hr,hlt⟩:=ax (aI hb1 hx2)
 obtain⟨hc3,hf3,hr3,hlt3⟩:=ax (aI hb1 hx3)
 dsimp only
 have hlt4:w.heap.size+1+1<w0.heap.size:=by have:=hb1.size;omega
 have hz1:=(fD hb1 (w.heap.size+1+1) 0 4 (by omega)).trans hz
 have hne:w.heap.size+1+1≠w.heap.size:=by omega
 go_wp2_with fail
 have hrow:=gJ (w:=w0) (fC e q D) hz1
 exact bodyPost_ret (kT (by rfl) Tryz.underlying30 rfl (by kernel_rfl) rfl hrow) rfl ⟨rfl,Go.WW.Below.putRow (ag hB hb1) (by omega)⟩
theorem aiK(e q:Sl)(D:Db)(t:Sl)(pn:aH)(w:World)(hq:bK w t pn)(f la su:Int)(hv:jD f la su=true)(hE:lM w e.a D.entries)(hi:idxOf (fun z=>bD z.name pn) D.entries=-1):Calls Tryz.prog 15 #[.agg (aA e q D),.agg (az t pn),.int .i64 f,.int .i64 la,.int .i64 su] w fun x w'=>x=.returned (.tuple #[.agg (aA e q D),.int .i64 9])∧Below w.heap.size w w':=by
 obtain⟨W,dQ,hB,hx2,hx3,hz,hW⟩:=vP e q D (az t pn) 35 w
 replace dQ:=Lib.hid dQ
 go_enter Tryz.func15,Tryz.ntmps15
 go_wp2_with fail
 rw[dQ.out];clear dQ
 have hp1:=kS W (.cells #[Value.string ⟨#[97]⟩] 9) (.cells (ae (xJ (w.heap.size+1+1+1)) (qy f la su)) 44)
 rw[hW]at hp1
 have bV:Below W.heap.size W ((W.alloc (.cells #[Value.string ⟨#[97]⟩] 9)).alloc (.cells (ae (xJ (w.heap.size+1+1+1)) (qy f la su)) 44)):=ay (ay (Below.refl _ W) _) _
 refine(zf _ _ _ (Nc hp1 f la su) true ((Nh f la su).trans hv)).mono ?_
 rintro x w0 ⟨rfl,hb0⟩
 have hb1:=ag bV hb0
 clear hb0 bV hp1
 have hs1':=hb1.size
 obtain⟨hc,hf,hr,hlt⟩:=ax (aI hb1 hx2)
 obtain⟨hc3,hf3,hr3,hlt3⟩:=ax (aI hb1 hx3)
 dsimp only
 go_wp2_with fail
 refine(Fe _ _ _ _ _ _ (hE.later (ag hB hb1)) (hq.later (ag hB hb1))).mono ?_
 rintro x w2 ⟨rfl,hb2⟩
 rw[hi]
 have fJ:=ag hb1 hb2
 clear hc hf hr hlt hc3 hf3 hr3 hlt3
 obtain⟨hc,hf,hr,hlt⟩:=ax (aI fJ hx2)
 obtain⟨hc3,hf3,hr3,hlt3⟩:=ax (aI fJ hx3)
 dsimp only
 have hlt4:w.heap.size+1+1<w2.heap.size:=by have:=fJ.size;omega
 have hz1:=(fD fJ (w.heap.size+1+1) 0 4 (by omega)).trans hz
 have hne:w.heap.size+1+1≠w.heap.size:=by omega
 go_wp2_with fail
 have hrow:=gJ (w:=w2) (fC e q D) hz1
 exact bodyPost_ret (kT (by rfl) Tryz.underlying30 rfl (by kernel_rfl) rfl hrow) rfl ⟨rfl,Go.WW.Below.putRow (ag hB fJ) (by omega)⟩
theorem aiL(e q:Sl)(D:Db)(t:Sl)(pn:aH)(w:World)(hq:bK w t pn)(f la su:Int)(hv:jD f la su=true)(X:List EE)(hX:gz w e.a X)(hm:∀x∈X,aS w x.1 x.2)(hD:D.entries=X.map (·.2))(i0:Nat)(hi0:i0<X.length)(hat:idxOf (fun z=>bD z.name pn) D.entries=(i0:Int))(hs0:0≤D.aN)(hs1:D.aN<1000000)(X':List EE)(hX0:X'=X.set i0 (X[i0].1,touched X[i0].2 f la su)):Calls Tryz.prog 15 #[.agg (aA e q D),.agg (az t pn),.int .i64 f,.int .i64 la,.int .i64 su] w (LM q D X' w):=by
 have HX0:=Lib.hid hX0
 clear hX0
 have hlen:D.entries.length=X.length:=by rw[hD];simp
 have hE:lM w e.a D.entries:=by rw[hD];exact hX.dS hm
 clear hD
 obtain⟨W,dQ,hB,hx2,hx3,hz,hW⟩:=vP e q D (az t pn) 35 w
 replace dQ:=Lib.hid dQ
 go_enter Tryz.func15,Tryz.ntmps15
 go_wp2_with fail
 rw[dQ.out];clear dQ
 have hp1:=kS W (.cells #[Value.string ⟨#[97]⟩] 9) (.cells (ae (xJ (w.heap.size+1+1+1)) (qy f la su)) 44)
 rw[hW]at hp1
 have bV:Below W.heap.size W ((W.alloc (.cells #[Value.string ⟨#[97]⟩] 9)).alloc (.cells (ae (xJ (w.heap.size+1+1+1)) (qy f la su)) 44)):=ay (ay (Below.refl _ W) _) _
 refine(zf _ _ _ (Nc hp1 f la su) true ((Nh f la su).trans hv)).mono ?_
 rintro x w0 ⟨rfl,hb0⟩
 have hb1:=ag bV hb0
 clear hb0 bV hp1
 have hs1':=hb1.size
 obtain⟨hc,hf,hr,hlt⟩:=ax (aI hb1 hx2)
 obtain⟨hc3,hf3,hr3,hlt3⟩:=ax (aI hb1 hx3)
 dsimp only
 go_wp2_with fail
 refine(Fe _ _ _ _ _ _ (hE.later (ag hB hb1)) (hq.later (ag hB hb1))).mono ?_
 rintro x w2 ⟨rfl,hb2⟩
 rw[hat]
 have fJ:=ag hb1 hb2
 clear hc hf hr hlt hc3 hf3 hr3 hlt3
 obtain⟨hc,hf,hr,hlt⟩:=ax (aI fJ hx2)
 obtain⟨hc3,hf3,hr3,hlt3⟩:=ax (aI fJ hx3)
 have UK:(D.aN+1).tmod 4611686018427387904=D.aN+1:=Int.tmod_eq_of_lt (by omega) (by omega)
 have hne1:w.heap.size+1≠w.heap.size:=by omega
 have hne2:w.heap.size+1+1≠w.heap.size:=by omega
 have hng:¬(i0:Int)<0:=by omega
 have anY:(i0:Int)<(X.length:Int):=by omega
 have Gt:X.length≤4294967000:=hX.1
 have hsrc:=(hX.later (ag (ag hB fJ) ((Below.refl _ w2).alloc (Nat.le_refl _) (.cells #[] 44)))).src
 have hown:=Own.empty w2 44 17
 have hs2':=fJ.size
 dsimp only
 go_wp2_with (at_builtin;refine gW rfl (.tmp 30) (.tmp 32) _ rfl uZ (n:=0) (s:=⟨some ⟨w2.heap.size,0,none⟩,0⟩) rfl rfl hown rfl (by rw[List.length_map]) hsrc (by simp;omega) (by simp) ?_;intro s3 w3 hown3 hg3 iD;have hb3:Below W.heap.size W w3:=(fJ.alloc fJ.size (.cells #[] 44)).grown hg3 (by simp;omega) (fun k e'=>by cases e';exact hs2');obtain⟨hc5,hf5,lY,aiM⟩:=ax (aI hb3 hx2))
 obtain⟨g,cur,VK,hgb,hh3,aiN,hsz3,Nj⟩:=hown3.cur (by simp;omega)
 obtain⟨s3a,uz⟩:=s3
 dsimp only at VK
 subst VK
 dsimp only
 simp only[List.nil_append,List.length_map]at hsz3 Nj aiN
 have hgw:g≠w.heap.size:=by omega
 have hgz:g≠w.heap.size+1+1:=by omega
 obtain⟨V,hV⟩:∃V,V=w3.setCell ⟨w.heap.size,2,none⟩ (.slice (some ⟨g,0,none⟩) X.length uz):=⟨_,rfl⟩
 have VL:V.heap[g]?=some (.cells cur 44):=by rw[hV];exact(Below.heap_setCell _ _ _ _ hgw).trans hh3
 have kU:V.heap[w.heap.size]?=some (.cells ((aA e q D).setIfInBounds 2 (.slice (some ⟨g,0,none⟩) X.length uz)) 30):=by rw[hV];exact dH (o:=2) _ (aI hb3 hx2)
 have hVz:aX V (w.heap.size+1+1) 0 4=true:=by rw[hV];exact(jJ hne2).trans ((fD hb3 (w.heap.size+1+1) 0 4 (by omega)).trans hz)
 have kM:Below w.heap.size w V:=by rw[hV];exact(ag hB hb3).setCell (by simp) _
 have Gz:w.heap.size+1+1<V.heap.size:=by rw[hV];simp only[World.setCell,Array.size_modify];have:=hb3.size;omega
 have hwl:w.heap.size<V.heap.size:=Nat.lt_of_succ_lt (Nat.lt_of_succ_lt Gz)
 have VM:w.heap.size≤g:=by omega
 have hw2:w.heap.size≤w.heap.size+1+1:=by omega
 rw[show(aA e q D).setIfInBounds 2 (.slice (some ⟨g,0,none⟩) X.length uz)=aA ⟨some ⟨g,0,none⟩,uz⟩ q {D with entries:=X.map (·.2)} by rw[←Qg e q D ⟨some ⟨g,0,none⟩,uz⟩ (X.map (·.2)),List.length_map]]at kU
 have hrow:=Nj i0 hi0
 rw[List.getElem_map]at hrow
 have hcell:∀j,j<17→cur[i0*17+j]?=(cZ X[i0])[j]?:=fun j hj=>by
  have:=aiC hrow j hj
  exact this
 have h11:=(hcell 11 (by omega)).trans (PR _ _)
 have h12:=(hcell 12 (by omega)).trans (PS _ _)
 have h13:=(hcell 13 (by omega)).trans (PT _ _)
 rw[←hV]
 clear hV hc5 hf5 lY aiM hc hf hr hlt hc3 hf3 hr3 hlt3
 obtain⟨hc,hf,hr,hlt⟩:=ax kU
 obtain⟨hcg,hfg,hrg,VO⟩:=ax VL
 have nb:¬one g w.heap.size:=bU (Ne.symm hgw)
 refine oV (one g) (But.refl _ V) (by kernel_rfl) (by kernel_rfl) ?_
 iterate 14 (refine bC (by kernel_rfl) (by kernel_rfl) (fun K hK=>?_);go_big_quiet_op;refine hK _ ?_;clear hK K)
 refine bZ (by rfl) (by rfl) (fun K hK=>?_)
 go_wp2_with fail
 refine hK _ _ (fU ((Bl V g (i0*17+11) (.int .i64 f)).drew)) ?_
 clear hK K
 iterate 2 (refine bC (by kernel_rfl) (by kernel_rfl) (fun K hK=>?_);go_big_quiet_op;refine hK _ ?_;clear hK K)
 refine bZ (by rfl) (by rfl) (fun K hK=>?_)
 go_wp2_with fail
 refine hK _ _ (fU ((Bl V g (i0*17+11) (.int .i64 f)).trans (Bl _ g (i0*17+12) (.int .i64 la))).drew) ?_
 clear hK K
 have aiP:But (one g) V ((V.setCell ⟨g,i0*17+11,none⟩ (.int .i64 f)).setCell ⟨g,i0*17+12,none⟩ (.int .i64 la)).drew:=((Bl V g (i0*17+11) (.int .i64 f)).trans (Bl _ g (i0*17+12) (.int .i64 la))).drew
 have VP:=aiD VL (i0*17+11) (i0*17+12) (.int .i64 f) (.int .i64 la)
 have an0:((cur.setIfInBounds (i0*17+11) (.int .i64 f)).setIfInBounds (i0*17+12) (.int .i64 la))[i0*17+13]?=some (.int .i64 X[i0].2.iw):=by
  rw[Array.getElem?_setIfInBounds,if_neg (by omega),Array.getElem?_setIfInBounds,if_neg (by omega)]
  exact h13
 generalize ((V.setCell ⟨g,i0*17+11,none⟩ (.int .i64 f)).setCell ⟨g,i0*17+12,none⟩ (.int .i64 la)).drew=V2 at *
 clear hcg hfg hrg VO h11 h12 h13
 obtain⟨hcg,hfg,hrg,VO⟩:=ax VP
 iterate 2 (refine bC (by kernel_rfl) (by kernel_rfl) (fun K hK=>?_);go_big_quiet_op;refine hK _ ?_;clear hK K)
 refine bZ (by rfl) (by rfl) (fun K hK=>?_)
 go_wp2_with fail
 have iE:=aiP.trans (Bl V2 g (i0*17+13) (.int .i64 su))
 have hUg:=dH (o:=i0*17+13) (.int .i64 su) VP
 refine hK _ _ (fU iE) ?_
 clear hK K
 refine bz ?_
 generalize V2.setCell ⟨g,i0*17+13,none⟩ (.int .i64 su)=U at *
 have hX':=HX0.out
 have Nk:X'.length=X.length:=by rw[hX',List.length_set]
 have ku:=(iE.block _ hwl nb).trans kU
 have hUz:aX U (w.heap.size+1+1) 0 4=true:=(EN (iE.block _ Gz (bU (Ne.symm hgz))) 0 4).trans hVz
 have TB:=iE.size
 have hBU:Below w.heap.size w U:=((But.of_below (S:=fun k=>w.heap.size≤k) kM).trans (iE.mono fun k (hk:k=g)=>hk▸VM)).below (Nat.le_refl _) fun k hk=>hk
 obtain⟨hcU,hfU,-,an3⟩:=ax ku
 have hset:=dH (o:=1) (.int .i64 (D.aN+1)) ku
 have LK:row? (U.setCell ⟨w.heap.size,1,none⟩ (.int .i64 (D.aN+1))) w.heap.size 0 4=some (aA ⟨some ⟨g,0,none⟩,uz⟩ q {D with entries:=X'.map (·.2),aN:=D.aN+1}):=(dI hset).trans (by rw[Qe,show aA ⟨some ⟨g,0,none⟩,uz⟩ q {D with entries:=X.map (·.2),aN:=D.aN+1}=aA ⟨some ⟨g,0,none⟩,uz⟩ q {D with entries:=X'.map (·.2),aN:=D.aN+1} from aiE (by simp[Nk]) rfl rfl rfl];exact agD _ _ _)
 have hcp:aX (U.setCell ⟨w.heap.size,1,none⟩ (.int .i64 (D.aN+1))) (w.heap.size+1+1) 0 4=true:=(jJ hne2).trans hUz
 have hrx:=aiG (cur:=cur) (X:=X) i0 hi0 f la su (fun i hi=>by have:=Nj i hi;rwa[List.getElem_map]at this)
 have HRX:Hid (∀i (hi:i<X'.length),gy (((cur.setIfInBounds (i0*17+11) (.int .i64 f)).setIfInBounds (i0*17+12) (.int .i64 la)).setIfInBounds (i0*17+13) (.int .i64 su)) (i*17) 17=some (cZ X'[i])):=Lib.hid (by subst hX';exact hrx)
 have HXL:=Lib.hid Nk
 clear hrx hX' Nk
 have VQ:=Lib.hid hUg
 have HBU:=Lib.hid iE
 go_wp2_with fail
 have hrow2:=gJ (fC ⟨some ⟨g,0,none⟩,uz⟩ q {D with entries:=X'.map (·.2),aN:=D.aN+1}) hcp
 refine bodyPost_ret (kT (by rfl) Tryz.underlying30 rfl (by kernel_rfl) rfl hrow2) rfl ?_
 refine⟨⟨some ⟨g,0,none⟩,uz⟩,rfl,Go.WW.Below.putRow (hBU.setCell (Nat.le_refl _) _) hw2,fun y hy=>?_⟩
 have hgl:g<U.heap.size:=(Array.getElem?_eq_some_iff.1 VQ.out).1
 have hyg:y.heap[g]?=U.heap[g]?:=by
  rw[hy g ⟨VM,by rw[gV];simp only[World.setCell,Array.size_modify];exact hgl⟩,gU hgz,Below.heap_setCell _ _ _ _ hgw]
 refine⟨by rw[HXL.out];exact hX.1,fun i hi=>⟨g,0,cZ X'[i],rfl,?_,_,List.getElem?_eq_getElem hi,rfl⟩⟩
 rw[Nat.zero_add,dI (hyg.trans VQ.out)]
 exact HRX.out i hi
end Go.Proofs.YtpfifochimkpfaaGreatDoor
namespace Go.WW
open Go.RowKit
section
variable {P:Program} {ops:Array Oper} {S:World→Prop} {st:Oper→Bool} {Q:Act→World→Prop}
end
def lastB(ops:List Oper):Bool:=
 match ops.getLast? with
 |some z=>z.guard.isNone&&(List.range (ops.length-1)).all fun i=>z.after.toList.any fun e=>Region.binds .any e&&e.on == i
 |none=>false
def an5(P:Program)(ops:List Oper)(Q:Act→World→Prop)(a:Act)(w:World):Prop:=
 match ops.getLast? with
 |some z=>z.wp P a w Q never
 |none=>False
end Go.WW
namespace Go.WW
open Go.RowKit
theorem gQ.src{w:World}{a:Option Addr}{L:List ah}(h:gQ w a L):cO w 10 a (L.map ak):=
 ⟨fun r hr=>by obtain⟨x,_,rfl⟩:=List.mem_map.1 hr;exact og _,fun r hr=>by obtain⟨x,_,rfl⟩:=List.mem_map.1 hr;exact PV _,fun i hi=>by
  obtain⟨b,o,ha,hr,-⟩:=gQ.get h i (by simpa using hi)
  exact⟨b,o,ha,by rw[hr,List.getElem_map]⟩⟩
theorem cO.take{w:World}{k:Nat}{A:Option Addr}{rows:List (Array Value)}(h:cO w k A rows)(n:Nat):cO w k A (rows.take n):=
 ⟨fun r hr=>h.size r (List.mem_of_mem_take hr),fun r hr=>h.one r (List.mem_of_mem_take hr),fun i hi=>by
  have hi':i<rows.length:=by simp at hi;omega
  obtain⟨b,o,ha,hr⟩:=h.at_ i hi'
  exact⟨b,o,ha,by rw[hr,List.getElem_take]⟩⟩
theorem cO.drop{w:World}{k b o:Nat}{rows:List (Array Value)}(h:cO w k (some ⟨b,o,none⟩) rows)(n:Nat):cO w k (some ⟨b,o+n*k,none⟩) (rows.drop n):=
 ⟨fun r hr=>h.size r (List.mem_of_mem_drop hr),fun r hr=>h.one r (List.mem_of_mem_drop hr),fun i hi=>by
  have hi':n+i<rows.length:=by simp at hi;omega
  obtain⟨b',o',ha,hr⟩:=h.at_ (n+i) hi'
  cases ha
  exact⟨b,o+n*k,rfl,by rw[Nat.add_assoc,←Nat.add_mul,hr,List.getElem_drop]⟩⟩
theorem cO.tail{w:World}{a:Option Addr}{pb po:Nat}{rows:List (Array Value)}(h:cO w 10 a rows)(ha:a=some ⟨pb,po,none⟩)(cap n:Nat)(hc:rows.length≤cap):cO w 10 (if cap=n then a else Option.map (fun x=>x.add (n*10)) a) (rows.drop n):=by
 subst ha
 by_cases e:cap=n
 ·rw[List.drop_of_length_le (by omega)]
  exact⟨by simp,by simp,fun i hi=>absurd hi (Nat.not_lt_zero _)⟩
 ·rw[if_neg e]
  have hadd:(⟨pb,po,none⟩:Addr).add (n*10)=⟨pb,po+n*10,none⟩:=by unfold Addr.add;split<;>simp_all
  rw[Option.map_some,hadd]
  exact h.drop n
theorem lM.aP{w:World}{b o:Nat}{l:List Entry}(x:lM w (some ⟨b,o,none⟩) l)(i:Nat)(h:i<l.length):w.cell? ⟨b,o+i*17+6,none⟩=some (.string l[i].aP):=by
 obtain⟨r,hr,-⟩:=lM.at x i h
 have:=ji hr 6 (by omega)
 rw[BU]at this
 exact this
end Go.WW
namespace Go.Proofs.YtpfifochimkpfaaGreatDoor
open Go.RowKit Go.WW
end Go.Proofs.YtpfifochimkpfaaGreatDoor
namespace Go.WW
open Go.RowKit
theorem Ip{D:Db}{X:List EE}(hD:D.entries=X.map (·.2))(q:aH) :
  (idxOf (fun z=>bD z.name q) D.entries=-1∧∀x∈X,bD x.2.name q=false)∨∃i,∃hi:i<X.length,idxOf (fun z=>bD z.name q) D.entries=(i:Int)∧bD X[i].2.name q=true:=by
 rw[hD]
 unfold idxOf
 cases hf:(X.map (·.2)).findIdx? (fun z=>bD z.name q)with
 |none=>
  refine .inl ⟨rfl,fun x hx=>?_⟩
  exact(List.findIdx?_eq_none_iff.1 hf) x.2 (List.mem_map.2 ⟨x,hx,rfl⟩)
 |some i=>
  obtain⟨hi,h1,-⟩:=List.findIdx?_eq_some_iff_getElem.1 hf
  refine .inr ⟨i,by simpa using hi,rfl,by simpa using h1⟩
theorem aiU{D D':Db}{X X':List EE}{q:aH}{f a b no:Int}(h:rF D X q f a b no D' X'):D'.aF=D.aF∧D'.aJ=D.aJ∧D.aN≤D'.aN∧D'.aN≤D.aN+1∧X'.length≤X.length:=by
 cases h with
 |bad=>exact⟨rfl,rfl,by omega,by omega,by omega⟩
 |none=>exact⟨rfl,rfl,by omega,by omega,by omega⟩
 |yes=>exact⟨rfl,rfl,by simp;omega,by simp,by simp⟩
theorem qj.dS{w:World}{a:Option Addr}{X:List EE}(h:qj w a X):lM w a (X.map (·.2)):=h.rows.dS h.each
end Go.WW
namespace Go.Proofs.YtpfifochimkpfaaGreatDoor
open Go.RowKit Go.WW
section
variable (S:Nat→Prop) (es ps:Sl) (D:Db) (X:List EE) (w:World)
theorem aiV(t:Sl)(q:aH)(f la su:Int)(h:gG S es ps D X w)(hS:∀k,S k→k<w.heap.size)(hq:bK w t q)(hD:D.entries=X.map (·.2))(hg:iR (X.map (·.2)))(hs0:0≤D.aN)(hs1:D.aN<1000000) :
  Calls Tryz.prog 15 #[.agg (aA es ps D),.agg (az t q),.int .i64 f,.int .i64 la,.int .i64 su] w fun z w'=>∃(no:Int) (es':Sl) (D':Db) (X':List EE),z=.returned (.tuple #[.agg (aA es' ps D'),.int .i64 no])∧Below w.heap.size w w'∧gG S es' ps D' X' w'∧rF D X q f la su no D' X':=by
 have hX:=h.dS.out.rows
 have hm:=h.dS.out.each
 cases hv:jD f la su with
 |false=>
  refine(aiJ es ps D t q w hq f la su hv).mono ?_
  rintro z w' ⟨rfl,hb⟩
  exact⟨2,es,D,X,rfl,hb,h.later hb,.bad hv⟩
 |true=>
  rcases Ip hD q with⟨hi,hn⟩|⟨i,hi,hat,hn⟩
  ·refine(aiK es ps D t q w hq f la su hv (by rw[hD];exact h.dS.out.dS) hi).mono ?_
   rintro z w' ⟨rfl,hb⟩
   exact⟨9,es,D,X,rfl,hb,h.later hb,.none hv hn⟩
  ·have hk:textOf X[i].2.name=gu q:=(Io (hg.ok _ (List.mem_map.2 ⟨_,List.getElem_mem hi,rfl⟩))).1 hn
   refine(aiL es ps D t q w hq f la su hv X hX hm hD i hi hat hs0 hs1 (X.map (um (gu q) f la su)) (aht hg hi hk f la su)).mono ?_
   rintro z w' ⟨s,rfl,hb,hd⟩
   refine⟨0,s,_,_,rfl,hb,⟨fun y hy=>⟨gY.L8 hd hS y hy,fun x hx=>?_⟩,h.dJ.later hb,h.cap⟩,.yes hv i hi hn⟩
   obtain⟨z,hz,rfl⟩:=List.mem_map.1 hx
   exact((h.dS y ((But.of_below hb).trans hy)).each z hz).touched _ _ _ _
end
end Go.Proofs.YtpfifochimkpfaaGreatDoor
