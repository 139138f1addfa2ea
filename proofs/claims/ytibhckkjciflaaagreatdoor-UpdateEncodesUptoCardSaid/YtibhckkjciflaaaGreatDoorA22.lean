/- A part of the proof. -/
import Derived.Test.YtibhckkjciflaaaGreatDoorA17
import Derived.Test.YtibhckkjciflaaaGreatDoorA16
import Derived.Test.YtibhckkjciflaaaGreatDoorA21
set_option maxRecDepth 100000
set_option maxHeartbeats 8000000
namespace Go.Proofs.YtibhckkjciflaaaGreatDoor
open Go.RowKit Go.WW
structure qx(W wr:World)(sb:Sl)(l:List UInt8):Prop where
 b:Below W.heap.size W wr
 own:Go.WW.Own wr W.heap.size 5 1 sb (gV l)
theorem qx.app{W wr w':World}{sb s':Sl}{l:List UInt8}{c:UInt8}{o:Obj}(h:qx W wr sb l)(hown:Go.WW.Own w' W.heap.size 5 1 s' (gV l++[#[.int .u8 c.toNat]]))(hg:(wr.alloc o).grownBy w' sb.blk):qx W w' s' (l++[c]):=
 ⟨(h.b.alloc h.b.size _).grown hg (by have:=h.b.size;simp;omega) (fun k e=>(h.own.base e).1),by rw[←abr];exact hown⟩
theorem qx.up{W wr:World}{sb:Sl}{l:List UInt8}(h:qx W wr sb l)(o:Obj):Go.WW.Own (wr.alloc o) W.heap.size 5 1 sb (gV l):=h.own.kept fun g hg=>Below.heap_alloc wr o g (h.own.base hg).2
theorem qx.sz{W wr:World}{sb:Sl}{l:List UInt8}(h:qx W wr sb l)(o:Obj):W.heap.size≤(wr.alloc o).heap.size:=by have:=h.b.size;simp;omega
theorem adp{p:aG}(h:aY p=true):0<(iC p.parts).length:=by
 have hne:=yz h
 simp only[aY,Bool.and_eq_true,List.all_eq_true]at h
 cases hl:p.parts with
 |nil=>exact absurd hl hne
 |cons q l=>
  have:=h.1.1.1 q (by rw[hl];simp)
  simp only[eQ,sized,Bool.and_eq_true,decide_eq_true_eq]at this
  have h1:0<q.data.toList.length:=by
    have h2:q.data.toList.length=q.size:=by simp
    omega
  cases hd:q.data.toList with
  |nil=>rw[hd]at h1;simp at h1
  |cons c d=>
   rw[iC,hd,yx,List.length_append,List.length_append]
   have:0<(jU c).length:=by unfold jU;split<;>simp
   omega
theorem adq{p:aG}{L:List UInt8}(h:L=iC p.parts):textOf p=(ByteArray.mk L.toArray++ByteArray.mk #[64])++p.aQ:=by
 obtain⟨pp,⟨⟨r⟩⟩⟩:=p
 subst h
 have e1:=ByteArray.mk_append_mk (iC pp) [64]
 have e2:=ByteArray.mk_append_mk (iC pp++[64]) r
 rw[show(ByteArray.mk #[64])=ByteArray.mk ([64]:List UInt8).toArray from rfl,e1]
 show _=ByteArray.mk (iC pp++[64]).toArray++ByteArray.mk r.toArray
 rw[e2]
 simp[textOf,uk]
theorem Rh(l:List ByteArray)(k:Nat)(h:k<l.length):iC (l.take (k+1))=(if k=0 then []else iC (l.take k)++[47])++esc l[k].data.toList:=by
 rw[List.take_succ_eq_append_getElem h,abj]
 have e:(l.take k).length=k:=by simp;omega
 rw[e]
theorem adr(s:Sl)(p:aG)(w:World)(hp:gu w s p)(hok:aY p=true):Calls Tryz.prog 175 #[.agg (aJ s p)] w fun e w'=>e=.returned (.tuple #[.string (textOf p),.int .i64 0])∧Below w.heap.size w w':=by
 obtain⟨hlen,Ri,hrl⟩:=abu hok
 have hp0:0<p.parts.length:=List.length_pos_iff.2 (yz hok)
 have hB0:Below w.heap.size w (w.alloc (.cells (aJ s p) 25)):=(Below.refl _ w).alloc (Nat.le_refl _) _
 obtain⟨sa,scap⟩:=s
 obtain⟨b,o,ha,-,-⟩:=hp.1.get 0 hp0
 dsimp only at ha
 subst ha
 have hpL:=hp.later hB0
 go_enter Tryz.func175,Tryz.ntmps175
 go_wp2_with fail
 refine(wz _ _ _ hpL).mono ?_
 rintro e w1 ⟨rfl,hb1⟩
 rw[hok]
 obtain⟨hcc,ax,hrr⟩:=aK hb1
 have hsz:w.heap.size<w1.heap.size:=by have:=hb1.size;simp at this;omega
 go_wp2_with fail
 clear hcc ax hrr hsz
 have HS:=Lib.hid Ri
 clear Ri
 have hc1:(w.alloc (.cells (aJ ⟨some ⟨b,o,none⟩,scap⟩ p) 25)).cell? ⟨w.heap.size,1,none⟩=some (.string p.aQ):=by simp[go_sem]
 have hW:w.heap.size<(w.alloc (.cells (aJ ⟨some ⟨b,o,none⟩,scap⟩ p) 25)).heap.size:=by simp
 generalize w.alloc (.cells (aJ ⟨some ⟨b,o,none⟩,scap⟩ p) 25)=W0 at *
 go_loopw [4,14] (fun bv i wr=>∃(k:Nat) (sb:Sl),k≤p.parts.length∧i=.int .i64 k∧bv=.slice sb.a (iC (p.parts.take k)).length sb.cap∧qx W0 wr sb (iC (p.parts.take k))) (fun _ i _=>p.parts.length-(intOf i).toNat)
 case atStart=>exact⟨0,⟨none,0⟩,Nat.zero_le _,rfl,rfl,hb1,Go.WW.Own.nil _ _ _ _⟩
 case round=>
  obtain⟨k,sb,hk,rfl,rfl,hR⟩:=hrel
  by_cases hlt:k<p.parts.length
  ·obtain⟨hcc,hss⟩:=(hpL.later hR.b).1.at k hlt
   have hbb:b<wr.heap.size:=World.block_lt_of_cell? wr _ hcc
   have hps:p.parts[k].size≤32:=HS.out _ (List.getElem_mem hlt)
   have hlt4:(iC (p.parts.take k)).length≤260:=by
    have h1:=PY (l:=p.parts.take k) (fun x hx=>HS.out x (List.mem_of_mem_take hx))
    have h2:(p.parts.take k).length≤k:=List.length_take_le _ _
    omega
   by_cases hk0:k=0
   ·obtain⟨L1,hL1⟩:∃L:List UInt8,L=[]:=⟨_,rfl⟩
    have ads:L1.length≤261:=by rw[hL1];simp
    have HL:=Lib.hid (show L1++esc p.parts[k].data.toList=iC (p.parts.take (k+1)) by rw[Rh _ _ hlt,if_pos hk0,hL1])
    have HK:=Lib.hid (show iC (p.parts.take k)=L1++esc (p.parts[k].data.toList.take 0) by subst hk0;subst hL1;simp[iC,esc])
    have hk1:decide (0<k)=false:=by simp[hk0]
    have hk2:¬(0:Int)<(k:Int):=by omega
    clear hL1 hk0
    go_wp2_with fail
    go_loopw [4,26] (fun bv i wr=>∃(j:Nat) (sb:Sl),j≤p.parts[k].size∧i=.int .i64 j∧bv=.slice sb.a (L1++esc (p.parts[k].data.toList.take j)).length sb.cap∧qx W0 wr sb (L1++esc (p.parts[k].data.toList.take j))) (fun _ i _=>p.parts[k].size-(intOf i).toNat)
    case atStart=>exact⟨0,sb,Nat.zero_le _,rfl,by rw[HK.out],by rw[←HK.out];exact hR⟩
    case round=>
     clear hR
     obtain⟨j,sc,hj,rfl,hbv,hI⟩:=hrel
     obtain⟨Lj,wH⟩:∃L,L=L1++esc (p.parts[k].data.toList.take j):=⟨_,rfl⟩
     rw[←wH]at hbv hI
     subst hbv
     have HJ:=Lib.hid wH
     clear wH
     by_cases hjt:j<p.parts[k].size
     ·have hee:=Ep (p.parts[k].data.toList.take j)
      have hel:(p.parts[k].data.toList.take j).length≤j:=List.length_take_le _ _
      have hLL:Lj.length≤1000:=by rw[HJ.out,List.length_append];omega
      have HT:=Lib.hid (take_snoc' p.parts[k] j hjt)
      cases hsp:nU p.parts[k][j]
      ·have HN:=Lib.hid (show jU p.parts[k][j]=[p.parts[k][j]] by rw[jU,hsp];rfl)
       go_wp2_with (first|(go_at_call 207;refine(Es _ _).mono ?_;rintro e w' ⟨rfl,rfl⟩;rw[hsp])|(at_builtin;refine kZ rfl (.tmp 36) (.tmp 40) _ rfl gy rfl (iQ _).symm (hI.up _) rfl rfl (eF.new _ #[.int .u8 p.parts[k][j].toNat] _ _ rfl (by simp[dG,Value.oneCell'])) (by rw[iQ];simp;omega) (hI.sz _) ?_;intro s2 w2 hown hg hat;have hR2:=hI.app (c:=p.parts[k][j]) hown hg;clear hown hg hat))
       go_roundw
       case rel=>exact⟨j+1,s2,by omega,by go_num,by rw[HT.out,um,HN.out,←List.append_assoc,←HJ.out];simp,by rw[HT.out,um,HN.out,←List.append_assoc,←HJ.out];exact hR2⟩
       case measure=>simp[intOf];omega
      ·have HN:=Lib.hid (show jU p.parts[k][j]=[92,p.parts[k][j]] by rw[jU,hsp];rfl)
       go_wp2_with (first|(go_at_call 207;refine(Es _ _).mono ?_;rintro e w' ⟨rfl,rfl⟩;rw[hsp])|(at_builtin;refine kZ rfl (.tmp 33) (.tmp 34) _ rfl gy rfl (iQ _).symm (hI.up _) rfl rfl (eF.new _ #[.int .u8 92] _ _ rfl (by simp[dG,Value.oneCell'])) (by rw[iQ];simp;omega) (hI.sz _) ?_;intro s2 w2 hown hg hat;have hR2:=hI.app (c:=92) hown hg;clear hown hg hat)|(at_builtin;refine kZ rfl (.tmp 36) (.tmp 40) _ rfl gy rfl (by rw[iQ];simp) (hR2.up _) rfl rfl (eF.new _ #[.int .u8 p.parts[k][j].toNat] _ _ rfl (by simp[dG,Value.oneCell'])) (by rw[iQ];simp;omega) (hR2.sz _) ?_;intro s3 w3 hown hg hat;have iD:=hR2.app (c:=p.parts[k][j]) hown hg;clear hown hg hat))
       go_roundw
       case rel=>exact⟨j+1,s3,by omega,by go_num,by rw[HT.out,um,HN.out,←List.append_assoc,←HJ.out];simp,by rw[HT.out,um,HN.out,←List.append_assoc,←HJ.out];simpa using iD⟩
       case measure=>simp[intOf];omega
     ·have HE:=Lib.hid (show Lj=iC (p.parts.take (k+1)) by
       rw[HJ.out,List.take_of_length_le (by simp;omega)];exact HL.out)
      go_wp2_with fail
      go_roundw
      case rel=>exact⟨k+1,sc,by omega,by go_num,by rw[HE.out],by rw[←HE.out];exact hI⟩
      case measure=>simp[intOf];omega
   ·obtain⟨L1,hL1⟩:∃L:List UInt8,L=iC (p.parts.take k)++[47]:=⟨_,rfl⟩
    have ads:L1.length≤261:=by rw[hL1,List.length_append];simp;omega
    have HL:=Lib.hid (show L1++esc p.parts[k].data.toList=iC (p.parts.take (k+1)) by rw[Rh _ _ hlt,if_neg hk0,hL1])
    have hk1:decide (0<k)=true:=by simp;omega
    have hk2:(0:Int)<(k:Int):=by omega
    have HK:=Lib.hid hL1
    clear hL1
    go_wp2_with (at_builtin;refine kZ rfl (.tmp 21) (.tmp 22) _ rfl gy rfl (iQ _).symm (hR.up _) rfl rfl (eF.new _ #[.int .u8 47] _ _ rfl (by simp[dG,Value.oneCell'])) (by rw[iQ];simp;omega) (hR.sz _) ?_;intro s1 w1' hown hg hat;have hR1:=hR.app (c:=47) hown hg;clear hown hg hat)
    go_loopw [4,26] (fun bv i wr=>∃(j:Nat) (sb:Sl),j≤p.parts[k].size∧i=.int .i64 j∧bv=.slice sb.a (L1++esc (p.parts[k].data.toList.take j)).length sb.cap∧qx W0 wr sb (L1++esc (p.parts[k].data.toList.take j))) (fun _ i _=>p.parts[k].size-(intOf i).toNat)
    case atStart=>exact⟨0,s1,Nat.zero_le _,rfl,by rw[HK.out];simp[esc],by simp only[List.take_zero,Jh,List.append_nil];rw[HK.out];exact hR1⟩
    case round=>
     clear hR
     obtain⟨j,sc,hj,rfl,hbv,hI⟩:=hrel
     obtain⟨Lj,wH⟩:∃L,L=L1++esc (p.parts[k].data.toList.take j):=⟨_,rfl⟩
     rw[←wH]at hbv hI
     subst hbv
     have HJ:=Lib.hid wH
     clear wH
     by_cases hjt:j<p.parts[k].size
     ·have hee:=Ep (p.parts[k].data.toList.take j)
      have hel:(p.parts[k].data.toList.take j).length≤j:=List.length_take_le _ _
      have hLL:Lj.length≤1000:=by rw[HJ.out,List.length_append];omega
      have HT:=Lib.hid (take_snoc' p.parts[k] j hjt)
      cases hsp:nU p.parts[k][j]
      ·have HN:=Lib.hid (show jU p.parts[k][j]=[p.parts[k][j]] by rw[jU,hsp];rfl)
       go_wp2_with (first|(go_at_call 207;refine(Es _ _).mono ?_;rintro e w' ⟨rfl,rfl⟩;rw[hsp])|(at_builtin;refine kZ rfl (.tmp 36) (.tmp 40) _ rfl gy rfl (iQ _).symm (hI.up _) rfl rfl (eF.new _ #[.int .u8 p.parts[k][j].toNat] _ _ rfl (by simp[dG,Value.oneCell'])) (by rw[iQ];simp;omega) (hI.sz _) ?_;intro s2 w2 hown hg hat;have hR2:=hI.app (c:=p.parts[k][j]) hown hg;clear hown hg hat))
       go_roundw
       case rel=>exact⟨j+1,s2,by omega,by go_num,by rw[HT.out,um,HN.out,←List.append_assoc,←HJ.out];simp,by rw[HT.out,um,HN.out,←List.append_assoc,←HJ.out];exact hR2⟩
       case measure=>simp[intOf];omega
      ·have HN:=Lib.hid (show jU p.parts[k][j]=[92,p.parts[k][j]] by rw[jU,hsp];rfl)
       go_wp2_with (first|(go_at_call 207;refine(Es _ _).mono ?_;rintro e w' ⟨rfl,rfl⟩;rw[hsp])|(at_builtin;refine kZ rfl (.tmp 33) (.tmp 34) _ rfl gy rfl (iQ _).symm (hI.up _) rfl rfl (eF.new _ #[.int .u8 92] _ _ rfl (by simp[dG,Value.oneCell'])) (by rw[iQ];simp;omega) (hI.sz _) ?_;intro s2 w2 hown hg hat;have hR2:=hI.app (c:=92) hown hg;clear hown hg hat)|(at_builtin;refine kZ rfl (.tmp 36) (.tmp 40) _ rfl gy rfl (by rw[iQ];simp) (hR2.up _) rfl rfl (eF.new _ #[.int .u8 p.parts[k][j].toNat] _ _ rfl (by simp[dG,Value.oneCell'])) (by rw[iQ];simp;omega) (hR2.sz _) ?_;intro s3 w3 hown hg hat;have iD:=hR2.app (c:=p.parts[k][j]) hown hg;clear hown hg hat))
       go_roundw
       case rel=>exact⟨j+1,s3,by omega,by go_num,by rw[HT.out,um,HN.out,←List.append_assoc,←HJ.out];simp,by rw[HT.out,um,HN.out,←List.append_assoc,←HJ.out];simpa using iD⟩
       case measure=>simp[intOf];omega
     ·have HE:=Lib.hid (show Lj=iC (p.parts.take (k+1)) by
       rw[HJ.out,List.take_of_length_le (by simp;omega)];exact HL.out)
      go_wp2_with fail
      go_roundw
      case rel=>exact⟨k+1,sc,by omega,by go_num,by rw[HE.out],by rw[←HE.out];exact hI⟩
      case measure=>simp[intOf];omega
  ·have hE:p.parts.take k=p.parts:=List.take_of_length_le (by omega)
   rw[hE]at hR ⊢
   clear hE
   have hT:=PY (l:=p.parts) (fun x hx=>HS.out x hx)
   have hpos:=adp hok
   obtain⟨L,hL⟩:∃L,L=iC p.parts:=⟨_,rfl⟩
   rw[←hL]at hR hT hpos ⊢
   have HX:=Lib.hid (adq hL)
   clear hL
   obtain⟨g,hga,-,-⟩:=hR.own.row 0 (by rw[iQ];exact hpos)
   obtain⟨sba,sbc⟩:=sb
   dsimp only at hga
   subst hga
   have hcv:=I8 (P:=Tryz.prog) wr 41 9 5 Tryz.underlying41 Tryz.underlying5 Tryz.underlying9 g 0 sbc L (fun i hi=>by
    obtain⟨g',hg',-,hrow⟩:=hR.own.row i (by rw[iQ];exact hi)
    cases hg'
    have hcell:=kF hrow 0 (by omega)
    simpa[gV]using hcell)
   have hrc:wr.cell? ⟨w.heap.size,1,none⟩=some (.string p.aQ):=(hR.b.cell (p:=⟨w.heap.size,1,none⟩) hW).trans hc1
   have amH:L.length≤260:=by omega
   have HB:=Lib.hid (hB0.trans (hR.b.mono hB0.size))
   have rJ:w.heap.size<wr.heap.size:=World.block_lt_of_cell? wr _ hrc
   clear hR hT hpos hW hc1
   go_wp2_with fail
   go_ret2
   exact⟨by rw[HX.out];rfl,HB.out⟩
end Go.Proofs.YtibhckkjciflaaaGreatDoor
namespace Go.WW
open Go.RowKit
theorem adw(s:ByteArray)(es:List MapEntry)(keys:List ByteArray)(h:es.map (·.key)=keys.map Value.string) :
  (yA keys s=false∧Instr.findNow .string (.string s) es 0=some none)∨
  (yA keys s=true∧∃j e,Instr.findNow .string (.string s) es 0=some (some (0+j,e.val))∧es[j]?=some e∧e.key=.string s):=by
 have hm:∀x∈es,∃k∈keys,x.key=.string k:=fun x hx=>by
  have:x.key∈es.map (·.key):=List.mem_map.2 ⟨x,hx,rfl⟩
  rw[h,List.mem_map]at this
  obtain⟨k,hk,e⟩:=this
  exact⟨k,hk,e.symm⟩
 rcases MapKept.findNow_spec (d:=.string) (k:=.string s) trivial es 0 (fun x hx=>by obtain⟨k,_,e⟩:=hm x hx;rw[e];trivial)with⟨h1,h2⟩|⟨j,e,h1,h2,h3⟩
 ·refine .inl ⟨?_,h1⟩
  cases hk:yA keys s with
  |false=>rfl
  |true=>
   have:=(En keys s).1 hk
   have:Value.string s∈es.map (·.key):=by rw[h];exact List.mem_map.2 ⟨s,this,rfl⟩
   obtain⟨x,hx,e⟩:=List.mem_map.1 this
   exact absurd e (h2 x hx)
 ·refine .inr ⟨?_,j,e,h1,h2,h3⟩
  obtain⟨k,hk,e'⟩:=hm e (List.mem_of_getElem? h2)
  rw[h3]at e'
  obtain rfl:s=k:=by injection e'
  exact(En keys s).2 hk
theorem adx{P:Program}{w:World}{mty kt et:TypeId}{d:TypeDesc}{r clock i:Nat}{es:Array MapEntry}{e:MapEntry}{v0:Value}(v:Value)(hm:P.underlying mty=some (.map kt et))(hd:P.underlying kt=some d)(hk:MapKept.IsKey d e.key)
  (hf:Instr.findNow d e.key es.toList 0=some (some (i,v0))) (hi:es[i]?=some e) (hb:w.heap[r]?=some (.map es clock)) :
  (Instr.mapUpdate mty (.map (some r)) e.key v).run P w=.ok () (w.putObj r (.map (es.modify i fun e=>{e with val:=v}) clock)):=by
 have hc:(Instr.checkKey false 10000 kt e.key).run P w=.ok () w:=MapKept.run_checkKey hd hk false 9999
 have hx:(es.modify i fun x=>{x with key:=e.key,val:=v})=es.modify i fun e=>{e with val:=v}:=by
  apply Array.ext_getElem?
  intro j
  rw[Array.getElem?_modify,Array.getElem?_modify]
  split
  ·rename_i hij;subst hij;rw[hi];rfl
  ·rfl
 simp[Instr.mapUpdate,run_underlying hm,MapKept.run_getObj_map hb,hc,MapKept.run_findKey hd hf,hi,MapKept.run_keyThatStays hk,MapKept.run_setObj_map _ hb,Result.andThen,World.putObj,hx]
def rM(w:World)(r:Nat)(keys:List ByteArray)(k:Nat):Prop:=
 ∃es clock,w.heap[r]?=some (.map es clock)∧es.toList.map (·.key)=keys.map Value.string∧∀e∈es.toList,∃n:Nat,e.val=.int .i64 n∧n≤k
theorem rM.size{w:World}{r k:Nat}{keys:List ByteArray}(h:rM w r keys k):∃es clock,w.heap[r]?=some (.map es clock)∧es.size=keys.length:=by
 obtain⟨es,clock,h1,h2,_⟩:=h
 refine⟨es,clock,h1,?_⟩
 have:=congrArg List.length h2
 simpa using this
theorem rM.lt{w:World}{r k:Nat}{keys:List ByteArray}(h:rM w r keys k):r<w.heap.size:=by
 obtain⟨es,clock,h1,_⟩:=h
 exact(Array.getElem?_eq_some_iff.1 h1).1
theorem rM.step{P:Program}{w:World}{mty kt et:TypeId}{r k:Nat}{keys:List ByteArray}(h:rM w r keys k)(hm:P.underlying mty=some (.map kt et))(hd:P.underlying kt=some .string)
  (hz:∀w,(zeroValue et).run P w=.ok (.int .i64 0) w) (s:ByteArray) :
  ∃(n:Nat) (w':World),n≤k∧(Instr.lookup mty (.map (some r)) (.string s) false).run P w=.ok (.int .i64 n) w∧
   (Instr.mapUpdate mty (.map (some r)) (.string s) (.int .i64 ((n:Int)+1))).run P w=.ok () w'∧rM w' r (addKey keys s) (k+1)∧w.grownBy w' (some r):=by
 obtain⟨es,clock,h1,h2,h3⟩:=h
 rcases adw s es.toList keys h2 with⟨hk,hf⟩|⟨hk,j,e,hf,he,hes⟩
 ·refine⟨0,_,Nat.zero_le _,JS false hm hd (k:=.string s) trivial hf (hz w) h1,Jg _ hm hd (k:=.string s) trivial hf h1,⟨_,_,World.putObj_heap_same (Array.getElem?_eq_some_iff.1 h1).1,?_,?_⟩,grownBy_putObj' _ _ _⟩
  ·simp[addKey,hk,h2]
  ·intro x hx
   rw[Array.toList_push,List.mem_append]at hx
   rcases hx with hx|hx
   ·obtain⟨n,h4,h5⟩:=h3 x hx;exact⟨n,h4,by omega⟩
   ·simp at hx;subst hx;exact⟨1,by simp,by omega⟩
 ·have hj:es[j]?=some e:=by simpa using he
  obtain⟨n,hn,hnk⟩:=h3 e (List.mem_of_getElem? he)
  rw[Nat.zero_add]at hf
  rw[←hes]
  rw[←hes]at hf
  have hik:MapKept.IsKey .string e.key:=by rw[hes];trivial
  have hg:=JS false hm hd (k:=e.key) hik hf (hz w) h1
  refine⟨n,_,hnk,by rw[hg];simp[yI,hn],adx _ hm hd hik hf hj h1,⟨_,_,World.putObj_heap_same (Array.getElem?_eq_some_iff.1 h1).1,?_,?_⟩,grownBy_putObj' _ _ _⟩
  ·rw[addKey,hk,if_pos rfl,←h2]
   apply List.ext_getElem?
   intro i
   simp only[List.getElem?_map,Array.getElem?_toList,Array.getElem?_modify]
   split
   ·cases es[i]?<;>rfl
   ·rfl
  ·intro x hx
   obtain⟨i,hi,rfl⟩:=List.mem_iff_getElem.1 hx
   simp only[Array.length_toList,Array.size_modify]at hi
   rw[Array.getElem_toList,Array.getElem_modify]
   split
   ·exact⟨n+1,by simp,by omega⟩
   ·obtain⟨m,h4,h5⟩:=h3 es[i] (by simp);exact⟨m,h4,by omega⟩
end Go.WW
namespace Go.WW
theorem ady(l:List aG)(k:Nat)(h:k<l.length):keysOf ((l.take (k+1)).map textOf)=addKey (keysOf ((l.take k).map textOf)) (textOf l[k]):=by
 rw[List.take_succ_eq_append_getElem h,List.map_append,List.map_cons,List.map_nil,abm]
theorem Rj{P:Program}{w:World}{r clock:Nat}{es:Array MapEntry}{t k e:TypeId}(ht:P.underlying t=some (.map k e))(ty:TypeId)(hb:w.heap[r]?=some (.map es clock)):(Builtin.len_ #[t] ty #[.map (some r)]).run P w=.ok (.int .i64 es.size) w:=by
 simp[Builtin.len_,run_underlying ht,MapKept.run_getObj_map hb,Result.andThen,goInt]
end Go.WW
namespace Go.Proofs.YtibhckkjciflaaaGreatDoor
open Go.RowKit Go.WW
theorem adz(w:World):(zeroValue 3).run Tryz.prog w=.ok (.int .i64 0) w:=by kernel_rfl
theorem adA(a:Option Addr)(cap:Nat)(w:World):Calls Tryz.prog 133 #[.slice a 0 cap] w fun e w'=>e=.returned (.bool true)∧Below w.heap.size w w':=by
 have hmm:=@run_makeMap Tryz.prog
 have hm1:=fun ty=>Rj (P:=Tryz.prog) Tryz.underlying200 ty (World.alloc_heap_new w (.map #[] 0))
 go_enter Tryz.func133,Tryz.ntmps133
 go_wp2_with fail
 refine wp_loop_rounds 1 ?_
 rw[rounds_succ]
 go_wp2_with fail
 go_ret
 exact⟨rfl,(Below.refl _ _).alloc (Nat.le_refl _) _⟩
theorem Rk(a:Option Addr)(cap:Nat)(l:List aG)(w:World)(hl:fH w a l)(hok:l.all aY=true):Calls Tryz.prog 133 #[.slice a l.length cap] w fun e w'=>e=.returned (.bool (qY l))∧Below w.heap.size w w':=by
 have hn:l.length≤4294967000:=hl.1
 rcases cu.addr hl with h0|⟨b,o,rfl,hb⟩
 ·obtain rfl:l=[]:=List.eq_nil_of_length_eq_zero h0
  exact adA a cap w
 have hmm:=@run_makeMap Tryz.prog
 have HO:=Lib.hid hok
 clear hok
 go_enter Tryz.func133,Tryz.ntmps133
 go_wp2_with fail
 go_loopw [11] (fun i wr=>∃k:Nat,k≤l.length∧i=.int .i64 k∧Below w.heap.size w wr∧rM wr w.heap.size (keysOf ((l.take k).map textOf)) k) (fun i _=>l.length-(intOf i).toNat)
 case atStart=>exact⟨0,Nat.zero_le _,rfl,(Below.refl _ _).alloc (Nat.le_refl _) _,#[],0,World.alloc_heap_new w (.map #[] 0),rfl,by simp⟩
 case round=>
  clear hmm
  obtain⟨k,hk,rfl,hbr,hC⟩:=hrel
  by_cases hlt:k<l.length
  ·obtain⟨t,hc,hp⟩:=hl.at k hlt
   obtain⟨hcc,ax,hrr⟩:=aK hbr
   go_wp2_with fail
   have hb1:=az hbr (.cells (aJ t l[k]) 25)
   refine(adr _ _ _ (hp.later hb1) (List.all_eq_true.1 HO.out _ (List.getElem_mem hlt))).mono ?_
   rintro e w1 ⟨rfl,hb2⟩
   have hb3:=af hb1 hb2
   have hr:=hC.lt
   have Rl:rM w1 w.heap.size (keysOf ((l.take k).map textOf)) k:=by
    obtain⟨es,clock,h1,h2⟩:=hC
    exact⟨es,clock,(hb2.block _ (by simp;omega)).trans ((Below.heap_alloc wr _ _ hr).trans h1),h2⟩
   obtain⟨n,w2,hnk,hlk,hup,hC2,hg⟩:=Rl.step (P:=Tryz.prog) Tryz.underlying200 Tryz.underlying9 adz (textOf l[k])
   rw[←ady l k hlt]at hC2
   have hb4:Below w.heap.size w w2:=hb3.grown hg hb3.size (fun g e=>by cases e;omega)
   clear hcc ax hrr Rl hC hbr
   go_wp2_with fail
   clear hlk hup
   go_roundw
   case rel=>exact⟨k+1,by omega,by go_num,hb4,hC2⟩
   case measure=>simp[intOf];omega
  ·have hE:l.take k=l:=List.take_of_length_le (by omega)
   rw[hE]at hC
   obtain⟨es,clock,hm,hs⟩:=hC.size
   have hkl:=abo (l.map textOf)
   have HN:=Lib.hid (show qY l=decide ((es.size:Int)=(l.length:Int)) by rw[qY,hs])
   have hsl:es.size≤4294967000:=by rw[hs];simp at hkl;omega
   have hln:=fun ty=>Rj (P:=Tryz.prog) Tryz.underlying200 ty hm
   clear hE hkl hs hm
   go_wp2_with fail
   go_ret
   exact⟨by rw[HN.out];first|rfl|(congr 2),hbr⟩
end Go.Proofs.YtibhckkjciflaaaGreatDoor
namespace Go.WW
def EM(x:aW):Bool:=decide (0<x.dm) || x.bF.toList.isEmpty
theorem adB{x:aW}(h1:ag x.version 1 65535=true)(h2:ag x.keys.length 1 4=true):iM x=(decide ((x.bF.size:Int)≤256)&&ag x.dm 0 65536&&EM x&&ag x.created 0 1099511627776):=by
 rw[iM,h1,h2,EM];rfl
end Go.WW
namespace Go.Proofs.YtibhckkjciflaaaGreatDoor
open Go.RowKit Go.WW
theorem adC(s:Sl)(x:aW)(m:Int)(w:World)(hx:ig w s x):Calls Tryz.prog 136 #[.agg (aV s x),.int .i64 m] w fun e w'=>e=.returned (.bool (gU m x))∧Below w.heap.size w w':=by
 have hn:x.keys.length≤4294967000:=hx.1.1
 have hs:x.bF.size≤4294967000:=hx.2
 have hB:Below w.heap.size w ((w.alloc (.cells (aV s x) 49)).alloc (.cells #[.int .i64 m] 3)):=((Below.refl _ w).alloc (Nat.le_refl _) _).alloc (by simp) _
 have Rn:=hx.later hB
 have g0:((w.alloc (.cells (aV s x) 49)).alloc (.cells #[.int .i64 m] 3)).cell? ⟨w.heap.size,0,none⟩=some (.int .i64 x.version):=by simp[go_sem]
 have g1:((w.alloc (.cells (aV s x) 49)).alloc (.cells #[.int .i64 m] 3)).cell? ⟨w.heap.size+1,0,none⟩=some (.int .i64 m):=by simp[go_sem]
 have hlim:∀k∈x.keys,k.bytes.length≤lim:=fun k hk=>by
  obtain⟨i,hi,rfl⟩:=List.mem_iff_getElem.1 hk
  obtain⟨_,_,_,_,_,h3⟩:=hx.1.get i hi
  exact h3.1
 have HF:=Lib.hid (acH s.a s.cap 176 4 x.keys w.heap.size (w.heap.size+1) (iy m x.version) _ ado Rn.1 (fun y t p hp _=>adn t p _ _ m x.version y.w (hlim p hp) ((y.b.cell (p:=⟨w.heap.size,0,none⟩) (by simp;omega)).trans g0) ((y.b.cell (p:=⟨w.heap.size+1,0,none⟩) (by simp)).trans g1)))
 have HL:=Lib.hid hlim
 clear g0 g1 hlim
 go_enter Tryz.func136,Tryz.ntmps136
 cases c1:ag x.version 1 65535
 ·have HN:=Lib.hid (adg (m:=m) c1)
  go_wp2_with (go_at_call 76;refine(tY _ _ _ _).mono ?_;rintro e w' ⟨rfl,rfl⟩)
  go_ret
  exact⟨by rw[HN.out];rfl,hB⟩
 cases c2:decide (1≤(x.keys.length:Int))
 ·have HN:=Lib.hid (adh (m:=m) c2)
  have c2':decide (1≤x.keys.length)=false:=by rw[decide_eq_false_iff_not]at c2 ⊢;omega
  go_wp2_with (go_at_call 76;refine(tY _ _ _ _).mono ?_;rintro e w' ⟨rfl,rfl⟩)
  go_ret
  exact⟨by rw[HN.out];rfl,hB⟩
 have c2':decide (1≤x.keys.length)=true:=by rw[decide_eq_true_eq]at c2 ⊢;omega
 go_wp2_with (go_at_call 76;refine(tY _ _ _ _).mono ?_;rintro e w' ⟨rfl,rfl⟩)
 refine(HF.out).mono ?_
 rintro e w1 ⟨rfl,hb1⟩
 have hB1:=af hB hb1
 obtain⟨hcc,ax,hrr⟩:=aK hb1
 have hsz:w.heap.size+1<w1.heap.size:=by have:=hb1.size;simp at this;omega
 cases c3:(decide ((x.keys.length:Int)≤4)&&x.keys.all (iy m x.version))
 ·have HN:=Lib.hid (adi c3)
  go_wp2_with fail
  go_ret
  exact⟨by rw[HN.out];rfl,hB1⟩
 go_wp2_with fail
 refine(acN _ _ _ _ (hx.1.later hB1)).mono ?_
 rintro e w2 ⟨rfl,hb2⟩
 have hB2:=af hB1 hb2
 clear hcc ax hrr
 have hbb:Below ((w.alloc (.cells (aV s x) 49)).alloc (.cells #[.int .i64 m] 3)).heap.size ((w.alloc (.cells (aV s x) 49)).alloc (.cells #[.int .i64 m] 3)) w2:=af hb1 hb2
 obtain⟨hcc,ax,hrr⟩:=aK hbb
 have hsz2:w.heap.size+1<w2.heap.size:=by have:=hbb.size;simp at this;omega
 cases c4:ordered kY x.keys
 ·have HN:=Lib.hid (adk (m:=m) c4)
  go_wp2_with fail
  go_ret
  exact⟨by rw[HN.out];rfl,hB2⟩
 obtain⟨hy1,hy2⟩:=adl c2 c3 c4
 have HN:=Lib.hid (hy1.trans (adB c1 hy2))
 clear hy1 hy2 Rn hx hb1 hb2 hbb hB1 hB
 cases c5:decide ((x.bF.size:Int)≤256)
 ·have c5':decide (x.bF.size≤256)=false:=by rw[decide_eq_false_iff_not]at c5 ⊢;omega
  go_wp2_with fail
  go_ret
  exact⟨by rw[HN.out,c5];rfl,hB2⟩
 have c5':decide (x.bF.size≤256)=true:=by rw[decide_eq_true_eq]at c5 ⊢;omega
 cases c6:ag x.dm 0 65536
 ·go_wp2_with (go_at_call 76;refine(tY _ _ _ _).mono ?_;rintro e w' ⟨rfl,rfl⟩)
  go_ret
  exact⟨by rw[HN.out,c5,c6];rfl,hB2⟩
 cases c7:decide (0<x.dm)
 ·cases c8:x.bF.toList.isEmpty
  have c8':¬x.bF.toList=[]:=by simpa using c8
  rotate_left
  have c8':x.bF.toList=[]:=by simpa using c8
  rotate_left
  all_goals
   go_wp2_with (go_at_call 76;refine(tY _ _ _ _).mono ?_;rintro e w' ⟨rfl,rfl⟩)
   go_ret
   exact⟨by rw[HN.out,c5,c6,EM,c7,c8];rfl,hB2⟩
 ·go_wp2_with (go_at_call 76;refine(tY _ _ _ _).mono ?_;rintro e w' ⟨rfl,rfl⟩)
  go_ret
  exact⟨by rw[HN.out,c5,c6,EM,c7];rfl,hB2⟩
theorem adF(s:Sl)(x:aW)(B:Nat)(m:Int)(w:World)(hx:ig w s x)(h:w.cell? ⟨B,4,none⟩=some (.int .i64 m)):Calls Tryz.prog 135 #[.agg (aV s x),.pointer (some ⟨B,0,none⟩)] w fun e w'=>e=.returned (.bool (gU m x))∧Below w.heap.size w w':=by
 have hb:B<w.heap.size:=World.block_lt_of_cell? w _ h
 have hB:Below w.heap.size w (w.alloc (.cells (aV s x) 49)):=(Below.refl _ w).alloc (Nat.le_refl _) _
 go_enter Tryz.func135,Tryz.ntmps135
 go_wp2_with fail
 refine(adC _ _ _ _ (hx.later hB)).mono ?_
 rintro e w1 ⟨rfl,hb1⟩
 go_wp2_with fail
 go_ret
 exact⟨rfl,af hB hb1⟩
theorem adG:Enters 135:=⟨fun args w=>by kernel_rfl⟩
def uC(d:Entry):Bool:=(decide ((d.keys.length:Int)≤16)&&d.keys.all (gU d.dF))&&ordered jH d.keys
theorem adH(r:aC)(d:Entry)(w:World)(he:iT w r d):Calls Tryz.prog 78 #[.agg (ay r d)] w fun e w'=>e=.returned (.bool (uC d))∧Below w.heap.size w w':=by
 have hB:Below w.heap.size w (w.alloc (.cells (ay r d) 32)):=(Below.refl _ w).alloc (Nat.le_refl _) _
 have hk:=he.keys.later hB
 have g:(w.alloc (.cells (ay r d) 32)).cell? ⟨w.heap.size,4,none⟩=some (.int .i64 d.dF):=by simp[go_sem]
 have HF:=Lib.hid (acF r.keys.a r.keys.cap 135 16 d.keys w.heap.size (gU d.dF) _ adG hk (fun y t p _ hp=>adF t p _ d.dF y.w hp ((y.b.cell (p:=⟨w.heap.size,4,none⟩) (by simp)).trans g)))
 clear g hk
 go_enter Tryz.func78,Tryz.ntmps78
 go_wp2_with fail
 refine(HF.out).mono ?_
 rintro e w1 ⟨rfl,hb1⟩
 have hB1:=af hB hb1
 obtain⟨hcc,ax,hrr⟩:=aK hb1
 have hsz:w.heap.size<w1.heap.size:=by have:=hb1.size;simp at this;omega
 cases c1:(decide ((d.keys.length:Int)≤16)&&d.keys.all (gU d.dF))
 ·have HN:=Lib.hid (show uC d=false by rw[uC,c1];rfl)
  go_wp2_with fail
  go_ret
  exact⟨by rw[HN.out];rfl,hB1⟩
 ·have HN:=Lib.hid (show uC d=ordered jH d.keys by rw[uC,c1];rfl)
  go_wp2_with fail
  refine(acP _ _ _ _ (he.keys.later hB1)).mono ?_
  rintro e w2 ⟨rfl,hb2⟩
  go_wp2_with fail
  go_ret
  exact⟨by rw[HN.out];rfl,af hB1 hb2⟩
theorem adI:Enters 30:=⟨fun args w=>by kernel_rfl⟩
theorem Ro(a:Option Addr)(cap:Nat)(l:List aG)(w:World)(hl:fH w a l):Calls Tryz.prog 80 #[.slice a l.length cap] w fun e w'=>e=.returned (.bool (different l))∧Below w.heap.size w w':=by
 have HF:=Lib.hid (acB a cap 30 16 l aY _ adI hl (fun y t p _ hp=>wz t p y.w hp))
 have HE:=Lib.hid (abp l)
 go_enter Tryz.func80,Tryz.ntmps80
 go_wp2_with fail
 refine(HF.out).mono ?_
 rintro e w1 ⟨rfl,hb1⟩
 cases c1:(decide ((l.length:Int)≤16)&&l.all aY)
 ·have HN:=Lib.hid (show different l=false by rw[←HE.out,c1];rfl)
  go_wp2_with fail
  go_ret
  exact⟨by rw[HN.out];rfl,hb1⟩
 ·have HN:=Lib.hid (show different l=qY l by rw[←HE.out,c1];rfl)
  have hall:l.all aY=true:=by rw[Bool.and_eq_true]at c1;exact c1.2
  have HA:=Lib.hid hall
  clear hall
  go_wp2_with fail
  refine(Rk _ _ _ _ (hl.later hb1) HA.out).mono ?_
  rintro e w2 ⟨rfl,hb2⟩
  go_wp2_with fail
  go_ret
  exact⟨by rw[HN.out];rfl,af hb1 hb2⟩
theorem adJ:Enters 131:=⟨fun args w=>by kernel_rfl⟩
theorem adK(s:Sl)(p n:aG)(B:Nat)(w:World)(hp:gu w s p)(h:w.cell? ⟨B,1,none⟩=some (.string n.aQ)):Calls Tryz.prog 131 #[.agg (aJ s p),.pointer (some ⟨B,0,none⟩)] w fun e w'=>e=.returned (.bool (pq n p))∧Below w.heap.size w w':=by
 have hb:B<w.heap.size:=World.block_lt_of_cell? w _ h
 have hB:Below w.heap.size w (w.alloc (.cells (aJ s p) 25)):=(Below.refl _ w).alloc (Nat.le_refl _) _
 go_enter Tryz.func131,Tryz.ntmps131
 go_wp2_with fail
 refine(wz _ _ _ (hp.later hB)).mono ?_
 rintro e w1 ⟨rfl,hb1⟩
 have hB1:=af hB hb1
 obtain⟨hcc,ax,hrr⟩:=aK hb1
 have hsz:w.heap.size<w1.heap.size:=by have:=hb1.size;simp at this;omega
 cases c1:aY p
 ·have HN:=Lib.hid (show pq n p=false by rw[pq,c1];rfl)
  go_wp2_with fail
  go_ret
  exact⟨by rw[HN.out];rfl,hB1⟩
 ·have HN:=Lib.hid (show pq n p=(p.aQ.toList == n.aQ.toList) by
   rw[pq,c1]
   by_cases h':p.aQ=n.aQ
   ·rw[str_eq _ _ h'];simp[h']
   ·rw[Am _ _ h'];simp[h'])
  go_wp2_with fail
  go_ret
  exact⟨by rw[HN.out];rfl,hB1⟩
theorem Bz:ik Tryz.prog 26 25 2 40:=ik.of Tryz.underlying26 (by kernel_rfl)
theorem eF.alloc{w:World}{k:Nat}{A:Option Addr}{rows:List (Array Value)}(h:eF w k A rows)(ob:Obj):eF (w.alloc ob) k A rows:=
 ⟨h.size,h.one,fun i hi=>by obtain⟨b,o,h1,h2⟩:=h.at_ i hi;exact⟨b,o,h1,by rw[Oy (kT h2)];exact h2⟩⟩
theorem adL(r:aC)(d:Entry)(w:World)(he:iT w r d):Calls Tryz.prog 77 #[.agg (ay r d)] w fun e w'=>e=.returned (.bool (pz d))∧Below w.heap.size w w':=by
 have hB:Below w.heap.size w (w.alloc (.cells (ay r d) 32)):=(Below.refl _ w).alloc (Nat.le_refl _) _
 have hA:=he.aliases.later hB
 have hal:d.aliases.length≤4294967000:=he.aliases.1
 have g:(w.alloc (.cells (ay r d) 32)).cell? ⟨w.heap.size,1,none⟩=some (.string d.name.aQ):=by simp[go_sem]
 have HF:=Lib.hid (fun(w1:World) (hb1:Below (w.alloc (.cells (ay r d) 32)).heap.size (w.alloc (.cells (ay r d) 32)) w1)=>acD r.aliases.a r.aliases.cap 131 16 d.aliases w.heap.size (pq d.name) w1 adJ (hA.later hb1) (fun y t p _ hp=>adK t p d.name _ y.w hp (((af hb1 y.b).cell (p:=⟨w.heap.size,1,none⟩) (by simp)).trans g)))
 clear g hA
 go_enter Tryz.func77,Tryz.ntmps77
 go_wp2_with fail
 refine(wz _ _ _ (he.name.later hB)).mono ?_
 rintro e w1 ⟨rfl,hb1⟩
 have hB1:=af hB hb1
 obtain⟨hcc,ax,hrr⟩:=aK hb1
 have hsz:w.heap.size<w1.heap.size:=by have:=hb1.size;simp at this;omega
 cases c1:aY d.name
 ·have HN:=Lib.hid (show pz d=false by rw[pz,c1];rfl)
  go_wp2_with fail
  go_ret
  exact⟨by rw[HN.out];rfl,hB1⟩
 go_wp2_with fail
 refine(HF.out w1 hb1).mono ?_
 rintro e w2 ⟨rfl,hb2⟩
 have hb2':=af hb1 hb2
 have hB2:=af hB1 hb2
 clear hcc ax hrr hsz
 obtain⟨hcc,ax,hrr⟩:=aK hb2'
 have hsz:w.heap.size<w2.heap.size:=by have:=hb2'.size;simp at this;omega
 cases c2:(decide ((d.aliases.length:Int)≤16)&&d.aliases.all (pq d.name))
 ·have HN:=Lib.hid (show pz d=false by rw[pz,c1,c2];rfl)
  go_wp2_with fail
  go_ret
  exact⟨by rw[HN.out];rfl,hB2⟩
 have HN:=Lib.hid (show pz d=qY (d.name::d.aliases) by rw[pz,c1,c2];rfl)
 have HO:=Lib.hid (show(d.name::d.aliases).all aY=true by
  rw[Bool.and_eq_true,List.all_eq_true]at c2
  rw[List.all_cons,c1,Bool.true_and,List.all_eq_true]
  intro a ha
  have:=c2.2 a ha
  rw[pq,Bool.and_eq_true]at this
  exact this.1)
 obtain⟨rows,hlr,qo,hrR⟩:=cu.src (he.aliases.later hB2) Ef
 have lS:=Lib.hid hlr
 have HRR:=Lib.hid hrR
 have Rq:=eF.alloc qo (.cells (aJ r.parts d.name) 25)
 have hown:=Own.one w2 (aJ r.parts d.name) 25 2 (Ai _ _)
 clear hlr hrR
 go_wp2_with (at_builtin;refine aaL rfl (.tmp 17) (.tmp 19) _ rfl Bz (n:=1) (s:=⟨some ⟨w2.heap.size,0,none⟩,1⟩) rfl rfl hown rfl lS.out.symm Rq (by rw[lS.out];simp;omega) (by simp) ?_;intro s3 w3 hown3 hg3 jh)
 have hb3:Below w2.heap.size w2 w3:=((Below.refl _ w2).alloc (Nat.le_refl _) _).grown hg3 (by simp) (fun k e=>by cases e;exact Nat.le_refl _)
 have amI:d.aliases.length≤16:=by rw[Bool.and_eq_true,decide_eq_true_eq]at c2;omega
 have hP3:fH w3 s3.a (d.name::d.aliases):=by
  refine cu.lQ hown3 (by have:=lS.out;simp;omega) (by unfold lim;simp;omega) ?_
  intro i hi
  cases i with
  |zero=>exact⟨d.name,r.parts,rfl,rfl,(he.name.later hB2).later hb3⟩
  |succ i=>
   have hi':i<rows.length:=by simpa using hi
   obtain⟨p,s,h1,h2,h3⟩:=HRR.out i hi'
   exact⟨p,s,by simpa using h1,by simpa using h2,h3.later hb3⟩
 have HD:=Rk s3.a s3.cap _ _ hP3 HO.out
 rw[List.length_cons,Nat.add_comm]at HD
 refine HD.mono ?_
 rintro e w4 ⟨rfl,hb4⟩
 clear hcc ax hrr qo Rq hown hown3 hg3 jh
 go_wp2_with fail
 go_ret
 exact⟨by rw[HN.out];rfl,af (af hB2 hb3) hb4⟩
end Go.Proofs.YtibhckkjciflaaaGreatDoor
namespace Go.WW
open Go.RowKit
def BA(ops:Array Oper)(o:Oper)(a:Act):Option Act:=
 if Region.wanted o (yielded ops a.tmps)then
  match o.op with
  | .move x=>some (a.put o.dst (a.eval x))
  | .assign x=>some (a.put o.dst (a.eval x))
  | .pick c x y=>match a.eval c with | .bool b=>some (a.put o.dst (if b then a.eval x else a.eval y))|_=>none
  |_=>none
 else some (a.put o.dst undef)
def wI(ops:Array Oper):List Oper→Act→Option Act
 | [],a=>some a
 |o::l,a=>match BA ops o a with|some a'=>wI ops l a'|none=>none
def okF(t:Nat):Option Act→Bool
 |some a=>match a.tmps.getD t undef with | .bool false=>true|_=>false
 |none=>false
theorem put_defers(a:Act)(d:Option Tmp)(v:Value):(a.put d v).defers=a.defers:=by unfold Act.put;cases d<;>rfl
theorem adM{ops:Array Oper}{o:Oper}{a a':Act}(h:BA ops o a=some a'):a'.defers=a.defers:=by
 unfold BA at h
 split at h
 ·split at h
  iterate 2
   ·cases h;exact put_defers _ _ _
  ·split at h
   ·cases h;exact put_defers _ _ _
   ·cases h
  ·cases h
 ·cases h;exact put_defers _ _ _
theorem Rt{ops:Array Oper}:∀{l:List Oper} {a a':Act},wI ops l a=some a'→a'.defers=a.defers
 | [],a,a',h=>by cases h;rfl
 |o::l,a,a',h=>by
  unfold wI at h
  split at h
  ·rename_i b hb;rw[Rt h,adM hb]
  ·cases h
theorem adN{P:Program}{ops:Array Oper}{Q:Exit→Act→World→Prop}{o:Oper}{rest:List Oper}{a a':Act}{w:World}(h:BA ops o a=some a')(hr:wpList P ops Q rest a' w):wpList P ops Q (o::rest) a w:=by
 refine wpList_step fun K hK=>?_
 unfold BA at h
 split at h
 ·rename_i hw
  rw[if_pos hw]
  unfold Oper.wp
  split at h
  iterate 2
   ·rename_i x hop;cases h;simp only[execOp,hop,Sem.run_pure,Oper.upon];exact hK _ _ hr
  ·rename_i c x y hop
   split at h
   ·rename_i b hb;cases h
    simp only[execOp,hop,hb,asBool,Sem.run_bind,Sem.run_pure,Result.andThen,Oper.upon]
    exact hK _ _ (by cases b<;>exact hr)
   ·cases h
  ·cases h
 ·rename_i hw
  cases h
  rw[if_neg hw]
  exact hK _ _ hr
theorem Ru{P:Program}{ops:Array Oper}{Q:Exit→Act→World→Prop}{w:World}:∀{l:List Oper} {a a':Act},wI ops l a=some a'→Q .normal a' w→wpList P ops Q l a w
 | [],a,a',h,hq=>by cases h;exact hq
 |o::l,a,a',h,hq=>by
  unfold wI at h
  split at h
  ·rename_i b hb;exact adN hb (Ru h hq)
  ·cases h
theorem dN{P:Program}{ops:Array Oper}{Q:Exit→Act→World→Prop}{w:World}{l:List Oper}{a:Act}(t:Nat)(h:okF t (wI ops l a)=true)(hq:∀a',a'.tmps.getD t undef=.bool false→a'.defers=a.defers→Q .normal a' w):wpList P ops Q l a w:=by
 cases hr:wI ops l a with
 |none=>rw[hr]at h;cases h
 |some a'=>
  refine Ru hr (hq a' ?_ (Rt hr))
  rw[hr]at h
  unfold okF at h
  split at h
  ·rename_i b hb
   cases hb
   split at h
   ·assumption
   ·cases h
  ·cases h
end Go.WW
namespace Go.WW
theorem adO(x y:BitVec 32):(x&&& ~~~y=0#32)↔(x ||| y=y):=by
 constructor
 ·intro h
  apply BitVec.eq_of_getElem_eq
  intro i hi
  have:=congrArg (fun v=>v[i]) h
  simp at this ⊢
  intro h'
  cases hy:y[i]
  ·exact absurd (this h') (by simp[hy])
  ·rfl
 ·intro h
  apply BitVec.eq_of_getElem_eq
  intro i hi
  have:=congrArg (fun v=>v[i]) h
  simp at this ⊢
  exact this
theorem adP(a:Int)(h0:0≤a)(h1:a≤4294967295):(bits .andNot .u32 a 1023 == 0)=ui a:=by
 obtain⟨n,rfl⟩:=Int.eq_ofNat_of_zero_le h0
 have hn:n<4294967296:=by omega
 have e:bits .andNot .u32 (n:Int) 1023=((BitVec.ofInt 32 (n:Int)&&& ~~~ BitVec.ofInt 32 1023).toNat:Int):=by
  show IntKind.u32.wrap ((BitVec.ofInt 32 (n:Int)&&& ~~~ BitVec.ofInt 32 1023).toNat:Int)=_
  have:=(BitVec.ofInt 32 (n:Int)&&& ~~~ BitVec.ofInt 32 1023).isLt
  generalize (BitVec.ofInt 32 (n:Int)&&& ~~~ BitVec.ofInt 32 1023).toNat=v at this ⊢
  have e2:(2:Int) ^ IntKind.u32.bits=4294967296:=rfl
  have e3:IntKind.u32.signed=false:=rfl
  simp[IntKind.wrap,e2,e3]
  omega
 have e1:(BitVec.ofInt 32 (n:Int)).toNat=n:=by simp;omega
 have k1:((BitVec.ofInt 32 (n:Int)&&& ~~~ BitVec.ofInt 32 1023).toNat=0)↔n≤1023:=by
  rw[show(BitVec.ofInt 32 (n:Int)&&& ~~~ BitVec.ofInt 32 1023).toNat=0↔BitVec.ofInt 32 (n:Int)&&& ~~~ BitVec.ofInt 32 1023=0#32 from⟨fun h=>BitVec.eq_of_toNat_eq (by rw[h];rfl),fun h=>by rw[h];rfl⟩,adO]
  rw[show(BitVec.ofInt 32 (n:Int) ||| BitVec.ofInt 32 1023=BitVec.ofInt 32 1023)↔(n ||| 1023=1023) from ?_]
  ·exact OW n
  ·constructor
   ·intro h
    have:=congrArg BitVec.toNat h
    rw[BitVec.toNat_or,e1]at this
    exact this
   ·intro h
    apply BitVec.eq_of_toNat_eq
    rw[BitVec.toNat_or,e1]
    exact h
 rw[e,ui,Bool.eq_iff_iff]
 simp only[beq_iff_eq,decide_eq_true_eq]
 omega
open Go.RowKit
theorem Rw{w:World}{b:Nat}(x:Int)(h:w.cell? ⟨b,0,none⟩=some (.int .i64 x)):oI w (some ⟨b,0,none⟩) [x]:=by
 refine⟨by simp[lim],fun i hi=>?_⟩
 match i,hi with
 |0,_=>exact⟨_,_,_,rfl,h,x,rfl,rfl⟩
theorem adQ{w:World}{b:Nat}(x y:Int)(h:w.cell? ⟨b,0,none⟩=some (.int .i64 x))(h1:w.cell? ⟨b,1,none⟩=some (.int .i64 y)):oI w (some ⟨b,0,none⟩) [x,y]:=by
 refine⟨by simp[lim],fun i hi=>?_⟩
 match i,hi with
 |0,_=>exact⟨_,_,_,rfl,h,x,rfl,rfl⟩
 |1,_=>exact⟨_,_,_,rfl,h1,y,rfl,rfl⟩
theorem adR{w:World}{b:Nat}(x y z u:Int)(h:w.cell? ⟨b,0,none⟩=some (.int .i64 x))(h1:w.cell? ⟨b,1,none⟩=some (.int .i64 y))(h2:w.cell? ⟨b,2,none⟩=some (.int .i64 z))(h3:w.cell? ⟨b,3,none⟩=some (.int .i64 u)):oI w (some ⟨b,0,none⟩) [x,y,z,u]:=by
 refine⟨by simp[lim],fun i hi=>?_⟩
 match i,hi with
 |0,_=>exact⟨_,_,_,rfl,h,x,rfl,rfl⟩
 |1,_=>exact⟨_,_,_,rfl,h1,y,rfl,rfl⟩
 |2,_=>exact⟨_,_,_,rfl,h2,z,rfl,rfl⟩
 |3,_=>exact⟨_,_,_,rfl,h3,u,rfl,rfl⟩
end Go.WW
namespace Go.Proofs.YtibhckkjciflaaaGreatDoor
open Go.RowKit Go.WW
def ja(d:Entry):Bool:=pz d&&ui d.attrs&&([d.dF].all fun v=>ag v 0 65535)&&uC d&&(visible d.dn&&decide ((d.dn.size:Int)≤32))&&([d.fQ,d.fU,d.eP,d.gq].all fun v=>ag v 0 1099511627776)&&
 ([d.fF,d.fG].all fun v=>ag v 0 2147483648)&&([d.fails].all fun v=>ag v 0 65535)&&different d.targets&&different d.aP&&(decide ((d.history.length:Int)≤16)&&d.history.all (fun h=>(h.length:Int) == 16))
theorem valid_eq(d:Entry):ja d=fV d:=by
 unfold ja fV
 rw[abq]
 simp only[uC,kK,jI,List.all_cons,List.all_nil,Bool.and_true]
 rw[Bool.eq_iff_iff]
 simp only[Bool.and_eq_true]
 constructor
 iterate 2
  ·intro h;simp only[h,and_self]
theorem adS(a:Option Addr)(n cap:Nat)(w:World):Calls Tryz.prog 82 #[.slice a n cap] w fun e w'=>e=.returned (.bool ((n:Int) == 16))∧Below w.heap.size w w':=by
 go_enter Tryz.func82,Tryz.ntmps82
 go_wp2_with fail
 go_ret
 exact⟨by first|rfl|(congr 2;rw[Bool.eq_iff_iff];simp;omega),Below.refl _ _⟩
theorem adT:Enters 82:=⟨fun args w=>by kernel_rfl⟩
theorem Rx(r:aC)(d:Entry)(w:World)(he:iT w r d):Calls Tryz.prog 29 #[.agg (ay r d)] w fun e w'=>e=.returned (.bool (fV d))∧Below w.heap.size w w':=by
 have hB:Below w.heap.size w (w.alloc (.cells (ay r d) 32)):=(Below.refl _ w).alloc (Nat.le_refl _) _
 have hps:d.dn.size≤maxLen:=by have:=he.dn;unfold lim at this;unfold maxLen;omega
 have HPS:=Lib.hid hps
 clear hps
 have hb0:Below (w.alloc (.cells (ay r d) 32)).heap.size (w.alloc (.cells (ay r d) 32)) (w.alloc (.cells (ay r d) 32)):=Below.refl _ _
 go_enter Tryz.func29,Tryz.ntmps29
 rw[←valid_eq]
 go_wp2_with fail
 have hbx:=hb0
 refine(adL _ _ _ (he.later (af hB hbx))).mono ?_
 rintro e w1 ⟨rfl,hy⟩
 have hb1:=af hbx hy
 clear hbx hy
 obtain⟨hcc,ax,hrr⟩:=aK hb1
 have hsz:w.heap.size<w1.heap.size:=by have:=hb1.size;simp at this;omega
 cases c1:pz d
 ·have HN:=Lib.hid (show ja d=false by rw[ja,c1];simp only[Bool.false_and])
  dsimp only
  first|go_values|go_step|go_upon
  refine dN 2 (by kernel_rfl) ?_
  intro a' h1 h2
  go_wp2_with fail
  refine bodyPost_ret (results_tmp (t:=2) (by rfl) _ _ _) h2 ?_
  exact⟨by rw[h1,HN.out],af hB hb1⟩
 have hat:=adP d.attrs he.attrs.1 he.attrs.2
 cases c2:ui d.attrs
 ·have HN:=Lib.hid (show ja d=false by rw[ja,c2];simp only[Bool.and_false,Bool.false_and])
  rw[c2]at hat
  dsimp only
  iterate 17 (first|go_values|go_skip|go_guarded|go_step|go_upon)
  refine dN 2 (by kernel_rfl) ?_
  intro a' h1 h2
  go_wp2_with fail
  refine bodyPost_ret (results_tmp (t:=2) (by rfl) _ _ _) h2 ?_
  exact⟨by rw[h1,HN.out],af hB hb1⟩
 rw[c2]at hat
 try dsimp only
 go_wp2_with fail
 have hbx:=az hb1 (.cells #[.int .i64 d.dF] 3)
 refine(Eh _ _ _ 65535 [d.dF] _ (Rw _ (by simp[go_sem]))).mono ?_
 rintro e w2 ⟨rfl,hy⟩
 have hb2:=af hbx hy
 clear hcc ax hrr hsz hbx hy
 obtain⟨hcc,ax,hrr⟩:=aK hb2
 have hsz:w.heap.size<w2.heap.size:=by have:=hb2.size;simp at this;omega
 cases c3:([d.dF].all fun v=>ag v 0 65535)
 ·have HN:=Lib.hid (show ja d=false by rw[ja,c3];simp only[Bool.and_false,Bool.false_and])
  dsimp only
  first|go_values|go_step|go_upon
  refine dN 2 (by kernel_rfl) ?_
  intro a' h1 h2
  go_wp2_with fail
  refine bodyPost_ret (results_tmp (t:=2) (by rfl) _ _ _) h2 ?_
  exact⟨by rw[h1,HN.out],af hB hb2⟩
 try dsimp only
 go_wp2_with fail
 have hbx:=hb2
 refine(adH _ _ _ (he.later (af hB hbx))).mono ?_
 rintro e w3 ⟨rfl,hy⟩
 have hb3:=af hbx hy
 clear hcc ax hrr hsz hbx hy
 obtain⟨hcc,ax,hrr⟩:=aK hb3
 have hsz:w.heap.size<w3.heap.size:=by have:=hb3.size;simp at this;omega
 cases c4:uC d
 ·have HN:=Lib.hid (show ja d=false by rw[ja,c4];simp only[Bool.and_false,Bool.false_and])
  dsimp only
  first|go_values|go_step|go_upon
  refine dN 2 (by kernel_rfl) ?_
  intro a' h1 h2
  go_wp2_with fail
  refine bodyPost_ret (results_tmp (t:=2) (by rfl) _ _ _) h2 ?_
  exact⟨by rw[h1,HN.out],af hB hb3⟩
 try dsimp only
 go_wp2_with fail
 refine(Zt _ _ HPS.out).mono ?_
 rintro e w' ⟨rfl,rfl⟩
 cases c5:(visible d.dn&&decide ((d.dn.size:Int)≤32))
 ·have HN:=Lib.hid (show ja d=false by rw[ja,c5];simp only[Bool.and_false,Bool.false_and])
  dsimp only
  first|go_values|go_step|go_upon
  refine dN 2 (by kernel_rfl) ?_
  intro a' h1 h2
  go_wp2_with fail
  refine bodyPost_ret (results_tmp (t:=2) (by rfl) _ _ _) h2 ?_
  exact⟨by rw[h1,HN.out],af hB hb3⟩
 try dsimp only
 go_wp2_with fail
 have hbx:=az hb3 (.cells #[.int .i64 d.fQ,.int .i64 d.fU,.int .i64 d.eP,.int .i64 d.gq] 3)
 refine(Eh _ _ _ 1099511627776 [d.fQ,d.fU,d.eP,d.gq] _ (adR _ _ _ _ (by simp[go_sem]) (by simp[go_sem]) (by simp[go_sem]) (by simp[go_sem]))).mono ?_
 rintro e w4 ⟨rfl,hy⟩
 have hb4:=af hbx hy
 clear hcc ax hrr hsz hbx hy
 obtain⟨hcc,ax,hrr⟩:=aK hb4
 have hsz:w.heap.size<w4.heap.size:=by have:=hb4.size;simp at this;omega
 cases c6:([d.fQ,d.fU,d.eP,d.gq].all fun v=>ag v 0 1099511627776)
 ·have HN:=Lib.hid (show ja d=false by rw[ja,c6];simp only[Bool.and_false,Bool.false_and])
  dsimp only
  first|go_values|go_step|go_upon
  refine dN 2 (by kernel_rfl) ?_
  intro a' h1 h2
  go_wp2_with fail
  refine bodyPost_ret (results_tmp (t:=2) (by rfl) _ _ _) h2 ?_
  exact⟨by rw[h1,HN.out],af hB hb4⟩
 try dsimp only
 go_wp2_with fail
 have hbx:=az hb4 (.cells #[.int .i64 d.fF,.int .i64 d.fG] 3)
 refine(Eh _ _ _ 2147483648 [d.fF,d.fG] _ (adQ _ _ (by simp[go_sem]) (by simp[go_sem]))).mono ?_
 rintro e w5 ⟨rfl,hy⟩
 have hb5:=af hbx hy
 clear hcc ax hrr hsz hbx hy
 obtain⟨hcc,ax,hrr⟩:=aK hb5
 have hsz:w.heap.size<w5.heap.size:=by have:=hb5.size;simp at this;omega
 cases c7:([d.fF,d.fG].all fun v=>ag v 0 2147483648)
 ·have HN:=Lib.hid (show ja d=false by rw[ja,c7];simp only[Bool.and_false,Bool.false_and])
  dsimp only
  first|go_values|go_step|go_upon
  refine dN 2 (by kernel_rfl) ?_
  intro a' h1 h2
  go_wp2_with fail
  refine bodyPost_ret (results_tmp (t:=2) (by rfl) _ _ _) h2 ?_
  exact⟨by rw[h1,HN.out],af hB hb5⟩
 try dsimp only
 go_wp2_with fail
 have hbx:=az hb5 (.cells #[.int .i64 d.fails] 3)
 refine(Eh _ _ _ 65535 [d.fails] _ (Rw _ (by simp[go_sem]))).mono ?_
 rintro e w6 ⟨rfl,hy⟩
 have hb6:=af hbx hy
 clear hcc ax hrr hsz hbx hy
 obtain⟨hcc,ax,hrr⟩:=aK hb6
 have hsz:w.heap.size<w6.heap.size:=by have:=hb6.size;simp at this;omega
 cases c8:([d.fails].all fun v=>ag v 0 65535)
 ·have HN:=Lib.hid (show ja d=false by rw[ja,c8];simp only[Bool.and_false,Bool.false_and])
  dsimp only
  first|go_values|go_step|go_upon
  refine dN 2 (by kernel_rfl) ?_
  intro a' h1 h2
  go_wp2_with fail
  refine bodyPost_ret (results_tmp (t:=2) (by rfl) _ _ _) h2 ?_
  exact⟨by rw[h1,HN.out],af hB hb6⟩
 try dsimp only
 go_wp2_with fail
 have hbx:=hb6
 refine(Ro _ _ d.targets _ (he.targets.later (af hB hbx))).mono ?_
 rintro e w7 ⟨rfl,hy⟩
 have hb7:=af hbx hy
 clear hcc ax hrr hsz hbx hy
 obtain⟨hcc,ax,hrr⟩:=aK hb7
 have hsz:w.heap.size<w7.heap.size:=by have:=hb7.size;simp at this;omega
 cases c9:different d.targets
 ·have HN:=Lib.hid (show ja d=false by rw[ja,c9];simp only[Bool.and_false,Bool.false_and])
  dsimp only
  first|go_values|go_step|go_upon
  refine dN 2 (by kernel_rfl) ?_
  intro a' h1 h2
  go_wp2_with fail
  refine bodyPost_ret (results_tmp (t:=2) (by rfl) _ _ _) h2 ?_
  exact⟨by rw[h1,HN.out],af hB hb7⟩
 try dsimp only
 go_wp2_with fail
 have hbx:=hb7
 refine(Ro _ _ d.aP _ (he.aP.later (af hB hbx))).mono ?_
 rintro e w8 ⟨rfl,hy⟩
 have hb8:=af hbx hy
 clear hcc ax hrr hsz hbx hy
 obtain⟨hcc,ax,hrr⟩:=aK hb8
 have hsz:w.heap.size<w8.heap.size:=by have:=hb8.size;simp at this;omega
 cases c10:different d.aP
 ·have HN:=Lib.hid (show ja d=false by rw[ja,c10];simp only[Bool.and_false,Bool.false_and])
  dsimp only
  first|go_values|go_step|go_upon
  refine dN 2 (by kernel_rfl) ?_
  intro a' h1 h2
  go_wp2_with fail
  refine bodyPost_ret (results_tmp (t:=2) (by rfl) _ _ _) h2 ?_
  exact⟨by rw[h1,HN.out],af hB hb8⟩
 have HN:=Lib.hid (show ja d=(decide ((d.history.length:Int)≤16)&&d.history.all (fun h=>(h.length:Int) == 16)) by rw[ja,c1,c2,c3,c4,c5,c6,c7,c8,c9,c10];rfl)
 try dsimp only
 go_wp2_with fail
 refine(acJ r.history.a r.history.cap 82 16 d.history (fun h=>(h.length:Int) == 16) _ adT (he.history.later (af hB hb8)) (fun y t p _ _=>adS _ _ _ _)).mono ?_
 rintro e w99 ⟨rfl,hy⟩
 try dsimp only
 go_wp2_with fail
 go_ret
 exact⟨by rw[HN.out];rfl,af (af hB hb8) hy⟩
end Go.Proofs.YtibhckkjciflaaaGreatDoor
