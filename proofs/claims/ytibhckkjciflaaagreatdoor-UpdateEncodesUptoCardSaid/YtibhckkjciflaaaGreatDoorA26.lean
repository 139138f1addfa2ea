/- A part of the proof. -/
import Derived.Test.YtibhckkjciflaaaGreatDoorA25
import Derived.Test.YtibhckkjciflaaaGreatDoorA24
set_option maxRecDepth 100000
set_option maxHeartbeats 4000000
namespace Go.WW
open Go.RowKit
def SX(w:World)(l:List ByteArray)(e:Ending)(w':World):Prop:=
 ∃s:Sl,e=.returned (.slice s.a l.length s.cap)∧Below w.heap.size w w'∧bg w' (fresh w.heap.size w') (fun x=>aeP w.heap.size x s.a l)
def SY(w:World)(l:List UInt8)(e:Ending)(w':World):Prop:=
 ∃s:Sl,e=.returned (.slice s.a l.length s.cap)∧Below w.heap.size w w'∧bg w' (fresh w.heap.size w') (fun x=>BJ w.heap.size x s.a l)
theorem aeR{w w':World}{e:TypeId}{s:Sl}{rows:List (Array Value)}{l:List ByteArray}(h:Own w' w.heap.size e 1 s rows)(hl:rows.length=l.length)(hn:l.length≤lim)(hb:Below w.heap.size w w')
  (hR:∀i (hi:i<rows.length),∃v,rows[i]=#[v]∧∃s,l[i]?=some s∧v=.string s∧s.size≤lim):SX w l (.returned (.slice s.a l.length s.cap)) w':=
 ⟨s,rfl,hb,fun _ hx=>⟨eu.lQ (h.fresh hx) hl hn hR,iJ.lQ (h.fresh hx) hl⟩⟩
theorem aeS{w w':World}{e:TypeId}{s:Sl}{rows:List (Array Value)}{l:List UInt8}(h:Own w' w.heap.size e 1 s rows)(hl:rows.length=l.length)(hn:l.length≤lim)(hb:Below w.heap.size w w')
  (hR:∀i (hi:i<rows.length),∃v,rows[i]=#[v]∧∃c,l[i]?=some c∧v=.int .u8 c.toNat):SY w l (.returned (.slice s.a l.length s.cap)) w':=
 ⟨s,rfl,hb,fun _ hx=>⟨eu.lQ (h.fresh hx) hl hn hR,iJ.lQ (h.fresh hx) hl⟩⟩
def aeT(w:World)(p:aG)(e:Ending)(w':World):Prop:=
 ∃s:Sl,e=.returned (.agg (aJ s p))∧Below w.heap.size w w'∧bg w' (fresh w.heap.size w') (fun x=>pK w.heap.size x s p)
def aeU(w:World)(k:Key)(e:Ending)(w':World):Prop:=
 ∃s:Sl,e=.returned (.agg (bG s k))∧Below w.heap.size w w'∧bg w' (fresh w.heap.size w') (fun x=>rY w.heap.size x s k)
end Go.WW
namespace Go.Proofs.YtibhckkjciflaaaGreatDoor
open Go.RowKit Go.WW
theorem aeV(a:Option Addr)(cap:Nat)(l:List ByteArray)(w:World)(hl:lK w a l):Calls Tryz.prog 67 #[.slice a l.length cap] w (SX w l):=by
 have hn:l.length≤4294967000:=hl.1
 cases a with
 |none=>
  obtain rfl:l=[]:=List.eq_nil_of_length_eq_zero (eu.none hl)
  go_enter Tryz.func67,Tryz.ntmps67
  go_wp2_with fail
  go_ret
  exact⟨⟨none,0⟩,rfl,Below.refl _ _,fun x _=>⟨⟨by simp[lim],fun i hi=>by simp at hi⟩,iJ.zero⟩⟩
 |some ad=>
  obtain⟨rows,hlr,qo,hrR⟩:=eu.src hl abv
  have hown:=Own.empty w 9 1
  have HS:=qo.later ((Below.refl _ w).alloc (Nat.le_refl _) (.cells #[] 9))
  have lS:=Lib.hid hlr
  have HRR:=Lib.hid hrR
  have hln:l.length≤lim:=hl.1
  have AQ:=Lib.hid hln
  clear hlr hrR hl qo hln
  go_enter Tryz.func67,Tryz.ntmps67
  go_wp2_with (at_builtin;refine kZ rfl (.tmp 5) (.tmp 6) _ rfl abA (n:=0) (s:=⟨some ⟨w.heap.size,0,none⟩,0⟩) rfl rfl hown rfl lS.out.symm HS (by rw[lS.out];simp;omega) (by simp) ?_;intro s3 w3 hown3 hg3 jh)
  go_ret
  have hb3:Below w.heap.size w w3:=((Below.refl _ w).alloc (Nat.le_refl _) _).grown hg3 (by simp) (fun k e=>by cases e;exact Nat.le_refl _)
  have:=aeR (l:=l) hown3 (by simpa using lS.out) AQ.out hb3 (fun i hi=>by simpa using HRR.out i (by simpa using hi))
  simpa using this
theorem aeW(a:Option Addr)(cap:Nat)(l:List UInt8)(w:World)(hl:BytesAt w a l):Calls Tryz.prog 58 #[.slice a l.length cap] w (SY w l):=by
 have hn:l.length≤4294967000:=hl.1
 cases a with
 |none=>
  obtain rfl:l=[]:=List.eq_nil_of_length_eq_zero (eu.none hl)
  go_enter Tryz.func58,Tryz.ntmps58
  go_wp2_with fail
  go_ret
  exact⟨⟨none,0⟩,rfl,Below.refl _ _,fun x _=>⟨⟨by simp[lim],fun i hi=>by simp at hi⟩,iJ.zero⟩⟩
 |some ad=>
  obtain⟨rows,hlr,qo,hrR⟩:=eu.src hl Jl
  have hown:=Own.empty w 5 1
  have HS:=qo.later ((Below.refl _ w).alloc (Nat.le_refl _) (.cells #[] 5))
  have lS:=Lib.hid hlr
  have HRR:=Lib.hid hrR
  have hln:l.length≤lim:=hl.1
  have AQ:=Lib.hid hln
  clear hlr hrR hl qo hln
  go_enter Tryz.func58,Tryz.ntmps58
  go_wp2_with (at_builtin;refine kZ rfl (.tmp 5) (.tmp 6) _ rfl gy (n:=0) (s:=⟨some ⟨w.heap.size,0,none⟩,0⟩) rfl rfl hown rfl lS.out.symm HS (by rw[lS.out];simp;omega) (by simp) ?_;intro s3 w3 hown3 hg3 jh)
  go_ret
  have hb3:Below w.heap.size w w3:=((Below.refl _ w).alloc (Nat.le_refl _) _).grown hg3 (by simp) (fun k e=>by cases e;exact Nat.le_refl _)
  have:=aeS (l:=l) hown3 (by simpa using lS.out) AQ.out hb3 (fun i hi=>by simpa using HRR.out i (by simpa using hi))
  simpa using this
theorem J8(s:Sl)(p:aG)(w:World)(hp:gu w s p):Calls Tryz.prog 25 #[.agg (aJ s p)] w (aeT w p):=by
 obtain⟨Z,hZ⟩:∃Z:Array Value,Z=#[.slice none 0 0,.string ⟨#[]⟩]:=⟨_,rfl⟩
 have hB:Below w.heap.size w ((w.alloc (.cells (aJ s p) 25)).alloc (.cells Z 25)):=((Below.refl _ w).alloc (Nat.le_refl _) _).alloc (by simp) _
 have hq:lK ((w.alloc (.cells (aJ s p) 25)).alloc (.cells Z 25)) s.a p.parts:=hp.1.later hB
 have hrl:=hp.2
 subst hZ
 go_enter Tryz.func25,Tryz.ntmps25
 go_wp2_with fail
 refine(aeV _ _ _ _ hq).mono ?_
 rintro e w2 ⟨s',rfl,hb2,hd2⟩
 have hblk:=jA (o:=0) (.slice s'.a p.parts.length s'.cap) ((hb2.block w.heap.size (by simp;omega)).trans (oK w _ _))
 have hrow:row? (w2.setCell ⟨w.heap.size,0,none⟩ (.slice s'.a p.parts.length s'.cap)) w.heap.size 0 2=some (aJ s' p):=by rw[AB hblk];rfl
 obtain⟨hcc,ax,hrr⟩:=aK hb2
 have hpp:=jJ hb2
 have hsz:w.heap.size+1<w2.heap.size:=by have:=hb2.size;simp at this;omega
 have hsz0:w.heap.size<w2.heap.size:=by omega
 have hne:w.heap.size+1≠w.heap.size:=by omega
 clear hblk
 go_wp2_with fail
 refine bodyPost_ret (v:=.agg (aJ s' p)) (by simp[results,Tryz.results25,go_sem, *];rfl) rfl ⟨s',rfl,?_,?_⟩
 ·exact Go.WW.Below.putRow ((hB.trans (hb2.mono hB.size)).setCell (by simp) _) (by omega)
 ·have hls:=hB.size
  refine bg.to (fun x hx=>⟨⟨(hd2 x hx).1,hrl⟩,(hd2 x hx).2.le hls⟩) (fun j hj=>?_) (fun j hj=>?_)
  ·have h1:=hj.1
   simp at h1
   rw[iP (by omega),Below.heap_setCell _ _ _ _ (by simp;omega)]
  ·have h1:=hj.1
   have h2:=hj.2
   simp at h1
   exact⟨by omega,by rw[kL];simpa[World.setCell]using h2⟩
theorem aeX(s:Sl)(p:Key)(w:World)(hp:iR w s p):Calls Tryz.prog 130 #[.agg (bG s p)] w (aeU w p):=by
 obtain⟨Z,hZ⟩:∃Z:Array Value,Z=#[.int .i64 0,.int .i64 0,.slice none 0 0]:=⟨_,rfl⟩
 have hB:Below w.heap.size w ((w.alloc (.cells (bG s p) 151)).alloc (.cells Z 151)):=((Below.refl _ w).alloc (Nat.le_refl _) _).alloc (by simp) _
 have hq:BytesAt ((w.alloc (.cells (bG s p) 151)).alloc (.cells Z 151)) s.a p.bytes:=BytesAt.later hB hp
 subst hZ
 go_enter Tryz.func130,Tryz.ntmps130
 go_wp2_with fail
 refine(aeW _ _ _ _ hq).mono ?_
 rintro e w2 ⟨s',rfl,hb2,hd2⟩
 have hblk:=jA (o:=2) (.slice s'.a p.bytes.length s'.cap) ((hb2.block w.heap.size (by simp;omega)).trans (oK w _ _))
 have hrow:row? (w2.setCell ⟨w.heap.size,2,none⟩ (.slice s'.a p.bytes.length s'.cap)) w.heap.size 0 3=some (bG s' p):=by rw[AB hblk];rfl
 obtain⟨hcc,ax,hrr⟩:=aK hb2
 have hpp:=jJ hb2
 have hsz:w.heap.size+1<w2.heap.size:=by have:=hb2.size;simp at this;omega
 have hsz0:w.heap.size<w2.heap.size:=by omega
 have hne:w.heap.size+1≠w.heap.size:=by omega
 clear hblk
 go_wp2_with fail
 refine bodyPost_ret (v:=.agg (bG s' p)) (by simp[results,Tryz.results130,go_sem, *];rfl) rfl ⟨s',rfl,?_,?_⟩
 ·exact Go.WW.Below.putRow ((hB.trans (hb2.mono hB.size)).setCell (by simp) _) (by omega)
 ·have hls:=hB.size
  refine bg.to (Φ:=fun x=>rY w.heap.size x s' p) (fun x hx=>(hd2 x hx).le hls) (fun j hj=>?_) (fun j hj=>?_)
  ·have h1:=hj.1
   simp at h1
   rw[iP (by omega),Below.heap_setCell _ _ _ _ (by simp;omega)]
  ·have h1:=hj.1
   have h2:=hj.2
   simp at h1
   exact⟨by omega,by rw[kL];simpa[World.setCell]using h2⟩
end Go.Proofs.YtibhckkjciflaaaGreatDoor
namespace Go.WW
open Go.RowKit
theorem rY.lt{m:Nat}{w:World}{s:Sl}{k:Key}(h:rY m w s k):iR w s k:=h.1
end Go.WW
namespace Go.Proofs.YtibhckkjciflaaaGreatDoor
open Go.RowKit Go.WW
def Tc(_:Nat)(l:List aG)(x:World)(i:Nat)(cs:Array Value):Prop:=∃p s,l[i]?=some p∧cs=aJ s p∧gu x s p
theorem Td(a:Option Addr)(cap:Nat)(l:List aG)(w:World)(hl:fH w a l) :
  Calls Tryz.prog 68 #[.slice a l.length cap,.func (.func 25) #[] #[]] w (AU (fun x s=>wP w.heap.size x s.a l) l.length w):=by
 have hn:l.length≤4294967000:=hl.1
 rcases cu.addr hl with h0|⟨b,o,rfl,hb⟩
 ·obtain rfl:l=[]:=List.eq_nil_of_length_eq_zero h0
  go_enter Tryz.func68,Tryz.ntmps68
  go_wp2_with fail
  refine wp_loop_rounds 1 ?_
  rw[rounds_succ]
  go_wp2_with fail
  go_ret
  exact⟨⟨none,0⟩,rfl,Below.refl _ _,fun x _=>⟨⟨by simp[lim],fun i hi=>by simp at hi⟩,iJ.zero⟩⟩
 go_enter Tryz.func68,Tryz.ntmps68
 go_wp2_with fail
 go_loopw [5,10] (fun ov i wr=>∃(k:Nat) (so:Sl) (rows:List (Array Value)),k≤l.length∧i=.int .i64 k∧ov=.slice so.a k so.cap∧Hid (rows.length=k)∧Below w.heap.size w wr∧jB 25 2 (Tc w.heap.size l) wr w.heap.size so rows) (fun _ i _=>l.length-(intOf i).toNat)
 case atStart=>exact⟨0,⟨none,0⟩,[],Nat.zero_le _,rfl,rfl,rfl,Below.refl _ _,jB.nil _ _ _ _ _⟩
 case round=>
  obtain⟨k,so,rows,hk,rfl,rfl,hlr,hbr,hC⟩:=hrel
  by_cases hlt:k<l.length
  ·obtain⟨t,hc,hp⟩:=hl.at k hlt
   obtain⟨hcc,ax,hrr⟩:=aK hbr
   go_wp2_with fail
   have hb1:Below wr.heap.size wr (wr.alloc (.cells (aJ t l[k]) 25)):=(Below.refl _ wr).alloc (Nat.le_refl _) _
   have hls:w.heap.size≤(wr.alloc (.cells (aJ t l[k]) 25)).heap.size:=by have:=hbr.size;simp;omega
   refine(J8 _ _ _ (hp.later (af hbr hb1))).mono ?_
   rintro e w2 ⟨s',rfl,hb2,hd2⟩
   have hr2:=af hb1 hb2
   have hown:=hC.carry hr2 (.cells (aJ s' l[k]) 25)
   clear hcc ax hrr
   go_wp2_with (at_builtin;refine kZ rfl (.tmp 14) (.tmp 18) _ rfl abQ (n:=k) rfl hlr.out.symm hown rfl rfl (eF.new _ (aJ s' l[k]) _ _ (by simp[go_sem]) (by simp[go_sem])) (by have:=hlr.out;rw[this];simp;omega) (by have h9:=hbr.size;have h8:=hr2.size;simp;omega) ?_;intro s3 w3 hown3 hg3 jh)
   have wE:=hC.step hb1 hb2 (o:=.cells (aJ s' l[k]) 25) (R:=Tc w.heap.size l) (fun x hx=>⟨l[k],s',by rw[hlr.out];exact List.getElem?_eq_getElem hlt,rfl,(hd2 x hx).1⟩) hown3 hg3 jh hbr.size
   have hb3:=AV hC hbr hb1 hb2 hg3
   have HL:=Lib.hid (show(rows++[(aJ s' l[k])]).length=k+1 by have:=hlr.out;simp[this])
   clear hown hown3 hg3 jh hC hd2 hr2 hb1 hb2 hlr
   go_wp2_with fail
   go_roundw
   case rel=>exact⟨k+1,s3,_,by omega,by go_num,rfl,HL.out,hb3,wE⟩
   case measure=>simp[intOf];omega
  ·obtain rfl:k=l.length:=by omega
   go_wp2_with fail
   go_ret
   exact⟨so,rfl,hbr,fun x hx=>⟨hC.done hlr.out hl.1 x hx,iJ.lQ (hC.own.fresh hx) hlr.out⟩⟩
def Tf(m:Nat)(l:List Key)(x:World)(i:Nat)(cs:Array Value):Prop:=∃p s,l[i]?=some p∧cs=bG s p∧rY m x s p
theorem aeY(a:Option Addr)(cap:Nat)(l:List Key)(w:World)(hl:jw w a l) :
  Calls Tryz.prog 129 #[.slice a l.length cap,.func (.func 130) #[] #[]] w (AU (fun x s=>wQ w.heap.size x s.a l) l.length w):=by
 have hn:l.length≤4294967000:=hl.1
 rcases cu.addr hl with h0|⟨b,o,rfl,hb⟩
 ·obtain rfl:l=[]:=List.eq_nil_of_length_eq_zero h0
  go_enter Tryz.func129,Tryz.ntmps129
  go_wp2_with fail
  refine wp_loop_rounds 1 ?_
  rw[rounds_succ]
  go_wp2_with fail
  go_ret
  exact⟨⟨none,0⟩,rfl,Below.refl _ _,fun x _=>⟨by simp[lim],fun i hi=>by simp at hi⟩⟩
 go_enter Tryz.func129,Tryz.ntmps129
 go_wp2_with fail
 go_loopw [5,10] (fun ov i wr=>∃(k:Nat) (so:Sl) (rows:List (Array Value)),k≤l.length∧i=.int .i64 k∧ov=.slice so.a k so.cap∧Hid (rows.length=k)∧Below w.heap.size w wr∧jB 151 3 (Tf w.heap.size l) wr w.heap.size so rows) (fun _ i _=>l.length-(intOf i).toNat)
 case atStart=>exact⟨0,⟨none,0⟩,[],Nat.zero_le _,rfl,rfl,rfl,Below.refl _ _,jB.nil _ _ _ _ _⟩
 case round=>
  obtain⟨k,so,rows,hk,rfl,rfl,hlr,hbr,hC⟩:=hrel
  by_cases hlt:k<l.length
  ·obtain⟨t,hc,hp⟩:=hl.at k hlt
   obtain⟨hcc,ax,hrr⟩:=aK hbr
   go_wp2_with fail
   have hb1:Below wr.heap.size wr (wr.alloc (.cells (bG t l[k]) 151)):=(Below.refl _ wr).alloc (Nat.le_refl _) _
   have hls:w.heap.size≤(wr.alloc (.cells (bG t l[k]) 151)).heap.size:=by have:=hbr.size;simp;omega
   refine(aeX _ _ _ (hp.later (af hbr hb1))).mono ?_
   rintro e w2 ⟨s',rfl,hb2,hd2⟩
   have hr2:=af hb1 hb2
   have hown:=hC.carry hr2 (.cells (bG s' l[k]) 151)
   clear hcc ax hrr
   go_wp2_with (at_builtin;refine kZ rfl (.tmp 14) (.tmp 18) _ rfl abR (n:=k) rfl hlr.out.symm hown rfl rfl (eF.new _ (bG s' l[k]) _ _ (by simp[go_sem]) (by simp[go_sem])) (by have:=hlr.out;rw[this];simp;omega) (by have h9:=hbr.size;have h8:=hr2.size;simp;omega) ?_;intro s3 w3 hown3 hg3 jh)
   have wE:=hC.step hb1 hb2 (o:=.cells (bG s' l[k]) 151) (R:=Tf w.heap.size l) (fun x hx=>⟨l[k],s',by rw[hlr.out];exact List.getElem?_eq_getElem hlt,rfl,(hd2 x hx).le hls⟩) hown3 hg3 jh hbr.size
   have hb3:=AV hC hbr hb1 hb2 hg3
   have HL:=Lib.hid (show(rows++[(bG s' l[k])]).length=k+1 by have:=hlr.out;simp[this])
   clear hown hown3 hg3 jh hC hd2 hr2 hb1 hb2 hlr
   go_wp2_with fail
   go_roundw
   case rel=>exact⟨k+1,s3,_,by omega,by go_num,rfl,HL.out,hb3,wE⟩
   case measure=>simp[intOf];omega
  ·obtain rfl:k=l.length:=by omega
   go_wp2_with fail
   go_ret
   exact⟨so,rfl,hbr,hC.done hlr.out hl.1⟩
def aeZ(w:World)(k:aW)(e:Ending)(w':World):Prop:=
 ∃s:Sl,e=.returned (.agg (aV s k))∧Below w.heap.size w w'∧bg w' (fresh w.heap.size w') (fun x=>uJ w.heap.size x s k)
theorem ae0(s:Sl)(p:aW)(w:World)(hp:ig w s p):Calls Tryz.prog 70 #[.agg (aV s p)] w (aeZ w p):=by
 obtain⟨Z,hZ⟩:∃Z:Array Value,Z=#[.int .i64 0,.slice none 0 0,.string ⟨#[]⟩,.int .i64 0,.int .i64 0]:=⟨_,rfl⟩
 have hB:Below w.heap.size w ((w.alloc (.cells (aV s p) 49)).alloc (.cells Z 49)):=((Below.refl _ w).alloc (Nat.le_refl _) _).alloc (by simp) _
 have hq:jw ((w.alloc (.cells (aV s p) 49)).alloc (.cells Z 49)) s.a p.keys:=hp.1.later hB
 have hrl:=hp.2
 subst hZ
 go_enter Tryz.func70,Tryz.ntmps70
 go_wp2_with fail
 refine(aeY _ _ _ _ hq).mono ?_
 rintro e w2 ⟨s',rfl,hb2,hd2⟩
 have hblk:=jA (o:=1) (.slice s'.a p.keys.length s'.cap) ((hb2.block w.heap.size (by simp;omega)).trans (oK w _ _))
 have hrow:row? (w2.setCell ⟨w.heap.size,1,none⟩ (.slice s'.a p.keys.length s'.cap)) w.heap.size 0 5=some (aV s' p):=by rw[AB hblk];rfl
 obtain⟨hcc,ax,hrr⟩:=aK hb2
 have hpp:=jJ hb2
 have hsz:w.heap.size+1<w2.heap.size:=by have:=hb2.size;simp at this;omega
 have hsz0:w.heap.size<w2.heap.size:=by omega
 have hne:w.heap.size+1≠w.heap.size:=by omega
 clear hblk
 go_wp2_with fail
 refine bodyPost_ret (v:=.agg (aV s' p)) (by simp[results,Tryz.results70,go_sem, *];rfl) rfl ⟨s',rfl,?_,?_⟩
 ·exact Go.WW.Below.putRow ((hB.trans (hb2.mono hB.size)).setCell (by simp) _) (by omega)
 ·have hls:=hB.size
  refine bg.to (fun x hx=>⟨(hd2 x hx).le hls,hrl⟩) (fun j hj=>?_) (fun j hj=>?_)
  ·have h1:=hj.1
   simp at h1
   rw[iP (by omega),Below.heap_setCell _ _ _ _ (by simp;omega)]
  ·have h1:=hj.1
   have h2:=hj.2
   simp at h1
   exact⟨by omega,by rw[kL];simpa[World.setCell]using h2⟩
def Ti(m:Nat)(l:List aW)(x:World)(i:Nat)(cs:Array Value):Prop:=∃p s,l[i]?=some p∧cs=aV s p∧uJ m x s p
theorem ae1(a:Option Addr)(cap:Nat)(l:List aW)(w:World)(hl:kV w a l) :
  Calls Tryz.prog 69 #[.slice a l.length cap,.func (.func 70) #[] #[]] w (AU (fun x s=>oN w.heap.size x s.a l) l.length w):=by
 have hn:l.length≤4294967000:=hl.1
 rcases cu.addr hl with h0|⟨b,o,rfl,hb⟩
 ·obtain rfl:l=[]:=List.eq_nil_of_length_eq_zero h0
  go_enter Tryz.func69,Tryz.ntmps69
  go_wp2_with fail
  refine wp_loop_rounds 1 ?_
  rw[rounds_succ]
  go_wp2_with fail
  go_ret
  exact⟨⟨none,0⟩,rfl,Below.refl _ _,fun x _=>⟨⟨by simp[lim],fun i hi=>by simp at hi⟩,iJ.zero⟩⟩
 go_enter Tryz.func69,Tryz.ntmps69
 go_wp2_with fail
 go_loopw [5,10] (fun ov i wr=>∃(k:Nat) (so:Sl) (rows:List (Array Value)),k≤l.length∧i=.int .i64 k∧ov=.slice so.a k so.cap∧Hid (rows.length=k)∧Below w.heap.size w wr∧jB 49 5 (Ti w.heap.size l) wr w.heap.size so rows) (fun _ i _=>l.length-(intOf i).toNat)
 case atStart=>exact⟨0,⟨none,0⟩,[],Nat.zero_le _,rfl,rfl,rfl,Below.refl _ _,jB.nil _ _ _ _ _⟩
 case round=>
  obtain⟨k,so,rows,hk,rfl,rfl,hlr,hbr,hC⟩:=hrel
  by_cases hlt:k<l.length
  ·obtain⟨t,hc,hp⟩:=hl.at k hlt
   obtain⟨hcc,ax,hrr⟩:=aK hbr
   go_wp2_with fail
   have hb1:Below wr.heap.size wr (wr.alloc (.cells (aV t l[k]) 49)):=(Below.refl _ wr).alloc (Nat.le_refl _) _
   have hls:w.heap.size≤(wr.alloc (.cells (aV t l[k]) 49)).heap.size:=by have:=hbr.size;simp;omega
   refine(ae0 _ _ _ (hp.later (af hbr hb1))).mono ?_
   rintro e w2 ⟨s',rfl,hb2,hd2⟩
   have hr2:=af hb1 hb2
   have hown:=hC.carry hr2 (.cells (aV s' l[k]) 49)
   clear hcc ax hrr
   go_wp2_with (at_builtin;refine kZ rfl (.tmp 14) (.tmp 18) _ rfl abS (n:=k) rfl hlr.out.symm hown rfl rfl (eF.new _ (aV s' l[k]) _ _ (by simp[go_sem]) (by simp[go_sem])) (by have:=hlr.out;rw[this];simp;omega) (by have h9:=hbr.size;have h8:=hr2.size;simp;omega) ?_;intro s3 w3 hown3 hg3 jh)
   have wE:=hC.step hb1 hb2 (o:=.cells (aV s' l[k]) 49) (R:=Ti w.heap.size l) (fun x hx=>⟨l[k],s',by rw[hlr.out];exact List.getElem?_eq_getElem hlt,rfl,(hd2 x hx).le hls⟩) hown3 hg3 jh hbr.size
   have hb3:=AV hC hbr hb1 hb2 hg3
   have HL:=Lib.hid (show(rows++[(aV s' l[k])]).length=k+1 by have:=hlr.out;simp[this])
   clear hown hown3 hg3 jh hC hd2 hr2 hb1 hb2 hlr
   go_wp2_with fail
   go_roundw
   case rel=>exact⟨k+1,s3,_,by omega,by go_num,rfl,HL.out,hb3,wE⟩
   case measure=>simp[intOf];omega
  ·obtain rfl:k=l.length:=by omega
   go_wp2_with fail
   go_ret
   exact⟨so,rfl,hbr,fun x hx=>⟨hC.done hlr.out hl.1 x hx,iJ.lQ (hC.own.fresh hx) hlr.out⟩⟩
theorem Tj(a:Option Addr)(cap:Nat)(l:List aG)(w:World)(hl:fH w a l) :
  Calls Tryz.prog 68 #[.slice a l.length cap,.func (.func 25) #[] #[]] w (AU (fun x s=>fH x s.a l) l.length w):=
 (Td a cap l w hl).mono fun _ _ ⟨s,h1,h2,h3⟩=>⟨s,h1,h2,fun x hx=>(h3 x hx).1⟩
end Go.Proofs.YtibhckkjciflaaaGreatDoor
namespace Go.WW
open Go.RowKit
def ae2(w:World)(d:Entry)(e:Ending)(w':World):Prop:=∃r:aC,e=.returned (.agg (ay r d))∧Below w.heap.size w w'∧bg w' (fresh w.heap.size w') (fun x=>aeQ w.heap.size x r d)
theorem oN.le{m m':Nat}{w:World}{a:Option Addr}{l:List aW}(h:oN m w a l)(hm:m'≤m):oN m' w a l:=⟨cu.imp h.1 fun _ _ ⟨p,s,h1,h2,h3⟩=>⟨p,s,h1,h2,h3.le hm⟩,h.2.le hm⟩
end Go.WW
namespace Go.Proofs.YtibhckkjciflaaaGreatDoor
open Go.RowKit Go.WW
theorem ae3(r:aC)(d:Entry)(w:World)(he:iT w r d):Calls Tryz.prog 26 #[.agg (ay r d)] w (ae2 w d):=by
 have hB0:Below w.heap.size w ((w.alloc (.cells (ay r d) 32)).alloc (.cells #[.slice none 0 0,.string ⟨#[]⟩,.slice none 0 0,.int .u32 0,.int .i64 0,.slice none 0 0,.string ⟨#[]⟩,.int .i64 0,.int .i64 0,.int .i64 0,.int .i64 0,.int .i64 0,.int .i64 0,.int .i64 0,.slice none 0 0,.slice none 0 0,.slice none 0 0] 32)):=((Below.refl _ w).alloc (Nat.le_refl _) _).alloc (by simp) _
 have hx0:((w.alloc (.cells (ay r d) 32)).alloc (.cells #[.slice none 0 0,.string ⟨#[]⟩,.slice none 0 0,.int .u32 0,.int .i64 0,.slice none 0 0,.string ⟨#[]⟩,.int .i64 0,.int .i64 0,.int .i64 0,.int .i64 0,.int .i64 0,.int .i64 0,.int .i64 0,.slice none 0 0,.slice none 0 0,.slice none 0 0] 32)).heap[w.heap.size]?=some (.cells (ay r d) 32):=oK w _ _
 have hz0:aS ((w.alloc (.cells (ay r d) 32)).alloc (.cells #[.slice none 0 0,.string ⟨#[]⟩,.slice none 0 0,.int .u32 0,.int .i64 0,.slice none 0 0,.string ⟨#[]⟩,.int .i64 0,.int .i64 0,.int .i64 0,.int .i64 0,.int .i64 0,.int .i64 0,.int .i64 0,.slice none 0 0,.slice none 0 0,.slice none 0 0] 32)) (w.heap.size+1) 0 17=true:=by simp[go_sem]
 have hs0:w.heap.size+1<((w.alloc (.cells (ay r d) 32)).alloc (.cells #[.slice none 0 0,.string ⟨#[]⟩,.slice none 0 0,.int .u32 0,.int .i64 0,.slice none 0 0,.string ⟨#[]⟩,.int .i64 0,.int .i64 0,.int .i64 0,.int .i64 0,.int .i64 0,.int .i64 0,.int .i64 0,.slice none 0 0,.slice none 0 0,.slice none 0 0] 32)).heap.size:=by simp
 have hne:w.heap.size+1≠w.heap.size:=by omega
 go_enter Tryz.func26,Tryz.ntmps26
 go_wp2_with fail
 generalize (w.alloc (.cells (ay r d) 32)).alloc (.cells #[.slice none 0 0,.string ⟨#[]⟩,.slice none 0 0,.int .u32 0,.int .i64 0,.slice none 0 0,.string ⟨#[]⟩,.int .i64 0,.int .i64 0,.int .i64 0,.int .i64 0,.int .i64 0,.int .i64 0,.int .i64 0,.slice none 0 0,.slice none 0 0,.slice none 0 0] 32)=W0 at *
 refine(J8 _ _ _ (he.name.later hB0)).mono ?_
 rintro e V0 ⟨s0,rfl,hb0,hd0⟩
 have hy0:=(hb0.block w.heap.size (by omega)).trans hx0
 obtain⟨hc,hf,hr,hlt⟩:=aN hy0
 have hx1:(putRow V0 w.heap.size 0 (aJ s0 d.name)).heap[w.heap.size]?=some (.cells (ay {r with parts:=s0} d) 32):=(nR hy0 (by simp[go_sem])).trans (by rfl)
 have hcp:aS V0 w.heap.size 0 2=true:=nS hy0 (by simp[go_sem])
 have hB1:Below w.heap.size w (putRow V0 w.heap.size 0 (aJ s0 d.name)):=Go.WW.Below.putRow (af hB0 hb0) (Nat.le_refl _)
 have hz1:aS (putRow V0 w.heap.size 0 (aJ s0 d.name)) (w.heap.size+1) 0 17=true:=by rw[qX hne,jJ hb0 _ _ _ (by omega)];exact hz0
 have hs1:w.heap.size+1<(putRow V0 w.heap.size 0 (aJ s0 d.name)).heap.size:=by have:=hb0.size;rw[kL];omega
 have BK:bg (putRow V0 w.heap.size 0 (aJ s0 d.name)) (fun k=>w.heap.size+1<k∧k<(putRow V0 w.heap.size 0 (aJ s0 d.name)).heap.size) (fun x=>pK w.heap.size x s0 d.name):=(show bg V0 (fresh W0.heap.size V0) (fun x=>pK w.heap.size x s0 d.name) from fun x hx=>⟨(hd0 x hx).1,(hd0 x hx).2.le hB0.size⟩).to (fun k hk=>by have h1:=hk.1;first|exact iP (by omega)|exact Below.heap_setCell _ _ _ _ (by simp;omega)) (fun k hk=>⟨by have h1:=hk.1;omega,by have h2:=hk.2;first|(rw[kL];exact h2)|(simp only[World.setCell,Array.size_modify];exact h2)⟩)
 clear hx0 hz0 hs0 hy0 hb0 hd0 hB0
 obtain⟨hc2,hf2,hr2,hlt2⟩:=aN hx1
 have HX:=Lib.hid hx1
 clear hx1
 go_wp2_with fail
 have hx1:=HX.out
 clear HX hc hf hr hlt hc2 hf2 hr2 hlt2 hcp
 generalize putRow V0 w.heap.size 0 (aJ s0 d.name)=W1 at *
 refine(Td _ _ _ _ (he.aliases.later hB1)).mono ?_
 rintro e V1 ⟨s1,rfl,hb1,hd1⟩
 have hy1:=(hb1.block w.heap.size (by omega)).trans hx1
 obtain⟨hc,hf,hr,hlt⟩:=aN hy1
 have hx2:(V1.setCell ⟨w.heap.size,2,none⟩ (.slice s1.a d.aliases.length s1.cap)).heap[w.heap.size]?=some (.cells (ay {r with parts:=s0,aliases:=s1} d) 32):=(jA _ hy1).trans (by rfl)
 have hB2:Below w.heap.size w (V1.setCell ⟨w.heap.size,2,none⟩ (.slice s1.a d.aliases.length s1.cap)):=(af hB1 hb1).setCell (Nat.le_refl _) _
 have hz2:aS (V1.setCell ⟨w.heap.size,2,none⟩ (.slice s1.a d.aliases.length s1.cap)) (w.heap.size+1) 0 17=true:=by rw[uo hne,jJ hb1 _ _ _ (by omega)];exact hz1
 have hs2:w.heap.size+1<(V1.setCell ⟨w.heap.size,2,none⟩ (.slice s1.a d.aliases.length s1.cap)).heap.size:=by have:=hb1.size;simp only[World.setCell,Array.size_modify];omega
 have EW:bg (V1.setCell ⟨w.heap.size,2,none⟩ (.slice s1.a d.aliases.length s1.cap)) (fun k=>w.heap.size+1<k∧k<(V1.setCell ⟨w.heap.size,2,none⟩ (.slice s1.a d.aliases.length s1.cap)).heap.size) (fun x=>pK w.heap.size x s0 d.name):=BK.to (fun k hk=>by have h1:=hk.1;have h2:=hk.2;rw[Below.heap_setCell _ _ _ _ (by simp;omega)];exact hb1.block k h2) (fun k hk=>⟨hk.1,by have h2:=hk.2;have h3:=hb1.size;simp only[World.setCell,Array.size_modify];omega⟩)
 have EX:bg (V1.setCell ⟨w.heap.size,2,none⟩ (.slice s1.a d.aliases.length s1.cap)) (fun k=>w.heap.size+1<k∧k<(V1.setCell ⟨w.heap.size,2,none⟩ (.slice s1.a d.aliases.length s1.cap)).heap.size) (fun x=>wP w.heap.size x s1.a d.aliases):=(show bg V1 (fresh W1.heap.size V1) (fun x=>wP w.heap.size x s1.a d.aliases) from fun x hx=>⟨(hd1 x hx).1,(hd1 x hx).2.le hB1.size⟩).to (fun k hk=>by have h1:=hk.1;first|exact iP (by omega)|exact Below.heap_setCell _ _ _ _ (by simp;omega)) (fun k hk=>⟨by have h1:=hk.1;omega,by have h2:=hk.2;first|(rw[kL];exact h2)|(simp only[World.setCell,Array.size_modify];exact h2)⟩)
 clear hx1 hz1 hs1 hy1 hb1 hd1 hB1 BK
 obtain⟨hc2,hf2,hr2,hlt2⟩:=aN hx2
 have HX:=Lib.hid hx2
 clear hx2
 go_wp2_with fail
 have hx2:=HX.out
 clear HX hc hf hr hlt hc2 hf2 hr2 hlt2
 generalize V1.setCell ⟨w.heap.size,2,none⟩ (.slice s1.a d.aliases.length s1.cap)=W2 at *
 refine(ae1 _ _ _ _ (he.keys.later hB2)).mono ?_
 rintro e V2 ⟨s2,rfl,hb2,hd2⟩
 have hy2:=(hb2.block w.heap.size (by omega)).trans hx2
 obtain⟨hc,hf,hr,hlt⟩:=aN hy2
 have hx3:(V2.setCell ⟨w.heap.size,5,none⟩ (.slice s2.a d.keys.length s2.cap)).heap[w.heap.size]?=some (.cells (ay {r with parts:=s0,aliases:=s1,keys:=s2} d) 32):=(jA _ hy2).trans (by rfl)
 have hB3:Below w.heap.size w (V2.setCell ⟨w.heap.size,5,none⟩ (.slice s2.a d.keys.length s2.cap)):=(af hB2 hb2).setCell (Nat.le_refl _) _
 have hz3:aS (V2.setCell ⟨w.heap.size,5,none⟩ (.slice s2.a d.keys.length s2.cap)) (w.heap.size+1) 0 17=true:=by rw[uo hne,jJ hb2 _ _ _ (by omega)];exact hz2
 have hs3:w.heap.size+1<(V2.setCell ⟨w.heap.size,5,none⟩ (.slice s2.a d.keys.length s2.cap)).heap.size:=by have:=hb2.size;simp only[World.setCell,Array.size_modify];omega
 have Tm:bg (V2.setCell ⟨w.heap.size,5,none⟩ (.slice s2.a d.keys.length s2.cap)) (fun k=>w.heap.size+1<k∧k<(V2.setCell ⟨w.heap.size,5,none⟩ (.slice s2.a d.keys.length s2.cap)).heap.size) (fun x=>pK w.heap.size x s0 d.name):=EW.to (fun k hk=>by have h1:=hk.1;have h2:=hk.2;rw[Below.heap_setCell _ _ _ _ (by simp;omega)];exact hb2.block k h2) (fun k hk=>⟨hk.1,by have h2:=hk.2;have h3:=hb2.size;simp only[World.setCell,Array.size_modify];omega⟩)
 have Tn:bg (V2.setCell ⟨w.heap.size,5,none⟩ (.slice s2.a d.keys.length s2.cap)) (fun k=>w.heap.size+1<k∧k<(V2.setCell ⟨w.heap.size,5,none⟩ (.slice s2.a d.keys.length s2.cap)).heap.size) (fun x=>wP w.heap.size x s1.a d.aliases):=EX.to (fun k hk=>by have h1:=hk.1;have h2:=hk.2;rw[Below.heap_setCell _ _ _ _ (by simp;omega)];exact hb2.block k h2) (fun k hk=>⟨hk.1,by have h2:=hk.2;have h3:=hb2.size;simp only[World.setCell,Array.size_modify];omega⟩)
 have Tq:bg (V2.setCell ⟨w.heap.size,5,none⟩ (.slice s2.a d.keys.length s2.cap)) (fun k=>w.heap.size+1<k∧k<(V2.setCell ⟨w.heap.size,5,none⟩ (.slice s2.a d.keys.length s2.cap)).heap.size) (fun x=>oN w.heap.size x s2.a d.keys):=(show bg V2 (fresh W2.heap.size V2) (fun x=>oN w.heap.size x s2.a d.keys) from fun x hx=>(hd2 x hx).le hB2.size).to (fun k hk=>by have h1:=hk.1;first|exact iP (by omega)|exact Below.heap_setCell _ _ _ _ (by simp;omega)) (fun k hk=>⟨by have h1:=hk.1;omega,by have h2:=hk.2;first|(rw[kL];exact h2)|(simp only[World.setCell,Array.size_modify];exact h2)⟩)
 clear hx2 hz2 hs2 hy2 hb2 hd2 hB2 EW EX
 obtain⟨hc2,hf2,hr2,hlt2⟩:=aN hx3
 have HX:=Lib.hid hx3
 clear hx3
 go_wp2_with fail
 have hx3:=HX.out
 clear HX hc hf hr hlt hc2 hf2 hr2 hlt2
 generalize V2.setCell ⟨w.heap.size,5,none⟩ (.slice s2.a d.keys.length s2.cap)=W3 at *
 refine(Tj _ _ _ _ (he.targets.later hB3)).mono ?_
 rintro e V3 ⟨s3,rfl,hb3,hd3⟩
 have hy3:=(hb3.block w.heap.size (by omega)).trans hx3
 obtain⟨hc,hf,hr,hlt⟩:=aN hy3
 have hx4:(V3.setCell ⟨w.heap.size,14,none⟩ (.slice s3.a d.targets.length s3.cap)).heap[w.heap.size]?=some (.cells (ay {r with parts:=s0,aliases:=s1,keys:=s2,targets:=s3} d) 32):=(jA _ hy3).trans (by rfl)
 have hB4:Below w.heap.size w (V3.setCell ⟨w.heap.size,14,none⟩ (.slice s3.a d.targets.length s3.cap)):=(af hB3 hb3).setCell (Nat.le_refl _) _
 have Tt:aS (V3.setCell ⟨w.heap.size,14,none⟩ (.slice s3.a d.targets.length s3.cap)) (w.heap.size+1) 0 17=true:=by rw[uo hne,jJ hb3 _ _ _ (by omega)];exact hz3
 have hs4:w.heap.size+1<(V3.setCell ⟨w.heap.size,14,none⟩ (.slice s3.a d.targets.length s3.cap)).heap.size:=by have:=hb3.size;simp only[World.setCell,Array.size_modify];omega
 have Tu:bg (V3.setCell ⟨w.heap.size,14,none⟩ (.slice s3.a d.targets.length s3.cap)) (fun k=>w.heap.size+1<k∧k<(V3.setCell ⟨w.heap.size,14,none⟩ (.slice s3.a d.targets.length s3.cap)).heap.size) (fun x=>pK w.heap.size x s0 d.name):=Tm.to (fun k hk=>by have h1:=hk.1;have h2:=hk.2;rw[Below.heap_setCell _ _ _ _ (by simp;omega)];exact hb3.block k h2) (fun k hk=>⟨hk.1,by have h2:=hk.2;have h3:=hb3.size;simp only[World.setCell,Array.size_modify];omega⟩)
 have Tv:bg (V3.setCell ⟨w.heap.size,14,none⟩ (.slice s3.a d.targets.length s3.cap)) (fun k=>w.heap.size+1<k∧k<(V3.setCell ⟨w.heap.size,14,none⟩ (.slice s3.a d.targets.length s3.cap)).heap.size) (fun x=>wP w.heap.size x s1.a d.aliases):=Tn.to (fun k hk=>by have h1:=hk.1;have h2:=hk.2;rw[Below.heap_setCell _ _ _ _ (by simp;omega)];exact hb3.block k h2) (fun k hk=>⟨hk.1,by have h2:=hk.2;have h3:=hb3.size;simp only[World.setCell,Array.size_modify];omega⟩)
 have Tz:bg (V3.setCell ⟨w.heap.size,14,none⟩ (.slice s3.a d.targets.length s3.cap)) (fun k=>w.heap.size+1<k∧k<(V3.setCell ⟨w.heap.size,14,none⟩ (.slice s3.a d.targets.length s3.cap)).heap.size) (fun x=>oN w.heap.size x s2.a d.keys):=Tq.to (fun k hk=>by have h1:=hk.1;have h2:=hk.2;rw[Below.heap_setCell _ _ _ _ (by simp;omega)];exact hb3.block k h2) (fun k hk=>⟨hk.1,by have h2:=hk.2;have h3:=hb3.size;simp only[World.setCell,Array.size_modify];omega⟩)
 have TA:bg (V3.setCell ⟨w.heap.size,14,none⟩ (.slice s3.a d.targets.length s3.cap)) (fun k=>w.heap.size+1<k∧k<(V3.setCell ⟨w.heap.size,14,none⟩ (.slice s3.a d.targets.length s3.cap)).heap.size) (fun x=>fH x s3.a d.targets):=hd3.to (fun k hk=>by have h1:=hk.1;first|exact iP (by omega)|exact Below.heap_setCell _ _ _ _ (by simp;omega)) (fun k hk=>⟨by have h1:=hk.1;omega,by have h2:=hk.2;first|(rw[kL];exact h2)|(simp only[World.setCell,Array.size_modify];exact h2)⟩)
 clear hx3 hz3 hs3 hy3 hb3 hd3 hB3 Tm Tn Tq
 obtain⟨hc2,hf2,hr2,hlt2⟩:=aN hx4
 have HX:=Lib.hid hx4
 clear hx4
 go_wp2_with fail
 have hx4:=HX.out
 clear HX hc hf hr hlt hc2 hf2 hr2 hlt2
 generalize V3.setCell ⟨w.heap.size,14,none⟩ (.slice s3.a d.targets.length s3.cap)=W4 at *
 refine(Tj _ _ _ _ (he.aP.later hB4)).mono ?_
 rintro e V4 ⟨s4,rfl,hb4,hd4⟩
 have hy4:=(hb4.block w.heap.size (by omega)).trans hx4
 obtain⟨hc,hf,hr,hlt⟩:=aN hy4
 have hx5:(V4.setCell ⟨w.heap.size,15,none⟩ (.slice s4.a d.aP.length s4.cap)).heap[w.heap.size]?=some (.cells (ay {r with parts:=s0,aliases:=s1,keys:=s2,targets:=s3,aP:=s4} d) 32):=(jA _ hy4).trans (by rfl)
 have mV:Below w.heap.size w (V4.setCell ⟨w.heap.size,15,none⟩ (.slice s4.a d.aP.length s4.cap)):=(af hB4 hb4).setCell (Nat.le_refl _) _
 have TB:aS (V4.setCell ⟨w.heap.size,15,none⟩ (.slice s4.a d.aP.length s4.cap)) (w.heap.size+1) 0 17=true:=by rw[uo hne,jJ hb4 _ _ _ (by omega)];exact Tt
 have hs5:w.heap.size+1<(V4.setCell ⟨w.heap.size,15,none⟩ (.slice s4.a d.aP.length s4.cap)).heap.size:=by have:=hb4.size;simp only[World.setCell,Array.size_modify];omega
 have TC:bg (V4.setCell ⟨w.heap.size,15,none⟩ (.slice s4.a d.aP.length s4.cap)) (fun k=>w.heap.size+1<k∧k<(V4.setCell ⟨w.heap.size,15,none⟩ (.slice s4.a d.aP.length s4.cap)).heap.size) (fun x=>pK w.heap.size x s0 d.name):=Tu.to (fun k hk=>by have h1:=hk.1;have h2:=hk.2;rw[Below.heap_setCell _ _ _ _ (by simp;omega)];exact hb4.block k h2) (fun k hk=>⟨hk.1,by have h2:=hk.2;have h3:=hb4.size;simp only[World.setCell,Array.size_modify];omega⟩)
 have TD:bg (V4.setCell ⟨w.heap.size,15,none⟩ (.slice s4.a d.aP.length s4.cap)) (fun k=>w.heap.size+1<k∧k<(V4.setCell ⟨w.heap.size,15,none⟩ (.slice s4.a d.aP.length s4.cap)).heap.size) (fun x=>wP w.heap.size x s1.a d.aliases):=Tv.to (fun k hk=>by have h1:=hk.1;have h2:=hk.2;rw[Below.heap_setCell _ _ _ _ (by simp;omega)];exact hb4.block k h2) (fun k hk=>⟨hk.1,by have h2:=hk.2;have h3:=hb4.size;simp only[World.setCell,Array.size_modify];omega⟩)
 have TE:bg (V4.setCell ⟨w.heap.size,15,none⟩ (.slice s4.a d.aP.length s4.cap)) (fun k=>w.heap.size+1<k∧k<(V4.setCell ⟨w.heap.size,15,none⟩ (.slice s4.a d.aP.length s4.cap)).heap.size) (fun x=>oN w.heap.size x s2.a d.keys):=Tz.to (fun k hk=>by have h1:=hk.1;have h2:=hk.2;rw[Below.heap_setCell _ _ _ _ (by simp;omega)];exact hb4.block k h2) (fun k hk=>⟨hk.1,by have h2:=hk.2;have h3:=hb4.size;simp only[World.setCell,Array.size_modify];omega⟩)
 have TF:bg (V4.setCell ⟨w.heap.size,15,none⟩ (.slice s4.a d.aP.length s4.cap)) (fun k=>w.heap.size+1<k∧k<(V4.setCell ⟨w.heap.size,15,none⟩ (.slice s4.a d.aP.length s4.cap)).heap.size) (fun x=>fH x s3.a d.targets):=TA.to (fun k hk=>by have h1:=hk.1;have h2:=hk.2;rw[Below.heap_setCell _ _ _ _ (by simp;omega)];exact hb4.block k h2) (fun k hk=>⟨hk.1,by have h2:=hk.2;have h3:=hb4.size;simp only[World.setCell,Array.size_modify];omega⟩)
 have TG:bg (V4.setCell ⟨w.heap.size,15,none⟩ (.slice s4.a d.aP.length s4.cap)) (fun k=>w.heap.size+1<k∧k<(V4.setCell ⟨w.heap.size,15,none⟩ (.slice s4.a d.aP.length s4.cap)).heap.size) (fun x=>fH x s4.a d.aP):=hd4.to (fun k hk=>by have h1:=hk.1;first|exact iP (by omega)|exact Below.heap_setCell _ _ _ _ (by simp;omega)) (fun k hk=>⟨by have h1:=hk.1;omega,by have h2:=hk.2;first|(rw[kL];exact h2)|(simp only[World.setCell,Array.size_modify];exact h2)⟩)
 clear hx4 Tt hs4 hy4 hb4 hd4 hB4 Tu Tv Tz TA
 obtain⟨hc2,hf2,hr2,hlt2⟩:=aN hx5
 have HX:=Lib.hid hx5
 clear hx5
 go_wp2_with fail
 have hx5:=HX.out
 clear HX hc hf hr hlt hc2 hf2 hr2 hlt2
 generalize V4.setCell ⟨w.heap.size,15,none⟩ (.slice s4.a d.aP.length s4.cap)=W5 at *
 refine(abT _ _ _ _ (he.history.later mV)).mono ?_
 rintro e V5 ⟨s5,rfl,hb5,hd5⟩
 have J9:=(hb5.block w.heap.size (by omega)).trans hx5
 obtain⟨hc,hf,hr,hlt⟩:=aN J9
 have hx6:(V5.setCell ⟨w.heap.size,16,none⟩ (.slice s5.a d.history.length s5.cap)).heap[w.heap.size]?=some (.cells (ay {r with parts:=s0,aliases:=s1,keys:=s2,targets:=s3,aP:=s4,history:=s5} d) 32):=(jA _ J9).trans (by rfl)
 have hB6:Below w.heap.size w (V5.setCell ⟨w.heap.size,16,none⟩ (.slice s5.a d.history.length s5.cap)):=(af mV hb5).setCell (Nat.le_refl _) _
 have hz6:aS (V5.setCell ⟨w.heap.size,16,none⟩ (.slice s5.a d.history.length s5.cap)) (w.heap.size+1) 0 17=true:=by rw[uo hne,jJ hb5 _ _ _ (by omega)];exact TB
 have hs6:w.heap.size+1<(V5.setCell ⟨w.heap.size,16,none⟩ (.slice s5.a d.history.length s5.cap)).heap.size:=by have:=hb5.size;simp only[World.setCell,Array.size_modify];omega
 have ae6:bg (V5.setCell ⟨w.heap.size,16,none⟩ (.slice s5.a d.history.length s5.cap)) (fun k=>w.heap.size+1<k∧k<(V5.setCell ⟨w.heap.size,16,none⟩ (.slice s5.a d.history.length s5.cap)).heap.size) (fun x=>pK w.heap.size x s0 d.name):=TC.to (fun k hk=>by have h1:=hk.1;have h2:=hk.2;rw[Below.heap_setCell _ _ _ _ (by simp;omega)];exact hb5.block k h2) (fun k hk=>⟨hk.1,by have h2:=hk.2;have h3:=hb5.size;simp only[World.setCell,Array.size_modify];omega⟩)
 have ae7:bg (V5.setCell ⟨w.heap.size,16,none⟩ (.slice s5.a d.history.length s5.cap)) (fun k=>w.heap.size+1<k∧k<(V5.setCell ⟨w.heap.size,16,none⟩ (.slice s5.a d.history.length s5.cap)).heap.size) (fun x=>wP w.heap.size x s1.a d.aliases):=TD.to (fun k hk=>by have h1:=hk.1;have h2:=hk.2;rw[Below.heap_setCell _ _ _ _ (by simp;omega)];exact hb5.block k h2) (fun k hk=>⟨hk.1,by have h2:=hk.2;have h3:=hb5.size;simp only[World.setCell,Array.size_modify];omega⟩)
 have ae8:bg (V5.setCell ⟨w.heap.size,16,none⟩ (.slice s5.a d.history.length s5.cap)) (fun k=>w.heap.size+1<k∧k<(V5.setCell ⟨w.heap.size,16,none⟩ (.slice s5.a d.history.length s5.cap)).heap.size) (fun x=>oN w.heap.size x s2.a d.keys):=TE.to (fun k hk=>by have h1:=hk.1;have h2:=hk.2;rw[Below.heap_setCell _ _ _ _ (by simp;omega)];exact hb5.block k h2) (fun k hk=>⟨hk.1,by have h2:=hk.2;have h3:=hb5.size;simp only[World.setCell,Array.size_modify];omega⟩)
 have ae9:bg (V5.setCell ⟨w.heap.size,16,none⟩ (.slice s5.a d.history.length s5.cap)) (fun k=>w.heap.size+1<k∧k<(V5.setCell ⟨w.heap.size,16,none⟩ (.slice s5.a d.history.length s5.cap)).heap.size) (fun x=>fH x s3.a d.targets):=TF.to (fun k hk=>by have h1:=hk.1;have h2:=hk.2;rw[Below.heap_setCell _ _ _ _ (by simp;omega)];exact hb5.block k h2) (fun k hk=>⟨hk.1,by have h2:=hk.2;have h3:=hb5.size;simp only[World.setCell,Array.size_modify];omega⟩)
 have afa:bg (V5.setCell ⟨w.heap.size,16,none⟩ (.slice s5.a d.history.length s5.cap)) (fun k=>w.heap.size+1<k∧k<(V5.setCell ⟨w.heap.size,16,none⟩ (.slice s5.a d.history.length s5.cap)).heap.size) (fun x=>fH x s4.a d.aP):=TG.to (fun k hk=>by have h1:=hk.1;have h2:=hk.2;rw[Below.heap_setCell _ _ _ _ (by simp;omega)];exact hb5.block k h2) (fun k hk=>⟨hk.1,by have h2:=hk.2;have h3:=hb5.size;simp only[World.setCell,Array.size_modify];omega⟩)
 have afb:bg (V5.setCell ⟨w.heap.size,16,none⟩ (.slice s5.a d.history.length s5.cap)) (fun k=>w.heap.size+1<k∧k<(V5.setCell ⟨w.heap.size,16,none⟩ (.slice s5.a d.history.length s5.cap)).heap.size) (fun x=>dH x s5.a d.history):=hd5.to (fun k hk=>by have h1:=hk.1;first|exact iP (by omega)|exact Below.heap_setCell _ _ _ _ (by simp;omega)) (fun k hk=>⟨by have h1:=hk.1;omega,by have h2:=hk.2;first|(rw[kL];exact h2)|(simp only[World.setCell,Array.size_modify];exact h2)⟩)
 clear hx5 TB hs5 J9 hb5 hd5 mV TC TD TE TF TG
 obtain⟨hc2,hf2,hr2,hlt2⟩:=aN hx6
 have HX:=Lib.hid hx6
 clear hx6
 go_wp2_with fail
 have hrow:=ql (w:=V5.setCell ⟨w.heap.size,16,none⟩ (.slice s5.a d.history.length s5.cap)) (OL {parts:=s0,aliases:=s1,keys:=s2,targets:=s3,aP:=s4,history:=s5} d) hz6
 have Ko:∀k,w.heap.size+1<k∧k<(V5.setCell ⟨w.heap.size,16,none⟩ (.slice s5.a d.history.length s5.cap)).heap.size→(putRow (V5.setCell ⟨w.heap.size,16,none⟩ (.slice s5.a d.history.length s5.cap)) (w.heap.size+1) 0 (ay {parts:=s0,aliases:=s1,keys:=s2,targets:=s3,aP:=s4,history:=s5} d)).heap[k]?=(V5.setCell ⟨w.heap.size,16,none⟩ (.slice s5.a d.history.length s5.cap)).heap[k]?:=fun k hk=>iP (by omega)
 refine bodyPost_ret (uI (by rfl) Tryz.underlying32 rfl (by kernel_rfl) rfl hrow) rfl ⟨{parts:=s0,aliases:=s1,keys:=s2,targets:=s3,aP:=s4,history:=s5},rfl,Go.WW.Below.putRow hB6 (by omega),?_⟩
 intro x hx
 have hX:=fun k (hk:w.heap.size+1<k∧k<(V5.setCell ⟨w.heap.size,16,none⟩ (.slice s5.a d.history.length s5.cap)).heap.size)=>(hx k ⟨by omega,by rw[kL];exact hk.2⟩).trans (Ko k hk)
 have e0:=ae6 _ hX
 have e1:=ae7 _ hX
 have e2:=ae8 _ hX
 exact⟨⟨e0.1,e1.1,e2.at_,ae9 _ hX,afa _ hX,afb _ hX,he.dn,he.attrs⟩,e0.2,e1.2,e2⟩
end Go.Proofs.YtibhckkjciflaaaGreatDoor
namespace Go.WW
open Go.RowKit
def afc(d:Entry)(p:aO)(s:Bool)(now:Int):Int:=if s then 0 else min (countOf d p now+1) 65535
def afd(d:Entry)(s:Bool)(now:Int):Int:=if s then d.eP else now
def afe(d:Entry)(s:Bool)(now:Int):Int:=if s then now else d.gq
def amN(d:Entry)(p:aO)(s:Bool)(now:Int):Entry:={d with fails:=afc d p s now,eP:=afd d s now,gq:=afe d s now}
def cO:Sl:=⟨none,0⟩
def bz:aC:=⟨cO,cO,cO,cO,cO,cO⟩
def aX:Entry:=⟨⟨[],⟨#[]⟩⟩,[],0,0,[],⟨#[]⟩,0,0,0,0,0,0,0,[],[],[]⟩
theorem aff(w:World):iT w bz aX:=
 ⟨⟨⟨by simp[aX,lim],fun i hi=>by simp[aX]at hi⟩,Nat.zero_le _⟩,⟨by simp[aX,lim],fun i hi=>by simp[aX]at hi⟩,⟨by simp[aX,lim],fun i hi=>by simp[aX]at hi⟩,⟨by simp[aX,lim],fun i hi=>by simp[aX]at hi⟩,⟨by simp[aX,lim],fun i hi=>by simp[aX]at hi⟩,⟨by simp[aX,lim],fun i hi=>by simp[aX]at hi⟩,Nat.zero_le _,by simp[aX]⟩
def amO(w:World)(d:Entry)(no:Int)(e:Ending)(w':World):Prop:=∃r,e=.returned (.tuple #[.agg (ay r d),.int .i64 no])∧Below w.heap.size w w'∧bg w' (fresh w.heap.size w') (fun x=>iT x r d)
end Go.WW
namespace Go.Proofs.YtibhckkjciflaaaGreatDoor
open Go.RowKit Go.WW
theorem afg(w:World):(tX 32 #[]).run Tryz.prog w=.ok (.value (.agg (ay bz aX))) w:=by kernel_rfl
attribute [go_sem] afg
theorem yL{v a b:Int}(h:ag v a b=true):a≤v∧v≤b:=Aj.1 h
def dA:aG:=⟨[],⟨#[]⟩⟩
def bI:aO:=⟨⟨#[]⟩,0,0,0,0,0,0,0,0,0⟩
def uK(p q:aO):Bool:=(p.name.toList == q.name.toList)&&((p.length == q.length)&&((p.classes == q.classes)&&((p.distinct == q.distinct)&&((p.history == q.history)&&((p.gZ == q.gZ)&&((p.dU == q.dU)&&((p.fails == q.fails)&&((p.window == q.window)&&(p.lock == q.lock)))))))))
def bJ(x y:aT):Bool:=(x.i == y.i)&&((x.t == y.t)&&((x.m == y.m)&&((x.k == y.k)&&((bH x.n y.n)&&((bn x.d y.d)&&((uK x.q y.q)&&((x.pn.toList == y.pn.toList)&&((x.f == y.f)&&((x.a == y.a)&&(x.b == y.b))))))))))
theorem afh(q:aO):uK q q=true:=by simp[uK]
theorem TI(x:aT):bJ x x=true:=by simp[bJ,J6,aeM,afh]
def dX(x:aT):aT:=
 {i:=x.i,t:=x.t,m:=x.m,k:=x.k,f:=if x.k=5 then x.f else 0,a:=if x.k=5 then x.a else 0,b:=if x.k=5 then x.b else 0
  n:=if x.k=2∨x.k=5 then x.n else dA,d:=if x.k=1 then x.d else aX,q:=if x.k=3 then x.q else bI,pn:=if x.k=4 then x.pn else⟨#[]⟩}
def gB(x:aT)(s:Sl):Sl:=if x.k=2∨x.k=5 then s else cO
def gG(x:aT)(r:aC):aC:=if x.k=1 then r else bz
theorem afi(w:World):gu w cO dA:=⟨⟨by simp[dA,lim],fun i hi=>absurd hi (Nat.not_lt_zero _)⟩,Nat.zero_le _⟩
theorem oO{w:World}{s:Sl}{r:aC}{x:aT}(h:dV w s r x):dV w (gB x s) (gG x r) (dX x):=by
 refine⟨?_,?_,?_,?_⟩
 ·show gu w (if x.k=2∨x.k=5 then s else cO) (if x.k=2∨x.k=5 then x.n else dA)
  split
  ·exact h.1
  ·exact afi w
 ·show iT w (if x.k=1 then r else bz) (if x.k=1 then x.d else aX)
  split
  ·exact h.2.1
  ·exact aff w
 ·show(if x.k=3 then x.q else bI).name.size≤lim
  split
  ·exact h.2.2.1
  ·exact Nat.zero_le _
 ·show(if x.k=4 then x.pn else⟨#[]⟩:ByteArray).size≤lim
  split
  ·exact h.2.2.2
  ·exact Nat.zero_le _
def kindOk(x:aT):Bool:=
 if x.k=1 then fV x.d else if x.k=2 then aY x.n else if x.k=3 then eX x.q else if x.k=4 then eQ x.pn
 else if x.k=5 then aY x.n&&(ag x.f 0 65535&&(ag x.a 0 1099511627776&&ag x.b 0 1099511627776))else false
def bD(x:aT):Bool:=ag x.i 1 1099511627776&&(ag x.t 1 2147483648&&ag x.m 0 1099511627776)
def cZ(x:aT):Bool:=bD x&&(bJ x (dX x)&&kindOk x)
theorem TJ{x:aT}(h:cZ x=true):wM x:=by
 simp only[cZ,bD,Bool.and_eq_true]at h
 obtain⟨⟨h1,h2,h3⟩,-,h5⟩:=h
 have hk:1≤x.k∧x.k≤5:=by
  unfold kindOk at h5
  by_cases e1:x.k=1
  ·omega
  by_cases e2:x.k=2
  ·omega
  by_cases e3:x.k=3
  ·omega
  by_cases e4:x.k=4
  ·omega
  by_cases e5:x.k=5
  ·omega
  rw[if_neg e1,if_neg e2,if_neg e3,if_neg e4,if_neg e5]at h5
  cases h5
 refine⟨yL h1,yL h2,yL h3,hk,fun e=>?_,fun e=>?_,fun e=>?_,fun e=>?_,fun e=>?_⟩
 iterate 3
  ·unfold kindOk at h5;simpa[e]using h5
 ·unfold kindOk at h5
  have h6:eQ x.pn=true:=by simpa[e]using h5
  simp only[eQ,sized,Bool.and_eq_true,decide_eq_true_eq]at h6
  omega
 ·unfold kindOk at h5
  have h6:aY x.n=true∧ag x.f 0 65535=true∧ag x.a 0 1099511627776=true∧ag x.b 0 1099511627776=true:=by simpa[e]using h5
  exact⟨h6.1,yL h6.2.1,yL h6.2.2.1,yL h6.2.2.2⟩
theorem TK{x:aT}(s:Sl)(r:aC)(h:x.k=1):aH (dX x) (gB x s) (gG x r)=aj x.i x.t x.m x.k cO dA r x.d bI ⟨#[]⟩ 0 0 0:=by simp[aH,dX,gB,gG,h]
theorem TL{x:aT}(s:Sl)(r:aC)(h:x.k=2):aH (dX x) (gB x s) (gG x r)=aj x.i x.t x.m x.k s x.n bz aX bI ⟨#[]⟩ 0 0 0:=by simp[aH,dX,gB,gG,h]
theorem TM{x:aT}(s:Sl)(r:aC)(h:x.k=3):aH (dX x) (gB x s) (gG x r)=aj x.i x.t x.m x.k cO dA bz aX x.q ⟨#[]⟩ 0 0 0:=by simp[aH,dX,gB,gG,h]
theorem TN{x:aT}(s:Sl)(r:aC)(h:x.k=4):aH (dX x) (gB x s) (gG x r)=aj x.i x.t x.m x.k cO dA bz aX bI x.pn 0 0 0:=by simp[aH,dX,gB,gG,h]
theorem TP{x:aT}(s:Sl)(r:aC)(h:x.k=5):aH (dX x) (gB x s) (gG x r)=aj x.i x.t x.m x.k s x.n bz aX bI ⟨#[]⟩ x.f x.a x.b:=by simp[aH,dX,gB,gG,h]
theorem afj{x:aT}(s:Sl)(r:aC)(h1:x.k≠1)(h2:x.k≠2)(h3:x.k≠3)(h4:x.k≠4)(h5:x.k≠5):aH (dX x) (gB x s) (gG x r)=aj x.i x.t x.m x.k cO dA bz aX bI ⟨#[]⟩ 0 0 0:=by simp[aH,dX,gB,gG,h1,h2,h3,h4,h5]
theorem yM{x:aT}(h:bD x=false):cZ x=false:=by simp[cZ,h]
theorem rZ{x:aT}(h:kindOk x=false):cZ x=false:=by simp[cZ,h]
theorem BL{x:aT}(h1:bD x=true)(h2:kindOk x=true):cZ x=bJ x (dX x):=by simp[cZ,h1,h2]
theorem TQ{x:aT}(h:x.k=1):kindOk x=fV x.d:=by simp[kindOk,h]
theorem TR{x:aT}(h:x.k=2):kindOk x=aY x.n:=by simp[kindOk,h]
theorem TS{x:aT}(h:x.k=3):kindOk x=eX x.q:=by simp[kindOk,h]
theorem TT{x:aT}(h:x.k=4):kindOk x=eQ x.pn:=by simp[kindOk,h]
theorem TU{x:aT}(h:x.k=5):kindOk x=(aY x.n&&(ag x.f 0 65535&&(ag x.a 0 1099511627776&&ag x.b 0 1099511627776))):=by simp[kindOk,h]
theorem TV{x:aT}(h1:x.k≠1)(h2:x.k≠2)(h3:x.k≠3)(h4:x.k≠4)(h5:x.k≠5):kindOk x=false:=by simp[kindOk,h1,h2,h3,h4,h5]
theorem afk(i t m k:Int):aj i t m k cO dA bz aX bI ⟨#[]⟩ 0 0 0=#[.int .i64 i,.int .i64 t,.int .i64 m,.int .i64 k,.slice none 0 0,.string ⟨#[]⟩,.slice none 0 0,.string ⟨#[]⟩,.slice none 0 0,.int .u32 0,.int .i64 0,.slice none 0 0,.string ⟨#[]⟩,.int .i64 0,.int .i64 0,.int .i64 0,.int .i64 0,.int .i64 0,.int .i64 0,.int .i64 0,.slice none 0 0,.slice none 0 0,.slice none 0 0,.string ⟨#[]⟩,.int .i64 0,.int .i64 0,.int .i64 0,.int .i64 0,.int .i64 0,.int .i64 0,.int .i64 0,.int .i64 0,.int .i64 0,.string ⟨#[]⟩,.int .i64 0,.int .i64 0,.int .i64 0]:=rfl
def afl(m:Nat)(w:World)(s:Sl)(r:aC)(x:aT):Prop:=dV w s r x∧iJ m w s.a x.n.parts.length 1∧iJ m w r.aliases.a x.d.aliases.length 2
theorem afm(w:World)(b o:Nat)(cs:Array Value)(hn:cs.size=37)(h1:dG cs=true):(kH 36 (.pointer (some ⟨b,o,none⟩)) (.agg cs)).run Tryz.prog w=qQ Tryz.prog 36 w b o cs (aS w b o 37):=vP (by kernel_rfl) w b o cs hn h1
theorem afn(ρ:Operand→Value)(dst:Option Tmp)(x y:Operand)(ty:TypeId)(pos:String)(after:Array Edge)(guard:Option (Nat×Bool)):execOp ρ {dst,op:=.store 36 x y,type:=ty,pos,after,guard}=kH 36 (ρ x) (ρ y):=rfl
attribute [go_sem] afm
attribute [go_sem ↓] afn
theorem afo(ρ:Operand→Value)(dst:Option Tmp)(i0 i1 i2 i3:Nat)(x0 x1 x2 x3:Operand)(ty:TypeId)(pos:String)(after:Array Edge)(guard:Option (Nat×Bool)):execOp ρ {dst,op:=.build 36 #[(i0,x0),(i1,x1),(i2,x2),(i3,x3)],type:=ty,pos,after,guard}=tX 36 #[(i0,ρ x0),(i1,ρ x1),(i2,ρ x2),(i3,ρ x3)]:=by simp[execOp,tX]
theorem afp(w:World)(a b c d:Int):(tX 36 #[(0,.int .i64 a),(1,.int .i64 b),(2,.int .i64 c),(3,.int .i64 d)]).run Tryz.prog w=.ok (.value (.agg (aj a b c d cO dA bz aX bI ⟨#[]⟩ 0 0 0))) w:=by kernel_rfl
attribute [go_sem] afp
attribute [go_sem ↓] afo
theorem su{α:Type}[BEq α][LawfulBEq α](x y:α)[Decidable (x=y)]{b:Bool}{w:World}{R:Result Bool}(h:R=.ok b w):(if x=y then R else .ok false w)=.ok ((x == y)&&b) w:=by
 subst h
 by_cases e:x=y
 ·simp[e]
 ·rw[if_neg e,beq_eq_false_iff_ne.2 e];rfl
theorem afq{α:Type}[BEq α][LawfulBEq α](x y:α)[Decidable (x=y)]{w:World}:(if x=y then Result.ok true w else Result.ok false w)=.ok (x == y) w:=by
 by_cases e:x=y
 ·simp[e]
 ·rw[if_neg e,beq_eq_false_iff_ne.2 e]
theorem afr(p q:aO)(w:World):(Op.equalIn 10000 34 (.agg (bZ p)) (.agg (bZ q))).run Tryz.prog w=.ok (uK p q) w:=by
 rw[show(10000:Nat)=9999+1 from rfl,run_equalIn_agg w 9999 34 _ _ (by kernel_rfl) (by kernel_rfl)]
 simp only[Program.fieldsOf,Tryz.underlying34]
 unfold bZ uK
 go_simp
 exact su _ _ (su _ _ (su _ _ (su _ _ (su _ _ (su _ _ (su _ _ (su _ _ (su _ _ (afq _ _)))))))))
theorem afs(p q:aO)(w:World):(binOp .eql 34 (.agg (bZ p)) (.agg (bZ q))).run Tryz.prog w=.ok (.bool (uK p q)) w:=by rw[run_eql_struct,afr];rfl
attribute [go_sem ↓] afs
end Go.Proofs.YtibhckkjciflaaaGreatDoor
