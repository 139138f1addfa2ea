/- A part of the proof. -/
import Derived.Test.YtfieenjdcpjmgaaGreatDoorB10
set_option maxRecDepth 100000
set_option maxHeartbeats 4000000
namespace Go.WW
open Go.RowKit
def iV(m:Nat)(w:World)(a:Option Addr)(n k:Nat):Prop:=∀i,i<n→∃b o,a=some ⟨b,o,Option.none⟩∧m≤b∧aS w b (o+i*k) k=true
theorem iV.zero{m:Nat}{w:World}{a:Option Addr}{k:Nat}:iV m w a 0 k:=fun _ h=>absurd h (Nat.not_lt_zero _)
theorem iV.le{m m':Nat}{w:World}{a:Option Addr}{n k:Nat}(h:iV m w a n k)(hm:m'≤m):iV m' w a n k:=fun i hi=>by
 obtain⟨b,o,e,h1,h2⟩:=h i hi
 exact⟨b,o,e,Nat.le_trans hm h1,h2⟩
theorem iV.eG{w:World}{base k:Nat}{e:TypeId}{s:Sl}{rows:List (Array Value)}(h:Own w base e k s rows){n:Nat}(hn:rows.length=n):iV base w s.a n k:=by
 subst hn
 intro i hi
 rcases h.own.2 with⟨_,hn⟩|⟨g,cap,cur,hv,hb,hh,hle,_,hsz,_⟩
 ·omega
 ·have ha:s.a=some ⟨g,0,none⟩:=by injection hv
  refine⟨g,0,ha,hb,lY hh ?_⟩
  rw[hsz,Nat.zero_add,←Nat.succ_mul]
  exact Nat.le_trans (Nat.mul_le_mul_right _ hi) (Nat.mul_le_mul_right _ hle)
def agY(m:Nat)(w:World)(a:Option Addr)(l:List ByteArray):Prop:=kH w a l∧iV m w a l.length 1
def wY(m:Nat)(w:World)(a:Option Addr)(l:List UInt8):Prop:=BytesAt w a l∧iV m w a l.length 1
def wZ(m:Nat)(w:World)(s:Sl)(p:az):Prop:=bn w s p∧iV m w s.a p.parts.length 1
def yD(m:Nat)(w:World)(a:Option Addr)(l:List az):Prop:=fJ w a l∧iV m w a l.length 2
def uZ(m:Nat)(w:World)(s:Sl)(k:Key):Prop:=wY m w s.a k.bytes
def tN(m:Nat)(w:World)(a:Option Addr)(l:List Key):Prop:=aX w 3 a l.length fun i cs=>∃p s,l[i]?=some p∧cs=bZ s p∧uZ m w s p
def xe(m:Nat)(w:World)(s:Sl)(k:bC):Prop:=tN m w s.a k.keys∧k.di.size≤lim
def oq(m:Nat)(w:World)(a:Option Addr)(l:List bC):Prop:=(aX w 5 a l.length fun i cs=>∃p s,l[i]?=some p∧cs=bz s p∧xe m w s p)∧iV m w a l.length 5
structure ry(m:Nat)(w:World)(r:aN)(d:Entry):Prop where
 at_:bK w r d
 name:iV m w r.parts.a d.name.parts.length 1
 aliases:iV m w r.aliases.a d.aliases.length 2
 keys:oq m w r.keys.a d.keys
theorem aX.imp{w:World}{k:Nat}{a:Option Addr}{n:Nat}{R R':Nat→Array Value→Prop}(h:aX w k a n R)(hR:∀i cs,R i cs→R' i cs):aX w k a n R':=
 ⟨h.1,fun i hi=>by obtain⟨b,o,cs,h1,h2,h3⟩:=h.2 i hi;exact⟨b,o,cs,h1,h2,hR i cs h3⟩⟩
theorem wY.le{m m':Nat}{w:World}{a:Option Addr}{l:List UInt8}(h:wY m w a l)(hm:m'≤m):wY m' w a l:=⟨h.1,h.2.le hm⟩
theorem uZ.le{m m':Nat}{w:World}{s:Sl}{k:Key}(h:uZ m w s k)(hm:m'≤m):uZ m' w s k:=⟨h.1,h.2.le hm⟩
theorem tN.le{m m':Nat}{w:World}{a:Option Addr}{l:List Key}(h:tN m w a l)(hm:m'≤m):tN m' w a l:=aX.imp h fun _ _ ⟨p,s,h1,h2,h3⟩=>⟨p,s,h1,h2,h3.le hm⟩
theorem xe.le{m m':Nat}{w:World}{s:Sl}{k:bC}(h:xe m w s k)(hm:m'≤m):xe m' w s k:=⟨h.1.le hm,h.2⟩
theorem tN.at_{m:Nat}{w:World}{a:Option Addr}{l:List Key}(h:tN m w a l):kV w a l:=aX.imp h fun _ _ ⟨p,s,h1,h2,h3⟩=>⟨p,s,h1,h2,h3.1⟩
theorem xe.at_{m:Nat}{w:World}{s:Sl}{k:bC}(h:xe m w s k):jA w s k:=⟨h.1.at_,h.2⟩
theorem oq.at_{m:Nat}{w:World}{a:Option Addr}{l:List bC}(h:oq m w a l):mO w a l:=aX.imp h.1 fun _ _ ⟨p,s,h1,h2,h3⟩=>⟨p,s,h1,h2,h3.at_⟩
def Uf(w:World)(l:List ByteArray)(e:Ending)(w':World):Prop:=
 ∃s:Sl,e=.returned (.slice s.a l.length s.cap)∧Below w.heap.size w w'∧bH w' (fresh w.heap.size w') (fun x=>agY w.heap.size x s.a l)
def Ug(w:World)(l:List UInt8)(e:Ending)(w':World):Prop:=
 ∃s:Sl,e=.returned (.slice s.a l.length s.cap)∧Below w.heap.size w w'∧bH w' (fresh w.heap.size w') (fun x=>wY w.heap.size x s.a l)
theorem agZ{w w':World}{e:TypeId}{s:Sl}{rows:List (Array Value)}{l:List ByteArray}(h:Own w' w.heap.size e 1 s rows)(hl:rows.length=l.length)(hn:l.length≤lim)(hb:Below w.heap.size w w')
  (hR:∀i (hi:i<rows.length),∃v,rows[i]=#[v]∧∃s,l[i]?=some s∧v=.string s∧s.size≤lim):Uf w l (.returned (.slice s.a l.length s.cap)) w':=
 ⟨s,rfl,hb,fun _ hx=>⟨dY.eG (h.fresh hx) hl hn hR,iV.eG (h.fresh hx) hl⟩⟩
theorem ag0{w w':World}{e:TypeId}{s:Sl}{rows:List (Array Value)}{l:List UInt8}(h:Own w' w.heap.size e 1 s rows)(hl:rows.length=l.length)(hn:l.length≤lim)(hb:Below w.heap.size w w')
  (hR:∀i (hi:i<rows.length),∃v,rows[i]=#[v]∧∃c,l[i]?=some c∧v=.int .u8 c.toNat):Ug w l (.returned (.slice s.a l.length s.cap)) w':=
 ⟨s,rfl,hb,fun _ hx=>⟨dY.eG (h.fresh hx) hl hn hR,iV.eG (h.fresh hx) hl⟩⟩
def ag1(w:World)(p:az)(e:Ending)(w':World):Prop:=
 ∃s:Sl,e=.returned (.agg (ah s p))∧Below w.heap.size w w'∧bH w' (fresh w.heap.size w') (fun x=>wZ w.heap.size x s p)
def ag2(w:World)(k:Key)(e:Ending)(w':World):Prop:=
 ∃s:Sl,e=.returned (.agg (bZ s k))∧Below w.heap.size w w'∧bH w' (fresh w.heap.size w') (fun x=>uZ w.heap.size x s k)
end Go.WW
namespace Go.Proofs.YtfieenjdcpjmgaaGreatDoor
open Go.RowKit Go.WW
theorem ag3(a:Option Addr)(cap:Nat)(l:List ByteArray)(w:World)(hl:kH w a l):Calls Tryz.prog 133 #[.slice a l.length cap] w (Uf w l):=by
 have hn:l.length≤4294967000:=hl.1
 cases a with
 |none=>
  obtain rfl:l=[]:=List.eq_nil_of_length_eq_zero (dY.none hl)
  go_enter Tryz.func133,Tryz.ntmps133
  go_wp2_with fail
  go_ret
  exact⟨⟨none,0⟩,rfl,Below.refl _ _,fun x _=>⟨⟨by simp[lim],fun i hi=>by simp at hi⟩,iV.zero⟩⟩
 |some ad=>
  obtain⟨rows,hlr,oV,hrR⟩:=dY.src hl TZ
  have hown:=Own.empty w 9 1
  have HS:=oV.later ((Below.refl _ w).alloc (Nat.le_refl _) (.cells #[] 9))
  have nI:=Lib.hid hlr
  have HRR:=Lib.hid hrR
  have hln:l.length≤lim:=hl.1
  have Dh:=Lib.hid hln
  clear hlr hrR hl oV hln
  go_enter Tryz.func133,Tryz.ntmps133
  go_wp2_with (at_builtin;refine gI rfl (.tmp 5) (.tmp 6) _ rfl Ub (n:=0) (s:=⟨some ⟨w.heap.size,0,none⟩,0⟩) rfl rfl hown rfl nI.out.symm HS (by rw[nI.out];simp;omega) (by simp) ?_;intro s3 w3 hown3 hg3 gJ)
  go_ret
  have hb3:Below w.heap.size w w3:=((Below.refl _ w).alloc (Nat.le_refl _) _).grown hg3 (by simp) (fun k e=>by cases e;exact Nat.le_refl _)
  have:=agZ (l:=l) hown3 (by simpa using nI.out) Dh.out hb3 (fun i hi=>by simpa using HRR.out i (by simpa using hi))
  simpa using this
theorem ag4(a:Option Addr)(cap:Nat)(l:List UInt8)(w:World)(hl:BytesAt w a l):Calls Tryz.prog 227 #[.slice a l.length cap] w (Ug w l):=by
 have hn:l.length≤4294967000:=hl.1
 cases a with
 |none=>
  obtain rfl:l=[]:=List.eq_nil_of_length_eq_zero (dY.none hl)
  go_enter Tryz.func227,Tryz.ntmps227
  go_wp2_with fail
  go_ret
  exact⟨⟨none,0⟩,rfl,Below.refl _ _,fun x _=>⟨⟨by simp[lim],fun i hi=>by simp at hi⟩,iV.zero⟩⟩
 |some ad=>
  obtain⟨rows,hlr,oV,hrR⟩:=dY.src hl Gw
  have hown:=Own.empty w 5 1
  have HS:=oV.later ((Below.refl _ w).alloc (Nat.le_refl _) (.cells #[] 5))
  have nI:=Lib.hid hlr
  have HRR:=Lib.hid hrR
  have hln:l.length≤lim:=hl.1
  have Dh:=Lib.hid hln
  clear hlr hrR hl oV hln
  go_enter Tryz.func227,Tryz.ntmps227
  go_wp2_with (at_builtin;refine gI rfl (.tmp 5) (.tmp 6) _ rfl eF (n:=0) (s:=⟨some ⟨w.heap.size,0,none⟩,0⟩) rfl rfl hown rfl nI.out.symm HS (by rw[nI.out];simp;omega) (by simp) ?_;intro s3 w3 hown3 hg3 gJ)
  go_ret
  have hb3:Below w.heap.size w w3:=((Below.refl _ w).alloc (Nat.le_refl _) _).grown hg3 (by simp) (fun k e=>by cases e;exact Nat.le_refl _)
  have:=ag0 (l:=l) hown3 (by simpa using nI.out) Dh.out hb3 (fun i hi=>by simpa using HRR.out i (by simpa using hi))
  simpa using this
theorem KQ(s:Sl)(p:az)(w:World)(hp:bn w s p):Calls Tryz.prog 69 #[.agg (ah s p)] w (ag1 w p):=by
 obtain⟨Z,hZ⟩:∃Z:Array Value,Z=#[.slice none 0 0,.string ⟨#[]⟩]:=⟨_,rfl⟩
 have hB:Below w.heap.size w ((w.alloc (.cells (ah s p) 40)).alloc (.cells Z 40)):=((Below.refl _ w).alloc (Nat.le_refl _) _).alloc (by simp) _
 have hq:kH ((w.alloc (.cells (ah s p) 40)).alloc (.cells Z 40)) s.a p.parts:=hp.1.later hB
 have hrl:=hp.2
 subst hZ
 go_enter Tryz.func69,Tryz.ntmps69
 go_wp2_with fail
 refine(ag3 _ _ _ _ hq).mono ?_
 rintro e w2 ⟨s',rfl,hb2,hd2⟩
 have hblk:=dI (o:=0) (.slice s'.a p.parts.length s'.cap) ((hb2.block w.heap.size (by simp;omega)).trans (jq w _ _))
 have hrow:row? (w2.setCell ⟨w.heap.size,0,none⟩ (.slice s'.a p.parts.length s'.cap)) w.heap.size 0 2=some (ah s' p):=by rw[bQ hblk];rfl
 obtain⟨hcc,aT,hrr⟩:=bg hb2
 have hpp:=gG hb2
 have hsz:w.heap.size+1<w2.heap.size:=by have:=hb2.size;simp at this;omega
 have hsz0:w.heap.size<w2.heap.size:=by omega
 have hne:w.heap.size+1≠w.heap.size:=by omega
 clear hblk
 go_wp2_with fail
 refine bodyPost_ret (v:=.agg (ah s' p)) (by simp[results,Tryz.results69,go_sem, *];rfl) rfl ⟨s',rfl,?_,?_⟩
 ·exact Go.WW.Below.putRow ((hB.trans (hb2.mono hB.size)).setCell (by simp) _) (by omega)
 ·have hls:=hB.size
  refine bH.to (fun x hx=>⟨⟨(hd2 x hx).1,hrl⟩,(hd2 x hx).2.le hls⟩) (fun j hj=>?_) (fun j hj=>?_)
  ·have h1:=hj.1
   simp at h1
   rw[iI (by omega),Below.heap_setCell _ _ _ _ (by simp;omega)]
  ·have h1:=hj.1
   have h2:=hj.2
   simp at h1
   exact⟨by omega,by rw[kN];simpa[World.setCell]using h2⟩
theorem ag5(s:Sl)(p:Key)(w:World)(hp:kJ w s p):Calls Tryz.prog 208 #[.agg (bZ s p)] w (ag2 w p):=by
 obtain⟨Z,hZ⟩:∃Z:Array Value,Z=#[.int .i64 0,.int .i64 0,.slice none 0 0]:=⟨_,rfl⟩
 have hB:Below w.heap.size w ((w.alloc (.cells (bZ s p) 69)).alloc (.cells Z 69)):=((Below.refl _ w).alloc (Nat.le_refl _) _).alloc (by simp) _
 have hq:BytesAt ((w.alloc (.cells (bZ s p) 69)).alloc (.cells Z 69)) s.a p.bytes:=BytesAt.later hB hp
 subst hZ
 go_enter Tryz.func208,Tryz.ntmps208
 go_wp2_with fail
 refine(ag4 _ _ _ _ hq).mono ?_
 rintro e w2 ⟨s',rfl,hb2,hd2⟩
 have hblk:=dI (o:=2) (.slice s'.a p.bytes.length s'.cap) ((hb2.block w.heap.size (by simp;omega)).trans (jq w _ _))
 have hrow:row? (w2.setCell ⟨w.heap.size,2,none⟩ (.slice s'.a p.bytes.length s'.cap)) w.heap.size 0 3=some (bZ s' p):=by rw[bQ hblk];rfl
 obtain⟨hcc,aT,hrr⟩:=bg hb2
 have hpp:=gG hb2
 have hsz:w.heap.size+1<w2.heap.size:=by have:=hb2.size;simp at this;omega
 have hsz0:w.heap.size<w2.heap.size:=by omega
 have hne:w.heap.size+1≠w.heap.size:=by omega
 clear hblk
 go_wp2_with fail
 refine bodyPost_ret (v:=.agg (bZ s' p)) (by simp[results,Tryz.results208,go_sem, *];rfl) rfl ⟨s',rfl,?_,?_⟩
 ·exact Go.WW.Below.putRow ((hB.trans (hb2.mono hB.size)).setCell (by simp) _) (by omega)
 ·have hls:=hB.size
  refine bH.to (Φ:=fun x=>uZ w.heap.size x s' p) (fun x hx=>(hd2 x hx).le hls) (fun j hj=>?_) (fun j hj=>?_)
  ·have h1:=hj.1
   simp at h1
   rw[iI (by omega),Below.heap_setCell _ _ _ _ (by simp;omega)]
  ·have h1:=hj.1
   have h2:=hj.2
   simp at h1
   exact⟨by omega,by rw[kN];simpa[World.setCell]using h2⟩
end Go.Proofs.YtfieenjdcpjmgaaGreatDoor
namespace Go.WW
open Go.RowKit
theorem uZ.lt{m:Nat}{w:World}{s:Sl}{k:Key}(h:uZ m w s k):kJ w s k:=h.1
end Go.WW
namespace Go.Proofs.YtfieenjdcpjmgaaGreatDoor
open Go.RowKit Go.WW
def Uh(_:Nat)(l:List az)(x:World)(i:Nat)(cs:Array Value):Prop:=∃p s,l[i]?=some p∧cs=ah s p∧bn x s p
theorem Ui(a:Option Addr)(cap:Nat)(l:List az)(w:World)(hl:fJ w a l) :
  Calls Tryz.prog 125 #[.slice a l.length cap,.func (.func 69) #[] #[]] w (Di (fun x s=>yD w.heap.size x s.a l) l.length w):=by
 have hn:l.length≤4294967000:=hl.1
 rcases aX.addr hl with h0|⟨b,o,rfl,hb⟩
 ·obtain rfl:l=[]:=List.eq_nil_of_length_eq_zero h0
  go_enter Tryz.func125,Tryz.ntmps125
  go_wp2_with fail
  refine wp_loop_rounds 1 ?_
  rw[rounds_succ]
  go_wp2_with fail
  go_ret
  exact⟨⟨none,0⟩,rfl,Below.refl _ _,fun x _=>⟨⟨by simp[lim],fun i hi=>by simp at hi⟩,iV.zero⟩⟩
 go_enter Tryz.func125,Tryz.ntmps125
 go_wp2_with fail
 go_loopw [5,10] (fun ov i wr=>∃(k:Nat) (so:Sl) (rows:List (Array Value)),k≤l.length∧i=.int .i64 k∧ov=.slice so.a k so.cap∧Hid (rows.length=k)∧Below w.heap.size w wr∧jW 40 2 (Uh w.heap.size l) wr w.heap.size so rows) (fun _ i _=>l.length-(intOf i).toNat)
 case atStart=>exact⟨0,⟨none,0⟩,[],Nat.zero_le _,rfl,rfl,rfl,Below.refl _ _,jW.nil _ _ _ _ _⟩
 case round=>
  obtain⟨k,so,rows,hk,rfl,rfl,hlr,hbr,hC⟩:=hrel
  by_cases hlt:k<l.length
  ·obtain⟨t,hc,hp⟩:=hl.at k hlt
   obtain⟨hcc,aT,hrr⟩:=bg hbr
   go_wp2_with fail
   have hb1:Below wr.heap.size wr (wr.alloc (.cells (ah t l[k]) 40)):=(Below.refl _ wr).alloc (Nat.le_refl _) _
   have hls:w.heap.size≤(wr.alloc (.cells (ah t l[k]) 40)).heap.size:=by have:=hbr.size;simp;omega
   refine(KQ _ _ _ (hp.later (ag hbr hb1))).mono ?_
   rintro e w2 ⟨s',rfl,hb2,hd2⟩
   have hr2:=ag hb1 hb2
   have hown:=hC.carry hr2 (.cells (ah s' l[k]) 40)
   clear hcc aT hrr
   go_wp2_with (at_builtin;refine gI rfl (.tmp 14) (.tmp 18) _ rfl AB (n:=k) rfl hlr.out.symm hown rfl rfl (cZ.new _ (ah s' l[k]) _ _ (by simp[go_sem]) (by simp[go_sem])) (by have:=hlr.out;rw[this];simp;omega) (by have h9:=hbr.size;have h8:=hr2.size;simp;omega) ?_;intro s3 w3 hown3 hg3 gJ)
   have yC:=hC.step hb1 hb2 (o:=.cells (ah s' l[k]) 40) (R:=Uh w.heap.size l) (fun x hx=>⟨l[k],s',by rw[hlr.out];exact List.getElem?_eq_getElem hlt,rfl,(hd2 x hx).1⟩) hown3 hg3 gJ hbr.size
   have hb3:=Dj hC hbr hb1 hb2 hg3
   have HL:=Lib.hid (show(rows++[(ah s' l[k])]).length=k+1 by have:=hlr.out;simp[this])
   clear hown hown3 hg3 gJ hC hd2 hr2 hb1 hb2 hlr
   go_wp2_with fail
   go_roundw
   case rel=>exact⟨k+1,s3,_,by omega,by go_num,rfl,HL.out,hb3,yC⟩
   case measure=>simp[intOf];omega
  ·obtain rfl:k=l.length:=by omega
   go_wp2_with fail
   go_ret
   exact⟨so,rfl,hbr,fun x hx=>⟨hC.done hlr.out hl.1 x hx,iV.eG (hC.own.fresh hx) hlr.out⟩⟩
def Uj(m:Nat)(l:List Key)(x:World)(i:Nat)(cs:Array Value):Prop:=∃p s,l[i]?=some p∧cs=bZ s p∧uZ m x s p
theorem ag6(a:Option Addr)(cap:Nat)(l:List Key)(w:World)(hl:kV w a l) :
  Calls Tryz.prog 207 #[.slice a l.length cap,.func (.func 208) #[] #[]] w (Di (fun x s=>tN w.heap.size x s.a l) l.length w):=by
 have hn:l.length≤4294967000:=hl.1
 rcases aX.addr hl with h0|⟨b,o,rfl,hb⟩
 ·obtain rfl:l=[]:=List.eq_nil_of_length_eq_zero h0
  go_enter Tryz.func207,Tryz.ntmps207
  go_wp2_with fail
  refine wp_loop_rounds 1 ?_
  rw[rounds_succ]
  go_wp2_with fail
  go_ret
  exact⟨⟨none,0⟩,rfl,Below.refl _ _,fun x _=>⟨by simp[lim],fun i hi=>by simp at hi⟩⟩
 go_enter Tryz.func207,Tryz.ntmps207
 go_wp2_with fail
 go_loopw [5,10] (fun ov i wr=>∃(k:Nat) (so:Sl) (rows:List (Array Value)),k≤l.length∧i=.int .i64 k∧ov=.slice so.a k so.cap∧Hid (rows.length=k)∧Below w.heap.size w wr∧jW 69 3 (Uj w.heap.size l) wr w.heap.size so rows) (fun _ i _=>l.length-(intOf i).toNat)
 case atStart=>exact⟨0,⟨none,0⟩,[],Nat.zero_le _,rfl,rfl,rfl,Below.refl _ _,jW.nil _ _ _ _ _⟩
 case round=>
  obtain⟨k,so,rows,hk,rfl,rfl,hlr,hbr,hC⟩:=hrel
  by_cases hlt:k<l.length
  ·obtain⟨t,hc,hp⟩:=hl.at k hlt
   obtain⟨hcc,aT,hrr⟩:=bg hbr
   go_wp2_with fail
   have hb1:Below wr.heap.size wr (wr.alloc (.cells (bZ t l[k]) 69)):=(Below.refl _ wr).alloc (Nat.le_refl _) _
   have hls:w.heap.size≤(wr.alloc (.cells (bZ t l[k]) 69)).heap.size:=by have:=hbr.size;simp;omega
   refine(ag5 _ _ _ (hp.later (ag hbr hb1))).mono ?_
   rintro e w2 ⟨s',rfl,hb2,hd2⟩
   have hr2:=ag hb1 hb2
   have hown:=hC.carry hr2 (.cells (bZ s' l[k]) 69)
   clear hcc aT hrr
   go_wp2_with (at_builtin;refine gI rfl (.tmp 14) (.tmp 18) _ rfl Uc (n:=k) rfl hlr.out.symm hown rfl rfl (cZ.new _ (bZ s' l[k]) _ _ (by simp[go_sem]) (by simp[go_sem])) (by have:=hlr.out;rw[this];simp;omega) (by have h9:=hbr.size;have h8:=hr2.size;simp;omega) ?_;intro s3 w3 hown3 hg3 gJ)
   have yC:=hC.step hb1 hb2 (o:=.cells (bZ s' l[k]) 69) (R:=Uj w.heap.size l) (fun x hx=>⟨l[k],s',by rw[hlr.out];exact List.getElem?_eq_getElem hlt,rfl,(hd2 x hx).le hls⟩) hown3 hg3 gJ hbr.size
   have hb3:=Dj hC hbr hb1 hb2 hg3
   have HL:=Lib.hid (show(rows++[(bZ s' l[k])]).length=k+1 by have:=hlr.out;simp[this])
   clear hown hown3 hg3 gJ hC hd2 hr2 hb1 hb2 hlr
   go_wp2_with fail
   go_roundw
   case rel=>exact⟨k+1,s3,_,by omega,by go_num,rfl,HL.out,hb3,yC⟩
   case measure=>simp[intOf];omega
  ·obtain rfl:k=l.length:=by omega
   go_wp2_with fail
   go_ret
   exact⟨so,rfl,hbr,hC.done hlr.out hl.1⟩
def ag7(w:World)(k:bC)(e:Ending)(w':World):Prop:=
 ∃s:Sl,e=.returned (.agg (bz s k))∧Below w.heap.size w w'∧bH w' (fresh w.heap.size w') (fun x=>xe w.heap.size x s k)
theorem ag8(s:Sl)(p:bC)(w:World)(hp:jA w s p):Calls Tryz.prog 130 #[.agg (bz s p)] w (ag7 w p):=by
 obtain⟨Z,hZ⟩:∃Z:Array Value,Z=#[.int .i64 0,.slice none 0 0,.string ⟨#[]⟩,.int .i64 0,.int .i64 0]:=⟨_,rfl⟩
 have hB:Below w.heap.size w ((w.alloc (.cells (bz s p) 67)).alloc (.cells Z 67)):=((Below.refl _ w).alloc (Nat.le_refl _) _).alloc (by simp) _
 have hq:kV ((w.alloc (.cells (bz s p) 67)).alloc (.cells Z 67)) s.a p.keys:=hp.1.later hB
 have hrl:=hp.2
 subst hZ
 go_enter Tryz.func130,Tryz.ntmps130
 go_wp2_with fail
 refine(ag6 _ _ _ _ hq).mono ?_
 rintro e w2 ⟨s',rfl,hb2,hd2⟩
 have hblk:=dI (o:=1) (.slice s'.a p.keys.length s'.cap) ((hb2.block w.heap.size (by simp;omega)).trans (jq w _ _))
 have hrow:row? (w2.setCell ⟨w.heap.size,1,none⟩ (.slice s'.a p.keys.length s'.cap)) w.heap.size 0 5=some (bz s' p):=by rw[bQ hblk];rfl
 obtain⟨hcc,aT,hrr⟩:=bg hb2
 have hpp:=gG hb2
 have hsz:w.heap.size+1<w2.heap.size:=by have:=hb2.size;simp at this;omega
 have hsz0:w.heap.size<w2.heap.size:=by omega
 have hne:w.heap.size+1≠w.heap.size:=by omega
 clear hblk
 go_wp2_with fail
 refine bodyPost_ret (v:=.agg (bz s' p)) (by simp[results,Tryz.results130,go_sem, *];rfl) rfl ⟨s',rfl,?_,?_⟩
 ·exact Go.WW.Below.putRow ((hB.trans (hb2.mono hB.size)).setCell (by simp) _) (by omega)
 ·have hls:=hB.size
  refine bH.to (fun x hx=>⟨(hd2 x hx).le hls,hrl⟩) (fun j hj=>?_) (fun j hj=>?_)
  ·have h1:=hj.1
   simp at h1
   rw[iI (by omega),Below.heap_setCell _ _ _ _ (by simp;omega)]
  ·have h1:=hj.1
   have h2:=hj.2
   simp at h1
   exact⟨by omega,by rw[kN];simpa[World.setCell]using h2⟩
def Uk(m:Nat)(l:List bC)(x:World)(i:Nat)(cs:Array Value):Prop:=∃p s,l[i]?=some p∧cs=bz s p∧xe m x s p
theorem ag9(a:Option Addr)(cap:Nat)(l:List bC)(w:World)(hl:mO w a l) :
  Calls Tryz.prog 129 #[.slice a l.length cap,.func (.func 130) #[] #[]] w (Di (fun x s=>oq w.heap.size x s.a l) l.length w):=by
 have hn:l.length≤4294967000:=hl.1
 rcases aX.addr hl with h0|⟨b,o,rfl,hb⟩
 ·obtain rfl:l=[]:=List.eq_nil_of_length_eq_zero h0
  go_enter Tryz.func129,Tryz.ntmps129
  go_wp2_with fail
  refine wp_loop_rounds 1 ?_
  rw[rounds_succ]
  go_wp2_with fail
  go_ret
  exact⟨⟨none,0⟩,rfl,Below.refl _ _,fun x _=>⟨⟨by simp[lim],fun i hi=>by simp at hi⟩,iV.zero⟩⟩
 go_enter Tryz.func129,Tryz.ntmps129
 go_wp2_with fail
 go_loopw [5,10] (fun ov i wr=>∃(k:Nat) (so:Sl) (rows:List (Array Value)),k≤l.length∧i=.int .i64 k∧ov=.slice so.a k so.cap∧Hid (rows.length=k)∧Below w.heap.size w wr∧jW 67 5 (Uk w.heap.size l) wr w.heap.size so rows) (fun _ i _=>l.length-(intOf i).toNat)
 case atStart=>exact⟨0,⟨none,0⟩,[],Nat.zero_le _,rfl,rfl,rfl,Below.refl _ _,jW.nil _ _ _ _ _⟩
 case round=>
  obtain⟨k,so,rows,hk,rfl,rfl,hlr,hbr,hC⟩:=hrel
  by_cases hlt:k<l.length
  ·obtain⟨t,hc,hp⟩:=hl.at k hlt
   obtain⟨hcc,aT,hrr⟩:=bg hbr
   go_wp2_with fail
   have hb1:Below wr.heap.size wr (wr.alloc (.cells (bz t l[k]) 67)):=(Below.refl _ wr).alloc (Nat.le_refl _) _
   have hls:w.heap.size≤(wr.alloc (.cells (bz t l[k]) 67)).heap.size:=by have:=hbr.size;simp;omega
   refine(ag8 _ _ _ (hp.later (ag hbr hb1))).mono ?_
   rintro e w2 ⟨s',rfl,hb2,hd2⟩
   have hr2:=ag hb1 hb2
   have hown:=hC.carry hr2 (.cells (bz s' l[k]) 67)
   clear hcc aT hrr
   go_wp2_with (at_builtin;refine gI rfl (.tmp 14) (.tmp 18) _ rfl Ud (n:=k) rfl hlr.out.symm hown rfl rfl (cZ.new _ (bz s' l[k]) _ _ (by simp[go_sem]) (by simp[go_sem])) (by have:=hlr.out;rw[this];simp;omega) (by have h9:=hbr.size;have h8:=hr2.size;simp;omega) ?_;intro s3 w3 hown3 hg3 gJ)
   have yC:=hC.step hb1 hb2 (o:=.cells (bz s' l[k]) 67) (R:=Uk w.heap.size l) (fun x hx=>⟨l[k],s',by rw[hlr.out];exact List.getElem?_eq_getElem hlt,rfl,(hd2 x hx).le hls⟩) hown3 hg3 gJ hbr.size
   have hb3:=Dj hC hbr hb1 hb2 hg3
   have HL:=Lib.hid (show(rows++[(bz s' l[k])]).length=k+1 by have:=hlr.out;simp[this])
   clear hown hown3 hg3 gJ hC hd2 hr2 hb1 hb2 hlr
   go_wp2_with fail
   go_roundw
   case rel=>exact⟨k+1,s3,_,by omega,by go_num,rfl,HL.out,hb3,yC⟩
   case measure=>simp[intOf];omega
  ·obtain rfl:k=l.length:=by omega
   go_wp2_with fail
   go_ret
   exact⟨so,rfl,hbr,fun x hx=>⟨hC.done hlr.out hl.1 x hx,iV.eG (hC.own.fresh hx) hlr.out⟩⟩
theorem KR(s:Sl)(p:az)(w:World)(hp:bn w s p):Calls Tryz.prog 69 #[.agg (ah s p)] w (agV w p):=
 (KQ s p w hp).mono fun _ _ ⟨s',h1,h2,h3⟩=>⟨s',h1,h2,fun x hx=>(h3 x hx).1⟩
theorem KT(a:Option Addr)(cap:Nat)(l:List az)(w:World)(hl:fJ w a l) :
  Calls Tryz.prog 125 #[.slice a l.length cap,.func (.func 69) #[] #[]] w (Di (fun x s=>fJ x s.a l) l.length w):=
 (Ui a cap l w hl).mono fun _ _ ⟨s,h1,h2,h3⟩=>⟨s,h1,h2,fun x hx=>(h3 x hx).1⟩
end Go.Proofs.YtfieenjdcpjmgaaGreatDoor
namespace Go.WW
open Go.RowKit
def aha(w:World)(d:Entry)(e:Ending)(w':World):Prop:=∃r:aN,e=.returned (.agg (ae r d))∧Below w.heap.size w w'∧bH w' (fresh w.heap.size w') (fun x=>ry w.heap.size x r d)
theorem oq.le{m m':Nat}{w:World}{a:Option Addr}{l:List bC}(h:oq m w a l)(hm:m'≤m):oq m' w a l:=⟨aX.imp h.1 fun _ _ ⟨p,s,h1,h2,h3⟩=>⟨p,s,h1,h2,h3.le hm⟩,h.2.le hm⟩
end Go.WW
namespace Go.Proofs.YtfieenjdcpjmgaaGreatDoor
open Go.RowKit Go.WW
theorem Ul(r:aN)(d:Entry)(w:World)(he:bK w r d):Calls Tryz.prog 67 #[.agg (ae r d)] w (aha w d):=by
 have hB0:Below w.heap.size w ((w.alloc (.cells (ae r d) 47)).alloc (.cells #[.slice none 0 0,.string ⟨#[]⟩,.slice none 0 0,.int .u32 0,.int .i64 0,.slice none 0 0,.string ⟨#[]⟩,.int .i64 0,.int .i64 0,.int .i64 0,.int .i64 0,.int .i64 0,.int .i64 0,.int .i64 0,.slice none 0 0,.slice none 0 0,.slice none 0 0] 47)):=((Below.refl _ w).alloc (Nat.le_refl _) _).alloc (by simp) _
 have hx0:((w.alloc (.cells (ae r d) 47)).alloc (.cells #[.slice none 0 0,.string ⟨#[]⟩,.slice none 0 0,.int .u32 0,.int .i64 0,.slice none 0 0,.string ⟨#[]⟩,.int .i64 0,.int .i64 0,.int .i64 0,.int .i64 0,.int .i64 0,.int .i64 0,.int .i64 0,.slice none 0 0,.slice none 0 0,.slice none 0 0] 47)).heap[w.heap.size]?=some (.cells (ae r d) 47):=jq w _ _
 have hz0:aS ((w.alloc (.cells (ae r d) 47)).alloc (.cells #[.slice none 0 0,.string ⟨#[]⟩,.slice none 0 0,.int .u32 0,.int .i64 0,.slice none 0 0,.string ⟨#[]⟩,.int .i64 0,.int .i64 0,.int .i64 0,.int .i64 0,.int .i64 0,.int .i64 0,.int .i64 0,.slice none 0 0,.slice none 0 0,.slice none 0 0] 47)) (w.heap.size+1) 0 17=true:=by simp[go_sem]
 have hs0:w.heap.size+1<((w.alloc (.cells (ae r d) 47)).alloc (.cells #[.slice none 0 0,.string ⟨#[]⟩,.slice none 0 0,.int .u32 0,.int .i64 0,.slice none 0 0,.string ⟨#[]⟩,.int .i64 0,.int .i64 0,.int .i64 0,.int .i64 0,.int .i64 0,.int .i64 0,.int .i64 0,.slice none 0 0,.slice none 0 0,.slice none 0 0] 47)).heap.size:=by simp
 have hne:w.heap.size+1≠w.heap.size:=by omega
 go_enter Tryz.func67,Tryz.ntmps67
 go_wp2_with fail
 generalize (w.alloc (.cells (ae r d) 47)).alloc (.cells #[.slice none 0 0,.string ⟨#[]⟩,.slice none 0 0,.int .u32 0,.int .i64 0,.slice none 0 0,.string ⟨#[]⟩,.int .i64 0,.int .i64 0,.int .i64 0,.int .i64 0,.int .i64 0,.int .i64 0,.int .i64 0,.slice none 0 0,.slice none 0 0,.slice none 0 0] 47)=W0 at *
 refine(KQ _ _ _ (he.name.later hB0)).mono ?_
 rintro e V0 ⟨s0,rfl,hb0,hd0⟩
 have hy0:=(hb0.block w.heap.size (by omega)).trans hx0
 obtain⟨hc,hf,hr,hlt⟩:=aB hy0
 have hx1:(putRow V0 w.heap.size 0 (ah s0 d.name)).heap[w.heap.size]?=some (.cells (ae {r with parts:=s0} d) 47):=(kM hy0 (by simp[go_sem])).trans (by rfl)
 have hcp:aS V0 w.heap.size 0 2=true:=lY hy0 (by simp[go_sem])
 have hB1:Below w.heap.size w (putRow V0 w.heap.size 0 (ah s0 d.name)):=Go.WW.Below.putRow (ag hB0 hb0) (Nat.le_refl _)
 have hz1:aS (putRow V0 w.heap.size 0 (ah s0 d.name)) (w.heap.size+1) 0 17=true:=by rw[SS hne,gG hb0 _ _ _ (by omega)];exact hz0
 have hs1:w.heap.size+1<(putRow V0 w.heap.size 0 (ah s0 d.name)).heap.size:=by have:=hb0.size;rw[kN];omega
 have Um:bH (putRow V0 w.heap.size 0 (ah s0 d.name)) (fun k=>w.heap.size+1<k∧k<(putRow V0 w.heap.size 0 (ah s0 d.name)).heap.size) (fun x=>wZ w.heap.size x s0 d.name):=(show bH V0 (fresh W0.heap.size V0) (fun x=>wZ w.heap.size x s0 d.name) from fun x hx=>⟨(hd0 x hx).1,(hd0 x hx).2.le hB0.size⟩).to (fun k hk=>by have h1:=hk.1;first|exact iI (by omega)|exact Below.heap_setCell _ _ _ _ (by simp;omega)) (fun k hk=>⟨by have h1:=hk.1;omega,by have h2:=hk.2;first|(rw[kN];exact h2)|(simp only[World.setCell,Array.size_modify];exact h2)⟩)
 clear hx0 hz0 hs0 hy0 hb0 hd0 hB0
 obtain⟨hc2,hf2,hr2,hlt2⟩:=aB hx1
 have HX:=Lib.hid hx1
 clear hx1
 go_wp2_with fail
 have hx1:=HX.out
 clear HX hc hf hr hlt hc2 hf2 hr2 hlt2 hcp
 generalize putRow V0 w.heap.size 0 (ah s0 d.name)=W1 at *
 refine(Ui _ _ _ _ (he.aliases.later hB1)).mono ?_
 rintro e V1 ⟨s1,rfl,hb1,hd1⟩
 have hy1:=(hb1.block w.heap.size (by omega)).trans hx1
 obtain⟨hc,hf,hr,hlt⟩:=aB hy1
 have hx2:(V1.setCell ⟨w.heap.size,2,none⟩ (.slice s1.a d.aliases.length s1.cap)).heap[w.heap.size]?=some (.cells (ae {r with parts:=s0,aliases:=s1} d) 47):=(dI _ hy1).trans (by rfl)
 have hB2:Below w.heap.size w (V1.setCell ⟨w.heap.size,2,none⟩ (.slice s1.a d.aliases.length s1.cap)):=(ag hB1 hb1).setCell (Nat.le_refl _) _
 have hz2:aS (V1.setCell ⟨w.heap.size,2,none⟩ (.slice s1.a d.aliases.length s1.cap)) (w.heap.size+1) 0 17=true:=by rw[lZ hne,gG hb1 _ _ _ (by omega)];exact hz1
 have hs2:w.heap.size+1<(V1.setCell ⟨w.heap.size,2,none⟩ (.slice s1.a d.aliases.length s1.cap)).heap.size:=by have:=hb1.size;simp only[World.setCell,Array.size_modify];omega
 have Un:bH (V1.setCell ⟨w.heap.size,2,none⟩ (.slice s1.a d.aliases.length s1.cap)) (fun k=>w.heap.size+1<k∧k<(V1.setCell ⟨w.heap.size,2,none⟩ (.slice s1.a d.aliases.length s1.cap)).heap.size) (fun x=>wZ w.heap.size x s0 d.name):=Um.to (fun k hk=>by have h1:=hk.1;have h2:=hk.2;rw[Below.heap_setCell _ _ _ _ (by simp;omega)];exact hb1.block k h2) (fun k hk=>⟨hk.1,by have h2:=hk.2;have h3:=hb1.size;simp only[World.setCell,Array.size_modify];omega⟩)
 have Uo:bH (V1.setCell ⟨w.heap.size,2,none⟩ (.slice s1.a d.aliases.length s1.cap)) (fun k=>w.heap.size+1<k∧k<(V1.setCell ⟨w.heap.size,2,none⟩ (.slice s1.a d.aliases.length s1.cap)).heap.size) (fun x=>yD w.heap.size x s1.a d.aliases):=(show bH V1 (fresh W1.heap.size V1) (fun x=>yD w.heap.size x s1.a d.aliases) from fun x hx=>⟨(hd1 x hx).1,(hd1 x hx).2.le hB1.size⟩).to (fun k hk=>by have h1:=hk.1;first|exact iI (by omega)|exact Below.heap_setCell _ _ _ _ (by simp;omega)) (fun k hk=>⟨by have h1:=hk.1;omega,by have h2:=hk.2;first|(rw[kN];exact h2)|(simp only[World.setCell,Array.size_modify];exact h2)⟩)
 clear hx1 hz1 hs1 hy1 hb1 hd1 hB1 Um
 obtain⟨hc2,hf2,hr2,hlt2⟩:=aB hx2
 have HX:=Lib.hid hx2
 clear hx2
 go_wp2_with fail
 have hx2:=HX.out
 clear HX hc hf hr hlt hc2 hf2 hr2 hlt2
 generalize V1.setCell ⟨w.heap.size,2,none⟩ (.slice s1.a d.aliases.length s1.cap)=W2 at *
 refine(ag9 _ _ _ _ (he.keys.later hB2)).mono ?_
 rintro e V2 ⟨s2,rfl,hb2,hd2⟩
 have hy2:=(hb2.block w.heap.size (by omega)).trans hx2
 obtain⟨hc,hf,hr,hlt⟩:=aB hy2
 have hx3:(V2.setCell ⟨w.heap.size,5,none⟩ (.slice s2.a d.keys.length s2.cap)).heap[w.heap.size]?=some (.cells (ae {r with parts:=s0,aliases:=s1,keys:=s2} d) 47):=(dI _ hy2).trans (by rfl)
 have hB3:Below w.heap.size w (V2.setCell ⟨w.heap.size,5,none⟩ (.slice s2.a d.keys.length s2.cap)):=(ag hB2 hb2).setCell (Nat.le_refl _) _
 have hz3:aS (V2.setCell ⟨w.heap.size,5,none⟩ (.slice s2.a d.keys.length s2.cap)) (w.heap.size+1) 0 17=true:=by rw[lZ hne,gG hb2 _ _ _ (by omega)];exact hz2
 have hs3:w.heap.size+1<(V2.setCell ⟨w.heap.size,5,none⟩ (.slice s2.a d.keys.length s2.cap)).heap.size:=by have:=hb2.size;simp only[World.setCell,Array.size_modify];omega
 have Ur:bH (V2.setCell ⟨w.heap.size,5,none⟩ (.slice s2.a d.keys.length s2.cap)) (fun k=>w.heap.size+1<k∧k<(V2.setCell ⟨w.heap.size,5,none⟩ (.slice s2.a d.keys.length s2.cap)).heap.size) (fun x=>wZ w.heap.size x s0 d.name):=Un.to (fun k hk=>by have h1:=hk.1;have h2:=hk.2;rw[Below.heap_setCell _ _ _ _ (by simp;omega)];exact hb2.block k h2) (fun k hk=>⟨hk.1,by have h2:=hk.2;have h3:=hb2.size;simp only[World.setCell,Array.size_modify];omega⟩)
 have Us:bH (V2.setCell ⟨w.heap.size,5,none⟩ (.slice s2.a d.keys.length s2.cap)) (fun k=>w.heap.size+1<k∧k<(V2.setCell ⟨w.heap.size,5,none⟩ (.slice s2.a d.keys.length s2.cap)).heap.size) (fun x=>yD w.heap.size x s1.a d.aliases):=Uo.to (fun k hk=>by have h1:=hk.1;have h2:=hk.2;rw[Below.heap_setCell _ _ _ _ (by simp;omega)];exact hb2.block k h2) (fun k hk=>⟨hk.1,by have h2:=hk.2;have h3:=hb2.size;simp only[World.setCell,Array.size_modify];omega⟩)
 have Ut:bH (V2.setCell ⟨w.heap.size,5,none⟩ (.slice s2.a d.keys.length s2.cap)) (fun k=>w.heap.size+1<k∧k<(V2.setCell ⟨w.heap.size,5,none⟩ (.slice s2.a d.keys.length s2.cap)).heap.size) (fun x=>oq w.heap.size x s2.a d.keys):=(show bH V2 (fresh W2.heap.size V2) (fun x=>oq w.heap.size x s2.a d.keys) from fun x hx=>(hd2 x hx).le hB2.size).to (fun k hk=>by have h1:=hk.1;first|exact iI (by omega)|exact Below.heap_setCell _ _ _ _ (by simp;omega)) (fun k hk=>⟨by have h1:=hk.1;omega,by have h2:=hk.2;first|(rw[kN];exact h2)|(simp only[World.setCell,Array.size_modify];exact h2)⟩)
 clear hx2 hz2 hs2 hy2 hb2 hd2 hB2 Un Uo
 obtain⟨hc2,hf2,hr2,hlt2⟩:=aB hx3
 have HX:=Lib.hid hx3
 clear hx3
 go_wp2_with fail
 have hx3:=HX.out
 clear HX hc hf hr hlt hc2 hf2 hr2 hlt2
 generalize V2.setCell ⟨w.heap.size,5,none⟩ (.slice s2.a d.keys.length s2.cap)=W3 at *
 refine(KT _ _ _ _ (he.targets.later hB3)).mono ?_
 rintro e V3 ⟨s3,rfl,hb3,hd3⟩
 have hy3:=(hb3.block w.heap.size (by omega)).trans hx3
 obtain⟨hc,hf,hr,hlt⟩:=aB hy3
 have hx4:(V3.setCell ⟨w.heap.size,14,none⟩ (.slice s3.a d.targets.length s3.cap)).heap[w.heap.size]?=some (.cells (ae {r with parts:=s0,aliases:=s1,keys:=s2,targets:=s3} d) 47):=(dI _ hy3).trans (by rfl)
 have hB4:Below w.heap.size w (V3.setCell ⟨w.heap.size,14,none⟩ (.slice s3.a d.targets.length s3.cap)):=(ag hB3 hb3).setCell (Nat.le_refl _) _
 have Dk:aS (V3.setCell ⟨w.heap.size,14,none⟩ (.slice s3.a d.targets.length s3.cap)) (w.heap.size+1) 0 17=true:=by rw[lZ hne,gG hb3 _ _ _ (by omega)];exact hz3
 have hs4:w.heap.size+1<(V3.setCell ⟨w.heap.size,14,none⟩ (.slice s3.a d.targets.length s3.cap)).heap.size:=by have:=hb3.size;simp only[World.setCell,Array.size_modify];omega
 have Uu:bH (V3.setCell ⟨w.heap.size,14,none⟩ (.slice s3.a d.targets.length s3.cap)) (fun k=>w.heap.size+1<k∧k<(V3.setCell ⟨w.heap.size,14,none⟩ (.slice s3.a d.targets.length s3.cap)).heap.size) (fun x=>wZ w.heap.size x s0 d.name):=Ur.to (fun k hk=>by have h1:=hk.1;have h2:=hk.2;rw[Below.heap_setCell _ _ _ _ (by simp;omega)];exact hb3.block k h2) (fun k hk=>⟨hk.1,by have h2:=hk.2;have h3:=hb3.size;simp only[World.setCell,Array.size_modify];omega⟩)
 have Uw:bH (V3.setCell ⟨w.heap.size,14,none⟩ (.slice s3.a d.targets.length s3.cap)) (fun k=>w.heap.size+1<k∧k<(V3.setCell ⟨w.heap.size,14,none⟩ (.slice s3.a d.targets.length s3.cap)).heap.size) (fun x=>yD w.heap.size x s1.a d.aliases):=Us.to (fun k hk=>by have h1:=hk.1;have h2:=hk.2;rw[Below.heap_setCell _ _ _ _ (by simp;omega)];exact hb3.block k h2) (fun k hk=>⟨hk.1,by have h2:=hk.2;have h3:=hb3.size;simp only[World.setCell,Array.size_modify];omega⟩)
 have Ux:bH (V3.setCell ⟨w.heap.size,14,none⟩ (.slice s3.a d.targets.length s3.cap)) (fun k=>w.heap.size+1<k∧k<(V3.setCell ⟨w.heap.size,14,none⟩ (.slice s3.a d.targets.length s3.cap)).heap.size) (fun x=>oq w.heap.size x s2.a d.keys):=Ut.to (fun k hk=>by have h1:=hk.1;have h2:=hk.2;rw[Below.heap_setCell _ _ _ _ (by simp;omega)];exact hb3.block k h2) (fun k hk=>⟨hk.1,by have h2:=hk.2;have h3:=hb3.size;simp only[World.setCell,Array.size_modify];omega⟩)
 have Uy:bH (V3.setCell ⟨w.heap.size,14,none⟩ (.slice s3.a d.targets.length s3.cap)) (fun k=>w.heap.size+1<k∧k<(V3.setCell ⟨w.heap.size,14,none⟩ (.slice s3.a d.targets.length s3.cap)).heap.size) (fun x=>fJ x s3.a d.targets):=hd3.to (fun k hk=>by have h1:=hk.1;first|exact iI (by omega)|exact Below.heap_setCell _ _ _ _ (by simp;omega)) (fun k hk=>⟨by have h1:=hk.1;omega,by have h2:=hk.2;first|(rw[kN];exact h2)|(simp only[World.setCell,Array.size_modify];exact h2)⟩)
 clear hx3 hz3 hs3 hy3 hb3 hd3 hB3 Ur Us Ut
 obtain⟨hc2,hf2,hr2,hlt2⟩:=aB hx4
 have HX:=Lib.hid hx4
 clear hx4
 go_wp2_with fail
 have hx4:=HX.out
 clear HX hc hf hr hlt hc2 hf2 hr2 hlt2
 generalize V3.setCell ⟨w.heap.size,14,none⟩ (.slice s3.a d.targets.length s3.cap)=W4 at *
 refine(KT _ _ _ _ (he.bD.later hB4)).mono ?_
 rintro e V4 ⟨s4,rfl,hb4,hd4⟩
 have hy4:=(hb4.block w.heap.size (by omega)).trans hx4
 obtain⟨hc,hf,hr,hlt⟩:=aB hy4
 have hx5:(V4.setCell ⟨w.heap.size,15,none⟩ (.slice s4.a d.bD.length s4.cap)).heap[w.heap.size]?=some (.cells (ae {r with parts:=s0,aliases:=s1,keys:=s2,targets:=s3,bD:=s4} d) 47):=(dI _ hy4).trans (by rfl)
 have KU:Below w.heap.size w (V4.setCell ⟨w.heap.size,15,none⟩ (.slice s4.a d.bD.length s4.cap)):=(ag hB4 hb4).setCell (Nat.le_refl _) _
 have Uz:aS (V4.setCell ⟨w.heap.size,15,none⟩ (.slice s4.a d.bD.length s4.cap)) (w.heap.size+1) 0 17=true:=by rw[lZ hne,gG hb4 _ _ _ (by omega)];exact Dk
 have hs5:w.heap.size+1<(V4.setCell ⟨w.heap.size,15,none⟩ (.slice s4.a d.bD.length s4.cap)).heap.size:=by have:=hb4.size;simp only[World.setCell,Array.size_modify];omega
 have UA:bH (V4.setCell ⟨w.heap.size,15,none⟩ (.slice s4.a d.bD.length s4.cap)) (fun k=>w.heap.size+1<k∧k<(V4.setCell ⟨w.heap.size,15,none⟩ (.slice s4.a d.bD.length s4.cap)).heap.size) (fun x=>wZ w.heap.size x s0 d.name):=Uu.to (fun k hk=>by have h1:=hk.1;have h2:=hk.2;rw[Below.heap_setCell _ _ _ _ (by simp;omega)];exact hb4.block k h2) (fun k hk=>⟨hk.1,by have h2:=hk.2;have h3:=hb4.size;simp only[World.setCell,Array.size_modify];omega⟩)
 have UB:bH (V4.setCell ⟨w.heap.size,15,none⟩ (.slice s4.a d.bD.length s4.cap)) (fun k=>w.heap.size+1<k∧k<(V4.setCell ⟨w.heap.size,15,none⟩ (.slice s4.a d.bD.length s4.cap)).heap.size) (fun x=>yD w.heap.size x s1.a d.aliases):=Uw.to (fun k hk=>by have h1:=hk.1;have h2:=hk.2;rw[Below.heap_setCell _ _ _ _ (by simp;omega)];exact hb4.block k h2) (fun k hk=>⟨hk.1,by have h2:=hk.2;have h3:=hb4.size;simp only[World.setCell,Array.size_modify];omega⟩)
 have UC:bH (V4.setCell ⟨w.heap.size,15,none⟩ (.slice s4.a d.bD.length s4.cap)) (fun k=>w.heap.size+1<k∧k<(V4.setCell ⟨w.heap.size,15,none⟩ (.slice s4.a d.bD.length s4.cap)).heap.size) (fun x=>oq w.heap.size x s2.a d.keys):=Ux.to (fun k hk=>by have h1:=hk.1;have h2:=hk.2;rw[Below.heap_setCell _ _ _ _ (by simp;omega)];exact hb4.block k h2) (fun k hk=>⟨hk.1,by have h2:=hk.2;have h3:=hb4.size;simp only[World.setCell,Array.size_modify];omega⟩)
 have UD:bH (V4.setCell ⟨w.heap.size,15,none⟩ (.slice s4.a d.bD.length s4.cap)) (fun k=>w.heap.size+1<k∧k<(V4.setCell ⟨w.heap.size,15,none⟩ (.slice s4.a d.bD.length s4.cap)).heap.size) (fun x=>fJ x s3.a d.targets):=Uy.to (fun k hk=>by have h1:=hk.1;have h2:=hk.2;rw[Below.heap_setCell _ _ _ _ (by simp;omega)];exact hb4.block k h2) (fun k hk=>⟨hk.1,by have h2:=hk.2;have h3:=hb4.size;simp only[World.setCell,Array.size_modify];omega⟩)
 have UE:bH (V4.setCell ⟨w.heap.size,15,none⟩ (.slice s4.a d.bD.length s4.cap)) (fun k=>w.heap.size+1<k∧k<(V4.setCell ⟨w.heap.size,15,none⟩ (.slice s4.a d.bD.length s4.cap)).heap.size) (fun x=>fJ x s4.a d.bD):=hd4.to (fun k hk=>by have h1:=hk.1;first|exact iI (by omega)|exact Below.heap_setCell _ _ _ _ (by simp;omega)) (fun k hk=>⟨by have h1:=hk.1;omega,by have h2:=hk.2;first|(rw[kN];exact h2)|(simp only[World.setCell,Array.size_modify];exact h2)⟩)
 clear hx4 Dk hs4 hy4 hb4 hd4 hB4 Uu Uw Ux Uy
 obtain⟨hc2,hf2,hr2,hlt2⟩:=aB hx5
 have HX:=Lib.hid hx5
 clear hx5
 go_wp2_with fail
 have hx5:=HX.out
 clear HX hc hf hr hlt hc2 hf2 hr2 hlt2
 generalize V4.setCell ⟨w.heap.size,15,none⟩ (.slice s4.a d.bD.length s4.cap)=W5 at *
 refine(agW _ _ _ _ (he.history.later KU)).mono ?_
 rintro e V5 ⟨s5,rfl,hb5,hd5⟩
 have Dl:=(hb5.block w.heap.size (by omega)).trans hx5
 obtain⟨hc,hf,hr,hlt⟩:=aB Dl
 have hx6:(V5.setCell ⟨w.heap.size,16,none⟩ (.slice s5.a d.history.length s5.cap)).heap[w.heap.size]?=some (.cells (ae {r with parts:=s0,aliases:=s1,keys:=s2,targets:=s3,bD:=s4,history:=s5} d) 47):=(dI _ Dl).trans (by rfl)
 have hB6:Below w.heap.size w (V5.setCell ⟨w.heap.size,16,none⟩ (.slice s5.a d.history.length s5.cap)):=(ag KU hb5).setCell (Nat.le_refl _) _
 have KW:aS (V5.setCell ⟨w.heap.size,16,none⟩ (.slice s5.a d.history.length s5.cap)) (w.heap.size+1) 0 17=true:=by rw[lZ hne,gG hb5 _ _ _ (by omega)];exact Uz
 have hs6:w.heap.size+1<(V5.setCell ⟨w.heap.size,16,none⟩ (.slice s5.a d.history.length s5.cap)).heap.size:=by have:=hb5.size;simp only[World.setCell,Array.size_modify];omega
 have ahc:bH (V5.setCell ⟨w.heap.size,16,none⟩ (.slice s5.a d.history.length s5.cap)) (fun k=>w.heap.size+1<k∧k<(V5.setCell ⟨w.heap.size,16,none⟩ (.slice s5.a d.history.length s5.cap)).heap.size) (fun x=>wZ w.heap.size x s0 d.name):=UA.to (fun k hk=>by have h1:=hk.1;have h2:=hk.2;rw[Below.heap_setCell _ _ _ _ (by simp;omega)];exact hb5.block k h2) (fun k hk=>⟨hk.1,by have h2:=hk.2;have h3:=hb5.size;simp only[World.setCell,Array.size_modify];omega⟩)
 have ahe:bH (V5.setCell ⟨w.heap.size,16,none⟩ (.slice s5.a d.history.length s5.cap)) (fun k=>w.heap.size+1<k∧k<(V5.setCell ⟨w.heap.size,16,none⟩ (.slice s5.a d.history.length s5.cap)).heap.size) (fun x=>yD w.heap.size x s1.a d.aliases):=UB.to (fun k hk=>by have h1:=hk.1;have h2:=hk.2;rw[Below.heap_setCell _ _ _ _ (by simp;omega)];exact hb5.block k h2) (fun k hk=>⟨hk.1,by have h2:=hk.2;have h3:=hb5.size;simp only[World.setCell,Array.size_modify];omega⟩)
 have ahf:bH (V5.setCell ⟨w.heap.size,16,none⟩ (.slice s5.a d.history.length s5.cap)) (fun k=>w.heap.size+1<k∧k<(V5.setCell ⟨w.heap.size,16,none⟩ (.slice s5.a d.history.length s5.cap)).heap.size) (fun x=>oq w.heap.size x s2.a d.keys):=UC.to (fun k hk=>by have h1:=hk.1;have h2:=hk.2;rw[Below.heap_setCell _ _ _ _ (by simp;omega)];exact hb5.block k h2) (fun k hk=>⟨hk.1,by have h2:=hk.2;have h3:=hb5.size;simp only[World.setCell,Array.size_modify];omega⟩)
 have ahg:bH (V5.setCell ⟨w.heap.size,16,none⟩ (.slice s5.a d.history.length s5.cap)) (fun k=>w.heap.size+1<k∧k<(V5.setCell ⟨w.heap.size,16,none⟩ (.slice s5.a d.history.length s5.cap)).heap.size) (fun x=>fJ x s3.a d.targets):=UD.to (fun k hk=>by have h1:=hk.1;have h2:=hk.2;rw[Below.heap_setCell _ _ _ _ (by simp;omega)];exact hb5.block k h2) (fun k hk=>⟨hk.1,by have h2:=hk.2;have h3:=hb5.size;simp only[World.setCell,Array.size_modify];omega⟩)
 have ahh:bH (V5.setCell ⟨w.heap.size,16,none⟩ (.slice s5.a d.history.length s5.cap)) (fun k=>w.heap.size+1<k∧k<(V5.setCell ⟨w.heap.size,16,none⟩ (.slice s5.a d.history.length s5.cap)).heap.size) (fun x=>fJ x s4.a d.bD):=UE.to (fun k hk=>by have h1:=hk.1;have h2:=hk.2;rw[Below.heap_setCell _ _ _ _ (by simp;omega)];exact hb5.block k h2) (fun k hk=>⟨hk.1,by have h2:=hk.2;have h3:=hb5.size;simp only[World.setCell,Array.size_modify];omega⟩)
 have ahi:bH (V5.setCell ⟨w.heap.size,16,none⟩ (.slice s5.a d.history.length s5.cap)) (fun k=>w.heap.size+1<k∧k<(V5.setCell ⟨w.heap.size,16,none⟩ (.slice s5.a d.history.length s5.cap)).heap.size) (fun x=>fK x s5.a d.history):=hd5.to (fun k hk=>by have h1:=hk.1;first|exact iI (by omega)|exact Below.heap_setCell _ _ _ _ (by simp;omega)) (fun k hk=>⟨by have h1:=hk.1;omega,by have h2:=hk.2;first|(rw[kN];exact h2)|(simp only[World.setCell,Array.size_modify];exact h2)⟩)
 clear hx5 Uz hs5 Dl hb5 hd5 KU UA UB UC UD UE
 obtain⟨hc2,hf2,hr2,hlt2⟩:=aB hx6
 have HX:=Lib.hid hx6
 clear hx6
 go_wp2_with fail
 have hrow:=iO (w:=V5.setCell ⟨w.heap.size,16,none⟩ (.slice s5.a d.history.length s5.cap)) (Ae {parts:=s0,aliases:=s1,keys:=s2,targets:=s3,bD:=s4,history:=s5} d) KW
 have hKK:∀k,w.heap.size+1<k∧k<(V5.setCell ⟨w.heap.size,16,none⟩ (.slice s5.a d.history.length s5.cap)).heap.size→(putRow (V5.setCell ⟨w.heap.size,16,none⟩ (.slice s5.a d.history.length s5.cap)) (w.heap.size+1) 0 (ae {parts:=s0,aliases:=s1,keys:=s2,targets:=s3,bD:=s4,history:=s5} d)).heap[k]?=(V5.setCell ⟨w.heap.size,16,none⟩ (.slice s5.a d.history.length s5.cap)).heap[k]?:=fun k hk=>iI (by omega)
 refine bodyPost_ret (KP (by rfl) Tryz.underlying47 rfl (by kernel_rfl) rfl hrow) rfl ⟨{parts:=s0,aliases:=s1,keys:=s2,targets:=s3,bD:=s4,history:=s5},rfl,Go.WW.Below.putRow hB6 (by omega),?_⟩
 intro x hx
 have hX:=fun k (hk:w.heap.size+1<k∧k<(V5.setCell ⟨w.heap.size,16,none⟩ (.slice s5.a d.history.length s5.cap)).heap.size)=>(hx k ⟨by omega,by rw[kN];exact hk.2⟩).trans (hKK k hk)
 have e0:=ahc _ hX
 have e1:=ahe _ hX
 have e2:=ahf _ hX
 exact⟨⟨e0.1,e1.1,e2.at_,ahg _ hX,ahh _ hX,ahi _ hX,he.aO,he.attrs⟩,e0.2,e1.2,e2⟩
theorem ahk(r:aN)(d:Entry)(w:World)(he:bK w r d):Calls Tryz.prog 67 #[.agg (ae r d)] w (agX w d):=
 (Ul r d w he).mono fun _ _ ⟨r',h1,h2,h3⟩=>⟨r',h1,h2,fun x hx=>(h3 x hx).at_⟩
end Go.Proofs.YtfieenjdcpjmgaaGreatDoor
namespace Go.WW
open Go.RowKit
def ahl(d:Entry)(p:ai)(s:Bool)(now:Int):Int:=if s then 0 else min (countOf d p now+1) 65535
def ahm(d:Entry)(s:Bool)(now:Int):Int:=if s then d.fD else now
def ahn(d:Entry)(s:Bool)(now:Int):Int:=if s then now else d.gQ
def apS(d:Entry)(p:ai)(s:Bool)(now:Int):Entry:={d with fails:=ahl d p s now,fD:=ahm d s now,gQ:=ahn d s now}
def jT:Sl:=⟨none,0⟩
def aW:aN:=⟨jT,jT,jT,jT,jT,jT⟩
def aQ:Entry:=⟨⟨[],⟨#[]⟩⟩,[],0,0,[],⟨#[]⟩,0,0,0,0,0,0,0,[],[],[]⟩
theorem nN:ae aW aQ=#[.slice none 0 0,.string ⟨#[]⟩,.slice none 0 0,.int .u32 0,.int .i64 0,.slice none 0 0,.string ⟨#[]⟩,.int .i64 0,.int .i64 0,.int .i64 0,.int .i64 0,.int .i64 0,.int .i64 0,.int .i64 0,.slice none 0 0,.slice none 0 0,.slice none 0 0]:=rfl
theorem Gx(w:World):bK w aW aQ:=
 ⟨⟨⟨by simp[aQ,lim],fun i hi=>by simp[aQ]at hi⟩,Nat.zero_le _⟩,⟨by simp[aQ,lim],fun i hi=>by simp[aQ]at hi⟩,⟨by simp[aQ,lim],fun i hi=>by simp[aQ]at hi⟩,⟨by simp[aQ,lim],fun i hi=>by simp[aQ]at hi⟩,⟨by simp[aQ,lim],fun i hi=>by simp[aQ]at hi⟩,⟨by simp[aQ,lim],fun i hi=>by simp[aQ]at hi⟩,Nat.zero_le _,by simp[aQ]⟩
def apT(w:World)(d:Entry)(no:Int)(e:Ending)(w':World):Prop:=∃r,e=.returned (.tuple #[.agg (ae r d),.int .i64 no])∧Below w.heap.size w w'∧bH w' (fresh w.heap.size w') (fun x=>bK x r d)
end Go.WW
namespace Go.Proofs.YtfieenjdcpjmgaaGreatDoor
open Go.RowKit Go.WW
theorem aho(ρ:Operand→Value)(dst:Option Tmp)(ty:TypeId)(pos:String)(after:Array Edge)(guard:Option (Nat×Bool)):execOp ρ {dst,op:=.build 47 #[],type:=ty,pos,after,guard}=iq 47 #[]:=by simp[execOp,iq]
theorem ahp(w:World):(iq 47 #[]).run Tryz.prog w=.ok (.value (.agg (ae aW aQ))) w:=by kernel_rfl
attribute [go_sem] ahp
attribute [go_sem ↓] aho
end Go.Proofs.YtfieenjdcpjmgaaGreatDoor
