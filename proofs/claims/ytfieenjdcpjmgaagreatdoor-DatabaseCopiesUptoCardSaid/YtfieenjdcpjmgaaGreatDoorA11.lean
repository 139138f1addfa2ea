/- A part of the proof. -/
import Derived.Test.YtfieenjdcpjmgaaGreatDoorA10
set_option maxRecDepth 100000
set_option maxHeartbeats 4000000
namespace Go.WW
open Go.RowKit
def iM(m:Nat)(w:World)(a:Option Addr)(n k:Nat):Prop:=∀i,i<n→∃b o,a=some ⟨b,o,Option.none⟩∧m≤b∧aQ w b (o+i*k) k=true
theorem iM.zero{m:Nat}{w:World}{a:Option Addr}{k:Nat}:iM m w a 0 k:=fun _ h=>absurd h (Nat.not_lt_zero _)
theorem iM.le{m m':Nat}{w:World}{a:Option Addr}{n k:Nat}(h:iM m w a n k)(hm:m'≤m):iM m' w a n k:=fun i hi=>by
 obtain⟨b,o,e,h1,h2⟩:=h i hi
 exact⟨b,o,e,Nat.le_trans hm h1,h2⟩
theorem iM.ed{w:World}{base k:Nat}{e:TypeId}{s:Sl}{rows:List (Array Value)}(h:Own w base e k s rows){n:Nat}(hn:rows.length=n):iM base w s.a n k:=by
 subst hn
 intro i hi
 rcases h.own.2 with⟨_,hn⟩|⟨g,cap,cur,hv,hb,hh,hle,_,hsz,_⟩
 ·omega
 ·have ha:s.a=some ⟨g,0,none⟩:=by injection hv
  refine⟨g,0,ha,hb,mF hh ?_⟩
  rw[hsz,Nat.zero_add,←Nat.succ_mul]
  exact Nat.le_trans (Nat.mul_le_mul_right _ hi) (Nat.mul_le_mul_right _ hle)
def agq(m:Nat)(w:World)(a:Option Addr)(l:List ByteArray):Prop:=kC w a l∧iM m w a l.length 1
def wP(m:Nat)(w:World)(a:Option Addr)(l:List UInt8):Prop:=BytesAt w a l∧iM m w a l.length 1
def wQ(m:Nat)(w:World)(s:Sl)(p:az):Prop:=bz w s p∧iM m w s.a p.parts.length 1
def yw(m:Nat)(w:World)(a:Option Addr)(l:List az):Prop:=fF w a l∧iM m w a l.length 2
def uY(m:Nat)(w:World)(s:Sl)(k:Key):Prop:=wP m w s.a k.bytes
def tK(m:Nat)(w:World)(a:Option Addr)(l:List Key):Prop:=aV w 3 a l.length fun i cs=>∃p s,l[i]?=some p∧cs=bW s p∧uY m w s p
def wR(m:Nat)(w:World)(s:Sl)(k:bn):Prop:=tK m w s.a k.keys∧k.df.size≤lim
def nV(m:Nat)(w:World)(a:Option Addr)(l:List bn):Prop:=(aV w 5 a l.length fun i cs=>∃p s,l[i]?=some p∧cs=aZ s p∧wR m w s p)∧iM m w a l.length 5
structure qZ(m:Nat)(w:World)(r:aN)(d:Entry):Prop where
 at_:bJ w r d
 name:iM m w r.parts.a d.name.parts.length 1
 aliases:iM m w r.aliases.a d.aliases.length 2
 keys:nV m w r.keys.a d.keys
theorem aV.imp{w:World}{k:Nat}{a:Option Addr}{n:Nat}{R R':Nat→Array Value→Prop}(h:aV w k a n R)(hR:∀i cs,R i cs→R' i cs):aV w k a n R':=
 ⟨h.1,fun i hi=>by obtain⟨b,o,cs,h1,h2,h3⟩:=h.2 i hi;exact⟨b,o,cs,h1,h2,hR i cs h3⟩⟩
theorem wP.le{m m':Nat}{w:World}{a:Option Addr}{l:List UInt8}(h:wP m w a l)(hm:m'≤m):wP m' w a l:=⟨h.1,h.2.le hm⟩
theorem uY.le{m m':Nat}{w:World}{s:Sl}{k:Key}(h:uY m w s k)(hm:m'≤m):uY m' w s k:=⟨h.1,h.2.le hm⟩
theorem tK.le{m m':Nat}{w:World}{a:Option Addr}{l:List Key}(h:tK m w a l)(hm:m'≤m):tK m' w a l:=aV.imp h fun _ _ ⟨p,s,h1,h2,h3⟩=>⟨p,s,h1,h2,h3.le hm⟩
theorem wR.le{m m':Nat}{w:World}{s:Sl}{k:bn}(h:wR m w s k)(hm:m'≤m):wR m' w s k:=⟨h.1.le hm,h.2⟩
theorem tK.at_{m:Nat}{w:World}{a:Option Addr}{l:List Key}(h:tK m w a l):kP w a l:=aV.imp h fun _ _ ⟨p,s,h1,h2,h3⟩=>⟨p,s,h1,h2,h3.1⟩
theorem wR.at_{m:Nat}{w:World}{s:Sl}{k:bn}(h:wR m w s k):jq w s k:=⟨h.1.at_,h.2⟩
theorem nV.at_{m:Nat}{w:World}{a:Option Addr}{l:List bn}(h:nV m w a l):mg w a l:=aV.imp h.1 fun _ _ ⟨p,s,h1,h2,h3⟩=>⟨p,s,h1,h2,h3.at_⟩
def TS(w:World)(l:List ByteArray)(e:Ending)(w':World):Prop:=
 ∃s:Sl,e=.returned (.slice s.a l.length s.cap)∧Below w.heap.size w w'∧bD w' (fresh w.heap.size w') (fun x=>agq w.heap.size x s.a l)
def TT(w:World)(l:List UInt8)(e:Ending)(w':World):Prop:=
 ∃s:Sl,e=.returned (.slice s.a l.length s.cap)∧Below w.heap.size w w'∧bD w' (fresh w.heap.size w') (fun x=>wP w.heap.size x s.a l)
theorem agr{w w':World}{e:TypeId}{s:Sl}{rows:List (Array Value)}{l:List ByteArray}(h:Own w' w.heap.size e 1 s rows)(hl:rows.length=l.length)(hn:l.length≤lim)(hb:Below w.heap.size w w')
  (hR:∀i (hi:i<rows.length),∃v,rows[i]=#[v]∧∃s,l[i]?=some s∧v=.string s∧s.size≤lim):TS w l (.returned (.slice s.a l.length s.cap)) w':=
 ⟨s,rfl,hb,fun _ hx=>⟨dU.ed (h.fresh hx) hl hn hR,iM.ed (h.fresh hx) hl⟩⟩
theorem ags{w w':World}{e:TypeId}{s:Sl}{rows:List (Array Value)}{l:List UInt8}(h:Own w' w.heap.size e 1 s rows)(hl:rows.length=l.length)(hn:l.length≤lim)(hb:Below w.heap.size w w')
  (hR:∀i (hi:i<rows.length),∃v,rows[i]=#[v]∧∃c,l[i]?=some c∧v=.int .u8 c.toNat):TT w l (.returned (.slice s.a l.length s.cap)) w':=
 ⟨s,rfl,hb,fun _ hx=>⟨dU.ed (h.fresh hx) hl hn hR,iM.ed (h.fresh hx) hl⟩⟩
def agt(w:World)(p:az)(e:Ending)(w':World):Prop:=
 ∃s:Sl,e=.returned (.agg (ai s p))∧Below w.heap.size w w'∧bD w' (fresh w.heap.size w') (fun x=>wQ w.heap.size x s p)
def agu(w:World)(k:Key)(e:Ending)(w':World):Prop:=
 ∃s:Sl,e=.returned (.agg (bW s k))∧Below w.heap.size w w'∧bD w' (fresh w.heap.size w') (fun x=>uY w.heap.size x s k)
end Go.WW
namespace Go.Proofs.YtfieenjdcpjmgaaGreatDoor
open Go.RowKit Go.WW
theorem agv(a:Option Addr)(cap:Nat)(l:List ByteArray)(w:World)(hl:kC w a l):Calls Tryz.prog 133 #[.slice a l.length cap] w (TS w l):=by
 have hn:l.length≤4294967000:=hl.1
 cases a with
 |none=>
  obtain rfl:l=[]:=List.eq_nil_of_length_eq_zero (dU.none hl)
  go_enter Tryz.func133,Tryz.ntmps133
  go_wp2_with fail
  go_ret
  exact⟨⟨none,0⟩,rfl,Below.refl _ _,fun x _=>⟨⟨by simp[lim],fun i hi=>by simp at hi⟩,iM.zero⟩⟩
 |some ad=>
  obtain⟨rows,hlr,oO,hrR⟩:=dU.src hl TL
  have hown:=Own.empty w 9 1
  have HS:=oO.later ((Below.refl _ w).alloc (Nat.le_refl _) (.cells #[] 9))
  have nC:=Lib.hid hlr
  have HRR:=Lib.hid hrR
  have hln:l.length≤lim:=hl.1
  have Dc:=Lib.hid hln
  clear hlr hrR hl oO hln
  go_enter Tryz.func133,Tryz.ntmps133
  go_wp2_with (at_builtin;refine gp rfl (.tmp 5) (.tmp 6) _ rfl TN (n:=0) (s:=⟨some ⟨w.heap.size,0,none⟩,0⟩) rfl rfl hown rfl nC.out.symm HS (by rw[nC.out];simp;omega) (by simp) ?_;intro s3 w3 hown3 hg3 gq)
  go_ret
  have hb3:Below w.heap.size w w3:=((Below.refl _ w).alloc (Nat.le_refl _) _).grown hg3 (by simp) (fun k e=>by cases e;exact Nat.le_refl _)
  have:=agr (l:=l) hown3 (by simpa using nC.out) Dc.out hb3 (fun i hi=>by simpa using HRR.out i (by simpa using hi))
  simpa using this
theorem agw(a:Option Addr)(cap:Nat)(l:List UInt8)(w:World)(hl:BytesAt w a l):Calls Tryz.prog 227 #[.slice a l.length cap] w (TT w l):=by
 have hn:l.length≤4294967000:=hl.1
 cases a with
 |none=>
  obtain rfl:l=[]:=List.eq_nil_of_length_eq_zero (dU.none hl)
  go_enter Tryz.func227,Tryz.ntmps227
  go_wp2_with fail
  go_ret
  exact⟨⟨none,0⟩,rfl,Below.refl _ _,fun x _=>⟨⟨by simp[lim],fun i hi=>by simp at hi⟩,iM.zero⟩⟩
 |some ad=>
  obtain⟨rows,hlr,oO,hrR⟩:=dU.src hl Gl
  have hown:=Own.empty w 5 1
  have HS:=oO.later ((Below.refl _ w).alloc (Nat.le_refl _) (.cells #[] 5))
  have nC:=Lib.hid hlr
  have HRR:=Lib.hid hrR
  have hln:l.length≤lim:=hl.1
  have Dc:=Lib.hid hln
  clear hlr hrR hl oO hln
  go_enter Tryz.func227,Tryz.ntmps227
  go_wp2_with (at_builtin;refine gp rfl (.tmp 5) (.tmp 6) _ rfl dZ (n:=0) (s:=⟨some ⟨w.heap.size,0,none⟩,0⟩) rfl rfl hown rfl nC.out.symm HS (by rw[nC.out];simp;omega) (by simp) ?_;intro s3 w3 hown3 hg3 gq)
  go_ret
  have hb3:Below w.heap.size w w3:=((Below.refl _ w).alloc (Nat.le_refl _) _).grown hg3 (by simp) (fun k e=>by cases e;exact Nat.le_refl _)
  have:=ags (l:=l) hown3 (by simpa using nC.out) Dc.out hb3 (fun i hi=>by simpa using HRR.out i (by simpa using hi))
  simpa using this
theorem Kw(s:Sl)(p:az)(w:World)(hp:bz w s p):Calls Tryz.prog 69 #[.agg (ai s p)] w (agt w p):=by
 obtain⟨Z,hZ⟩:∃Z:Array Value,Z=#[.slice none 0 0,.string ⟨#[]⟩]:=⟨_,rfl⟩
 have hB:Below w.heap.size w ((w.alloc (.cells (ai s p) 40)).alloc (.cells Z 40)):=((Below.refl _ w).alloc (Nat.le_refl _) _).alloc (by simp) _
 have hq:kC ((w.alloc (.cells (ai s p) 40)).alloc (.cells Z 40)) s.a p.parts:=hp.1.later hB
 have hrl:=hp.2
 subst hZ
 go_enter Tryz.func69,Tryz.ntmps69
 go_wp2_with fail
 refine(agv _ _ _ _ hq).mono ?_
 rintro e w2 ⟨s',rfl,hb2,hd2⟩
 have hblk:=dF (o:=0) (.slice s'.a p.parts.length s'.cap) ((hb2.block w.heap.size (by simp;omega)).trans (jQ w _ _))
 have hrow:row? (w2.setCell ⟨w.heap.size,0,none⟩ (.slice s'.a p.parts.length s'.cap)) w.heap.size 0 2=some (ai s' p):=by rw[bP hblk];rfl
 obtain⟨hcc,aS,hrr⟩:=aY hb2
 have hpp:=gI hb2
 have hsz:w.heap.size+1<w2.heap.size:=by have:=hb2.size;simp at this;omega
 have hsz0:w.heap.size<w2.heap.size:=by omega
 have hne:w.heap.size+1≠w.heap.size:=by omega
 clear hblk
 go_wp2_with fail
 refine bodyPost_ret (v:=.agg (ai s' p)) (by simp[results,Tryz.results69,go_sem, *];rfl) rfl ⟨s',rfl,?_,?_⟩
 ·exact Go.WW.Below.putRow ((hB.trans (hb2.mono hB.size)).setCell (by simp) _) (by omega)
 ·have hls:=hB.size
  refine bD.to (fun x hx=>⟨⟨(hd2 x hx).1,hrl⟩,(hd2 x hx).2.le hls⟩) (fun j hj=>?_) (fun j hj=>?_)
  ·have h1:=hj.1
   simp at h1
   rw[iD (by omega),Below.heap_setCell _ _ _ _ (by simp;omega)]
  ·have h1:=hj.1
   have h2:=hj.2
   simp at h1
   exact⟨by omega,by rw[kG];simpa[World.setCell]using h2⟩
theorem agx(s:Sl)(p:Key)(w:World)(hp:kD w s p):Calls Tryz.prog 208 #[.agg (bW s p)] w (agu w p):=by
 obtain⟨Z,hZ⟩:∃Z:Array Value,Z=#[.int .i64 0,.int .i64 0,.slice none 0 0]:=⟨_,rfl⟩
 have hB:Below w.heap.size w ((w.alloc (.cells (bW s p) 69)).alloc (.cells Z 69)):=((Below.refl _ w).alloc (Nat.le_refl _) _).alloc (by simp) _
 have hq:BytesAt ((w.alloc (.cells (bW s p) 69)).alloc (.cells Z 69)) s.a p.bytes:=BytesAt.later hB hp
 subst hZ
 go_enter Tryz.func208,Tryz.ntmps208
 go_wp2_with fail
 refine(agw _ _ _ _ hq).mono ?_
 rintro e w2 ⟨s',rfl,hb2,hd2⟩
 have hblk:=dF (o:=2) (.slice s'.a p.bytes.length s'.cap) ((hb2.block w.heap.size (by simp;omega)).trans (jQ w _ _))
 have hrow:row? (w2.setCell ⟨w.heap.size,2,none⟩ (.slice s'.a p.bytes.length s'.cap)) w.heap.size 0 3=some (bW s' p):=by rw[bP hblk];rfl
 obtain⟨hcc,aS,hrr⟩:=aY hb2
 have hpp:=gI hb2
 have hsz:w.heap.size+1<w2.heap.size:=by have:=hb2.size;simp at this;omega
 have hsz0:w.heap.size<w2.heap.size:=by omega
 have hne:w.heap.size+1≠w.heap.size:=by omega
 clear hblk
 go_wp2_with fail
 refine bodyPost_ret (v:=.agg (bW s' p)) (by simp[results,Tryz.results208,go_sem, *];rfl) rfl ⟨s',rfl,?_,?_⟩
 ·exact Go.WW.Below.putRow ((hB.trans (hb2.mono hB.size)).setCell (by simp) _) (by omega)
 ·have hls:=hB.size
  refine bD.to (Φ:=fun x=>uY w.heap.size x s' p) (fun x hx=>(hd2 x hx).le hls) (fun j hj=>?_) (fun j hj=>?_)
  ·have h1:=hj.1
   simp at h1
   rw[iD (by omega),Below.heap_setCell _ _ _ _ (by simp;omega)]
  ·have h1:=hj.1
   have h2:=hj.2
   simp at h1
   exact⟨by omega,by rw[kG];simpa[World.setCell]using h2⟩
end Go.Proofs.YtfieenjdcpjmgaaGreatDoor
namespace Go.WW
open Go.RowKit
theorem uY.lt{m:Nat}{w:World}{s:Sl}{k:Key}(h:uY m w s k):kD w s k:=h.1
end Go.WW
namespace Go.Proofs.YtfieenjdcpjmgaaGreatDoor
open Go.RowKit Go.WW
def TU(_:Nat)(l:List az)(x:World)(i:Nat)(cs:Array Value):Prop:=∃p s,l[i]?=some p∧cs=ai s p∧bz x s p
theorem TV(a:Option Addr)(cap:Nat)(l:List az)(w:World)(hl:fF w a l) :
  Calls Tryz.prog 125 #[.slice a l.length cap,.func (.func 69) #[] #[]] w (Df (fun x s=>yw w.heap.size x s.a l) l.length w):=by
 have hn:l.length≤4294967000:=hl.1
 rcases aV.addr hl with h0|⟨b,o,rfl,hb⟩
 ·obtain rfl:l=[]:=List.eq_nil_of_length_eq_zero h0
  go_enter Tryz.func125,Tryz.ntmps125
  go_wp2_with fail
  refine wp_loop_rounds 1 ?_
  rw[rounds_succ]
  go_wp2_with fail
  go_ret
  exact⟨⟨none,0⟩,rfl,Below.refl _ _,fun x _=>⟨⟨by simp[lim],fun i hi=>by simp at hi⟩,iM.zero⟩⟩
 go_enter Tryz.func125,Tryz.ntmps125
 go_wp2_with fail
 go_loopw [5,10] (fun ov i wr=>∃(k:Nat) (so:Sl) (rows:List (Array Value)),k≤l.length∧i=.int .i64 k∧ov=.slice so.a k so.cap∧Hid (rows.length=k)∧Below w.heap.size w wr∧jU 40 2 (TU w.heap.size l) wr w.heap.size so rows) (fun _ i _=>l.length-(intOf i).toNat)
 case atStart=>exact⟨0,⟨none,0⟩,[],Nat.zero_le _,rfl,rfl,rfl,Below.refl _ _,jU.nil _ _ _ _ _⟩
 case round=>
  obtain⟨k,so,rows,hk,rfl,rfl,hlr,hbr,hC⟩:=hrel
  by_cases hlt:k<l.length
  ·obtain⟨t,hc,hp⟩:=hl.at k hlt
   obtain⟨hcc,aS,hrr⟩:=aY hbr
   go_wp2_with fail
   have hb1:Below wr.heap.size wr (wr.alloc (.cells (ai t l[k]) 40)):=(Below.refl _ wr).alloc (Nat.le_refl _) _
   have hls:w.heap.size≤(wr.alloc (.cells (ai t l[k]) 40)).heap.size:=by have:=hbr.size;simp;omega
   refine(Kw _ _ _ (hp.later (ag hbr hb1))).mono ?_
   rintro e w2 ⟨s',rfl,hb2,hd2⟩
   have hr2:=ag hb1 hb2
   have hown:=hC.carry hr2 (.cells (ai s' l[k]) 40)
   clear hcc aS hrr
   go_wp2_with (at_builtin;refine gp rfl (.tmp 14) (.tmp 18) _ rfl Am (n:=k) rfl hlr.out.symm hown rfl rfl (cO.new _ (ai s' l[k]) _ _ (by simp[go_sem]) (by simp[go_sem])) (by have:=hlr.out;rw[this];simp;omega) (by have h9:=hbr.size;have h8:=hr2.size;simp;omega) ?_;intro s3 w3 hown3 hg3 gq)
   have yu:=hC.step hb1 hb2 (o:=.cells (ai s' l[k]) 40) (R:=TU w.heap.size l) (fun x hx=>⟨l[k],s',by rw[hlr.out];exact List.getElem?_eq_getElem hlt,rfl,(hd2 x hx).1⟩) hown3 hg3 gq hbr.size
   have hb3:=Dh hC hbr hb1 hb2 hg3
   have HL:=Lib.hid (show(rows++[(ai s' l[k])]).length=k+1 by have:=hlr.out;simp[this])
   clear hown hown3 hg3 gq hC hd2 hr2 hb1 hb2 hlr
   go_wp2_with fail
   go_roundw
   case rel=>exact⟨k+1,s3,_,by omega,by go_num,rfl,HL.out,hb3,yu⟩
   case measure=>simp[intOf];omega
  ·obtain rfl:k=l.length:=by omega
   go_wp2_with fail
   go_ret
   exact⟨so,rfl,hbr,fun x hx=>⟨hC.done hlr.out hl.1 x hx,iM.ed (hC.own.fresh hx) hlr.out⟩⟩
def TW(m:Nat)(l:List Key)(x:World)(i:Nat)(cs:Array Value):Prop:=∃p s,l[i]?=some p∧cs=bW s p∧uY m x s p
theorem agy(a:Option Addr)(cap:Nat)(l:List Key)(w:World)(hl:kP w a l) :
  Calls Tryz.prog 207 #[.slice a l.length cap,.func (.func 208) #[] #[]] w (Df (fun x s=>tK w.heap.size x s.a l) l.length w):=by
 have hn:l.length≤4294967000:=hl.1
 rcases aV.addr hl with h0|⟨b,o,rfl,hb⟩
 ·obtain rfl:l=[]:=List.eq_nil_of_length_eq_zero h0
  go_enter Tryz.func207,Tryz.ntmps207
  go_wp2_with fail
  refine wp_loop_rounds 1 ?_
  rw[rounds_succ]
  go_wp2_with fail
  go_ret
  exact⟨⟨none,0⟩,rfl,Below.refl _ _,fun x _=>⟨by simp[lim],fun i hi=>by simp at hi⟩⟩
 go_enter Tryz.func207,Tryz.ntmps207
 go_wp2_with fail
 go_loopw [5,10] (fun ov i wr=>∃(k:Nat) (so:Sl) (rows:List (Array Value)),k≤l.length∧i=.int .i64 k∧ov=.slice so.a k so.cap∧Hid (rows.length=k)∧Below w.heap.size w wr∧jU 69 3 (TW w.heap.size l) wr w.heap.size so rows) (fun _ i _=>l.length-(intOf i).toNat)
 case atStart=>exact⟨0,⟨none,0⟩,[],Nat.zero_le _,rfl,rfl,rfl,Below.refl _ _,jU.nil _ _ _ _ _⟩
 case round=>
  obtain⟨k,so,rows,hk,rfl,rfl,hlr,hbr,hC⟩:=hrel
  by_cases hlt:k<l.length
  ·obtain⟨t,hc,hp⟩:=hl.at k hlt
   obtain⟨hcc,aS,hrr⟩:=aY hbr
   go_wp2_with fail
   have hb1:Below wr.heap.size wr (wr.alloc (.cells (bW t l[k]) 69)):=(Below.refl _ wr).alloc (Nat.le_refl _) _
   have hls:w.heap.size≤(wr.alloc (.cells (bW t l[k]) 69)).heap.size:=by have:=hbr.size;simp;omega
   refine(agx _ _ _ (hp.later (ag hbr hb1))).mono ?_
   rintro e w2 ⟨s',rfl,hb2,hd2⟩
   have hr2:=ag hb1 hb2
   have hown:=hC.carry hr2 (.cells (bW s' l[k]) 69)
   clear hcc aS hrr
   go_wp2_with (at_builtin;refine gp rfl (.tmp 14) (.tmp 18) _ rfl TP (n:=k) rfl hlr.out.symm hown rfl rfl (cO.new _ (bW s' l[k]) _ _ (by simp[go_sem]) (by simp[go_sem])) (by have:=hlr.out;rw[this];simp;omega) (by have h9:=hbr.size;have h8:=hr2.size;simp;omega) ?_;intro s3 w3 hown3 hg3 gq)
   have yu:=hC.step hb1 hb2 (o:=.cells (bW s' l[k]) 69) (R:=TW w.heap.size l) (fun x hx=>⟨l[k],s',by rw[hlr.out];exact List.getElem?_eq_getElem hlt,rfl,(hd2 x hx).le hls⟩) hown3 hg3 gq hbr.size
   have hb3:=Dh hC hbr hb1 hb2 hg3
   have HL:=Lib.hid (show(rows++[(bW s' l[k])]).length=k+1 by have:=hlr.out;simp[this])
   clear hown hown3 hg3 gq hC hd2 hr2 hb1 hb2 hlr
   go_wp2_with fail
   go_roundw
   case rel=>exact⟨k+1,s3,_,by omega,by go_num,rfl,HL.out,hb3,yu⟩
   case measure=>simp[intOf];omega
  ·obtain rfl:k=l.length:=by omega
   go_wp2_with fail
   go_ret
   exact⟨so,rfl,hbr,hC.done hlr.out hl.1⟩
def agz(w:World)(k:bn)(e:Ending)(w':World):Prop:=
 ∃s:Sl,e=.returned (.agg (aZ s k))∧Below w.heap.size w w'∧bD w' (fresh w.heap.size w') (fun x=>wR w.heap.size x s k)
theorem agA(s:Sl)(p:bn)(w:World)(hp:jq w s p):Calls Tryz.prog 130 #[.agg (aZ s p)] w (agz w p):=by
 obtain⟨Z,hZ⟩:∃Z:Array Value,Z=#[.int .i64 0,.slice none 0 0,.string ⟨#[]⟩,.int .i64 0,.int .i64 0]:=⟨_,rfl⟩
 have hB:Below w.heap.size w ((w.alloc (.cells (aZ s p) 67)).alloc (.cells Z 67)):=((Below.refl _ w).alloc (Nat.le_refl _) _).alloc (by simp) _
 have hq:kP ((w.alloc (.cells (aZ s p) 67)).alloc (.cells Z 67)) s.a p.keys:=hp.1.later hB
 have hrl:=hp.2
 subst hZ
 go_enter Tryz.func130,Tryz.ntmps130
 go_wp2_with fail
 refine(agy _ _ _ _ hq).mono ?_
 rintro e w2 ⟨s',rfl,hb2,hd2⟩
 have hblk:=dF (o:=1) (.slice s'.a p.keys.length s'.cap) ((hb2.block w.heap.size (by simp;omega)).trans (jQ w _ _))
 have hrow:row? (w2.setCell ⟨w.heap.size,1,none⟩ (.slice s'.a p.keys.length s'.cap)) w.heap.size 0 5=some (aZ s' p):=by rw[bP hblk];rfl
 obtain⟨hcc,aS,hrr⟩:=aY hb2
 have hpp:=gI hb2
 have hsz:w.heap.size+1<w2.heap.size:=by have:=hb2.size;simp at this;omega
 have hsz0:w.heap.size<w2.heap.size:=by omega
 have hne:w.heap.size+1≠w.heap.size:=by omega
 clear hblk
 go_wp2_with fail
 refine bodyPost_ret (v:=.agg (aZ s' p)) (by simp[results,Tryz.results130,go_sem, *];rfl) rfl ⟨s',rfl,?_,?_⟩
 ·exact Go.WW.Below.putRow ((hB.trans (hb2.mono hB.size)).setCell (by simp) _) (by omega)
 ·have hls:=hB.size
  refine bD.to (fun x hx=>⟨(hd2 x hx).le hls,hrl⟩) (fun j hj=>?_) (fun j hj=>?_)
  ·have h1:=hj.1
   simp at h1
   rw[iD (by omega),Below.heap_setCell _ _ _ _ (by simp;omega)]
  ·have h1:=hj.1
   have h2:=hj.2
   simp at h1
   exact⟨by omega,by rw[kG];simpa[World.setCell]using h2⟩
def TY(m:Nat)(l:List bn)(x:World)(i:Nat)(cs:Array Value):Prop:=∃p s,l[i]?=some p∧cs=aZ s p∧wR m x s p
theorem agB(a:Option Addr)(cap:Nat)(l:List bn)(w:World)(hl:mg w a l) :
  Calls Tryz.prog 129 #[.slice a l.length cap,.func (.func 130) #[] #[]] w (Df (fun x s=>nV w.heap.size x s.a l) l.length w):=by
 have hn:l.length≤4294967000:=hl.1
 rcases aV.addr hl with h0|⟨b,o,rfl,hb⟩
 ·obtain rfl:l=[]:=List.eq_nil_of_length_eq_zero h0
  go_enter Tryz.func129,Tryz.ntmps129
  go_wp2_with fail
  refine wp_loop_rounds 1 ?_
  rw[rounds_succ]
  go_wp2_with fail
  go_ret
  exact⟨⟨none,0⟩,rfl,Below.refl _ _,fun x _=>⟨⟨by simp[lim],fun i hi=>by simp at hi⟩,iM.zero⟩⟩
 go_enter Tryz.func129,Tryz.ntmps129
 go_wp2_with fail
 go_loopw [5,10] (fun ov i wr=>∃(k:Nat) (so:Sl) (rows:List (Array Value)),k≤l.length∧i=.int .i64 k∧ov=.slice so.a k so.cap∧Hid (rows.length=k)∧Below w.heap.size w wr∧jU 67 5 (TY w.heap.size l) wr w.heap.size so rows) (fun _ i _=>l.length-(intOf i).toNat)
 case atStart=>exact⟨0,⟨none,0⟩,[],Nat.zero_le _,rfl,rfl,rfl,Below.refl _ _,jU.nil _ _ _ _ _⟩
 case round=>
  obtain⟨k,so,rows,hk,rfl,rfl,hlr,hbr,hC⟩:=hrel
  by_cases hlt:k<l.length
  ·obtain⟨t,hc,hp⟩:=hl.at k hlt
   obtain⟨hcc,aS,hrr⟩:=aY hbr
   go_wp2_with fail
   have hb1:Below wr.heap.size wr (wr.alloc (.cells (aZ t l[k]) 67)):=(Below.refl _ wr).alloc (Nat.le_refl _) _
   have hls:w.heap.size≤(wr.alloc (.cells (aZ t l[k]) 67)).heap.size:=by have:=hbr.size;simp;omega
   refine(agA _ _ _ (hp.later (ag hbr hb1))).mono ?_
   rintro e w2 ⟨s',rfl,hb2,hd2⟩
   have hr2:=ag hb1 hb2
   have hown:=hC.carry hr2 (.cells (aZ s' l[k]) 67)
   clear hcc aS hrr
   go_wp2_with (at_builtin;refine gp rfl (.tmp 14) (.tmp 18) _ rfl TQ (n:=k) rfl hlr.out.symm hown rfl rfl (cO.new _ (aZ s' l[k]) _ _ (by simp[go_sem]) (by simp[go_sem])) (by have:=hlr.out;rw[this];simp;omega) (by have h9:=hbr.size;have h8:=hr2.size;simp;omega) ?_;intro s3 w3 hown3 hg3 gq)
   have yu:=hC.step hb1 hb2 (o:=.cells (aZ s' l[k]) 67) (R:=TY w.heap.size l) (fun x hx=>⟨l[k],s',by rw[hlr.out];exact List.getElem?_eq_getElem hlt,rfl,(hd2 x hx).le hls⟩) hown3 hg3 gq hbr.size
   have hb3:=Dh hC hbr hb1 hb2 hg3
   have HL:=Lib.hid (show(rows++[(aZ s' l[k])]).length=k+1 by have:=hlr.out;simp[this])
   clear hown hown3 hg3 gq hC hd2 hr2 hb1 hb2 hlr
   go_wp2_with fail
   go_roundw
   case rel=>exact⟨k+1,s3,_,by omega,by go_num,rfl,HL.out,hb3,yu⟩
   case measure=>simp[intOf];omega
  ·obtain rfl:k=l.length:=by omega
   go_wp2_with fail
   go_ret
   exact⟨so,rfl,hbr,fun x hx=>⟨hC.done hlr.out hl.1 x hx,iM.ed (hC.own.fresh hx) hlr.out⟩⟩
theorem Ky(s:Sl)(p:az)(w:World)(hp:bz w s p):Calls Tryz.prog 69 #[.agg (ai s p)] w (agm w p):=
 (Kw s p w hp).mono fun _ _ ⟨s',h1,h2,h3⟩=>⟨s',h1,h2,fun x hx=>(h3 x hx).1⟩
theorem Kz(a:Option Addr)(cap:Nat)(l:List az)(w:World)(hl:fF w a l) :
  Calls Tryz.prog 125 #[.slice a l.length cap,.func (.func 69) #[] #[]] w (Df (fun x s=>fF x s.a l) l.length w):=
 (TV a cap l w hl).mono fun _ _ ⟨s,h1,h2,h3⟩=>⟨s,h1,h2,fun x hx=>(h3 x hx).1⟩
end Go.Proofs.YtfieenjdcpjmgaaGreatDoor
namespace Go.WW
open Go.RowKit
def agC(w:World)(d:Entry)(e:Ending)(w':World):Prop:=∃r:aN,e=.returned (.agg (ae r d))∧Below w.heap.size w w'∧bD w' (fresh w.heap.size w') (fun x=>qZ w.heap.size x r d)
theorem nV.le{m m':Nat}{w:World}{a:Option Addr}{l:List bn}(h:nV m w a l)(hm:m'≤m):nV m' w a l:=⟨aV.imp h.1 fun _ _ ⟨p,s,h1,h2,h3⟩=>⟨p,s,h1,h2,h3.le hm⟩,h.2.le hm⟩
end Go.WW
namespace Go.Proofs.YtfieenjdcpjmgaaGreatDoor
open Go.RowKit Go.WW
theorem TZ(r:aN)(d:Entry)(w:World)(he:bJ w r d):Calls Tryz.prog 67 #[.agg (ae r d)] w (agC w d):=by
 have hB0:Below w.heap.size w ((w.alloc (.cells (ae r d) 47)).alloc (.cells #[.slice none 0 0,.string ⟨#[]⟩,.slice none 0 0,.int .u32 0,.int .i64 0,.slice none 0 0,.string ⟨#[]⟩,.int .i64 0,.int .i64 0,.int .i64 0,.int .i64 0,.int .i64 0,.int .i64 0,.int .i64 0,.slice none 0 0,.slice none 0 0,.slice none 0 0] 47)):=((Below.refl _ w).alloc (Nat.le_refl _) _).alloc (by simp) _
 have hx0:((w.alloc (.cells (ae r d) 47)).alloc (.cells #[.slice none 0 0,.string ⟨#[]⟩,.slice none 0 0,.int .u32 0,.int .i64 0,.slice none 0 0,.string ⟨#[]⟩,.int .i64 0,.int .i64 0,.int .i64 0,.int .i64 0,.int .i64 0,.int .i64 0,.int .i64 0,.slice none 0 0,.slice none 0 0,.slice none 0 0] 47)).heap[w.heap.size]?=some (.cells (ae r d) 47):=jQ w _ _
 have hz0:aQ ((w.alloc (.cells (ae r d) 47)).alloc (.cells #[.slice none 0 0,.string ⟨#[]⟩,.slice none 0 0,.int .u32 0,.int .i64 0,.slice none 0 0,.string ⟨#[]⟩,.int .i64 0,.int .i64 0,.int .i64 0,.int .i64 0,.int .i64 0,.int .i64 0,.int .i64 0,.slice none 0 0,.slice none 0 0,.slice none 0 0] 47)) (w.heap.size+1) 0 17=true:=by simp[go_sem]
 have hs0:w.heap.size+1<((w.alloc (.cells (ae r d) 47)).alloc (.cells #[.slice none 0 0,.string ⟨#[]⟩,.slice none 0 0,.int .u32 0,.int .i64 0,.slice none 0 0,.string ⟨#[]⟩,.int .i64 0,.int .i64 0,.int .i64 0,.int .i64 0,.int .i64 0,.int .i64 0,.int .i64 0,.slice none 0 0,.slice none 0 0,.slice none 0 0] 47)).heap.size:=by simp
 have hne:w.heap.size+1≠w.heap.size:=by omega
 go_enter Tryz.func67,Tryz.ntmps67
 go_wp2_with fail
 generalize (w.alloc (.cells (ae r d) 47)).alloc (.cells #[.slice none 0 0,.string ⟨#[]⟩,.slice none 0 0,.int .u32 0,.int .i64 0,.slice none 0 0,.string ⟨#[]⟩,.int .i64 0,.int .i64 0,.int .i64 0,.int .i64 0,.int .i64 0,.int .i64 0,.int .i64 0,.slice none 0 0,.slice none 0 0,.slice none 0 0] 47)=W0 at *
 refine(Kw _ _ _ (he.name.later hB0)).mono ?_
 rintro e V0 ⟨s0,rfl,hb0,hd0⟩
 have hy0:=(hb0.block w.heap.size (by omega)).trans hx0
 obtain⟨hc,hf,hr,hlt⟩:=aC hy0
 have hx1:(putRow V0 w.heap.size 0 (ai s0 d.name)).heap[w.heap.size]?=some (.cells (ae {r with parts:=s0} d) 47):=(mD hy0 (by simp[go_sem])).trans (by rfl)
 have hcp:aQ V0 w.heap.size 0 2=true:=mF hy0 (by simp[go_sem])
 have hB1:Below w.heap.size w (putRow V0 w.heap.size 0 (ai s0 d.name)):=Go.WW.Below.putRow (ag hB0 hb0) (Nat.le_refl _)
 have hz1:aQ (putRow V0 w.heap.size 0 (ai s0 d.name)) (w.heap.size+1) 0 17=true:=by rw[Si hne,gI hb0 _ _ _ (by omega)];exact hz0
 have hs1:w.heap.size+1<(putRow V0 w.heap.size 0 (ai s0 d.name)).heap.size:=by have:=hb0.size;rw[kG];omega
 have Ua:bD (putRow V0 w.heap.size 0 (ai s0 d.name)) (fun k=>w.heap.size+1<k∧k<(putRow V0 w.heap.size 0 (ai s0 d.name)).heap.size) (fun x=>wQ w.heap.size x s0 d.name):=(show bD V0 (fresh W0.heap.size V0) (fun x=>wQ w.heap.size x s0 d.name) from fun x hx=>⟨(hd0 x hx).1,(hd0 x hx).2.le hB0.size⟩).to (fun k hk=>by have h1:=hk.1;first|exact iD (by omega)|exact Below.heap_setCell _ _ _ _ (by simp;omega)) (fun k hk=>⟨by have h1:=hk.1;omega,by have h2:=hk.2;first|(rw[kG];exact h2)|(simp only[World.setCell,Array.size_modify];exact h2)⟩)
 clear hx0 hz0 hs0 hy0 hb0 hd0 hB0
 obtain⟨hc2,hf2,hr2,hlt2⟩:=aC hx1
 have HX:=Lib.hid hx1
 clear hx1
 go_wp2_with fail
 have hx1:=HX.out
 clear HX hc hf hr hlt hc2 hf2 hr2 hlt2 hcp
 generalize putRow V0 w.heap.size 0 (ai s0 d.name)=W1 at *
 refine(TV _ _ _ _ (he.aliases.later hB1)).mono ?_
 rintro e V1 ⟨s1,rfl,hb1,hd1⟩
 have hy1:=(hb1.block w.heap.size (by omega)).trans hx1
 obtain⟨hc,hf,hr,hlt⟩:=aC hy1
 have hx2:(V1.setCell ⟨w.heap.size,2,none⟩ (.slice s1.a d.aliases.length s1.cap)).heap[w.heap.size]?=some (.cells (ae {r with parts:=s0,aliases:=s1} d) 47):=(dF _ hy1).trans (by rfl)
 have hB2:Below w.heap.size w (V1.setCell ⟨w.heap.size,2,none⟩ (.slice s1.a d.aliases.length s1.cap)):=(ag hB1 hb1).setCell (Nat.le_refl _) _
 have hz2:aQ (V1.setCell ⟨w.heap.size,2,none⟩ (.slice s1.a d.aliases.length s1.cap)) (w.heap.size+1) 0 17=true:=by rw[lQ hne,gI hb1 _ _ _ (by omega)];exact hz1
 have hs2:w.heap.size+1<(V1.setCell ⟨w.heap.size,2,none⟩ (.slice s1.a d.aliases.length s1.cap)).heap.size:=by have:=hb1.size;simp only[World.setCell,Array.size_modify];omega
 have Ub:bD (V1.setCell ⟨w.heap.size,2,none⟩ (.slice s1.a d.aliases.length s1.cap)) (fun k=>w.heap.size+1<k∧k<(V1.setCell ⟨w.heap.size,2,none⟩ (.slice s1.a d.aliases.length s1.cap)).heap.size) (fun x=>wQ w.heap.size x s0 d.name):=Ua.to (fun k hk=>by have h1:=hk.1;have h2:=hk.2;rw[Below.heap_setCell _ _ _ _ (by simp;omega)];exact hb1.block k h2) (fun k hk=>⟨hk.1,by have h2:=hk.2;have h3:=hb1.size;simp only[World.setCell,Array.size_modify];omega⟩)
 have Uc:bD (V1.setCell ⟨w.heap.size,2,none⟩ (.slice s1.a d.aliases.length s1.cap)) (fun k=>w.heap.size+1<k∧k<(V1.setCell ⟨w.heap.size,2,none⟩ (.slice s1.a d.aliases.length s1.cap)).heap.size) (fun x=>yw w.heap.size x s1.a d.aliases):=(show bD V1 (fresh W1.heap.size V1) (fun x=>yw w.heap.size x s1.a d.aliases) from fun x hx=>⟨(hd1 x hx).1,(hd1 x hx).2.le hB1.size⟩).to (fun k hk=>by have h1:=hk.1;first|exact iD (by omega)|exact Below.heap_setCell _ _ _ _ (by simp;omega)) (fun k hk=>⟨by have h1:=hk.1;omega,by have h2:=hk.2;first|(rw[kG];exact h2)|(simp only[World.setCell,Array.size_modify];exact h2)⟩)
 clear hx1 hz1 hs1 hy1 hb1 hd1 hB1 Ua
 obtain⟨hc2,hf2,hr2,hlt2⟩:=aC hx2
 have HX:=Lib.hid hx2
 clear hx2
 go_wp2_with fail
 have hx2:=HX.out
 clear HX hc hf hr hlt hc2 hf2 hr2 hlt2
 generalize V1.setCell ⟨w.heap.size,2,none⟩ (.slice s1.a d.aliases.length s1.cap)=W2 at *
 refine(agB _ _ _ _ (he.keys.later hB2)).mono ?_
 rintro e V2 ⟨s2,rfl,hb2,hd2⟩
 have hy2:=(hb2.block w.heap.size (by omega)).trans hx2
 obtain⟨hc,hf,hr,hlt⟩:=aC hy2
 have hx3:(V2.setCell ⟨w.heap.size,5,none⟩ (.slice s2.a d.keys.length s2.cap)).heap[w.heap.size]?=some (.cells (ae {r with parts:=s0,aliases:=s1,keys:=s2} d) 47):=(dF _ hy2).trans (by rfl)
 have hB3:Below w.heap.size w (V2.setCell ⟨w.heap.size,5,none⟩ (.slice s2.a d.keys.length s2.cap)):=(ag hB2 hb2).setCell (Nat.le_refl _) _
 have hz3:aQ (V2.setCell ⟨w.heap.size,5,none⟩ (.slice s2.a d.keys.length s2.cap)) (w.heap.size+1) 0 17=true:=by rw[lQ hne,gI hb2 _ _ _ (by omega)];exact hz2
 have hs3:w.heap.size+1<(V2.setCell ⟨w.heap.size,5,none⟩ (.slice s2.a d.keys.length s2.cap)).heap.size:=by have:=hb2.size;simp only[World.setCell,Array.size_modify];omega
 have Ud:bD (V2.setCell ⟨w.heap.size,5,none⟩ (.slice s2.a d.keys.length s2.cap)) (fun k=>w.heap.size+1<k∧k<(V2.setCell ⟨w.heap.size,5,none⟩ (.slice s2.a d.keys.length s2.cap)).heap.size) (fun x=>wQ w.heap.size x s0 d.name):=Ub.to (fun k hk=>by have h1:=hk.1;have h2:=hk.2;rw[Below.heap_setCell _ _ _ _ (by simp;omega)];exact hb2.block k h2) (fun k hk=>⟨hk.1,by have h2:=hk.2;have h3:=hb2.size;simp only[World.setCell,Array.size_modify];omega⟩)
 have Ue:bD (V2.setCell ⟨w.heap.size,5,none⟩ (.slice s2.a d.keys.length s2.cap)) (fun k=>w.heap.size+1<k∧k<(V2.setCell ⟨w.heap.size,5,none⟩ (.slice s2.a d.keys.length s2.cap)).heap.size) (fun x=>yw w.heap.size x s1.a d.aliases):=Uc.to (fun k hk=>by have h1:=hk.1;have h2:=hk.2;rw[Below.heap_setCell _ _ _ _ (by simp;omega)];exact hb2.block k h2) (fun k hk=>⟨hk.1,by have h2:=hk.2;have h3:=hb2.size;simp only[World.setCell,Array.size_modify];omega⟩)
 have Uf:bD (V2.setCell ⟨w.heap.size,5,none⟩ (.slice s2.a d.keys.length s2.cap)) (fun k=>w.heap.size+1<k∧k<(V2.setCell ⟨w.heap.size,5,none⟩ (.slice s2.a d.keys.length s2.cap)).heap.size) (fun x=>nV w.heap.size x s2.a d.keys):=(show bD V2 (fresh W2.heap.size V2) (fun x=>nV w.heap.size x s2.a d.keys) from fun x hx=>(hd2 x hx).le hB2.size).to (fun k hk=>by have h1:=hk.1;first|exact iD (by omega)|exact Below.heap_setCell _ _ _ _ (by simp;omega)) (fun k hk=>⟨by have h1:=hk.1;omega,by have h2:=hk.2;first|(rw[kG];exact h2)|(simp only[World.setCell,Array.size_modify];exact h2)⟩)
 clear hx2 hz2 hs2 hy2 hb2 hd2 hB2 Ub Uc
 obtain⟨hc2,hf2,hr2,hlt2⟩:=aC hx3
 have HX:=Lib.hid hx3
 clear hx3
 go_wp2_with fail
 have hx3:=HX.out
 clear HX hc hf hr hlt hc2 hf2 hr2 hlt2
 generalize V2.setCell ⟨w.heap.size,5,none⟩ (.slice s2.a d.keys.length s2.cap)=W3 at *
 refine(Kz _ _ _ _ (he.targets.later hB3)).mono ?_
 rintro e V3 ⟨s3,rfl,hb3,hd3⟩
 have hy3:=(hb3.block w.heap.size (by omega)).trans hx3
 obtain⟨hc,hf,hr,hlt⟩:=aC hy3
 have hx4:(V3.setCell ⟨w.heap.size,14,none⟩ (.slice s3.a d.targets.length s3.cap)).heap[w.heap.size]?=some (.cells (ae {r with parts:=s0,aliases:=s1,keys:=s2,targets:=s3} d) 47):=(dF _ hy3).trans (by rfl)
 have hB4:Below w.heap.size w (V3.setCell ⟨w.heap.size,14,none⟩ (.slice s3.a d.targets.length s3.cap)):=(ag hB3 hb3).setCell (Nat.le_refl _) _
 have rf:aQ (V3.setCell ⟨w.heap.size,14,none⟩ (.slice s3.a d.targets.length s3.cap)) (w.heap.size+1) 0 17=true:=by rw[lQ hne,gI hb3 _ _ _ (by omega)];exact hz3
 have hs4:w.heap.size+1<(V3.setCell ⟨w.heap.size,14,none⟩ (.slice s3.a d.targets.length s3.cap)).heap.size:=by have:=hb3.size;simp only[World.setCell,Array.size_modify];omega
 have Ug:bD (V3.setCell ⟨w.heap.size,14,none⟩ (.slice s3.a d.targets.length s3.cap)) (fun k=>w.heap.size+1<k∧k<(V3.setCell ⟨w.heap.size,14,none⟩ (.slice s3.a d.targets.length s3.cap)).heap.size) (fun x=>wQ w.heap.size x s0 d.name):=Ud.to (fun k hk=>by have h1:=hk.1;have h2:=hk.2;rw[Below.heap_setCell _ _ _ _ (by simp;omega)];exact hb3.block k h2) (fun k hk=>⟨hk.1,by have h2:=hk.2;have h3:=hb3.size;simp only[World.setCell,Array.size_modify];omega⟩)
 have Uh:bD (V3.setCell ⟨w.heap.size,14,none⟩ (.slice s3.a d.targets.length s3.cap)) (fun k=>w.heap.size+1<k∧k<(V3.setCell ⟨w.heap.size,14,none⟩ (.slice s3.a d.targets.length s3.cap)).heap.size) (fun x=>yw w.heap.size x s1.a d.aliases):=Ue.to (fun k hk=>by have h1:=hk.1;have h2:=hk.2;rw[Below.heap_setCell _ _ _ _ (by simp;omega)];exact hb3.block k h2) (fun k hk=>⟨hk.1,by have h2:=hk.2;have h3:=hb3.size;simp only[World.setCell,Array.size_modify];omega⟩)
 have Ui:bD (V3.setCell ⟨w.heap.size,14,none⟩ (.slice s3.a d.targets.length s3.cap)) (fun k=>w.heap.size+1<k∧k<(V3.setCell ⟨w.heap.size,14,none⟩ (.slice s3.a d.targets.length s3.cap)).heap.size) (fun x=>nV w.heap.size x s2.a d.keys):=Uf.to (fun k hk=>by have h1:=hk.1;have h2:=hk.2;rw[Below.heap_setCell _ _ _ _ (by simp;omega)];exact hb3.block k h2) (fun k hk=>⟨hk.1,by have h2:=hk.2;have h3:=hb3.size;simp only[World.setCell,Array.size_modify];omega⟩)
 have Uj:bD (V3.setCell ⟨w.heap.size,14,none⟩ (.slice s3.a d.targets.length s3.cap)) (fun k=>w.heap.size+1<k∧k<(V3.setCell ⟨w.heap.size,14,none⟩ (.slice s3.a d.targets.length s3.cap)).heap.size) (fun x=>fF x s3.a d.targets):=hd3.to (fun k hk=>by have h1:=hk.1;first|exact iD (by omega)|exact Below.heap_setCell _ _ _ _ (by simp;omega)) (fun k hk=>⟨by have h1:=hk.1;omega,by have h2:=hk.2;first|(rw[kG];exact h2)|(simp only[World.setCell,Array.size_modify];exact h2)⟩)
 clear hx3 hz3 hs3 hy3 hb3 hd3 hB3 Ud Ue Uf
 obtain⟨hc2,hf2,hr2,hlt2⟩:=aC hx4
 have HX:=Lib.hid hx4
 clear hx4
 go_wp2_with fail
 have hx4:=HX.out
 clear HX hc hf hr hlt hc2 hf2 hr2 hlt2
 generalize V3.setCell ⟨w.heap.size,14,none⟩ (.slice s3.a d.targets.length s3.cap)=W4 at *
 refine(Kz _ _ _ _ (he.bu.later hB4)).mono ?_
 rintro e V4 ⟨s4,rfl,hb4,hd4⟩
 have hy4:=(hb4.block w.heap.size (by omega)).trans hx4
 obtain⟨hc,hf,hr,hlt⟩:=aC hy4
 have hx5:(V4.setCell ⟨w.heap.size,15,none⟩ (.slice s4.a d.bu.length s4.cap)).heap[w.heap.size]?=some (.cells (ae {r with parts:=s0,aliases:=s1,keys:=s2,targets:=s3,bu:=s4} d) 47):=(dF _ hy4).trans (by rfl)
 have wS:Below w.heap.size w (V4.setCell ⟨w.heap.size,15,none⟩ (.slice s4.a d.bu.length s4.cap)):=(ag hB4 hb4).setCell (Nat.le_refl _) _
 have Uk:aQ (V4.setCell ⟨w.heap.size,15,none⟩ (.slice s4.a d.bu.length s4.cap)) (w.heap.size+1) 0 17=true:=by rw[lQ hne,gI hb4 _ _ _ (by omega)];exact rf
 have hs5:w.heap.size+1<(V4.setCell ⟨w.heap.size,15,none⟩ (.slice s4.a d.bu.length s4.cap)).heap.size:=by have:=hb4.size;simp only[World.setCell,Array.size_modify];omega
 have Ul:bD (V4.setCell ⟨w.heap.size,15,none⟩ (.slice s4.a d.bu.length s4.cap)) (fun k=>w.heap.size+1<k∧k<(V4.setCell ⟨w.heap.size,15,none⟩ (.slice s4.a d.bu.length s4.cap)).heap.size) (fun x=>wQ w.heap.size x s0 d.name):=Ug.to (fun k hk=>by have h1:=hk.1;have h2:=hk.2;rw[Below.heap_setCell _ _ _ _ (by simp;omega)];exact hb4.block k h2) (fun k hk=>⟨hk.1,by have h2:=hk.2;have h3:=hb4.size;simp only[World.setCell,Array.size_modify];omega⟩)
 have Um:bD (V4.setCell ⟨w.heap.size,15,none⟩ (.slice s4.a d.bu.length s4.cap)) (fun k=>w.heap.size+1<k∧k<(V4.setCell ⟨w.heap.size,15,none⟩ (.slice s4.a d.bu.length s4.cap)).heap.size) (fun x=>yw w.heap.size x s1.a d.aliases):=Uh.to (fun k hk=>by have h1:=hk.1;have h2:=hk.2;rw[Below.heap_setCell _ _ _ _ (by simp;omega)];exact hb4.block k h2) (fun k hk=>⟨hk.1,by have h2:=hk.2;have h3:=hb4.size;simp only[World.setCell,Array.size_modify];omega⟩)
 have Un:bD (V4.setCell ⟨w.heap.size,15,none⟩ (.slice s4.a d.bu.length s4.cap)) (fun k=>w.heap.size+1<k∧k<(V4.setCell ⟨w.heap.size,15,none⟩ (.slice s4.a d.bu.length s4.cap)).heap.size) (fun x=>nV w.heap.size x s2.a d.keys):=Ui.to (fun k hk=>by have h1:=hk.1;have h2:=hk.2;rw[Below.heap_setCell _ _ _ _ (by simp;omega)];exact hb4.block k h2) (fun k hk=>⟨hk.1,by have h2:=hk.2;have h3:=hb4.size;simp only[World.setCell,Array.size_modify];omega⟩)
 have Uo:bD (V4.setCell ⟨w.heap.size,15,none⟩ (.slice s4.a d.bu.length s4.cap)) (fun k=>w.heap.size+1<k∧k<(V4.setCell ⟨w.heap.size,15,none⟩ (.slice s4.a d.bu.length s4.cap)).heap.size) (fun x=>fF x s3.a d.targets):=Uj.to (fun k hk=>by have h1:=hk.1;have h2:=hk.2;rw[Below.heap_setCell _ _ _ _ (by simp;omega)];exact hb4.block k h2) (fun k hk=>⟨hk.1,by have h2:=hk.2;have h3:=hb4.size;simp only[World.setCell,Array.size_modify];omega⟩)
 have Ur:bD (V4.setCell ⟨w.heap.size,15,none⟩ (.slice s4.a d.bu.length s4.cap)) (fun k=>w.heap.size+1<k∧k<(V4.setCell ⟨w.heap.size,15,none⟩ (.slice s4.a d.bu.length s4.cap)).heap.size) (fun x=>fF x s4.a d.bu):=hd4.to (fun k hk=>by have h1:=hk.1;first|exact iD (by omega)|exact Below.heap_setCell _ _ _ _ (by simp;omega)) (fun k hk=>⟨by have h1:=hk.1;omega,by have h2:=hk.2;first|(rw[kG];exact h2)|(simp only[World.setCell,Array.size_modify];exact h2)⟩)
 clear hx4 rf hs4 hy4 hb4 hd4 hB4 Ug Uh Ui Uj
 obtain⟨hc2,hf2,hr2,hlt2⟩:=aC hx5
 have HX:=Lib.hid hx5
 clear hx5
 go_wp2_with fail
 have hx5:=HX.out
 clear HX hc hf hr hlt hc2 hf2 hr2 hlt2
 generalize V4.setCell ⟨w.heap.size,15,none⟩ (.slice s4.a d.bu.length s4.cap)=W5 at *
 refine(agn _ _ _ _ (he.history.later wS)).mono ?_
 rintro e V5 ⟨s5,rfl,hb5,hd5⟩
 have Di:=(hb5.block w.heap.size (by omega)).trans hx5
 obtain⟨hc,hf,hr,hlt⟩:=aC Di
 have hx6:(V5.setCell ⟨w.heap.size,16,none⟩ (.slice s5.a d.history.length s5.cap)).heap[w.heap.size]?=some (.cells (ae {r with parts:=s0,aliases:=s1,keys:=s2,targets:=s3,bu:=s4,history:=s5} d) 47):=(dF _ Di).trans (by rfl)
 have hB6:Below w.heap.size w (V5.setCell ⟨w.heap.size,16,none⟩ (.slice s5.a d.history.length s5.cap)):=(ag wS hb5).setCell (Nat.le_refl _) _
 have KA:aQ (V5.setCell ⟨w.heap.size,16,none⟩ (.slice s5.a d.history.length s5.cap)) (w.heap.size+1) 0 17=true:=by rw[lQ hne,gI hb5 _ _ _ (by omega)];exact Uk
 have hs6:w.heap.size+1<(V5.setCell ⟨w.heap.size,16,none⟩ (.slice s5.a d.history.length s5.cap)).heap.size:=by have:=hb5.size;simp only[World.setCell,Array.size_modify];omega
 have agE:bD (V5.setCell ⟨w.heap.size,16,none⟩ (.slice s5.a d.history.length s5.cap)) (fun k=>w.heap.size+1<k∧k<(V5.setCell ⟨w.heap.size,16,none⟩ (.slice s5.a d.history.length s5.cap)).heap.size) (fun x=>wQ w.heap.size x s0 d.name):=Ul.to (fun k hk=>by have h1:=hk.1;have h2:=hk.2;rw[Below.heap_setCell _ _ _ _ (by simp;omega)];exact hb5.block k h2) (fun k hk=>⟨hk.1,by have h2:=hk.2;have h3:=hb5.size;simp only[World.setCell,Array.size_modify];omega⟩)
 have agF:bD (V5.setCell ⟨w.heap.size,16,none⟩ (.slice s5.a d.history.length s5.cap)) (fun k=>w.heap.size+1<k∧k<(V5.setCell ⟨w.heap.size,16,none⟩ (.slice s5.a d.history.length s5.cap)).heap.size) (fun x=>yw w.heap.size x s1.a d.aliases):=Um.to (fun k hk=>by have h1:=hk.1;have h2:=hk.2;rw[Below.heap_setCell _ _ _ _ (by simp;omega)];exact hb5.block k h2) (fun k hk=>⟨hk.1,by have h2:=hk.2;have h3:=hb5.size;simp only[World.setCell,Array.size_modify];omega⟩)
 have agG:bD (V5.setCell ⟨w.heap.size,16,none⟩ (.slice s5.a d.history.length s5.cap)) (fun k=>w.heap.size+1<k∧k<(V5.setCell ⟨w.heap.size,16,none⟩ (.slice s5.a d.history.length s5.cap)).heap.size) (fun x=>nV w.heap.size x s2.a d.keys):=Un.to (fun k hk=>by have h1:=hk.1;have h2:=hk.2;rw[Below.heap_setCell _ _ _ _ (by simp;omega)];exact hb5.block k h2) (fun k hk=>⟨hk.1,by have h2:=hk.2;have h3:=hb5.size;simp only[World.setCell,Array.size_modify];omega⟩)
 have agH:bD (V5.setCell ⟨w.heap.size,16,none⟩ (.slice s5.a d.history.length s5.cap)) (fun k=>w.heap.size+1<k∧k<(V5.setCell ⟨w.heap.size,16,none⟩ (.slice s5.a d.history.length s5.cap)).heap.size) (fun x=>fF x s3.a d.targets):=Uo.to (fun k hk=>by have h1:=hk.1;have h2:=hk.2;rw[Below.heap_setCell _ _ _ _ (by simp;omega)];exact hb5.block k h2) (fun k hk=>⟨hk.1,by have h2:=hk.2;have h3:=hb5.size;simp only[World.setCell,Array.size_modify];omega⟩)
 have agI:bD (V5.setCell ⟨w.heap.size,16,none⟩ (.slice s5.a d.history.length s5.cap)) (fun k=>w.heap.size+1<k∧k<(V5.setCell ⟨w.heap.size,16,none⟩ (.slice s5.a d.history.length s5.cap)).heap.size) (fun x=>fF x s4.a d.bu):=Ur.to (fun k hk=>by have h1:=hk.1;have h2:=hk.2;rw[Below.heap_setCell _ _ _ _ (by simp;omega)];exact hb5.block k h2) (fun k hk=>⟨hk.1,by have h2:=hk.2;have h3:=hb5.size;simp only[World.setCell,Array.size_modify];omega⟩)
 have agJ:bD (V5.setCell ⟨w.heap.size,16,none⟩ (.slice s5.a d.history.length s5.cap)) (fun k=>w.heap.size+1<k∧k<(V5.setCell ⟨w.heap.size,16,none⟩ (.slice s5.a d.history.length s5.cap)).heap.size) (fun x=>fG x s5.a d.history):=hd5.to (fun k hk=>by have h1:=hk.1;first|exact iD (by omega)|exact Below.heap_setCell _ _ _ _ (by simp;omega)) (fun k hk=>⟨by have h1:=hk.1;omega,by have h2:=hk.2;first|(rw[kG];exact h2)|(simp only[World.setCell,Array.size_modify];exact h2)⟩)
 clear hx5 Uk hs5 Di hb5 hd5 wS Ul Um Un Uo Ur
 obtain⟨hc2,hf2,hr2,hlt2⟩:=aC hx6
 have HX:=Lib.hid hx6
 clear hx6
 go_wp2_with fail
 have hrow:=iT (w:=V5.setCell ⟨w.heap.size,16,none⟩ (.slice s5.a d.history.length s5.cap)) (Cb {parts:=s0,aliases:=s1,keys:=s2,targets:=s3,bu:=s4,history:=s5} d) KA
 have hKK:∀k,w.heap.size+1<k∧k<(V5.setCell ⟨w.heap.size,16,none⟩ (.slice s5.a d.history.length s5.cap)).heap.size→(putRow (V5.setCell ⟨w.heap.size,16,none⟩ (.slice s5.a d.history.length s5.cap)) (w.heap.size+1) 0 (ae {parts:=s0,aliases:=s1,keys:=s2,targets:=s3,bu:=s4,history:=s5} d)).heap[k]?=(V5.setCell ⟨w.heap.size,16,none⟩ (.slice s5.a d.history.length s5.cap)).heap[k]?:=fun k hk=>iD (by omega)
 refine bodyPost_ret (Kv (by rfl) Tryz.underlying47 rfl (by kernel_rfl) rfl hrow) rfl ⟨{parts:=s0,aliases:=s1,keys:=s2,targets:=s3,bu:=s4,history:=s5},rfl,Go.WW.Below.putRow hB6 (by omega),?_⟩
 intro x hx
 have hX:=fun k (hk:w.heap.size+1<k∧k<(V5.setCell ⟨w.heap.size,16,none⟩ (.slice s5.a d.history.length s5.cap)).heap.size)=>(hx k ⟨by omega,by rw[kG];exact hk.2⟩).trans (hKK k hk)
 have e0:=agE _ hX
 have e1:=agF _ hX
 have e2:=agG _ hX
 exact⟨⟨e0.1,e1.1,e2.at_,agH _ hX,agI _ hX,agJ _ hX,he.aO,he.attrs⟩,e0.2,e1.2,e2⟩
theorem agL(r:aN)(d:Entry)(w:World)(he:bJ w r d):Calls Tryz.prog 67 #[.agg (ae r d)] w (agp w d):=
 (TZ r d w he).mono fun _ _ ⟨r',h1,h2,h3⟩=>⟨r',h1,h2,fun x hx=>(h3 x hx).at_⟩
end Go.Proofs.YtfieenjdcpjmgaaGreatDoor
namespace Go.WW
open Go.RowKit
def agM(d:Entry)(p:ah)(s:Bool)(now:Int):Int:=if s then 0 else min (countOf d p now+1) 65535
def agN(d:Entry)(s:Bool)(now:Int):Int:=if s then d.eY else now
def agO(d:Entry)(s:Bool)(now:Int):Int:=if s then now else d.gy
def apm(d:Entry)(p:ah)(s:Bool)(now:Int):Entry:={d with fails:=agM d p s now,eY:=agN d s now,gy:=agO d s now}
def pX:Sl:=⟨none,0⟩
def dh:aN:=⟨pX,pX,pX,pX,pX,pX⟩
def bI:Entry:=⟨⟨[],⟨#[]⟩⟩,[],0,0,[],⟨#[]⟩,0,0,0,0,0,0,0,[],[],[]⟩
theorem rq:ae dh bI=#[.slice none 0 0,.string ⟨#[]⟩,.slice none 0 0,.int .u32 0,.int .i64 0,.slice none 0 0,.string ⟨#[]⟩,.int .i64 0,.int .i64 0,.int .i64 0,.int .i64 0,.int .i64 0,.int .i64 0,.int .i64 0,.slice none 0 0,.slice none 0 0,.slice none 0 0]:=rfl
theorem Us(w:World):bJ w dh bI:=
 ⟨⟨⟨by simp[bI,lim],fun i hi=>by simp[bI]at hi⟩,Nat.zero_le _⟩,⟨by simp[bI,lim],fun i hi=>by simp[bI]at hi⟩,⟨by simp[bI,lim],fun i hi=>by simp[bI]at hi⟩,⟨by simp[bI,lim],fun i hi=>by simp[bI]at hi⟩,⟨by simp[bI,lim],fun i hi=>by simp[bI]at hi⟩,⟨by simp[bI,lim],fun i hi=>by simp[bI]at hi⟩,Nat.zero_le _,by simp[bI]⟩
def apn(w:World)(d:Entry)(no:Int)(e:Ending)(w':World):Prop:=∃r,e=.returned (.tuple #[.agg (ae r d),.int .i64 no])∧Below w.heap.size w w'∧bD w' (fresh w.heap.size w') (fun x=>bJ x r d)
end Go.WW
namespace Go.Proofs.YtfieenjdcpjmgaaGreatDoor
open Go.RowKit Go.WW
theorem agP(w:World):(jf 47 #[]).run Tryz.prog w=.ok (.value (.agg (ae dh bI))) w:=by kernel_rfl
attribute [go_sem] agP
end Go.Proofs.YtfieenjdcpjmgaaGreatDoor
