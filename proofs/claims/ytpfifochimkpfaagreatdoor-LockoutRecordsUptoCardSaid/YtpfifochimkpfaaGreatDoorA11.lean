/- A part of the proof. -/
import Derived.Test.YtpfifochimkpfaaGreatDoorA10
set_option maxRecDepth 100000
set_option maxHeartbeats 4000000
namespace Go.WW
open Go.RowKit
def jU(m:Nat)(w:World)(a:Option Addr)(n k:Nat):Prop:=∀i,i<n→∃b o,a=some ⟨b,o,Option.none⟩∧m≤b∧aX w b (o+i*k) k=true
theorem jU.zero{m:Nat}{w:World}{a:Option Addr}{k:Nat}:jU m w a 0 k:=fun _ h=>absurd h (Nat.not_lt_zero _)
theorem jU.le{m m':Nat}{w:World}{a:Option Addr}{n k:Nat}(h:jU m w a n k)(hm:m'≤m):jU m' w a n k:=fun i hi=>by
 obtain⟨b,o,e,h1,h2⟩:=h i hi
 exact⟨b,o,e,Nat.le_trans hm h1,h2⟩
theorem jU.iM{w:World}{base k:Nat}{e:TypeId}{s:Sl}{rows:List (Array Value)}(h:Own w base e k s rows){n:Nat}(hn:rows.length=n):jU base w s.a n k:=by
 subst hn
 intro i hi
 rcases h.own.2 with⟨_,hn⟩|⟨g,cap,cur,hv,hb,hh,hle,_,hsz,_⟩
 ·omega
 ·have ha:s.a=some ⟨g,0,none⟩:=by injection hv
  refine⟨g,0,ha,hb,iC hh ?_⟩
  rw[hsz,Nat.zero_add,←Nat.succ_mul]
  exact Nat.le_trans (Nat.mul_le_mul_right _ hi) (Nat.mul_le_mul_right _ hle)
def aeH(m:Nat)(w:World)(a:Option Addr)(l:List ByteArray):Prop:=jH w a l∧jU m w a l.length 1
def CY(m:Nat)(w:World)(a:Option Addr)(l:List UInt8):Prop:=BytesAt w a l∧jU m w a l.length 1
def xg(m:Nat)(w:World)(s:Sl)(p:aH):Prop:=bK w s p∧jU m w s.a p.parts.length 1
def yG(m:Nat)(w:World)(a:Option Addr)(l:List aH):Prop:=fQ w a l∧jU m w a l.length 2
def vG(m:Nat)(w:World)(s:Sl)(k:Key):Prop:=CY m w s.a k.bytes
def yH(m:Nat)(w:World)(a:Option Addr)(l:List Key):Prop:=bH w 3 a l.length fun i cs=>∃p s,l[i]?=some p∧cs=dD s p∧vG m w s p
def xh(m:Nat)(w:World)(s:Sl)(k:bP):Prop:=yH m w s.a k.keys∧k.dK.size≤lim
def pY(m:Nat)(w:World)(a:Option Addr)(l:List bP):Prop:=(bH w 5 a l.length fun i cs=>∃p s,l[i]?=some p∧cs=bY s p∧xh m w s p)∧jU m w a l.length 5
structure aeI(m:Nat)(w:World)(r:aK)(d:Entry):Prop where
 at_:aS w r d
 name:jU m w r.parts.a d.name.parts.length 1
 aliases:jU m w r.aliases.a d.aliases.length 2
 keys:pY m w r.keys.a d.keys
theorem bH.imp{w:World}{k:Nat}{a:Option Addr}{n:Nat}{R R':Nat→Array Value→Prop}(h:bH w k a n R)(hR:∀i cs,R i cs→R' i cs):bH w k a n R':=
 ⟨h.1,fun i hi=>by obtain⟨b,o,cs,h1,h2,h3⟩:=h.2 i hi;exact⟨b,o,cs,h1,h2,hR i cs h3⟩⟩
theorem CY.le{m m':Nat}{w:World}{a:Option Addr}{l:List UInt8}(h:CY m w a l)(hm:m'≤m):CY m' w a l:=⟨h.1,h.2.le hm⟩
theorem vG.le{m m':Nat}{w:World}{s:Sl}{k:Key}(h:vG m w s k)(hm:m'≤m):vG m' w s k:=⟨h.1,h.2.le hm⟩
theorem yH.le{m m':Nat}{w:World}{a:Option Addr}{l:List Key}(h:yH m w a l)(hm:m'≤m):yH m' w a l:=bH.imp h fun _ _ ⟨p,s,h1,h2,h3⟩=>⟨p,s,h1,h2,h3.le hm⟩
theorem xh.le{m m':Nat}{w:World}{s:Sl}{k:bP}(h:xh m w s k)(hm:m'≤m):xh m' w s k:=⟨h.1.le hm,h.2⟩
theorem yH.at_{m:Nat}{w:World}{a:Option Addr}{l:List Key}(h:yH m w a l):kF w a l:=bH.imp h fun _ _ ⟨p,s,h1,h2,h3⟩=>⟨p,s,h1,h2,h3.1⟩
theorem xh.at_{m:Nat}{w:World}{s:Sl}{k:bP}(h:xh m w s k):kG w s k:=⟨h.1.at_,h.2⟩
theorem pY.at_{m:Nat}{w:World}{a:Option Addr}{l:List bP}(h:pY m w a l):lL w a l:=bH.imp h.1 fun _ _ ⟨p,s,h1,h2,h3⟩=>⟨p,s,h1,h2,h3.at_⟩
def Sz(w:World)(l:List ByteArray)(e:Ending)(w':World):Prop:=
 ∃s:Sl,e=.returned (.slice s.a l.length s.cap)∧Below w.heap.size w w'∧bu w' (fresh w.heap.size w') (fun x=>aeH w.heap.size x s.a l)
def SA(w:World)(l:List UInt8)(e:Ending)(w':World):Prop:=
 ∃s:Sl,e=.returned (.slice s.a l.length s.cap)∧Below w.heap.size w w'∧bu w' (fresh w.heap.size w') (fun x=>CY w.heap.size x s.a l)
theorem aeJ{w w':World}{e:TypeId}{s:Sl}{rows:List (Array Value)}{l:List ByteArray}(h:Own w' w.heap.size e 1 s rows)(hl:rows.length=l.length)(hn:l.length≤lim)(hb:Below w.heap.size w w')
  (hR:∀i (hi:i<rows.length),∃v,rows[i]=#[v]∧∃s,l[i]?=some s∧v=.string s∧s.size≤lim):Sz w l (.returned (.slice s.a l.length s.cap)) w':=
 ⟨s,rfl,hb,fun _ hx=>⟨dO.iM (h.fresh hx) hl hn hR,jU.iM (h.fresh hx) hl⟩⟩
theorem aeK{w w':World}{e:TypeId}{s:Sl}{rows:List (Array Value)}{l:List UInt8}(h:Own w' w.heap.size e 1 s rows)(hl:rows.length=l.length)(hn:l.length≤lim)(hb:Below w.heap.size w w')
  (hR:∀i (hi:i<rows.length),∃v,rows[i]=#[v]∧∃c,l[i]?=some c∧v=.int .u8 c.toNat):SA w l (.returned (.slice s.a l.length s.cap)) w':=
 ⟨s,rfl,hb,fun _ hx=>⟨dO.iM (h.fresh hx) hl hn hR,jU.iM (h.fresh hx) hl⟩⟩
def aeL(w:World)(p:aH)(e:Ending)(w':World):Prop:=
 ∃s:Sl,e=.returned (.agg (az s p))∧Below w.heap.size w w'∧bu w' (fresh w.heap.size w') (fun x=>xg w.heap.size x s p)
def aeM(w:World)(k:Key)(e:Ending)(w':World):Prop:=
 ∃s:Sl,e=.returned (.agg (dD s k))∧Below w.heap.size w w'∧bu w' (fresh w.heap.size w') (fun x=>vG w.heap.size x s k)
end Go.WW
namespace Go.Proofs.YtpfifochimkpfaaGreatDoor
open Go.RowKit Go.WW
theorem aeN(a:Option Addr)(cap:Nat)(l:List ByteArray)(w:World)(hl:jH w a l):Calls Tryz.prog 162 #[.slice a l.length cap] w (Sz w l):=by
 have hn:l.length≤4294967000:=hl.1
 cases a with
 |none=>
  obtain rfl:l=[]:=List.eq_nil_of_length_eq_zero (dO.none hl)
  go_enter Tryz.func162,Tryz.ntmps162
  go_wp2_with fail
  go_ret
  exact⟨⟨none,0⟩,rfl,Below.refl _ _,fun x _=>⟨⟨by simp[lim],fun i hi=>by simp at hi⟩,jU.zero⟩⟩
 |some ad=>
  obtain⟨rows,hlr,o8,hrR⟩:=dO.src hl aev
  have hown:=Own.empty w 9 1
  have HS:=o8.later ((Below.refl _ w).alloc (Nat.le_refl _) (.cells #[] 9))
  have lS:=Lib.hid hlr
  have HRR:=Lib.hid hrR
  have hln:l.length≤lim:=hl.1
  have CV:=Lib.hid hln
  clear hlr hrR hl o8 hln
  go_enter Tryz.func162,Tryz.ntmps162
  go_wp2_with (at_builtin;refine gW rfl (.tmp 5) (.tmp 6) _ rfl aeA (n:=0) (s:=⟨some ⟨w.heap.size,0,none⟩,0⟩) rfl rfl hown rfl lS.out.symm HS (by rw[lS.out];simp;omega) (by simp) ?_;intro s3 w3 hown3 hg3 iD)
  go_ret
  have hb3:Below w.heap.size w w3:=((Below.refl _ w).alloc (Nat.le_refl _) _).grown hg3 (by simp) (fun k e=>by cases e;exact Nat.le_refl _)
  have:=aeJ (l:=l) hown3 (by simpa using lS.out) CV.out hb3 (fun i hi=>by simpa using HRR.out i (by simpa using hi))
  simpa using this
theorem aeO(a:Option Addr)(cap:Nat)(l:List UInt8)(w:World)(hl:BytesAt w a l):Calls Tryz.prog 199 #[.slice a l.length cap] w (SA w l):=by
 have hn:l.length≤4294967000:=hl.1
 cases a with
 |none=>
  obtain rfl:l=[]:=List.eq_nil_of_length_eq_zero (dO.none hl)
  go_enter Tryz.func199,Tryz.ntmps199
  go_wp2_with fail
  go_ret
  exact⟨⟨none,0⟩,rfl,Below.refl _ _,fun x _=>⟨⟨by simp[lim],fun i hi=>by simp at hi⟩,jU.zero⟩⟩
 |some ad=>
  obtain⟨rows,hlr,o8,hrR⟩:=dO.src hl J9
  have hown:=Own.empty w 5 1
  have HS:=o8.later ((Below.refl _ w).alloc (Nat.le_refl _) (.cells #[] 5))
  have lS:=Lib.hid hlr
  have HRR:=Lib.hid hrR
  have hln:l.length≤lim:=hl.1
  have CV:=Lib.hid hln
  clear hlr hrR hl o8 hln
  go_enter Tryz.func199,Tryz.ntmps199
  go_wp2_with (at_builtin;refine gW rfl (.tmp 5) (.tmp 6) _ rfl eP (n:=0) (s:=⟨some ⟨w.heap.size,0,none⟩,0⟩) rfl rfl hown rfl lS.out.symm HS (by rw[lS.out];simp;omega) (by simp) ?_;intro s3 w3 hown3 hg3 iD)
  go_ret
  have hb3:Below w.heap.size w w3:=((Below.refl _ w).alloc (Nat.le_refl _) _).grown hg3 (by simp) (fun k e=>by cases e;exact Nat.le_refl _)
  have:=aeK (l:=l) hown3 (by simpa using lS.out) CV.out hb3 (fun i hi=>by simpa using HRR.out i (by simpa using hi))
  simpa using this
theorem Ko(s:Sl)(p:aH)(w:World)(hp:bK w s p):Calls Tryz.prog 103 #[.agg (az s p)] w (aeL w p):=by
 obtain⟨Z,hZ⟩:∃Z:Array Value,Z=#[.slice none 0 0,.string ⟨#[]⟩]:=⟨_,rfl⟩
 have hB:Below w.heap.size w ((w.alloc (.cells (az s p) 35)).alloc (.cells Z 35)):=((Below.refl _ w).alloc (Nat.le_refl _) _).alloc (by simp) _
 have hq:jH ((w.alloc (.cells (az s p) 35)).alloc (.cells Z 35)) s.a p.parts:=hp.1.later hB
 have hrl:=hp.2
 subst hZ
 go_enter Tryz.func103,Tryz.ntmps103
 go_wp2_with fail
 refine(aeN _ _ _ _ hq).mono ?_
 rintro e w2 ⟨s',rfl,hb2,hd2⟩
 have hblk:=dH (o:=0) (.slice s'.a p.parts.length s'.cap) ((hb2.block w.heap.size (by simp;omega)).trans (kS w _ _))
 have hrow:row? (w2.setCell ⟨w.heap.size,0,none⟩ (.slice s'.a p.parts.length s'.cap)) w.heap.size 0 2=some (az s' p):=by rw[dI hblk];rfl
 obtain⟨hcc,bf,hrr⟩:=aQ hb2
 have hpp:=fD hb2
 have hsz:w.heap.size+1<w2.heap.size:=by have:=hb2.size;simp at this;omega
 have hsz0:w.heap.size<w2.heap.size:=by omega
 have hne:w.heap.size+1≠w.heap.size:=by omega
 clear hblk
 go_wp2_with fail
 refine bodyPost_ret (v:=.agg (az s' p)) (by simp[results,Tryz.results103,go_sem, *];rfl) rfl ⟨s',rfl,?_,?_⟩
 ·exact Go.WW.Below.putRow ((hB.trans (hb2.mono hB.size)).setCell (by simp) _) (by omega)
 ·have hls:=hB.size
  refine bu.to (fun x hx=>⟨⟨(hd2 x hx).1,hrl⟩,(hd2 x hx).2.le hls⟩) (fun j hj=>?_) (fun j hj=>?_)
  ·have h1:=hj.1
   simp at h1
   rw[gU (by omega),Below.heap_setCell _ _ _ _ (by simp;omega)]
  ·have h1:=hj.1
   have h2:=hj.2
   simp at h1
   exact⟨by omega,by rw[gV];simpa[World.setCell]using h2⟩
theorem aeP(s:Sl)(p:Key)(w:World)(hp:mg w s p):Calls Tryz.prog 164 #[.agg (dD s p)] w (aeM w p):=by
 obtain⟨Z,hZ⟩:∃Z:Array Value,Z=#[.int .i64 0,.int .i64 0,.slice none 0 0]:=⟨_,rfl⟩
 have hB:Below w.heap.size w ((w.alloc (.cells (dD s p) 176)).alloc (.cells Z 176)):=((Below.refl _ w).alloc (Nat.le_refl _) _).alloc (by simp) _
 have hq:BytesAt ((w.alloc (.cells (dD s p) 176)).alloc (.cells Z 176)) s.a p.bytes:=BytesAt.later hB hp
 subst hZ
 go_enter Tryz.func164,Tryz.ntmps164
 go_wp2_with fail
 refine(aeO _ _ _ _ hq).mono ?_
 rintro e w2 ⟨s',rfl,hb2,hd2⟩
 have hblk:=dH (o:=2) (.slice s'.a p.bytes.length s'.cap) ((hb2.block w.heap.size (by simp;omega)).trans (kS w _ _))
 have hrow:row? (w2.setCell ⟨w.heap.size,2,none⟩ (.slice s'.a p.bytes.length s'.cap)) w.heap.size 0 3=some (dD s' p):=by rw[dI hblk];rfl
 obtain⟨hcc,bf,hrr⟩:=aQ hb2
 have hpp:=fD hb2
 have hsz:w.heap.size+1<w2.heap.size:=by have:=hb2.size;simp at this;omega
 have hsz0:w.heap.size<w2.heap.size:=by omega
 have hne:w.heap.size+1≠w.heap.size:=by omega
 clear hblk
 go_wp2_with fail
 refine bodyPost_ret (v:=.agg (dD s' p)) (by simp[results,Tryz.results164,go_sem, *];rfl) rfl ⟨s',rfl,?_,?_⟩
 ·exact Go.WW.Below.putRow ((hB.trans (hb2.mono hB.size)).setCell (by simp) _) (by omega)
 ·have hls:=hB.size
  refine bu.to (Φ:=fun x=>vG w.heap.size x s' p) (fun x hx=>(hd2 x hx).le hls) (fun j hj=>?_) (fun j hj=>?_)
  ·have h1:=hj.1
   simp at h1
   rw[gU (by omega),Below.heap_setCell _ _ _ _ (by simp;omega)]
  ·have h1:=hj.1
   have h2:=hj.2
   simp at h1
   exact⟨by omega,by rw[gV];simpa[World.setCell]using h2⟩
end Go.Proofs.YtpfifochimkpfaaGreatDoor
namespace Go.WW
open Go.RowKit
theorem vG.lt{m:Nat}{w:World}{s:Sl}{k:Key}(h:vG m w s k):mg w s k:=h.1
end Go.WW
namespace Go.Proofs.YtpfifochimkpfaaGreatDoor
open Go.RowKit Go.WW
def SB(_:Nat)(l:List aH)(x:World)(i:Nat)(cs:Array Value):Prop:=∃p s,l[i]?=some p∧cs=az s p∧bK x s p
theorem SC(a:Option Addr)(cap:Nat)(l:List aH)(w:World)(hl:fQ w a l) :
  Calls Tryz.prog 104 #[.slice a l.length cap,.func (.func 103) #[] #[]] w (CW (fun x s=>yG w.heap.size x s.a l) l.length w):=by
 have hn:l.length≤4294967000:=hl.1
 rcases bH.addr hl with h0|⟨b,o,rfl,hb⟩
 ·obtain rfl:l=[]:=List.eq_nil_of_length_eq_zero h0
  go_enter Tryz.func104,Tryz.ntmps104
  go_wp2_with fail
  refine wp_loop_rounds 1 ?_
  rw[rounds_succ]
  go_wp2_with fail
  go_ret
  exact⟨⟨none,0⟩,rfl,Below.refl _ _,fun x _=>⟨⟨by simp[lim],fun i hi=>by simp at hi⟩,jU.zero⟩⟩
 go_enter Tryz.func104,Tryz.ntmps104
 go_wp2_with fail
 go_loopw [5,10] (fun ov i wr=>∃(k:Nat) (so:Sl) (rows:List (Array Value)),k≤l.length∧i=.int .i64 k∧ov=.slice so.a k so.cap∧Hid (rows.length=k)∧Below w.heap.size w wr∧jZ 35 2 (SB w.heap.size l) wr w.heap.size so rows) (fun _ i _=>l.length-(intOf i).toNat)
 case atStart=>exact⟨0,⟨none,0⟩,[],Nat.zero_le _,rfl,rfl,rfl,Below.refl _ _,jZ.nil _ _ _ _ _⟩
 case round=>
  obtain⟨k,so,rows,hk,rfl,rfl,hlr,hbr,hC⟩:=hrel
  by_cases hlt:k<l.length
  ·obtain⟨t,hc,hp⟩:=hl.at k hlt
   obtain⟨hcc,bf,hrr⟩:=aQ hbr
   go_wp2_with fail
   have hb1:Below wr.heap.size wr (wr.alloc (.cells (az t l[k]) 35)):=(Below.refl _ wr).alloc (Nat.le_refl _) _
   have hls:w.heap.size≤(wr.alloc (.cells (az t l[k]) 35)).heap.size:=by have:=hbr.size;simp;omega
   refine(Ko _ _ _ (hp.later (ag hbr hb1))).mono ?_
   rintro e w2 ⟨s',rfl,hb2,hd2⟩
   have hr2:=ag hb1 hb2
   have hown:=hC.carry hr2 (.cells (az s' l[k]) 35)
   clear hcc bf hrr
   go_wp2_with (at_builtin;refine gW rfl (.tmp 14) (.tmp 18) _ rfl Su (n:=k) rfl hlr.out.symm hown rfl rfl (cO.new _ (az s' l[k]) _ _ (by simp[go_sem]) (by simp[go_sem])) (by have:=hlr.out;rw[this];simp;omega) (by have h9:=hbr.size;have h8:=hr2.size;simp;omega) ?_;intro s3 w3 hown3 hg3 iD)
   have yF:=hC.step hb1 hb2 (o:=.cells (az s' l[k]) 35) (R:=SB w.heap.size l) (fun x hx=>⟨l[k],s',by rw[hlr.out];exact List.getElem?_eq_getElem hlt,rfl,(hd2 x hx).1⟩) hown3 hg3 iD hbr.size
   have hb3:=CX hC hbr hb1 hb2 hg3
   have HL:=Lib.hid (show(rows++[(az s' l[k])]).length=k+1 by have:=hlr.out;simp[this])
   clear hown hown3 hg3 iD hC hd2 hr2 hb1 hb2 hlr
   go_wp2_with fail
   go_roundw
   case rel=>exact⟨k+1,s3,_,by omega,by go_num,rfl,HL.out,hb3,yF⟩
   case measure=>simp[intOf];omega
  ·obtain rfl:k=l.length:=by omega
   go_wp2_with fail
   go_ret
   exact⟨so,rfl,hbr,fun x hx=>⟨hC.done hlr.out hl.1 x hx,jU.iM (hC.own.fresh hx) hlr.out⟩⟩
def SE(m:Nat)(l:List Key)(x:World)(i:Nat)(cs:Array Value):Prop:=∃p s,l[i]?=some p∧cs=dD s p∧vG m x s p
theorem aeQ(a:Option Addr)(cap:Nat)(l:List Key)(w:World)(hl:kF w a l) :
  Calls Tryz.prog 163 #[.slice a l.length cap,.func (.func 164) #[] #[]] w (CW (fun x s=>yH w.heap.size x s.a l) l.length w):=by
 have hn:l.length≤4294967000:=hl.1
 rcases bH.addr hl with h0|⟨b,o,rfl,hb⟩
 ·obtain rfl:l=[]:=List.eq_nil_of_length_eq_zero h0
  go_enter Tryz.func163,Tryz.ntmps163
  go_wp2_with fail
  refine wp_loop_rounds 1 ?_
  rw[rounds_succ]
  go_wp2_with fail
  go_ret
  exact⟨⟨none,0⟩,rfl,Below.refl _ _,fun x _=>⟨by simp[lim],fun i hi=>by simp at hi⟩⟩
 go_enter Tryz.func163,Tryz.ntmps163
 go_wp2_with fail
 go_loopw [5,10] (fun ov i wr=>∃(k:Nat) (so:Sl) (rows:List (Array Value)),k≤l.length∧i=.int .i64 k∧ov=.slice so.a k so.cap∧Hid (rows.length=k)∧Below w.heap.size w wr∧jZ 176 3 (SE w.heap.size l) wr w.heap.size so rows) (fun _ i _=>l.length-(intOf i).toNat)
 case atStart=>exact⟨0,⟨none,0⟩,[],Nat.zero_le _,rfl,rfl,rfl,Below.refl _ _,jZ.nil _ _ _ _ _⟩
 case round=>
  obtain⟨k,so,rows,hk,rfl,rfl,hlr,hbr,hC⟩:=hrel
  by_cases hlt:k<l.length
  ·obtain⟨t,hc,hp⟩:=hl.at k hlt
   obtain⟨hcc,bf,hrr⟩:=aQ hbr
   go_wp2_with fail
   have hb1:Below wr.heap.size wr (wr.alloc (.cells (dD t l[k]) 176)):=(Below.refl _ wr).alloc (Nat.le_refl _) _
   have hls:w.heap.size≤(wr.alloc (.cells (dD t l[k]) 176)).heap.size:=by have:=hbr.size;simp;omega
   refine(aeP _ _ _ (hp.later (ag hbr hb1))).mono ?_
   rintro e w2 ⟨s',rfl,hb2,hd2⟩
   have hr2:=ag hb1 hb2
   have hown:=hC.carry hr2 (.cells (dD s' l[k]) 176)
   clear hcc bf hrr
   go_wp2_with (at_builtin;refine gW rfl (.tmp 14) (.tmp 18) _ rfl aeD (n:=k) rfl hlr.out.symm hown rfl rfl (cO.new _ (dD s' l[k]) _ _ (by simp[go_sem]) (by simp[go_sem])) (by have:=hlr.out;rw[this];simp;omega) (by have h9:=hbr.size;have h8:=hr2.size;simp;omega) ?_;intro s3 w3 hown3 hg3 iD)
   have yF:=hC.step hb1 hb2 (o:=.cells (dD s' l[k]) 176) (R:=SE w.heap.size l) (fun x hx=>⟨l[k],s',by rw[hlr.out];exact List.getElem?_eq_getElem hlt,rfl,(hd2 x hx).le hls⟩) hown3 hg3 iD hbr.size
   have hb3:=CX hC hbr hb1 hb2 hg3
   have HL:=Lib.hid (show(rows++[(dD s' l[k])]).length=k+1 by have:=hlr.out;simp[this])
   clear hown hown3 hg3 iD hC hd2 hr2 hb1 hb2 hlr
   go_wp2_with fail
   go_roundw
   case rel=>exact⟨k+1,s3,_,by omega,by go_num,rfl,HL.out,hb3,yF⟩
   case measure=>simp[intOf];omega
  ·obtain rfl:k=l.length:=by omega
   go_wp2_with fail
   go_ret
   exact⟨so,rfl,hbr,hC.done hlr.out hl.1⟩
def aeR(w:World)(k:bP)(e:Ending)(w':World):Prop:=
 ∃s:Sl,e=.returned (.agg (bY s k))∧Below w.heap.size w w'∧bu w' (fresh w.heap.size w') (fun x=>xh w.heap.size x s k)
theorem aeS(s:Sl)(p:bP)(w:World)(hp:kG w s p):Calls Tryz.prog 106 #[.agg (bY s p)] w (aeR w p):=by
 obtain⟨Z,hZ⟩:∃Z:Array Value,Z=#[.int .i64 0,.slice none 0 0,.string ⟨#[]⟩,.int .i64 0,.int .i64 0]:=⟨_,rfl⟩
 have hB:Below w.heap.size w ((w.alloc (.cells (bY s p) 80)).alloc (.cells Z 80)):=((Below.refl _ w).alloc (Nat.le_refl _) _).alloc (by simp) _
 have hq:kF ((w.alloc (.cells (bY s p) 80)).alloc (.cells Z 80)) s.a p.keys:=hp.1.later hB
 have hrl:=hp.2
 subst hZ
 go_enter Tryz.func106,Tryz.ntmps106
 go_wp2_with fail
 refine(aeQ _ _ _ _ hq).mono ?_
 rintro e w2 ⟨s',rfl,hb2,hd2⟩
 have hblk:=dH (o:=1) (.slice s'.a p.keys.length s'.cap) ((hb2.block w.heap.size (by simp;omega)).trans (kS w _ _))
 have hrow:row? (w2.setCell ⟨w.heap.size,1,none⟩ (.slice s'.a p.keys.length s'.cap)) w.heap.size 0 5=some (bY s' p):=by rw[dI hblk];rfl
 obtain⟨hcc,bf,hrr⟩:=aQ hb2
 have hpp:=fD hb2
 have hsz:w.heap.size+1<w2.heap.size:=by have:=hb2.size;simp at this;omega
 have hsz0:w.heap.size<w2.heap.size:=by omega
 have hne:w.heap.size+1≠w.heap.size:=by omega
 clear hblk
 go_wp2_with fail
 refine bodyPost_ret (v:=.agg (bY s' p)) (by simp[results,Tryz.results106,go_sem, *];rfl) rfl ⟨s',rfl,?_,?_⟩
 ·exact Go.WW.Below.putRow ((hB.trans (hb2.mono hB.size)).setCell (by simp) _) (by omega)
 ·have hls:=hB.size
  refine bu.to (fun x hx=>⟨(hd2 x hx).le hls,hrl⟩) (fun j hj=>?_) (fun j hj=>?_)
  ·have h1:=hj.1
   simp at h1
   rw[gU (by omega),Below.heap_setCell _ _ _ _ (by simp;omega)]
  ·have h1:=hj.1
   have h2:=hj.2
   simp at h1
   exact⟨by omega,by rw[gV];simpa[World.setCell]using h2⟩
def SG(m:Nat)(l:List bP)(x:World)(i:Nat)(cs:Array Value):Prop:=∃p s,l[i]?=some p∧cs=bY s p∧xh m x s p
theorem aeT(a:Option Addr)(cap:Nat)(l:List bP)(w:World)(hl:lL w a l) :
  Calls Tryz.prog 105 #[.slice a l.length cap,.func (.func 106) #[] #[]] w (CW (fun x s=>pY w.heap.size x s.a l) l.length w):=by
 have hn:l.length≤4294967000:=hl.1
 rcases bH.addr hl with h0|⟨b,o,rfl,hb⟩
 ·obtain rfl:l=[]:=List.eq_nil_of_length_eq_zero h0
  go_enter Tryz.func105,Tryz.ntmps105
  go_wp2_with fail
  refine wp_loop_rounds 1 ?_
  rw[rounds_succ]
  go_wp2_with fail
  go_ret
  exact⟨⟨none,0⟩,rfl,Below.refl _ _,fun x _=>⟨⟨by simp[lim],fun i hi=>by simp at hi⟩,jU.zero⟩⟩
 go_enter Tryz.func105,Tryz.ntmps105
 go_wp2_with fail
 go_loopw [5,10] (fun ov i wr=>∃(k:Nat) (so:Sl) (rows:List (Array Value)),k≤l.length∧i=.int .i64 k∧ov=.slice so.a k so.cap∧Hid (rows.length=k)∧Below w.heap.size w wr∧jZ 80 5 (SG w.heap.size l) wr w.heap.size so rows) (fun _ i _=>l.length-(intOf i).toNat)
 case atStart=>exact⟨0,⟨none,0⟩,[],Nat.zero_le _,rfl,rfl,rfl,Below.refl _ _,jZ.nil _ _ _ _ _⟩
 case round=>
  obtain⟨k,so,rows,hk,rfl,rfl,hlr,hbr,hC⟩:=hrel
  by_cases hlt:k<l.length
  ·obtain⟨t,hc,hp⟩:=hl.at k hlt
   obtain⟨hcc,bf,hrr⟩:=aQ hbr
   go_wp2_with fail
   have hb1:Below wr.heap.size wr (wr.alloc (.cells (bY t l[k]) 80)):=(Below.refl _ wr).alloc (Nat.le_refl _) _
   have hls:w.heap.size≤(wr.alloc (.cells (bY t l[k]) 80)).heap.size:=by have:=hbr.size;simp;omega
   refine(aeS _ _ _ (hp.later (ag hbr hb1))).mono ?_
   rintro e w2 ⟨s',rfl,hb2,hd2⟩
   have hr2:=ag hb1 hb2
   have hown:=hC.carry hr2 (.cells (bY s' l[k]) 80)
   clear hcc bf hrr
   go_wp2_with (at_builtin;refine gW rfl (.tmp 14) (.tmp 18) _ rfl aeE (n:=k) rfl hlr.out.symm hown rfl rfl (cO.new _ (bY s' l[k]) _ _ (by simp[go_sem]) (by simp[go_sem])) (by have:=hlr.out;rw[this];simp;omega) (by have h9:=hbr.size;have h8:=hr2.size;simp;omega) ?_;intro s3 w3 hown3 hg3 iD)
   have yF:=hC.step hb1 hb2 (o:=.cells (bY s' l[k]) 80) (R:=SG w.heap.size l) (fun x hx=>⟨l[k],s',by rw[hlr.out];exact List.getElem?_eq_getElem hlt,rfl,(hd2 x hx).le hls⟩) hown3 hg3 iD hbr.size
   have hb3:=CX hC hbr hb1 hb2 hg3
   have HL:=Lib.hid (show(rows++[(bY s' l[k])]).length=k+1 by have:=hlr.out;simp[this])
   clear hown hown3 hg3 iD hC hd2 hr2 hb1 hb2 hlr
   go_wp2_with fail
   go_roundw
   case rel=>exact⟨k+1,s3,_,by omega,by go_num,rfl,HL.out,hb3,yF⟩
   case measure=>simp[intOf];omega
  ·obtain rfl:k=l.length:=by omega
   go_wp2_with fail
   go_ret
   exact⟨so,rfl,hbr,fun x hx=>⟨hC.done hlr.out hl.1 x hx,jU.iM (hC.own.fresh hx) hlr.out⟩⟩
theorem SH(s:Sl)(p:aH)(w:World)(hp:bK w s p):Calls Tryz.prog 103 #[.agg (az s p)] w (aeC w p):=
 (Ko s p w hp).mono fun _ _ ⟨s',h1,h2,h3⟩=>⟨s',h1,h2,fun x hx=>(h3 x hx).1⟩
theorem Kq(a:Option Addr)(cap:Nat)(l:List aH)(w:World)(hl:fQ w a l) :
  Calls Tryz.prog 104 #[.slice a l.length cap,.func (.func 103) #[] #[]] w (CW (fun x s=>fQ x s.a l) l.length w):=
 (SC a cap l w hl).mono fun _ _ ⟨s,h1,h2,h3⟩=>⟨s,h1,h2,fun x hx=>(h3 x hx).1⟩
end Go.Proofs.YtpfifochimkpfaaGreatDoor
namespace Go.WW
open Go.RowKit
def aeU(w:World)(d:Entry)(e:Ending)(w':World):Prop:=∃r:aK,e=.returned (.agg (ae r d))∧Below w.heap.size w w'∧bu w' (fresh w.heap.size w') (fun x=>aeI w.heap.size x r d)
theorem pY.le{m m':Nat}{w:World}{a:Option Addr}{l:List bP}(h:pY m w a l)(hm:m'≤m):pY m' w a l:=⟨bH.imp h.1 fun _ _ ⟨p,s,h1,h2,h3⟩=>⟨p,s,h1,h2,h3.le hm⟩,h.2.le hm⟩
end Go.WW
namespace Go.Proofs.YtpfifochimkpfaaGreatDoor
open Go.RowKit Go.WW
theorem aeV(r:aK)(d:Entry)(w:World)(he:aS w r d):Calls Tryz.prog 58 #[.agg (ae r d)] w (aeU w d):=by
 have hB0:Below w.heap.size w ((w.alloc (.cells (ae r d) 44)).alloc (.cells #[.slice none 0 0,.string ⟨#[]⟩,.slice none 0 0,.int .u32 0,.int .i64 0,.slice none 0 0,.string ⟨#[]⟩,.int .i64 0,.int .i64 0,.int .i64 0,.int .i64 0,.int .i64 0,.int .i64 0,.int .i64 0,.slice none 0 0,.slice none 0 0,.slice none 0 0] 44)):=((Below.refl _ w).alloc (Nat.le_refl _) _).alloc (by simp) _
 have hx0:((w.alloc (.cells (ae r d) 44)).alloc (.cells #[.slice none 0 0,.string ⟨#[]⟩,.slice none 0 0,.int .u32 0,.int .i64 0,.slice none 0 0,.string ⟨#[]⟩,.int .i64 0,.int .i64 0,.int .i64 0,.int .i64 0,.int .i64 0,.int .i64 0,.int .i64 0,.slice none 0 0,.slice none 0 0,.slice none 0 0] 44)).heap[w.heap.size]?=some (.cells (ae r d) 44):=kS w _ _
 have hz0:aX ((w.alloc (.cells (ae r d) 44)).alloc (.cells #[.slice none 0 0,.string ⟨#[]⟩,.slice none 0 0,.int .u32 0,.int .i64 0,.slice none 0 0,.string ⟨#[]⟩,.int .i64 0,.int .i64 0,.int .i64 0,.int .i64 0,.int .i64 0,.int .i64 0,.int .i64 0,.slice none 0 0,.slice none 0 0,.slice none 0 0] 44)) (w.heap.size+1) 0 17=true:=by simp[go_sem]
 have hs0:w.heap.size+1<((w.alloc (.cells (ae r d) 44)).alloc (.cells #[.slice none 0 0,.string ⟨#[]⟩,.slice none 0 0,.int .u32 0,.int .i64 0,.slice none 0 0,.string ⟨#[]⟩,.int .i64 0,.int .i64 0,.int .i64 0,.int .i64 0,.int .i64 0,.int .i64 0,.int .i64 0,.slice none 0 0,.slice none 0 0,.slice none 0 0] 44)).heap.size:=by simp
 have hne:w.heap.size+1≠w.heap.size:=by omega
 go_enter Tryz.func58,Tryz.ntmps58
 go_wp2_with fail
 generalize (w.alloc (.cells (ae r d) 44)).alloc (.cells #[.slice none 0 0,.string ⟨#[]⟩,.slice none 0 0,.int .u32 0,.int .i64 0,.slice none 0 0,.string ⟨#[]⟩,.int .i64 0,.int .i64 0,.int .i64 0,.int .i64 0,.int .i64 0,.int .i64 0,.int .i64 0,.slice none 0 0,.slice none 0 0,.slice none 0 0] 44)=W0 at *
 refine(Ko _ _ _ (he.name.later hB0)).mono ?_
 rintro e V0 ⟨s0,rfl,hb0,hd0⟩
 have hy0:=(hb0.block w.heap.size (by omega)).trans hx0
 obtain⟨hc,hf,hr,hlt⟩:=ax hy0
 have hx1:(putRow V0 w.heap.size 0 (az s0 d.name)).heap[w.heap.size]?=some (.cells (ae {r with parts:=s0} d) 44):=(jk hy0 (by simp[go_sem])).trans (by rfl)
 have hcp:aX V0 w.heap.size 0 2=true:=iC hy0 (by simp[go_sem])
 have hB1:Below w.heap.size w (putRow V0 w.heap.size 0 (az s0 d.name)):=Go.WW.Below.putRow (ag hB0 hb0) (Nat.le_refl _)
 have hz1:aX (putRow V0 w.heap.size 0 (az s0 d.name)) (w.heap.size+1) 0 17=true:=by rw[JI hne,fD hb0 _ _ _ (by omega)];exact hz0
 have hs1:w.heap.size+1<(putRow V0 w.heap.size 0 (az s0 d.name)).heap.size:=by have:=hb0.size;rw[gV];omega
 have SI:bu (putRow V0 w.heap.size 0 (az s0 d.name)) (fun k=>w.heap.size+1<k∧k<(putRow V0 w.heap.size 0 (az s0 d.name)).heap.size) (fun x=>xg w.heap.size x s0 d.name):=(show bu V0 (fresh W0.heap.size V0) (fun x=>xg w.heap.size x s0 d.name) from fun x hx=>⟨(hd0 x hx).1,(hd0 x hx).2.le hB0.size⟩).to (fun k hk=>by have h1:=hk.1;first|exact gU (by omega)|exact Below.heap_setCell _ _ _ _ (by simp;omega)) (fun k hk=>⟨by have h1:=hk.1;omega,by have h2:=hk.2;first|(rw[gV];exact h2)|(simp only[World.setCell,Array.size_modify];exact h2)⟩)
 clear hx0 hz0 hs0 hy0 hb0 hd0 hB0
 obtain⟨hc2,hf2,hr2,hlt2⟩:=ax hx1
 have HX:=Lib.hid hx1
 clear hx1
 go_wp2_with fail
 have hx1:=HX.out
 clear HX hc hf hr hlt hc2 hf2 hr2 hlt2 hcp
 generalize putRow V0 w.heap.size 0 (az s0 d.name)=W1 at *
 refine(SC _ _ _ _ (he.aliases.later hB1)).mono ?_
 rintro e V1 ⟨s1,rfl,hb1,hd1⟩
 have hy1:=(hb1.block w.heap.size (by omega)).trans hx1
 obtain⟨hc,hf,hr,hlt⟩:=ax hy1
 have hx2:(V1.setCell ⟨w.heap.size,2,none⟩ (.slice s1.a d.aliases.length s1.cap)).heap[w.heap.size]?=some (.cells (ae {r with parts:=s0,aliases:=s1} d) 44):=(dH _ hy1).trans (by rfl)
 have hB2:Below w.heap.size w (V1.setCell ⟨w.heap.size,2,none⟩ (.slice s1.a d.aliases.length s1.cap)):=(ag hB1 hb1).setCell (Nat.le_refl _) _
 have hz2:aX (V1.setCell ⟨w.heap.size,2,none⟩ (.slice s1.a d.aliases.length s1.cap)) (w.heap.size+1) 0 17=true:=by rw[jJ hne,fD hb1 _ _ _ (by omega)];exact hz1
 have hs2:w.heap.size+1<(V1.setCell ⟨w.heap.size,2,none⟩ (.slice s1.a d.aliases.length s1.cap)).heap.size:=by have:=hb1.size;simp only[World.setCell,Array.size_modify];omega
 have SK:bu (V1.setCell ⟨w.heap.size,2,none⟩ (.slice s1.a d.aliases.length s1.cap)) (fun k=>w.heap.size+1<k∧k<(V1.setCell ⟨w.heap.size,2,none⟩ (.slice s1.a d.aliases.length s1.cap)).heap.size) (fun x=>xg w.heap.size x s0 d.name):=SI.to (fun k hk=>by have h1:=hk.1;have h2:=hk.2;rw[Below.heap_setCell _ _ _ _ (by simp;omega)];exact hb1.block k h2) (fun k hk=>⟨hk.1,by have h2:=hk.2;have h3:=hb1.size;simp only[World.setCell,Array.size_modify];omega⟩)
 have SL:bu (V1.setCell ⟨w.heap.size,2,none⟩ (.slice s1.a d.aliases.length s1.cap)) (fun k=>w.heap.size+1<k∧k<(V1.setCell ⟨w.heap.size,2,none⟩ (.slice s1.a d.aliases.length s1.cap)).heap.size) (fun x=>yG w.heap.size x s1.a d.aliases):=(show bu V1 (fresh W1.heap.size V1) (fun x=>yG w.heap.size x s1.a d.aliases) from fun x hx=>⟨(hd1 x hx).1,(hd1 x hx).2.le hB1.size⟩).to (fun k hk=>by have h1:=hk.1;first|exact gU (by omega)|exact Below.heap_setCell _ _ _ _ (by simp;omega)) (fun k hk=>⟨by have h1:=hk.1;omega,by have h2:=hk.2;first|(rw[gV];exact h2)|(simp only[World.setCell,Array.size_modify];exact h2)⟩)
 clear hx1 hz1 hs1 hy1 hb1 hd1 hB1 SI
 obtain⟨hc2,hf2,hr2,hlt2⟩:=ax hx2
 have HX:=Lib.hid hx2
 clear hx2
 go_wp2_with fail
 have hx2:=HX.out
 clear HX hc hf hr hlt hc2 hf2 hr2 hlt2
 generalize V1.setCell ⟨w.heap.size,2,none⟩ (.slice s1.a d.aliases.length s1.cap)=W2 at *
 refine(aeT _ _ _ _ (he.keys.later hB2)).mono ?_
 rintro e V2 ⟨s2,rfl,hb2,hd2⟩
 have hy2:=(hb2.block w.heap.size (by omega)).trans hx2
 obtain⟨hc,hf,hr,hlt⟩:=ax hy2
 have hx3:(V2.setCell ⟨w.heap.size,5,none⟩ (.slice s2.a d.keys.length s2.cap)).heap[w.heap.size]?=some (.cells (ae {r with parts:=s0,aliases:=s1,keys:=s2} d) 44):=(dH _ hy2).trans (by rfl)
 have hB3:Below w.heap.size w (V2.setCell ⟨w.heap.size,5,none⟩ (.slice s2.a d.keys.length s2.cap)):=(ag hB2 hb2).setCell (Nat.le_refl _) _
 have hz3:aX (V2.setCell ⟨w.heap.size,5,none⟩ (.slice s2.a d.keys.length s2.cap)) (w.heap.size+1) 0 17=true:=by rw[jJ hne,fD hb2 _ _ _ (by omega)];exact hz2
 have hs3:w.heap.size+1<(V2.setCell ⟨w.heap.size,5,none⟩ (.slice s2.a d.keys.length s2.cap)).heap.size:=by have:=hb2.size;simp only[World.setCell,Array.size_modify];omega
 have SN:bu (V2.setCell ⟨w.heap.size,5,none⟩ (.slice s2.a d.keys.length s2.cap)) (fun k=>w.heap.size+1<k∧k<(V2.setCell ⟨w.heap.size,5,none⟩ (.slice s2.a d.keys.length s2.cap)).heap.size) (fun x=>xg w.heap.size x s0 d.name):=SK.to (fun k hk=>by have h1:=hk.1;have h2:=hk.2;rw[Below.heap_setCell _ _ _ _ (by simp;omega)];exact hb2.block k h2) (fun k hk=>⟨hk.1,by have h2:=hk.2;have h3:=hb2.size;simp only[World.setCell,Array.size_modify];omega⟩)
 have SQ:bu (V2.setCell ⟨w.heap.size,5,none⟩ (.slice s2.a d.keys.length s2.cap)) (fun k=>w.heap.size+1<k∧k<(V2.setCell ⟨w.heap.size,5,none⟩ (.slice s2.a d.keys.length s2.cap)).heap.size) (fun x=>yG w.heap.size x s1.a d.aliases):=SL.to (fun k hk=>by have h1:=hk.1;have h2:=hk.2;rw[Below.heap_setCell _ _ _ _ (by simp;omega)];exact hb2.block k h2) (fun k hk=>⟨hk.1,by have h2:=hk.2;have h3:=hb2.size;simp only[World.setCell,Array.size_modify];omega⟩)
 have SS:bu (V2.setCell ⟨w.heap.size,5,none⟩ (.slice s2.a d.keys.length s2.cap)) (fun k=>w.heap.size+1<k∧k<(V2.setCell ⟨w.heap.size,5,none⟩ (.slice s2.a d.keys.length s2.cap)).heap.size) (fun x=>pY w.heap.size x s2.a d.keys):=(show bu V2 (fresh W2.heap.size V2) (fun x=>pY w.heap.size x s2.a d.keys) from fun x hx=>(hd2 x hx).le hB2.size).to (fun k hk=>by have h1:=hk.1;first|exact gU (by omega)|exact Below.heap_setCell _ _ _ _ (by simp;omega)) (fun k hk=>⟨by have h1:=hk.1;omega,by have h2:=hk.2;first|(rw[gV];exact h2)|(simp only[World.setCell,Array.size_modify];exact h2)⟩)
 clear hx2 hz2 hs2 hy2 hb2 hd2 hB2 SK SL
 obtain⟨hc2,hf2,hr2,hlt2⟩:=ax hx3
 have HX:=Lib.hid hx3
 clear hx3
 go_wp2_with fail
 have hx3:=HX.out
 clear HX hc hf hr hlt hc2 hf2 hr2 hlt2
 generalize V2.setCell ⟨w.heap.size,5,none⟩ (.slice s2.a d.keys.length s2.cap)=W3 at *
 refine(Kq _ _ _ _ (he.targets.later hB3)).mono ?_
 rintro e V3 ⟨s3,rfl,hb3,hd3⟩
 have hy3:=(hb3.block w.heap.size (by omega)).trans hx3
 obtain⟨hc,hf,hr,hlt⟩:=ax hy3
 have hx4:(V3.setCell ⟨w.heap.size,14,none⟩ (.slice s3.a d.targets.length s3.cap)).heap[w.heap.size]?=some (.cells (ae {r with parts:=s0,aliases:=s1,keys:=s2,targets:=s3} d) 44):=(dH _ hy3).trans (by rfl)
 have hB4:Below w.heap.size w (V3.setCell ⟨w.heap.size,14,none⟩ (.slice s3.a d.targets.length s3.cap)):=(ag hB3 hb3).setCell (Nat.le_refl _) _
 have SV:aX (V3.setCell ⟨w.heap.size,14,none⟩ (.slice s3.a d.targets.length s3.cap)) (w.heap.size+1) 0 17=true:=by rw[jJ hne,fD hb3 _ _ _ (by omega)];exact hz3
 have hs4:w.heap.size+1<(V3.setCell ⟨w.heap.size,14,none⟩ (.slice s3.a d.targets.length s3.cap)).heap.size:=by have:=hb3.size;simp only[World.setCell,Array.size_modify];omega
 have SX:bu (V3.setCell ⟨w.heap.size,14,none⟩ (.slice s3.a d.targets.length s3.cap)) (fun k=>w.heap.size+1<k∧k<(V3.setCell ⟨w.heap.size,14,none⟩ (.slice s3.a d.targets.length s3.cap)).heap.size) (fun x=>xg w.heap.size x s0 d.name):=SN.to (fun k hk=>by have h1:=hk.1;have h2:=hk.2;rw[Below.heap_setCell _ _ _ _ (by simp;omega)];exact hb3.block k h2) (fun k hk=>⟨hk.1,by have h2:=hk.2;have h3:=hb3.size;simp only[World.setCell,Array.size_modify];omega⟩)
 have SY:bu (V3.setCell ⟨w.heap.size,14,none⟩ (.slice s3.a d.targets.length s3.cap)) (fun k=>w.heap.size+1<k∧k<(V3.setCell ⟨w.heap.size,14,none⟩ (.slice s3.a d.targets.length s3.cap)).heap.size) (fun x=>yG w.heap.size x s1.a d.aliases):=SQ.to (fun k hk=>by have h1:=hk.1;have h2:=hk.2;rw[Below.heap_setCell _ _ _ _ (by simp;omega)];exact hb3.block k h2) (fun k hk=>⟨hk.1,by have h2:=hk.2;have h3:=hb3.size;simp only[World.setCell,Array.size_modify];omega⟩)
 have Tc:bu (V3.setCell ⟨w.heap.size,14,none⟩ (.slice s3.a d.targets.length s3.cap)) (fun k=>w.heap.size+1<k∧k<(V3.setCell ⟨w.heap.size,14,none⟩ (.slice s3.a d.targets.length s3.cap)).heap.size) (fun x=>pY w.heap.size x s2.a d.keys):=SS.to (fun k hk=>by have h1:=hk.1;have h2:=hk.2;rw[Below.heap_setCell _ _ _ _ (by simp;omega)];exact hb3.block k h2) (fun k hk=>⟨hk.1,by have h2:=hk.2;have h3:=hb3.size;simp only[World.setCell,Array.size_modify];omega⟩)
 have Td:bu (V3.setCell ⟨w.heap.size,14,none⟩ (.slice s3.a d.targets.length s3.cap)) (fun k=>w.heap.size+1<k∧k<(V3.setCell ⟨w.heap.size,14,none⟩ (.slice s3.a d.targets.length s3.cap)).heap.size) (fun x=>fQ x s3.a d.targets):=hd3.to (fun k hk=>by have h1:=hk.1;first|exact gU (by omega)|exact Below.heap_setCell _ _ _ _ (by simp;omega)) (fun k hk=>⟨by have h1:=hk.1;omega,by have h2:=hk.2;first|(rw[gV];exact h2)|(simp only[World.setCell,Array.size_modify];exact h2)⟩)
 clear hx3 hz3 hs3 hy3 hb3 hd3 hB3 SN SQ SS
 obtain⟨hc2,hf2,hr2,hlt2⟩:=ax hx4
 have HX:=Lib.hid hx4
 clear hx4
 go_wp2_with fail
 have hx4:=HX.out
 clear HX hc hf hr hlt hc2 hf2 hr2 hlt2
 generalize V3.setCell ⟨w.heap.size,14,none⟩ (.slice s3.a d.targets.length s3.cap)=W4 at *
 refine(Kq _ _ _ _ (he.bW.later hB4)).mono ?_
 rintro e V4 ⟨s4,rfl,hb4,hd4⟩
 have hy4:=(hb4.block w.heap.size (by omega)).trans hx4
 obtain⟨hc,hf,hr,hlt⟩:=ax hy4
 have hx5:(V4.setCell ⟨w.heap.size,15,none⟩ (.slice s4.a d.bW.length s4.cap)).heap[w.heap.size]?=some (.cells (ae {r with parts:=s0,aliases:=s1,keys:=s2,targets:=s3,bW:=s4} d) 44):=(dH _ hy4).trans (by rfl)
 have lU:Below w.heap.size w (V4.setCell ⟨w.heap.size,15,none⟩ (.slice s4.a d.bW.length s4.cap)):=(ag hB4 hb4).setCell (Nat.le_refl _) _
 have Tf:aX (V4.setCell ⟨w.heap.size,15,none⟩ (.slice s4.a d.bW.length s4.cap)) (w.heap.size+1) 0 17=true:=by rw[jJ hne,fD hb4 _ _ _ (by omega)];exact SV
 have hs5:w.heap.size+1<(V4.setCell ⟨w.heap.size,15,none⟩ (.slice s4.a d.bW.length s4.cap)).heap.size:=by have:=hb4.size;simp only[World.setCell,Array.size_modify];omega
 have Ti:bu (V4.setCell ⟨w.heap.size,15,none⟩ (.slice s4.a d.bW.length s4.cap)) (fun k=>w.heap.size+1<k∧k<(V4.setCell ⟨w.heap.size,15,none⟩ (.slice s4.a d.bW.length s4.cap)).heap.size) (fun x=>xg w.heap.size x s0 d.name):=SX.to (fun k hk=>by have h1:=hk.1;have h2:=hk.2;rw[Below.heap_setCell _ _ _ _ (by simp;omega)];exact hb4.block k h2) (fun k hk=>⟨hk.1,by have h2:=hk.2;have h3:=hb4.size;simp only[World.setCell,Array.size_modify];omega⟩)
 have Tj:bu (V4.setCell ⟨w.heap.size,15,none⟩ (.slice s4.a d.bW.length s4.cap)) (fun k=>w.heap.size+1<k∧k<(V4.setCell ⟨w.heap.size,15,none⟩ (.slice s4.a d.bW.length s4.cap)).heap.size) (fun x=>yG w.heap.size x s1.a d.aliases):=SY.to (fun k hk=>by have h1:=hk.1;have h2:=hk.2;rw[Below.heap_setCell _ _ _ _ (by simp;omega)];exact hb4.block k h2) (fun k hk=>⟨hk.1,by have h2:=hk.2;have h3:=hb4.size;simp only[World.setCell,Array.size_modify];omega⟩)
 have Tm:bu (V4.setCell ⟨w.heap.size,15,none⟩ (.slice s4.a d.bW.length s4.cap)) (fun k=>w.heap.size+1<k∧k<(V4.setCell ⟨w.heap.size,15,none⟩ (.slice s4.a d.bW.length s4.cap)).heap.size) (fun x=>pY w.heap.size x s2.a d.keys):=Tc.to (fun k hk=>by have h1:=hk.1;have h2:=hk.2;rw[Below.heap_setCell _ _ _ _ (by simp;omega)];exact hb4.block k h2) (fun k hk=>⟨hk.1,by have h2:=hk.2;have h3:=hb4.size;simp only[World.setCell,Array.size_modify];omega⟩)
 have Tn:bu (V4.setCell ⟨w.heap.size,15,none⟩ (.slice s4.a d.bW.length s4.cap)) (fun k=>w.heap.size+1<k∧k<(V4.setCell ⟨w.heap.size,15,none⟩ (.slice s4.a d.bW.length s4.cap)).heap.size) (fun x=>fQ x s3.a d.targets):=Td.to (fun k hk=>by have h1:=hk.1;have h2:=hk.2;rw[Below.heap_setCell _ _ _ _ (by simp;omega)];exact hb4.block k h2) (fun k hk=>⟨hk.1,by have h2:=hk.2;have h3:=hb4.size;simp only[World.setCell,Array.size_modify];omega⟩)
 have Tq:bu (V4.setCell ⟨w.heap.size,15,none⟩ (.slice s4.a d.bW.length s4.cap)) (fun k=>w.heap.size+1<k∧k<(V4.setCell ⟨w.heap.size,15,none⟩ (.slice s4.a d.bW.length s4.cap)).heap.size) (fun x=>fQ x s4.a d.bW):=hd4.to (fun k hk=>by have h1:=hk.1;first|exact gU (by omega)|exact Below.heap_setCell _ _ _ _ (by simp;omega)) (fun k hk=>⟨by have h1:=hk.1;omega,by have h2:=hk.2;first|(rw[gV];exact h2)|(simp only[World.setCell,Array.size_modify];exact h2)⟩)
 clear hx4 SV hs4 hy4 hb4 hd4 hB4 SX SY Tc Td
 obtain⟨hc2,hf2,hr2,hlt2⟩:=ax hx5
 have HX:=Lib.hid hx5
 clear hx5
 go_wp2_with fail
 have hx5:=HX.out
 clear HX hc hf hr hlt hc2 hf2 hr2 hlt2
 generalize V4.setCell ⟨w.heap.size,15,none⟩ (.slice s4.a d.bW.length s4.cap)=W5 at *
 refine(aeF _ _ _ _ (he.history.later lU)).mono ?_
 rintro e V5 ⟨s5,rfl,hb5,hd5⟩
 have Kr:=(hb5.block w.heap.size (by omega)).trans hx5
 obtain⟨hc,hf,hr,hlt⟩:=ax Kr
 have hx6:(V5.setCell ⟨w.heap.size,16,none⟩ (.slice s5.a d.history.length s5.cap)).heap[w.heap.size]?=some (.cells (ae {r with parts:=s0,aliases:=s1,keys:=s2,targets:=s3,bW:=s4,history:=s5} d) 44):=(dH _ Kr).trans (by rfl)
 have Kt:Below w.heap.size w (V5.setCell ⟨w.heap.size,16,none⟩ (.slice s5.a d.history.length s5.cap)):=(ag lU hb5).setCell (Nat.le_refl _) _
 have hz6:aX (V5.setCell ⟨w.heap.size,16,none⟩ (.slice s5.a d.history.length s5.cap)) (w.heap.size+1) 0 17=true:=by rw[jJ hne,fD hb5 _ _ _ (by omega)];exact Tf
 have hs6:w.heap.size+1<(V5.setCell ⟨w.heap.size,16,none⟩ (.slice s5.a d.history.length s5.cap)).heap.size:=by have:=hb5.size;simp only[World.setCell,Array.size_modify];omega
 have aeX:bu (V5.setCell ⟨w.heap.size,16,none⟩ (.slice s5.a d.history.length s5.cap)) (fun k=>w.heap.size+1<k∧k<(V5.setCell ⟨w.heap.size,16,none⟩ (.slice s5.a d.history.length s5.cap)).heap.size) (fun x=>xg w.heap.size x s0 d.name):=Ti.to (fun k hk=>by have h1:=hk.1;have h2:=hk.2;rw[Below.heap_setCell _ _ _ _ (by simp;omega)];exact hb5.block k h2) (fun k hk=>⟨hk.1,by have h2:=hk.2;have h3:=hb5.size;simp only[World.setCell,Array.size_modify];omega⟩)
 have aeY:bu (V5.setCell ⟨w.heap.size,16,none⟩ (.slice s5.a d.history.length s5.cap)) (fun k=>w.heap.size+1<k∧k<(V5.setCell ⟨w.heap.size,16,none⟩ (.slice s5.a d.history.length s5.cap)).heap.size) (fun x=>yG w.heap.size x s1.a d.aliases):=Tj.to (fun k hk=>by have h1:=hk.1;have h2:=hk.2;rw[Below.heap_setCell _ _ _ _ (by simp;omega)];exact hb5.block k h2) (fun k hk=>⟨hk.1,by have h2:=hk.2;have h3:=hb5.size;simp only[World.setCell,Array.size_modify];omega⟩)
 have aeZ:bu (V5.setCell ⟨w.heap.size,16,none⟩ (.slice s5.a d.history.length s5.cap)) (fun k=>w.heap.size+1<k∧k<(V5.setCell ⟨w.heap.size,16,none⟩ (.slice s5.a d.history.length s5.cap)).heap.size) (fun x=>pY w.heap.size x s2.a d.keys):=Tm.to (fun k hk=>by have h1:=hk.1;have h2:=hk.2;rw[Below.heap_setCell _ _ _ _ (by simp;omega)];exact hb5.block k h2) (fun k hk=>⟨hk.1,by have h2:=hk.2;have h3:=hb5.size;simp only[World.setCell,Array.size_modify];omega⟩)
 have ae0:bu (V5.setCell ⟨w.heap.size,16,none⟩ (.slice s5.a d.history.length s5.cap)) (fun k=>w.heap.size+1<k∧k<(V5.setCell ⟨w.heap.size,16,none⟩ (.slice s5.a d.history.length s5.cap)).heap.size) (fun x=>fQ x s3.a d.targets):=Tn.to (fun k hk=>by have h1:=hk.1;have h2:=hk.2;rw[Below.heap_setCell _ _ _ _ (by simp;omega)];exact hb5.block k h2) (fun k hk=>⟨hk.1,by have h2:=hk.2;have h3:=hb5.size;simp only[World.setCell,Array.size_modify];omega⟩)
 have ae1:bu (V5.setCell ⟨w.heap.size,16,none⟩ (.slice s5.a d.history.length s5.cap)) (fun k=>w.heap.size+1<k∧k<(V5.setCell ⟨w.heap.size,16,none⟩ (.slice s5.a d.history.length s5.cap)).heap.size) (fun x=>fQ x s4.a d.bW):=Tq.to (fun k hk=>by have h1:=hk.1;have h2:=hk.2;rw[Below.heap_setCell _ _ _ _ (by simp;omega)];exact hb5.block k h2) (fun k hk=>⟨hk.1,by have h2:=hk.2;have h3:=hb5.size;simp only[World.setCell,Array.size_modify];omega⟩)
 have ae2:bu (V5.setCell ⟨w.heap.size,16,none⟩ (.slice s5.a d.history.length s5.cap)) (fun k=>w.heap.size+1<k∧k<(V5.setCell ⟨w.heap.size,16,none⟩ (.slice s5.a d.history.length s5.cap)).heap.size) (fun x=>dY x s5.a d.history):=hd5.to (fun k hk=>by have h1:=hk.1;first|exact gU (by omega)|exact Below.heap_setCell _ _ _ _ (by simp;omega)) (fun k hk=>⟨by have h1:=hk.1;omega,by have h2:=hk.2;first|(rw[gV];exact h2)|(simp only[World.setCell,Array.size_modify];exact h2)⟩)
 clear hx5 Tf hs5 Kr hb5 hd5 lU Ti Tj Tm Tn Tq
 obtain⟨hc2,hf2,hr2,hlt2⟩:=ax hx6
 have HX:=Lib.hid hx6
 clear hx6
 go_wp2_with fail
 have hrow:=gJ (w:=V5.setCell ⟨w.heap.size,16,none⟩ (.slice s5.a d.history.length s5.cap)) (oP {parts:=s0,aliases:=s1,keys:=s2,targets:=s3,bW:=s4,history:=s5} d) hz6
 have hKK:∀k,w.heap.size+1<k∧k<(V5.setCell ⟨w.heap.size,16,none⟩ (.slice s5.a d.history.length s5.cap)).heap.size→(putRow (V5.setCell ⟨w.heap.size,16,none⟩ (.slice s5.a d.history.length s5.cap)) (w.heap.size+1) 0 (ae {parts:=s0,aliases:=s1,keys:=s2,targets:=s3,bW:=s4,history:=s5} d)).heap[k]?=(V5.setCell ⟨w.heap.size,16,none⟩ (.slice s5.a d.history.length s5.cap)).heap[k]?:=fun k hk=>gU (by omega)
 refine bodyPost_ret (xe (by rfl) Tryz.underlying44 rfl (by kernel_rfl) rfl hrow) rfl ⟨{parts:=s0,aliases:=s1,keys:=s2,targets:=s3,bW:=s4,history:=s5},rfl,Go.WW.Below.putRow Kt (by omega),?_⟩
 intro x hx
 have hX:=fun k (hk:w.heap.size+1<k∧k<(V5.setCell ⟨w.heap.size,16,none⟩ (.slice s5.a d.history.length s5.cap)).heap.size)=>(hx k ⟨by omega,by rw[gV];exact hk.2⟩).trans (hKK k hk)
 have e0:=aeX _ hX
 have e1:=aeY _ hX
 have e2:=aeZ _ hX
 exact⟨⟨e0.1,e1.1,e2.at_,ae0 _ hX,ae1 _ hX,ae2 _ hX,he.aP,he.attrs⟩,e0.2,e1.2,e2⟩
theorem yI(r:aK)(d:Entry)(w:World)(he:aS w r d):Calls Tryz.prog 58 #[.agg (ae r d)] w (aeG w d):=
 (aeV r d w he).mono fun _ _ ⟨r',h1,h2,h3⟩=>⟨r',h1,h2,fun x hx=>(h3 x hx).at_⟩
end Go.Proofs.YtpfifochimkpfaaGreatDoor
namespace Go.WW
open Go.RowKit
theorem FX{d:Entry}{p:ah}(now:Int)(h:Small d p):0≤countOf d p now∧countOf d p now≤65535:=by
 have h1:=h.f0
 have h2:=h.f1
 unfold countOf
 repeat' split
 all_goals omega
def jV(d:Entry)(p:ah)(s:Bool)(now:Int):Int:=if s then 0 else min (countOf d p now+1) 65535
def mJ(d:Entry)(s:Bool)(now:Int):Int:=if s then d.dw else now
def mM(d:Entry)(s:Bool)(now:Int):Int:=if s then now else d.iw
def gK(d:Entry)(p:ah)(s:Bool)(now:Int):Entry:={d with fails:=jV d p s now,dw:=mJ d s now,iw:=mM d s now}
def AQ:Sl:=⟨none,0⟩
def bg:aK:=⟨AQ,AQ,AQ,AQ,AQ,AQ⟩
def aV:Entry:=⟨⟨[],⟨#[]⟩⟩,[],0,0,[],⟨#[]⟩,0,0,0,0,0,0,0,[],[],[]⟩
theorem mO:ae bg aV=#[.slice none 0 0,.string ⟨#[]⟩,.slice none 0 0,.int .u32 0,.int .i64 0,.slice none 0 0,.string ⟨#[]⟩,.int .i64 0,.int .i64 0,.int .i64 0,.int .i64 0,.int .i64 0,.int .i64 0,.int .i64 0,.slice none 0 0,.slice none 0 0,.slice none 0 0]:=rfl
theorem FY(w:World):aS w bg aV:=
 ⟨⟨⟨by simp[aV,lim],fun i hi=>by simp[aV]at hi⟩,Nat.zero_le _⟩,⟨by simp[aV,lim],fun i hi=>by simp[aV]at hi⟩,⟨by simp[aV,lim],fun i hi=>by simp[aV]at hi⟩,⟨by simp[aV,lim],fun i hi=>by simp[aV]at hi⟩,⟨by simp[aV,lim],fun i hi=>by simp[aV]at hi⟩,⟨by simp[aV,lim],fun i hi=>by simp[aV]at hi⟩,Nat.zero_le _,by simp[aV]⟩
def vH(w:World)(d:Entry)(no:Int)(e:Ending)(w':World):Prop:=∃r,e=.returned (.tuple #[.agg (ae r d),.int .i64 no])∧Below w.heap.size w w'∧bu w' (fresh w.heap.size w') (fun x=>aS x r d)
end Go.WW
namespace Go.Proofs.YtpfifochimkpfaaGreatDoor
open Go.RowKit Go.WW
theorem ae4(ρ:Operand→Value)(dst:Option Tmp)(ty:TypeId)(pos:String)(after:Array Edge)(guard:Option (Nat×Bool)):execOp ρ {dst,op:=.build 44 #[],type:=ty,pos,after,guard}=iI 44 #[]:=by simp[execOp,iI]
theorem ae5(w:World):(iI 44 #[]).run Tryz.prog w=.ok (.value (.agg (ae bg aV))) w:=by kernel_rfl
attribute [go_sem] ae5
attribute [go_sem ↓] ae4
theorem Ku(r:aK)(d:Entry)(p:ah)(s:Bool)(now:Int)(w:World)(hs:Small d p) :
  Calls Tryz.prog 39 #[.agg (aY r d p),.bool s,.int .i64 now] w fun e w'=>e=.returned (.tuple #[.int .i64 (jV d p s now),.int .i64 (mJ d s now),.int .i64 (mM d s now)])∧Below w.heap.size w w':=by
 obtain⟨hc0,hc1⟩:=FX now hs
 have hB:Below w.heap.size w (w.alloc (.cells (aY r d p) 86)):=(Below.refl _ _).alloc (Nat.le_refl _) _
 go_enter Tryz.func39,Tryz.ntmps39
 go_wp2_with fail
 refine(JW _ _ _ _ _ hs).mono ?_
 rintro e w2 ⟨rfl,hb2⟩
 obtain⟨hc,hf,hr⟩:=aQ hb2
 have hsz:w.heap.size<w2.heap.size:=by have:=hb2.size;simp at this;omega
 have HF:=Lib.hid (show jV d p s now=if s then 0 else min (countOf d p now+1) 65535 from rfl)
 generalize countOf d p now=c at *
 cases s
 iterate 2
  ·go_wp2_with (go_at_call 60;refine(yj _ _ _ _).mono ?_;rintro e w' ⟨rfl,rfl⟩)
   refine dN hb2 (by kernel_rfl) (by kernel_rfl) ?_
   repeat (go_big_quiet_step ((go_at_call 60;exact Calls.uS (yj _ _ _ _))))
   refine wpQuiet_nil ?_
   intro w3 hb3
   go_wp2_with fail
   go_ret3
   exact⟨by rw[HF.out];rfl,hB.trans (hb3.mono (by simp))⟩
theorem ae6(r:aK)(d:Entry)(w:World)(he:aS w r d)(h1:bI d=true):Calls Tryz.prog 25 #[.agg (ae r d)] w (vH w {d with fails:=0} 0):=by
 have hB:Below w.heap.size w ((w.alloc (.cells (ae r d) 44)).alloc (.cells (ae bg aV) 44)):=((Below.refl _ _).alloc (Nat.le_refl _) _).alloc (by simp) _
 have hz:aX ((w.alloc (.cells (ae r d) 44)).alloc (.cells (ae bg aV) 44)) (w.heap.size+1) 0 17=true:=by simp[go_sem]
 go_enter Tryz.func25,Tryz.ntmps25
 go_wp2_with fail
 rw[←mO]
 refine(yE _ _ _ (he.later hB)).mono ?_
 rintro e w2 ⟨rfl,hb2⟩
 have hB2:=ag hB hb2
 obtain⟨hc,hf,hr⟩:=aQ hb2
 have hpp:=fD hb2
 have hsz:w.heap.size+1<w2.heap.size:=by have:=hb2.size;simp at this;omega
 have hsz0:w.heap.size<w2.heap.size:=by omega
 have hne:w.heap.size+1≠w.heap.size:=by omega
 rw[h1]
 go_wp2_with fail
 refine(yI _ _ _ (he.later hB2)).mono ?_
 rintro e w3 ⟨r',rfl,hb3,hd3⟩
 have mG:=ag hb2 hb3
 have hB3:=ag hB2 hb3
 clear hc hf hr hpp hsz hsz0
 obtain⟨hc,hf,hr⟩:=aQ mG
 have hpp:=fD mG
 have hsz:w.heap.size+1<w3.heap.size:=by have:=mG.size;simp at this;omega
 have hsz0:w.heap.size<w3.heap.size:=by omega
 go_wp2_with fail
 have hrow:=gJ (w:=w3.alloc (.cells (ae r' {d with fails:=0}) 44)) (oP r' {d with fails:=0}) ((x9 hsz).trans ((hpp (w.heap.size+1) 0 17 (by simp)).trans hz))
 refine bodyPost_ret (kT (by rfl) Tryz.underlying44 rfl (by kernel_rfl) rfl hrow) rfl ⟨r',rfl,Go.WW.Below.putRow (hB3.alloc hB3.size _) (by omega),fun x hx=>?_⟩
 have h:=hd3 x (fun k hk=>by
  have h9:=hk.1
  have h8:=hk.2
  have h7:=hb2.size
  simp at h7
  rw[hx k ⟨by omega,by rw[gV];simp;omega⟩,gU (by omega),Below.heap_alloc _ _ _ h8])
 exact⟨h.name,h.aliases,h.keys,h.targets,h.bW,h.history,h.aP,h.attrs⟩
end Go.Proofs.YtpfifochimkpfaaGreatDoor
