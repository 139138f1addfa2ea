/- A part of the proof. -/
import Derived.Test.YtfieenjdcpjmgaaGreatDoorB08
import Derived.Test.YtfieenjdcpjmgaaGreatDoorB03
import Derived.Carry
import Derived.WideMake
import Derived.RangeFuncOwn
import Derived.Maps.RangeRun
set_option maxRecDepth 100000
namespace Go.Proofs.YtfieenjdcpjmgaaGreatDoor
open Go.ChangeShapes Go.WideShapes Go.ChangeAt Go.RowKit Go.WW Go.Deep
section
variable {H:Type} {enc:TypeId×Value→H} {w:World} {base:Nat} {spare:Nat→Bool} {held:Bool} {fuel:Nat} {x:DataW H×List MemPlace}
theorem afX{v:Value}(h:DataW.trod enc Tryz.prog w base spare held fuel 43 [v]=some x):∃n:Int,v=.int .u32 n∧0≤n∧n≤4294967295:=by
 obtain⟨n,hs,_,hw⟩:=DataW.trod_int Tryz.underlying43 h
 simp only[Lit.wf,Bool.and_eq_true,decide_eq_true_eq]at hw
 exact⟨n,by simpa using hs,hw.1,hw.2⟩
theorem afY{cs:List Value}(h:DataW.trod enc Tryz.prog w base spare held fuel 47 cs=some x)(hb:Rows.uptoBulk x.1≤1048576):∃(r:aN) (d:Entry),cs=(ae r d).toList∧bK w r d:=by
 obtain⟨hl,n,hf⟩:=Aw Tryz.underlying47 h hb
 rw[TF]at hl
 obtain⟨c0,c1,c2,c3,c4,c5,c6,c7,c8,c9,c10,c11,c12,c13,c14,c15,c16,rfl⟩:=afL hl
 obtain⟨y0,t0,b0⟩:=hf 0 _ rfl
 replace t0:DataW.trod enc Tryz.prog w base spare held n 40 (([c0,c1,c2,c3,c4,c5,c6,c7,c8,c9,c10,c11,c12,c13,c14,c15,c16].drop 0).take (Tryz.prog.cellsOf 40))=some y0:=t0
 rw[Gm]at t0
 replace t0:DataW.trod enc Tryz.prog w base spare held n 40 [c0,c1]=some y0:=t0
 obtain⟨y1,t1,b1⟩:=hf 1 _ rfl
 replace t1:DataW.trod enc Tryz.prog w base spare held n 41 (([c0,c1,c2,c3,c4,c5,c6,c7,c8,c9,c10,c11,c12,c13,c14,c15,c16].drop 2).take (Tryz.prog.cellsOf 41))=some y1:=t1
 rw[Kr,take_one (c:=c2) rfl]at t1
 obtain⟨y2,t2,b2⟩:=hf 2 _ rfl
 replace t2:DataW.trod enc Tryz.prog w base spare held n 43 (([c0,c1,c2,c3,c4,c5,c6,c7,c8,c9,c10,c11,c12,c13,c14,c15,c16].drop 3).take (Tryz.prog.cellsOf 43))=some y2:=t2
 rw[afM,take_one (c:=c3) rfl]at t2
 obtain⟨y3,t3,b3⟩:=hf 3 _ rfl
 replace t3:DataW.trod enc Tryz.prog w base spare held n 3 (([c0,c1,c2,c3,c4,c5,c6,c7,c8,c9,c10,c11,c12,c13,c14,c15,c16].drop 4).take (Tryz.prog.cellsOf 3))=some y3:=t3
 rw[jI,take_one (c:=c4) rfl]at t3
 obtain⟨y4,t4,b4⟩:=hf 4 _ rfl
 replace t4:DataW.trod enc Tryz.prog w base spare held n 44 (([c0,c1,c2,c3,c4,c5,c6,c7,c8,c9,c10,c11,c12,c13,c14,c15,c16].drop 5).take (Tryz.prog.cellsOf 44))=some y4:=t4
 rw[afO,take_one (c:=c5) rfl]at t4
 obtain⟨y5,t5,b5⟩:=hf 5 _ rfl
 replace t5:DataW.trod enc Tryz.prog w base spare held n 9 (([c0,c1,c2,c3,c4,c5,c6,c7,c8,c9,c10,c11,c12,c13,c14,c15,c16].drop 6).take (Tryz.prog.cellsOf 9))=some y5:=t5
 rw[CX,take_one (c:=c6) rfl]at t5
 obtain⟨y6,t6,b6⟩:=hf 6 _ rfl
 replace t6:DataW.trod enc Tryz.prog w base spare held n 3 (([c0,c1,c2,c3,c4,c5,c6,c7,c8,c9,c10,c11,c12,c13,c14,c15,c16].drop 7).take (Tryz.prog.cellsOf 3))=some y6:=t6
 rw[jI,take_one (c:=c7) rfl]at t6
 obtain⟨y7,t7,b7⟩:=hf 7 _ rfl
 replace t7:DataW.trod enc Tryz.prog w base spare held n 3 (([c0,c1,c2,c3,c4,c5,c6,c7,c8,c9,c10,c11,c12,c13,c14,c15,c16].drop 8).take (Tryz.prog.cellsOf 3))=some y7:=t7
 rw[jI,take_one (c:=c8) rfl]at t7
 obtain⟨y8,t8,b8⟩:=hf 8 _ rfl
 replace t8:DataW.trod enc Tryz.prog w base spare held n 3 (([c0,c1,c2,c3,c4,c5,c6,c7,c8,c9,c10,c11,c12,c13,c14,c15,c16].drop 9).take (Tryz.prog.cellsOf 3))=some y8:=t8
 rw[jI,take_one (c:=c9) rfl]at t8
 obtain⟨y9,t9,b9⟩:=hf 9 _ rfl
 replace t9:DataW.trod enc Tryz.prog w base spare held n 3 (([c0,c1,c2,c3,c4,c5,c6,c7,c8,c9,c10,c11,c12,c13,c14,c15,c16].drop 10).take (Tryz.prog.cellsOf 3))=some y9:=t9
 rw[jI,take_one (c:=c10) rfl]at t9
 obtain⟨y10,t10,b10⟩:=hf 10 _ rfl
 replace t10:DataW.trod enc Tryz.prog w base spare held n 3 (([c0,c1,c2,c3,c4,c5,c6,c7,c8,c9,c10,c11,c12,c13,c14,c15,c16].drop 11).take (Tryz.prog.cellsOf 3))=some y10:=t10
 rw[jI,take_one (c:=c11) rfl]at t10
 obtain⟨y11,t11,b11⟩:=hf 11 _ rfl
 replace t11:DataW.trod enc Tryz.prog w base spare held n 3 (([c0,c1,c2,c3,c4,c5,c6,c7,c8,c9,c10,c11,c12,c13,c14,c15,c16].drop 12).take (Tryz.prog.cellsOf 3))=some y11:=t11
 rw[jI,take_one (c:=c12) rfl]at t11
 obtain⟨y12,t12,b12⟩:=hf 12 _ rfl
 replace t12:DataW.trod enc Tryz.prog w base spare held n 3 (([c0,c1,c2,c3,c4,c5,c6,c7,c8,c9,c10,c11,c12,c13,c14,c15,c16].drop 13).take (Tryz.prog.cellsOf 3))=some y12:=t12
 rw[jI,take_one (c:=c13) rfl]at t12
 obtain⟨y13,t13,b13⟩:=hf 13 _ rfl
 replace t13:DataW.trod enc Tryz.prog w base spare held n 41 (([c0,c1,c2,c3,c4,c5,c6,c7,c8,c9,c10,c11,c12,c13,c14,c15,c16].drop 14).take (Tryz.prog.cellsOf 41))=some y13:=t13
 rw[Kr,take_one (c:=c14) rfl]at t13
 obtain⟨y14,t14,b14⟩:=hf 14 _ rfl
 replace t14:DataW.trod enc Tryz.prog w base spare held n 41 (([c0,c1,c2,c3,c4,c5,c6,c7,c8,c9,c10,c11,c12,c13,c14,c15,c16].drop 15).take (Tryz.prog.cellsOf 41))=some y14:=t14
 rw[Kr,take_one (c:=c15) rfl]at t14
 obtain⟨y15,t15,b15⟩:=hf 15 _ rfl
 replace t15:DataW.trod enc Tryz.prog w base spare held n 45 (([c0,c1,c2,c3,c4,c5,c6,c7,c8,c9,c10,c11,c12,c13,c14,c15,c16].drop 16).take (Tryz.prog.cellsOf 45))=some y15:=t15
 rw[afQ,take_one (c:=c16) rfl]at t15
 obtain⟨s0,n0,e0,hs0⟩:=Kt t0 b0
 obtain⟨rfl,rfl⟩:c0=.slice s0.a n0.parts.length s0.cap∧c1=.string n0.aG:=by simpa[ah]using e0
 obtain⟨s1,n1,rfl,hs1⟩:=Ku t1 b1
 obtain⟨n2,rfl,hs2⟩:=afX t2
 clear b2
 obtain⟨n3,rfl⟩:=jJ t3
 clear b3
 obtain⟨s4,n4,rfl,hs4⟩:=afV t4 b4
 obtain⟨n5,rfl,hs5⟩:=Az t5 b5
 obtain⟨n6,rfl⟩:=jJ t6
 clear b6
 obtain⟨n7,rfl⟩:=jJ t7
 clear b7
 obtain⟨n8,rfl⟩:=jJ t8
 clear b8
 obtain⟨n9,rfl⟩:=jJ t9
 clear b9
 obtain⟨n10,rfl⟩:=jJ t10
 clear b10
 obtain⟨n11,rfl⟩:=jJ t11
 clear b11
 obtain⟨n12,rfl⟩:=jJ t12
 clear b12
 obtain⟨s13,n13,rfl,af5⟩:=Ku t13 b13
 obtain⟨s14,n14,rfl,af6⟩:=Ku t14 b14
 obtain⟨s15,n15,rfl,af7⟩:=afW t15 b15
 exact⟨⟨s0,s1,s4,s13,s14,s15⟩,⟨n0,n1,n2,n3,n4,n5,n6,n7,n8,n9,n10,n11,n12,n13,n14,n15⟩,rfl,⟨hs0,hs1,hs4,af5,af6,af7,hs5,hs2⟩⟩
theorem af8{cs:List Value}(h:DataW.trod enc Tryz.prog w base spare held fuel 50 cs=some x)(hb:Rows.uptoBulk x.1≤1048576):∃p:ai,cs=(aC p).toList∧p.name.size≤lim:=by
 obtain⟨hl,n,hf⟩:=Aw Tryz.underlying50 h hb
 rw[TG]at hl
 obtain⟨c0,c1,c2,c3,c4,c5,c6,c7,c8,c9,rfl⟩:=afK hl
 obtain⟨y0,t0,b0⟩:=hf 0 _ rfl
 replace t0:DataW.trod enc Tryz.prog w base spare held n 9 (([c0,c1,c2,c3,c4,c5,c6,c7,c8,c9].drop 0).take (Tryz.prog.cellsOf 9))=some y0:=t0
 rw[CX,take_one (c:=c0) rfl]at t0
 obtain⟨y1,t1,b1⟩:=hf 1 _ rfl
 replace t1:DataW.trod enc Tryz.prog w base spare held n 3 (([c0,c1,c2,c3,c4,c5,c6,c7,c8,c9].drop 1).take (Tryz.prog.cellsOf 3))=some y1:=t1
 rw[jI,take_one (c:=c1) rfl]at t1
 obtain⟨y2,t2,b2⟩:=hf 2 _ rfl
 replace t2:DataW.trod enc Tryz.prog w base spare held n 3 (([c0,c1,c2,c3,c4,c5,c6,c7,c8,c9].drop 2).take (Tryz.prog.cellsOf 3))=some y2:=t2
 rw[jI,take_one (c:=c2) rfl]at t2
 obtain⟨y3,t3,b3⟩:=hf 3 _ rfl
 replace t3:DataW.trod enc Tryz.prog w base spare held n 3 (([c0,c1,c2,c3,c4,c5,c6,c7,c8,c9].drop 3).take (Tryz.prog.cellsOf 3))=some y3:=t3
 rw[jI,take_one (c:=c3) rfl]at t3
 obtain⟨y4,t4,b4⟩:=hf 4 _ rfl
 replace t4:DataW.trod enc Tryz.prog w base spare held n 3 (([c0,c1,c2,c3,c4,c5,c6,c7,c8,c9].drop 4).take (Tryz.prog.cellsOf 3))=some y4:=t4
 rw[jI,take_one (c:=c4) rfl]at t4
 obtain⟨y5,t5,b5⟩:=hf 5 _ rfl
 replace t5:DataW.trod enc Tryz.prog w base spare held n 3 (([c0,c1,c2,c3,c4,c5,c6,c7,c8,c9].drop 5).take (Tryz.prog.cellsOf 3))=some y5:=t5
 rw[jI,take_one (c:=c5) rfl]at t5
 obtain⟨y6,t6,b6⟩:=hf 6 _ rfl
 replace t6:DataW.trod enc Tryz.prog w base spare held n 3 (([c0,c1,c2,c3,c4,c5,c6,c7,c8,c9].drop 6).take (Tryz.prog.cellsOf 3))=some y6:=t6
 rw[jI,take_one (c:=c6) rfl]at t6
 obtain⟨y7,t7,b7⟩:=hf 7 _ rfl
 replace t7:DataW.trod enc Tryz.prog w base spare held n 3 (([c0,c1,c2,c3,c4,c5,c6,c7,c8,c9].drop 7).take (Tryz.prog.cellsOf 3))=some y7:=t7
 rw[jI,take_one (c:=c7) rfl]at t7
 obtain⟨y8,t8,b8⟩:=hf 8 _ rfl
 replace t8:DataW.trod enc Tryz.prog w base spare held n 3 (([c0,c1,c2,c3,c4,c5,c6,c7,c8,c9].drop 8).take (Tryz.prog.cellsOf 3))=some y8:=t8
 rw[jI,take_one (c:=c8) rfl]at t8
 obtain⟨y9,t9,b9⟩:=hf 9 _ rfl
 replace t9:DataW.trod enc Tryz.prog w base spare held n 3 (([c0,c1,c2,c3,c4,c5,c6,c7,c8,c9].drop 9).take (Tryz.prog.cellsOf 3))=some y9:=t9
 rw[jI,take_one (c:=c9) rfl]at t9
 obtain⟨n0,rfl,hs0⟩:=Az t0 b0
 obtain⟨n1,rfl⟩:=jJ t1
 clear b1
 obtain⟨n2,rfl⟩:=jJ t2
 clear b2
 obtain⟨n3,rfl⟩:=jJ t3
 clear b3
 obtain⟨n4,rfl⟩:=jJ t4
 clear b4
 obtain⟨n5,rfl⟩:=jJ t5
 clear b5
 obtain⟨n6,rfl⟩:=jJ t6
 clear b6
 obtain⟨n7,rfl⟩:=jJ t7
 clear b7
 obtain⟨n8,rfl⟩:=jJ t8
 clear b8
 obtain⟨n9,rfl⟩:=jJ t9
 clear b9
 exact⟨⟨n0,n1,n2,n3,n4,n5,n6,n7,n8,n9⟩,rfl,hs0⟩
end
end Go.Proofs.YtfieenjdcpjmgaaGreatDoor
namespace Go.WW
structure yA{α:Type}(c:α→α→Int):Prop where
 zero:∀a b,c a b=0↔a=b
 tJ:∀a b,c b a=- c a b
 trans:∀a b d,c a b<0→c b d<0→c a d<0
theorem Kv:∀l:List UInt8,Op.bytesLess l l=false
 | []=>rfl
 |a::l=>by simp[Op.bytesLess,Kv l]
theorem Kw:∀a b:List UInt8,Op.bytesLess a b=false→Op.bytesLess b a=false→a=b
 | [],[],_,_=>rfl
 | [],_::_,h,_=>by simp[Op.bytesLess]at h
 |_::_,[],_,h=>by simp[Op.bytesLess]at h
 |a::x,b::y,h,h'=>by
  simp only[Op.bytesLess,Bool.or_eq_false_iff,decide_eq_false_iff_not,Bool.and_eq_false_iff]at h h'
  have e:a=b:=UInt8.le_antisymm (UInt8.not_lt.1 h'.1) (UInt8.not_lt.1 h.1)
  subst e
  have h1:Op.bytesLess x y=false:=by rcases h.2 with h|h;simp at h;exact h
  have h2:Op.bytesLess y x=false:=by rcases h'.2 with h|h;simp at h;exact h
  rw[Kw x y h1 h2]
theorem Ky:∀a b d:List UInt8,Op.bytesLess a b=true→Op.bytesLess b d=true→Op.bytesLess a d=true
 |_,[],_,h,_=>by simp[Op.bytesLess]at h
 |_,_::_,[],_,h=>by simp[Op.bytesLess]at h
 | [],_::_,_::_,_,_=>rfl
 |a::x,b::y,d::z,h,h'=>by
  simp only[Op.bytesLess,Bool.or_eq_true,decide_eq_true_eq,Bool.and_eq_true,beq_iff_eq]at h h' ⊢
  rcases h with h|⟨rfl,h⟩
  ·rcases h' with h'|⟨rfl,h'⟩
   ·exact .inl (UInt8.lt_trans h h')
   ·exact .inl h
  ·rcases h' with h'|⟨rfl,h'⟩
   ·exact .inl h'
   ·exact .inr ⟨rfl,Ky x y z h h'⟩
def dD(a b:ByteArray):Int:=if Op.bytesLess a.toList b.toList then -1 else if Op.bytesLess b.toList a.toList then 1 else 0
theorem toList_inj{a b:ByteArray}(h:a.toList=b.toList):a=b:=by
 rw[ByteArray.toList_eq,ByteArray.toList_eq]at h;exact WideShapes.bytes_inj h
theorem oW:yA dD where
 zero a b:=by
  unfold dD
  constructor
  ·intro h
   split at h
   ·omega
   ·split at h
    ·omega
    ·rename_i h1 h2
     exact toList_inj (Kw _ _ (by simpa using h1) (by simpa using h2))
  ·rintro rfl;simp[Kv]
 tJ a b:=by
  unfold dD
  cases h1:Op.bytesLess a.toList b.toList<;>cases h2:Op.bytesLess b.toList a.toList<;>simp
  have:=Ky _ _ _ h1 h2
  rw[Kv]at this;cases this
 trans a b d h1 h2:=by
  unfold dD at *
  have e1:Op.bytesLess a.toList b.toList=true:=by
   cases h:Op.bytesLess a.toList b.toList
   ·rw[h]at h1;cases h':Op.bytesLess b.toList a.toList<;>rw[h']at h1<;>simp at h1
   ·rfl
  have e2:Op.bytesLess b.toList d.toList=true:=by
   cases h:Op.bytesLess b.toList d.toList
   ·rw[h]at h2;cases h':Op.bytesLess d.toList b.toList<;>rw[h']at h2<;>simp at h2
   ·rfl
  rw[Ky _ _ _ e1 e2];simp
def cmpL{α:Type}(c:α→α→Int):List α→List α→Int
 | [],[]=>0
 | [],_::_=>-1
 |_::_,[]=>1
 |a::x,b::y=>if c a b=0 then cmpL c x y else c a b
theorem Kz{α:Type}{c:α→α→Int}(h:yA c):yA (cmpL c) where
 zero a:=by
  induction a with
  |nil=>intro b;cases b<;>simp[cmpL]
  |cons a x ih=>
   intro b
   cases b with
   |nil=>simp[cmpL]
   |cons b y=>
    unfold cmpL
    by_cases e:c a b=0
    ·rw[if_pos e,ih];rw[h.zero]at e;simp[e]
    ·rw[if_neg e]
     constructor
     ·intro h';exact absurd h' e
     ·intro h';injection h' with h1 h2;exact absurd ((h.zero a b).2 h1) e
 tJ a:=by
  induction a with
  |nil=>intro b;cases b<;>simp[cmpL]
  |cons a x ih=>
   intro b
   cases b with
   |nil=>simp[cmpL]
   |cons b y=>
    unfold cmpL
    rw[h.tJ a b]
    by_cases e:c a b=0
    ·rw[if_pos e,if_pos (by omega),ih]
    ·rw[if_neg e,if_neg (by omega)]
 trans a:=by
  induction a with
  |nil=>intro b d;cases b<;>cases d<;>simp[cmpL]
  |cons a x ih=>
   intro b d
   cases b with
   |nil=>simp[cmpL]
   |cons b y=>
    cases d with
    |nil=>intro _ h2;simp[cmpL]at h2
    |cons d z=>
     unfold cmpL
     by_cases e:c a b=0
     ·rw[if_pos e]
      rw[h.zero]at e;subst e
      by_cases e2:c a d=0
      ·rw[if_pos e2,if_pos e2];exact ih y z
      ·rw[if_neg e2,if_neg e2];intro _ h2;exact h2
     ·rw[if_neg e]
      by_cases e2:c b d=0
      ·rw[if_pos e2]
       rw[h.zero]at e2;subst e2
       rw[if_neg e];intro h1 _;exact h1
      ·rw[if_neg e2]
       intro h1 h2
       have h3:=h.trans _ _ _ h1 h2
       rw[if_neg (by omega)];exact h3
def og:List ByteArray→List ByteArray→Int:=cmpL dD
def fE(p q:az):Int:=if dD p.aG q.aG=0 then og p.parts q.parts else dD p.aG q.aG
theorem KA:yA fE where
 zero p q:=by
  have h1:=oW.zero p.aG q.aG
  have h2:=(Kz oW).zero p.parts q.parts
  unfold fE
  by_cases e:dD p.aG q.aG=0
  ·rw[if_pos e];show cmpL dD p.parts q.parts=0↔_
   rw[h2]
   rw[h1]at e
   cases p;cases q;simp_all
  ·rw[if_neg e]
   constructor
   ·intro h;exact absurd h e
   ·rintro rfl;exact absurd (h1.2 rfl) e
 tJ p q:=by
  unfold fE
  rw[oW.tJ p.aG q.aG]
  by_cases e:dD p.aG q.aG=0
  ·rw[if_pos e,if_pos (by omega)];exact(Kz oW).tJ _ _
  ·rw[if_neg e,if_neg (by omega)]
 trans p q t:=by
  unfold fE
  by_cases e:dD p.aG q.aG=0
  ·rw[if_pos e]
   rw[oW.zero]at e;rw[e]
   by_cases e2:dD q.aG t.aG=0
   ·rw[if_pos e2,if_pos e2];exact(Kz oW).trans _ _ _
   ·rw[if_neg e2,if_neg e2];intro _ h;exact h
  ·rw[if_neg e]
   by_cases e2:dD q.aG t.aG=0
   ·rw[if_pos e2]
    rw[oW.zero]at e2;rw[←e2,if_neg e]
    intro h _;exact h
   ·rw[if_neg e2]
    intro h1 h2
    have h3:=oW.trans _ _ _ h1 h2
    rw[if_neg (by omega)];exact h3
section
variable {α β:Type} {c:β→β→Int} (k:α→β)
def Sorted(c:β→β→Int)(k:α→β)(l:List α):Prop:=l.Pairwise fun a b=>c (k a) (k b)<0
def kP(c:β→β→Int)(k:α→β)(e:α):List α→List α
 | []=>[e]
 |d::l=>if c (k e) (k d)<0 then e::d::l else d::kP c k e l
theorem wV(e:α):∀l:List α,(kP c k e l).Perm (e::l)
 | []=>List.Perm.refl _
 |d::l=>by
  unfold kP
  split
  ·exact List.Perm.refl _
  ·exact((wV e l).cons d).trans (List.Perm.swap e d l)
theorem TM(h:yA c)(e:α):∀l:List α,Sorted c k l→(∀d∈l,k d≠k e)→Sorted c k (kP c k e l)
 | [],_,_=>by simp[kP,Sorted]
 |d::l,hs,hn=>by
  have hs':=List.pairwise_cons.1 hs
  unfold kP
  split
  ·rename_i hlt
   refine List.pairwise_cons.2 ⟨fun x hx=>?_,hs⟩
   rcases List.mem_cons.1 hx with rfl|hx
   ·exact hlt
   ·exact h.trans _ _ _ hlt (hs'.1 x hx)
  ·rename_i hge
   refine List.pairwise_cons.2 ⟨fun x hx=>?_,TM h e l hs'.2 (fun y hy=>hn y (by simp[hy]))⟩
   have hx':=(wV k e l).mem_iff.1 hx
   rcases List.mem_cons.1 hx' with rfl|hx
   ·have h0:c (k d) (k x)≠0:=fun e0=>hn d (by simp) ((h.zero _ _).1 e0)
    have h1:=h.tJ (k d) (k x)
    omega
   ·exact hs'.1 x hx
theorem KC(h:yA c):∀(l m:List α),Sorted c k l→Sorted c k m→l.Perm m→l=m
 | [],m,_,_,hp=>by simp[hp.symm.eq_nil]
 |a::l,[],_,_,hp=>by simpa using hp.eq_nil
 |a::l,b::m,hs,ht,hp=>by
  have hs':=List.pairwise_cons.1 hs
  have ht':=List.pairwise_cons.1 ht
  have e:a=b:=by
   have ha:a∈b::m:=hp.mem_iff.1 (by simp)
   have hb:b∈a::l:=hp.mem_iff.2 (by simp)
   rcases List.mem_cons.1 ha with e|ha
   ·exact e
   ·rcases List.mem_cons.1 hb with e|hb
    ·exact e.symm
    ·have h1:=ht'.1 a ha
     have h2:=hs'.1 b hb
     have h3:=h.tJ (k a) (k b)
     omega
  subst e
  rw[KC h l m hs'.2 ht'.2 (List.Perm.cons_inv hp)]
end
end Go.WW
namespace Go.WW
open Go.RowKit
structure But(S:Nat→Prop)(w w':World):Prop where
 os:w'.os=w.os
 tape:w'.tape=w.tape
 output:w'.output=w.output
 size:w.heap.size≤w'.heap.size
 block:∀k,k<w.heap.size→¬S k→w'.heap[k]?=w.heap[k]?
theorem But.refl(S:Nat→Prop)(w:World):But S w w:=⟨rfl,rfl,rfl,Nat.le_refl _,fun _ _ _=>rfl⟩
theorem But.trans{S:Nat→Prop}{a b c:World}(h:But S a b)(k:But S b c):But S a c:=
 ⟨k.os.trans h.os,k.tape.trans h.tape,k.output.trans h.output,Nat.le_trans h.size k.size,fun i hi hS=>(k.block i (Nat.lt_of_lt_of_le hi h.size) hS).trans (h.block i hi hS)⟩
theorem But.of_below{S:Nat→Prop}{w w':World}(h:Below w.heap.size w w'):But S w w':=⟨h.os,h.tape,h.output,h.size,fun k hk _=>h.block k hk⟩
theorem But.mono{S S':Nat→Prop}{w w':World}(h:But S w w')(hS:∀k,S k→S' k):But S' w w':=⟨h.os,h.tape,h.output,h.size,fun k hk hn=>h.block k hk (fun x=>hn (hS k x))⟩
theorem But.below{S:Nat→Prop}{w w':World}{n:Nat}(h:But S w w')(hn:n≤w.heap.size)(hS:∀k,S k→n≤k):Below n w w':=
 ⟨h.os,h.tape,h.output,h.size,fun k hk=>h.block k (Nat.lt_of_lt_of_le hk hn) (fun x=>absurd (hS k x) (by omega))⟩
structure TN(es:Array MapEntry)(clock:Nat)(m:List (ByteArray×Value)):Prop where
 dG:es.toList.map (fun e=>(e.key,e.val))=m.map (fun x=>(Value.string x.1,x.2))
 keys:(m.map (·.1)).Nodup
 born:∀e∈es.toList,e.born<clock
 once:(es.toList.map (·.born)).Nodup
def MapOf(w:World)(b:Nat)(m:List (ByteArray×Value)):Prop:=∃es clock,w.heap[b]?=some (.map es clock)∧TN es clock m
theorem MapOf.at{w w':World}{b:Nat}{m:List (ByteArray×Value)}(h:MapOf w b m)(e:w'.heap[b]?=w.heap[b]?):MapOf w' b m:=by
 obtain⟨es,clock,h1,h2⟩:=h
 exact⟨es,clock,e.trans h1,h2⟩
theorem MapOf.lt{w:World}{b:Nat}{m:List (ByteArray×Value)}(h:MapOf w b m):b<w.heap.size:=by
 obtain⟨es,clock,h1,_⟩:=h
 exact(Array.getElem?_eq_some_iff.1 h1).1
theorem TP(a b:ByteArray):Instr.sameNow .string (.string a) (.string b)=some (decide (a=b)):=by
 show some (a == b)=_
 congr 1
 by_cases h:a=b
 ·rw[decide_eq_true h,(MapKept.bytes_beq a b).2 h]
 ·rw[decide_eq_false h,←Bool.not_eq_true,MapKept.bytes_beq];exact h
theorem Gn(k:ByteArray):∀(l:List MapEntry) (m:List (ByteArray×Value)) (i:Nat),l.map (fun e=>(e.key,e.val))=m.map (fun x=>(Value.string x.1,x.2))→k∉m.map (·.1)→Instr.findNow .string (.string k) l i=some none
 | [],_,_,_,_=>rfl
 |e::l,[],_,h,_=>by simp at h
 |e::l,x::m,i,h,hk=>by
  simp only[List.map_cons,List.cons.injEq,Prod.mk.injEq]at h
  unfold Instr.findNow
  have hne:¬k=x.1:=fun he=>hk (by simp[he])
  rw[h.1.1,TP,decide_eq_false hne]
  exact Gn k l m (i+1) h.2 (fun hm=>hk (by simp only[List.map_cons,List.mem_cons];exact .inr hm))
theorem Gp(k:ByteArray)(v:Value):∀(l:List MapEntry) (m:List (ByteArray×Value)) (i:Nat),l.map (fun e=>(e.key,e.val))=m.map (fun x=>(Value.string x.1,x.2))→(m.map (·.1)).Nodup→(k,v)∈m→∃j,Instr.findNow .string (.string k) l i=some (some (i+j,v))∧m[j]?=some (k,v)
 | [],m,_,h,_,hv=>by cases m with|nil=>simp at hv|cons=>simp at h
 |e::l,[],_,h,_,_=>by simp at h
 |e::l,x::m,i,h,hn,hv=>by
  simp only[List.map_cons,List.cons.injEq,Prod.mk.injEq]at h
  simp only[List.map_cons,List.nodup_cons]at hn
  unfold Instr.findNow
  rw[h.1.1,TP]
  by_cases he:k=x.1
  ·rw[decide_eq_true he]
   have hx:x=(k,v):=by
    rcases List.mem_cons.1 hv with e|hv
    ·exact e.symm
    ·exact absurd (List.mem_map.2 ⟨(k,v),hv,he⟩) hn.1
   subst hx
   exact⟨0,by rw[h.1.2];rfl,rfl⟩
  ·rw[decide_eq_false he]
   have hv':(k,v)∈m:=by
    rcases List.mem_cons.1 hv with e|hv
    ·exact absurd (by rw[←e]) he
    ·exact hv
   obtain⟨j,h1,h2⟩:=Gp k v l m (i+1) h.2 hn.2 hv'
   exact⟨j+1,by rw[show i+(j+1)=i+1+j by omega];exact h1,by simpa using h2⟩
section
variable {P:Program} {w:World} {mty kt et:TypeId} {b:Nat} {m:List (ByteArray×Value)} {k:ByteArray}
theorem Gq{v:Value}(c:Bool)(hm:P.underlying mty=some (.map kt et))(hd:P.underlying kt=some .string)(h:MapOf w b m)(hv:(k,v)∈m) :
  (Instr.lookup mty (.map (some b)) (.string k) c).run P w=.ok (if c then .tuple #[v,.bool true]else v) w:=by
 obtain⟨es,clock,hb,hr⟩:=h
 obtain⟨j,hf,_⟩:=Gp k v _ _ 0 hr.dG hr.keys hv
 have hc:(Instr.checkKey es.isEmpty 10000 kt (.string k)).run P w=.ok () w:=MapKept.run_checkKey hd (by trivial) _ 9999
 simp[Instr.lookup,run_underlying hm,MapKept.run_getObj_map hb,hc,MapKept.run_findKey hd hf,Result.andThen]
theorem Gs{z:Value}(c:Bool)(hm:P.underlying mty=some (.map kt et))(hd:P.underlying kt=some .string)(h:MapOf w b m)(hz:(zeroValue et).run P w=.ok z w)(hv:k∉m.map (·.1)) :
  (Instr.lookup mty (.map (some b)) (.string k) c).run P w=.ok (if c then .tuple #[z,.bool false]else z) w:=by
 obtain⟨es,clock,hb,hr⟩:=h
 have hf:=Gn k _ _ 0 hr.dG hv
 have hc:(Instr.checkKey es.isEmpty 10000 kt (.string k)).run P w=.ok () w:=MapKept.run_checkKey hd (by trivial) _ 9999
 simp[Instr.lookup,run_underlying hm,MapKept.run_getObj_map hb,hc,MapKept.run_findKey hd hf,Result.andThen,hz]
def hasK(m:List (ByteArray×Value))(k:ByteArray):Bool:=m.any fun x=>decide (x.1=k)
theorem TQ(m:List (ByteArray×Value))(k:ByteArray):hasK m k=true↔k∈m.map (·.1):=by simp[hasK]
def oh(m:List (ByteArray×Value))(k:ByteArray)(v:Value):List (ByteArray×Value):=if hasK m k=true then m.map (fun x=>if x.1=k then(k,v)else x)else m++[(k,v)]
def lG(m:List (ByteArray×Value))(k:ByteArray):List (ByteArray×Value):=m.filter fun x=>decide (x.1≠k)
theorem CY{w:World}{b:Nat}(o:Obj):But (·=b) w (w.putObj b o):=
 ⟨rfl,rfl,rfl,by simp[World.putObj],fun k _ hn=>by simp only[World.putObj];rw[Array.getElem?_setIfInBounds];simp[Ne.symm (show k≠b from hn)]⟩
theorem af9(l:List MapEntry):∀(m:List (ByteArray×Value)) (j:Nat) (v:Value),l.map (fun e=>(e.key,e.val))=m.map (fun x=>(Value.string x.1,x.2))→(m.map (·.1)).Nodup→∀k v0,m[j]?=some (k,v0)→
  (l.modify j fun e=>{e with key:=.string k,val:=v}).map (fun e=>(e.key,e.val))=(m.map (fun x=>if x.1=k then(k,v)else x)).map (fun x=>(Value.string x.1,x.2)):=by
 induction l with
 |nil=>intro m j v h;cases m with|nil=>simp|cons=>simp at h
 |cons e l ih=>
  intro m j v h hn k v0 hj
  cases m with
  |nil=>simp at h
  |cons x m=>
   simp only[List.map_cons,List.cons.injEq,Prod.mk.injEq]at h
   simp only[List.map_cons,List.nodup_cons]at hn
   cases j with
   |zero=>
    simp only[List.getElem?_cons_zero,Option.some.injEq]at hj
    subst hj
    have hm:m.map (fun x=>if x.1=k then(k,v)else x)=m:=by
     conv=>rhs;rw[←List.map_id m]
     refine List.map_congr_left fun y hy=>?_
     have:¬y.1=k:=fun e=>hn.1 (List.mem_map.2 ⟨y,hy,e⟩)
     simp[this]
    simp[hm,h.2]
   |succ j=>
    simp only[List.getElem?_cons_succ]at hj
    have hne:¬x.1=k:=fun e=>hn.1 (by
     have:=List.mem_of_getElem? hj
     exact List.mem_map.2 ⟨_,this,e.symm⟩)
    simp only[List.modify_succ_cons,List.map_cons,hne,if_false]
    rw[ih m j v h.2 hn.2 k v0 hj,h.1.1,h.1.2]
theorem aga{m:List (ByteArray×Value)}{k:ByteArray}{v:Value}:(m.map (fun x=>if x.1=k then(k,v)else x)).map (·.1)=m.map (·.1):=by
 rw[List.map_map]
 refine List.map_congr_left fun x _=>?_
 simp only[Function.comp]
 split
 ·rename_i h;exact h.symm
 ·rfl
theorem AA{v:Value}(hm:P.underlying mty=some (.map kt et))(hd:P.underlying kt=some .string)(h:MapOf w b m) :
  ∃w',(Instr.mapUpdate mty (.map (some b)) (.string k) v).run P w=.ok () w'∧MapOf w' b (oh m k v)∧But (·=b) w w'∧w'.heap.size=w.heap.size:=by
 obtain⟨es,clock,hb,hr⟩:=h
 have hlt:=(Array.getElem?_eq_some_iff.1 hb).1
 have hc:(Instr.checkKey false 10000 kt (.string k)).run P w=.ok () w:=MapKept.run_checkKey hd (by trivial) _ 9999
 by_cases hk:k∈m.map (·.1)
 ·obtain⟨⟨k',v0⟩,hx,rfl⟩:=List.mem_map.1 hk
  obtain⟨j,hf,hj⟩:=Gp k' v0 _ _ 0 hr.dG hr.keys hx
  rw[Nat.zero_add]at hf
  have hjl:j<es.toList.length:=by
   have h1:=(List.getElem?_eq_some_iff.1 hj).1
   have h2:=congrArg List.length hr.dG
   simp only[List.length_map]at h2
   omega
  have hkey:es[j]?.map (·.key)=some (.string k'):=by
   have h2:=congrArg (fun l=>(l[j]?).map (·.1)) hr.dG
   simp only[List.getElem?_map,hj,Option.map_map]at h2
   rw[←Array.getElem?_toList]
   simpa[Function.comp]using h2
  have hks:(Instr.keyThatStays (((es[j]?).map (·.key)).getD (.string k')) (.string k')).run P w=.ok (.string k') w:=by
   rw[hkey];exact MapKept.run_keyThatStays (d:=.string) (by trivial)
  refine⟨w.putObj b (.map (es.modify j fun e=>{e with key:=.string k',val:=v}) clock),?_,⟨_,clock,World.putObj_heap_same hlt,?_⟩,CY _,by simp[World.putObj]⟩
  ·simp[Instr.mapUpdate,run_underlying hm,MapKept.run_getObj_map hb,hc,MapKept.run_findKey hd hf,hks,MapKept.run_setObj_map _ hb,Result.andThen,World.putObj]
  ·unfold oh
   rw[if_pos ((TQ _ _).2 hk)]
   refine⟨?_,by rw[aga];exact hr.keys,?_,?_⟩
   ·rw[Array.toList_modify];exact af9 _ _ _ _ hr.dG hr.keys k' v0 hj
   ·intro e he
    rw[Array.toList_modify]at he
    obtain⟨i,hi,rfl⟩:=List.mem_iff_getElem.1 he
    rw[List.getElem_modify]
    have hi':i<es.toList.length:=by simpa using hi
    split
    ·rename_i e;subst e;exact hr.born es.toList[j] (List.getElem_mem hi')
    ·exact hr.born _ (List.getElem_mem hi')
   ·have:(es.modify j fun e=>{e with key:=.string k',val:=v}).toList.map (·.born)=es.toList.map (·.born):=by
     rw[Array.toList_modify]
     refine List.ext_getElem (by simp) fun i h1 h2=>?_
     simp only[List.getElem_map,List.getElem_modify]
     split
     ·rename_i e;subst e;rfl
     ·rfl
    rw[this];exact hr.once
 ·have hf:=Gn k _ _ 0 hr.dG hk
  refine⟨w.putObj b (.map (es.push {key:=.string k,val:=v,born:=clock}) (clock+1)),?_,⟨_,clock+1,World.putObj_heap_same hlt,?_⟩,CY _,by simp[World.putObj]⟩
  ·simp[Instr.mapUpdate,run_underlying hm,MapKept.run_getObj_map hb,hc,MapKept.run_findKey hd hf,MapKept.run_setObj_map _ hb,Result.andThen,World.putObj]
  ·unfold oh
   rw[if_neg (fun e=>hk ((TQ _ _).1 e))]
   refine⟨by simp[hr.dG],?_,?_,?_⟩
   ·rw[List.map_append]
    refine List.nodup_append.2 ⟨hr.keys,by simp,?_⟩
    intro a ha c hc e
    simp only[List.map_cons,List.map_nil,List.mem_singleton]at hc
    exact hk (by rw[←hc,←e];exact ha)
   ·intro e he
    simp only[Array.toList_push,List.mem_append,List.mem_singleton]at he
    rcases he with he|rfl
    ·have:=hr.born e he;omega
    ·exact Nat.lt_succ_self _
   ·simp only[Array.toList_push,List.map_append,List.map_cons,List.map_nil]
    refine List.nodup_append.2 ⟨hr.once,by simp,?_⟩
    intro a ha c hc e
    simp only[List.mem_singleton]at hc
    obtain⟨x,hx,rfl⟩:=List.mem_map.1 ha
    have:=hr.born x hx
    omega
theorem agb(l:List MapEntry):∀(m:List (ByteArray×Value)) (j:Nat),l.map (fun e=>(e.key,e.val))=m.map (fun x=>(Value.string x.1,x.2))→(m.map (·.1)).Nodup→∀k v0,m[j]?=some (k,v0)→
  (l.eraseIdx j).map (fun e=>(e.key,e.val))=(lG m k).map (fun x=>(Value.string x.1,x.2)):=by
 induction l with
 |nil=>intro m j h;cases m with|nil=>simp[lG]|cons=>simp at h
 |cons e l ih=>
  intro m j h hn k v0 hj
  cases m with
  |nil=>simp at h
  |cons x m=>
   simp only[List.map_cons,List.cons.injEq,Prod.mk.injEq]at h
   simp only[List.map_cons,List.nodup_cons]at hn
   cases j with
   |zero=>
    simp only[List.getElem?_cons_zero,Option.some.injEq]at hj
    subst hj
    have hm:lG ((k,v0)::m) k=m:=by
     unfold lG
     rw[List.filter_cons_of_neg (by simp)]
     refine List.filter_eq_self.2 fun y hy=>?_
     have:¬y.1=k:=fun e=>hn.1 (List.mem_map.2 ⟨y,hy,e⟩)
     simp[this]
    rw[hm];exact h.2
   |succ j=>
    simp only[List.getElem?_cons_succ]at hj
    have hne:¬x.1=k:=fun e=>hn.1 (by
     have:=List.mem_of_getElem? hj
     exact List.mem_map.2 ⟨_,this,e.symm⟩)
    have hd:lG (x::m) k=x::lG m k:=by unfold lG;rw[List.filter_cons_of_pos (by simp[hne])]
    rw[hd]
    simp only[List.eraseIdx_cons_succ,List.map_cons]
    rw[ih m j h.2 hn.2 k v0 hj,h.1.1,h.1.2]
theorem agc{m:List (ByteArray×Value)}{k:ByteArray}(h:k∉m.map (·.1)):lG m k=m:=
 List.filter_eq_self.2 fun y hy=>by have:¬y.1=k:=fun e=>h (List.mem_map.2 ⟨y,hy,e⟩);simp[this]
theorem KD{ty:TypeId}{nJ:Array TypeId}(ht:nJ[0]?=some mty)(hm:P.underlying mty=some (.map kt et))(hd:P.underlying kt=some .string)(h:MapOf w b m) :
  ∃w',(Builtin.delete_ nJ ty #[.map (some b),.string k]).run P w=.ok (.tuple #[]) w'∧MapOf w' b (lG m k)∧But (·=b) w w'∧w'.heap.size=w.heap.size:=by
 obtain⟨es,clock,hb,hr⟩:=h
 have hlt:=(Array.getElem?_eq_some_iff.1 hb).1
 have hc:(Instr.checkKey es.isEmpty 10000 kt (.string k)).run P w=.ok () w:=MapKept.run_checkKey hd (by trivial) _ 9999
 by_cases hk:k∈m.map (·.1)
 ·obtain⟨⟨k',v0⟩,hx,rfl⟩:=List.mem_map.1 hk
  obtain⟨j,hf,hj⟩:=Gp k' v0 _ _ 0 hr.dG hr.keys hx
  rw[Nat.zero_add]at hf
  refine⟨w.putObj b (.map (es.eraseIdxIfInBounds j) clock),?_,⟨_,clock,World.putObj_heap_same hlt,?_⟩,CY _,by simp[World.putObj]⟩
  ·simp[Builtin.delete_,ht,run_underlying hm,MapKept.run_getObj_map hb,hc,MapKept.run_findKey hd hf,MapKept.run_setObj_map _ hb,Result.andThen,World.putObj]
  ·have ht:(es.eraseIdxIfInBounds j).toList=es.toList.eraseIdx j:=by simp
   refine⟨by rw[ht];exact agb _ _ _ hr.dG hr.keys k' v0 hj,?_,?_,?_⟩
   ·exact(List.filter_sublist.map _).nodup hr.keys
   ·intro e he;rw[ht]at he;exact hr.born e (List.mem_of_mem_eraseIdx he)
   ·rw[ht];exact((List.eraseIdx_sublist _ _).map _).nodup hr.once
 ·have hf:=Gn k _ _ 0 hr.dG hk
  refine⟨w.putObj b (.map es clock),?_,⟨_,clock,World.putObj_heap_same hlt,by rw[agc hk];exact hr⟩,CY _,by simp[World.putObj]⟩
  simp[Builtin.delete_,ht,run_underlying hm,MapKept.run_getObj_map hb,hc,MapKept.run_findKey hd hf,MapKept.run_setObj_map _ hb,Result.andThen,World.putObj]
theorem MapOf.len(h:MapOf w b m):∃es clock,w.heap[b]?=some (.map es clock)∧es.size=m.length:=by
 obtain⟨es,clock,hb,hr⟩:=h
 have h2:=congrArg List.length hr.dG
 simp only[List.length_map,Array.length_toList]at h2
 exact⟨es,clock,hb,h2⟩
end
end Go.WW
namespace Go.WW
open Go.RowKit
def lH(w:World)(i b:Nat)(m left:List (ByteArray×Value)):Prop:=
 ∃es clock seen c0,w.heap[i]?=some (.mapIter (some b) clock seen c0)∧w.heap[b]?=some (.map es clock)∧TN es clock m∧clock≤c0∧(leftOf es seen).toList.map (fun e=>(e.key,e.val))=left.map (fun x=>(Value.string x.1,x.2))
theorem lH.map{w:World}{i b:Nat}{m left:List (ByteArray×Value)}(h:lH w i b m left):MapOf w b m:=by
 obtain⟨es,clock,seen,c0,h1,h2,h3,h4⟩:=h
 exact⟨es,clock,h2,h3⟩
theorem lH.at{w w':World}{i b:Nat}{m left:List (ByteArray×Value)}(h:lH w i b m left)(e:w'.heap[i]?=w.heap[i]?)(e':w'.heap[b]?=w.heap[b]?):lH w' i b m left:=by
 obtain⟨es,clock,seen,c0,h1,h2,h3,h4⟩:=h
 exact⟨es,clock,seen,c0,e.trans h1,e'.trans h2,h3,h4⟩
theorem lH.lt{w:World}{i b:Nat}{m left:List (ByteArray×Value)}(h:lH w i b m left):i<w.heap.size:=by
 obtain⟨es,clock,seen,c0,h1,h2,h3,h4⟩:=h
 exact(Array.getElem?_eq_some_iff.1 h1).1
theorem filter_one(l:List MapEntry)(seen:Array Nat)(e:MapEntry)(A B:List MapEntry)(hn:(l.map (·.born)).Nodup)(h:l.filter (fun x=>!seen.contains x.born)=A++e::B):l.filter (fun x=>!(seen.push e.born).contains x.born)=A++B:=by
 have h1:l.filter (fun x=>!(seen.push e.born).contains x.born)=(l.filter (fun x=>!seen.contains x.born)).filter (fun x=>decide (x.born≠e.born)):=by
  rw[List.filter_filter]
  refine List.filter_congr fun x _=>?_
  simp[Bool.and_comm]
 rw[h1,h,List.filter_append,List.filter_cons_of_neg (by simp)]
 have hs:(A++e::B).Sublist l:=by rw[←h];exact List.filter_sublist
 have hn':=(hs.map (·.born)).nodup hn
 rw[List.map_append,List.map_cons]at hn'
 have hAB:=List.nodup_append.1 hn'
 rw[List.filter_eq_self.2,List.filter_eq_self.2]
 ·intro x hx
  have:=(List.nodup_cons.1 hAB.2.1).1
  simp only[ne_eq,decide_not,Bool.not_eq_eq_eq_not,Bool.not_true,decide_eq_false_iff_not]
  exact fun e'=>this (by rw[←e'];exact List.mem_map.2 ⟨x,hx,rfl⟩)
 ·intro x hx
  simp only[ne_eq,decide_not,Bool.not_eq_eq_eq_not,Bool.not_true,decide_eq_false_iff_not]
  exact fun e'=>hAB.2.2 _ (List.mem_map.2 ⟨x,hx,rfl⟩) _ (by simp) e'
section
variable {P:Program} {w:World} {i b:Nat} {m left:List (ByteArray×Value)}
theorem Gt{mty kt et:TypeId}(hm:P.underlying mty=some (.map kt et))(h:MapOf w b m) :
  ∃w',(Instr.range mty (.map (some b))).run P w=.ok (.pointer (some ⟨w.heap.size,0,none⟩)) w'∧lH w' w.heap.size b m m∧Below w.heap.size w w'∧w'.heap.size=w.heap.size+1:=by
 obtain⟨es,clock,hb,hr⟩:=h
 have hlt:=(Array.getElem?_eq_some_iff.1 hb).1
 refine⟨w.alloc (.mapIter (some b) clock #[] clock),run_range_map w mty kt et b es clock hm hb,⟨es,clock,#[],clock,World.alloc_heap_new _ _,(Below.heap_alloc _ _ _ hlt).trans hb,hr,Nat.le_refl _,?_⟩,(Below.refl _ w).alloc (Nat.le_refl _) _,by simp⟩
 have:(leftOf es #[]).toList=es.toList:=by unfold leftOf;simp
 rw[this];exact hr.dG
theorem Gu(ty:TypeId)(h:lH w i b m left) :
  (left=[]∧(Instr.next (.pointer (some ⟨i,0,none⟩)) false ty).run P w=.ok (.tuple #[.bool false]) w)∨
  ∃l1 x l2 w',left=l1++x::l2∧(Instr.next (.pointer (some ⟨i,0,none⟩)) false ty).run P w=.ok (.tuple #[.bool true,.string x.1,x.2]) w'∧(Instr.entry (.pointer (some ⟨i,0,none⟩))).run P w'=.ok (.tuple #[.string x.1,x.2]) w'∧lH w' i b m (l1++l2)∧But (·=i) w w'∧w'.heap.size=w.heap.size:=by
 obtain⟨es,clock,seen,c0,h1,h2,h3,h4,h5⟩:=h
 have hib:i≠b:=fun e=>by rw[e,h2]at h1;cases h1
 rcases run_next_at (P:=P) w ty i b clock c0 seen es clock h1 h2 h3.born h4 with⟨h0,hrun⟩|⟨e,he,w1,hw1,hrun⟩
 ·left
  refine⟨?_,hrun⟩
  have hl:=congrArg List.length h5
  simp only[List.length_map,Array.length_toList]at hl
  exact List.eq_nil_of_length_eq_zero (by omega)
 ·right
  obtain⟨A,B,hAB⟩:=List.append_of_mem he
  rw[hAB,List.map_append,List.map_cons]at h5
  obtain⟨l1,l',hl,e1,e2⟩:=List.map_eq_append_iff.1 h5.symm
  obtain⟨x,l2,rfl,e3,e4⟩:=List.map_eq_cons_iff.1 e2
  simp only[Prod.mk.injEq]at e3
  have hlt:=(Array.getElem?_eq_some_iff.1 h1).1
  have hheap:w1.heap=w.heap:=by rcases hw1 with rfl|rfl<;>rfl
  have hi':(ChangeMaps.setBlock w1 i (.mapIter (some b) clock (seen.push e.born) clock)).heap[i]?=some (.mapIter (some b) clock (seen.push e.born) clock):=by
   simp only[ChangeMaps.setBlock,hheap];rw[Array.getElem?_setIfInBounds];simp[hlt]
  have hb':(ChangeMaps.setBlock w1 i (.mapIter (some b) clock (seen.push e.born) clock)).heap[b]?=some (.map es clock):=by
   simp only[ChangeMaps.setBlock,hheap];rw[Array.getElem?_setIfInBounds];simp[hib,h2]
  have agd:e∈es.toList:=by
   unfold leftOf at he
   rw[Array.toList_filter]at he
   exact(List.mem_filter.1 he).1
  refine⟨l1,x,l2,_,hl,by rw[e3.1,e3.2];exact hrun,?_,⟨es,clock,_,clock,hi',hb',h3,Nat.le_refl _,?_⟩,?_,by simp[ChangeMaps.setBlock,hheap]⟩
  ·rw[e3.1,e3.2];exact run_entry_at _ i b clock seen es clock e hi' hb' agd h3.once
  ·unfold leftOf at hAB ⊢
   rw[Array.toList_filter]at hAB ⊢
   rw[filter_one _ _ _ _ _ h3.once hAB,List.map_append,List.map_append,e1,e4]
  ·have ht:w1.tape=w.tape∧w1.os=w.os∧w1.output=w.output:=by rcases hw1 with rfl|rfl<;>exact⟨rfl,rfl,rfl⟩
   refine⟨ht.2.1,ht.1,ht.2.2,by simp[ChangeMaps.setBlock,hheap],fun k hk hn=>?_⟩
   simp only[ChangeMaps.setBlock,hheap]
   rw[Array.getElem?_setIfInBounds]
   simp[Ne.symm (show k≠i from hn)]
end
end Go.WW
namespace Go.WW
open Go.RowKit
theorem But.drew{S:Nat→Prop}{a w:World}(h:But S a w):But S a w.drew:=⟨h.os,h.tape,h.output,h.size,h.block⟩
theorem But.cell{S:Nat→Prop}{w w':World}(h:But S w w'){b o:Nat}(hb:b<w.heap.size)(hn:¬S b):w'.cell? ⟨b,o,none⟩=w.cell? ⟨b,o,none⟩:=World.cell?_of_block (a:=⟨b,o,none⟩) (h.block b hb hn)
section
variable {P:Program} {ops:Array Oper} {S:World→Prop} {Q:Act→World→Prop}
def fQ(o:Oper):Bool:=looks o || (match o.op with | .nilCheck _=>true|_=>false)
theorem KE{o:Oper}(h:fQ o=true)(ρ:Operand→Value)(w:World):(∃v w',(execOp ρ o).run P w=.ok (.value v) w')∨∃h w',(execOp ρ o).run P w=.halt h w':=by
 cases hl:looks o
 ·obtain⟨dst,op,type,pos,after,guard⟩:=o
  unfold fQ at h
  rw[hl]at h
  cases op<;>simp at h
  case nilCheck x=>
   simp only[execOp]
   split
   ·exact .inr ⟨_,_,rfl⟩
   ·exact .inr ⟨_,_,rfl⟩
   ·exact .inr ⟨_,_,rfl⟩
   ·split
    ·exact .inr ⟨_,_,rfl⟩
    ·simp only[Sem.run_bind]
     cases (program).run P w with
     |halt h w'=>exact .inr ⟨h,w',by simp⟩
     |ok p w1=>
      dsimp only[Result.andThen]
      cases (nilAhead (p.types.size+Made.depth) _ _ _).run P w1 with
      |halt h w'=>exact .inr ⟨h,w',by simp⟩
      |ok c w2=>
       dsimp only[Result.andThen]
       split
       ·exact .inr ⟨_,_,rfl⟩
       ·exact .inl ⟨_,_,rfl⟩
    ·exact .inl ⟨_,_,rfl⟩
   ·exact .inl ⟨_,_,rfl⟩
 ·exact BZ hl ρ w
theorem aP{o:Oper}{rest:List Oper}{a:Act}{w:World}(hw:Region.wanted o (yielded ops a.tmps)=true)(hs:fQ o=true)
  (h:∀K:Act→Prop,(∀a',aH P ops fQ S Q rest a' w→K a')→o.quiet P a S K):aH P ops fQ S Q (o::rest) a w:=by
 rw[bJ,if_pos hw,if_pos hs]
 obtain⟨v,hv,hh⟩:=h _ (fun _ x=>x)
 refine⟨v,fun w' hw'=>?_,hh⟩
 have:=hv w' hw'
 unfold Oper.quietAt at this
 rcases KE (P:=P) hs a.eval w' with⟨u,w'',e⟩|⟨x,w'',e⟩
 ·rw[e]at this ⊢
  obtain⟨rfl,rfl⟩:=this
  rfl
 ·rw[e]at this
  exact this.elim
theorem aU{o:Oper}{rest:List Oper}{a:Act}{w:World}(hw:Region.wanted o (yielded ops a.tmps)=true)(hs:fQ o=false)
  (h:∀K:Act→World→Prop,(∀a' w',S w'→aH P ops fQ S Q rest a' w'→K a' w')→o.wp P a w K never):aH P ops fQ S Q (o::rest) a w:=by
 rw[bJ,if_pos hw,if_neg (by simp[hs])]
 exact h _ (fun _ _ x y=>⟨x,y⟩)
end
structure qf(S:Nat→Prop)(W:World) where
 w:World
 b:But S W w
instance {S:Nat→Prop} {W:World}:Nonempty (qf S W):=⟨⟨W,But.refl _ _⟩⟩
section
variable {S:Nat→Prop} {W:World} (x:qf S W) (b o:Nat) (h:b<W.heap.size) (hn:¬S b)
include h hn
theorem qf.cell:x.w.cell? ⟨b,o,none⟩=W.cell? ⟨b,o,none⟩:=x.b.cell h hn
theorem qf.frozen:x.w.frozen? ⟨b,o,none⟩=W.frozen? ⟨b,o,none⟩:=by
 have:=x.b.block b h hn
 simp[World.frozen?,this]
theorem qf.row(n:Nat):row? x.w b o n=row? W b o n:=gZ (x.b.block b h hn) o n
end
attribute [go_sem] qf.cell qf.frozen qf.row
abbrev nK(S:Nat→Prop)(w:World):World→Prop:=fun w'=>∃x:qf S w,w'=x.w
theorem oZ{P:Program}{id:Nat}{Q':Exit→Act→World→Prop}{a:Act}{W w:World}{l:List Oper}(S:Nat→Prop)(hW:But S W w)(hm:P.follows .mixedOrders=true)(hB:lW fQ l.toArray=true)
  (h:aH P l.toArray fQ (nK S W) (fun a' w'=>Q' .normal a' w') l a w.drew):(Code.region id l.toArray true).wp P Q' a w:=
 BX (nK S W) fQ hm hB ⟨⟨w.drew,hW.drew⟩,rfl⟩ h
theorem dw{S:Nat→Prop}{W w:World}(h:But S W w):nK S W w:=⟨⟨w,h⟩,rfl⟩
theorem wW{P:Program}{id:Nat}{Q':Exit→Act→World→Prop}{a:Act}{W w:World}{l:List Oper}(hW:Below W.heap.size W w)(hm:P.follows .mixedOrders=true)(hB:lW fQ l.toArray=true)
  (h:∀w1,Below W.heap.size W w1→aH P l.toArray fQ (since W) (fun a' w'=>Q' .normal a' w') l a w1):(Code.region id l.toArray true).wp P Q' a w:=
 BX (since W) fQ hm hB ⟨⟨w.drew,hW.drew⟩,rfl⟩ (h _ hW.drew)
def one(p:Nat):Nat→Prop:=fun k=>k=p
theorem bu{p k:Nat}(h:k≠p):¬one p k:=h
end Go.WW
namespace Go.WW
open Go.RowKit
structure Db where
 aG:ByteArray
 ay:Int
 entries:List Entry
 au:List ai
def ak(e p:Sl)(D:Db):Array Value:=#[.string D.aG,.int .i64 D.ay,.slice e.a D.entries.length e.cap,.slice p.a D.au.length p.cap]
theorem jD(e p:Sl)(D:Db):(ak e p D).size=4:=by simp[ak]
theorem age(e p:Sl)(D:Db):dJ (ak e p D)=true:=by simp[dJ,ak,Value.oneCell']
theorem agf(e p:Sl)(D:Db)(h:0<(ak e p D).size):(ak e p D)[0]'h=.string D.aG:=by simp[ak]
theorem agh(e p:Sl)(D:Db)(h:1<(ak e p D).size):(ak e p D)[1]'h=.int .i64 D.ay:=by simp[ak]
theorem KF(e p:Sl)(D:Db):(ak e p D)[2]?=some (.slice e.a D.entries.length e.cap):=by simp[ak]
theorem agi(e p:Sl)(D:Db)(h:2<(ak e p D).size):(ak e p D)[2]'h=.slice e.a D.entries.length e.cap:=by simp[ak]
theorem TR(e p:Sl)(D:Db):(ak e p D)[3]?=some (.slice p.a D.au.length p.cap):=by simp[ak]
theorem agj(e p:Sl)(D:Db)(h:3<(ak e p D).size):(ak e p D)[3]'h=.slice p.a D.au.length p.cap:=by simp[ak]
theorem TS(e p:Sl)(D:Db)(v:Int):(ak e p D).setIfInBounds 1 (.int .i64 v)=ak e p {D with ay:=v}:=by kernel_rfl
theorem TT(e p:Sl)(D:Db)(s:Sl)(l:List Entry):(ak e p D).setIfInBounds 2 (.slice s.a l.length s.cap)=ak s p {D with entries:=l}:=by kernel_rfl
attribute [go_sem] jD age agf agh KF agi TR agj TS
def jd(w:World)(a:Option Addr)(l:List Entry):Prop:=aX w 17 a l.length fun i cs=>∃d r,l[i]?=some d∧cs=ae r d∧bK w r d
def je(w:World)(a:Option Addr)(l:List ai):Prop:=aX w 10 a l.length fun i cs=>∃p,l[i]?=some p∧cs=aC p∧p.name.size≤lim
theorem jd.later{w w':World}(h:Below w.heap.size w w'){a:Option Addr}{l:List Entry}(x:jd w a l):jd w' a l:=aX.later h (fun _ _ ⟨d,r,y1,y2,y3⟩=>⟨d,r,y1,y2,y3.later h⟩) x
theorem je.later{w w':World}(h:Below w.heap.size w w'){a:Option Addr}{l:List ai}(x:je w a l):je w' a l:=aX.later h (fun _ _ y=>y) x
theorem jd.get{w:World}{a:Option Addr}{l:List Entry}(x:jd w a l)(i:Nat)(h:i<l.length):∃b o r,a=some ⟨b,o,none⟩∧row? w b (o+i*17) 17=some (ae r l[i])∧bK w r l[i]:=by
 obtain⟨b,o,v,h1,h2,d,r,h3,rfl,h4⟩:=x.2 i h
 rw[List.getElem?_eq_getElem h]at h3;cases h3
 exact⟨b,o,r,h1,h2,h4⟩
theorem je.get{w:World}{a:Option Addr}{l:List ai}(x:je w a l)(i:Nat)(h:i<l.length):∃b o,a=some ⟨b,o,none⟩∧row? w b (o+i*10) 10=some (aC l[i])∧l[i].name.size≤lim:=by
 obtain⟨b,o,v,h1,h2,d,h3,rfl,h4⟩:=x.2 i h
 rw[List.getElem?_eq_getElem h]at h3;cases h3
 exact⟨b,o,h1,h2,h4⟩
theorem jd.at{w:World}{b o:Nat}{l:List Entry}(x:jd w (some ⟨b,o,none⟩) l)(i:Nat)(h:i<l.length):∃r,row? w b (o+i*17) 17=some (ae r l[i])∧bK w r l[i]:=by
 obtain⟨b',o',r,ha,hc⟩:=x.get i h;cases ha;exact⟨r,hc⟩
theorem je.at{w:World}{b o:Nat}{l:List ai}(x:je w (some ⟨b,o,none⟩) l)(i:Nat)(h:i<l.length):row? w b (o+i*10) 10=some (aC l[i])∧l[i].name.size≤lim:=by
 obtain⟨b',o',ha,hc⟩:=x.get i h;cases ha;exact hc
end Go.WW
namespace Go.Proofs.YtfieenjdcpjmgaaGreatDoor
open Go.RowKit Go.WW
theorem agk(w:World)(b o:Nat):(jU 32 (.pointer (some ⟨b,o,none⟩))).run Tryz.prog w=qJ Tryz.prog 32 w b o (row? w b o 4):=uM Tryz.underlying32 rfl (by kernel_rfl) w b o
theorem agl(ρ:Operand→Value)(dst:Option Tmp)(x:Operand)(ty:TypeId)(pos:String)(after:Array Edge)(guard:Option (Nat×Bool)):execOp ρ {dst,op:=.load 32 x,type:=ty,pos,after,guard}=jU 32 (ρ x):=rfl
attribute [go_sem] agk
attribute [go_sem ↓] agl
theorem agm(w:World)(b o:Nat)(cs:Array Value)(hn:cs.size=4)(h1:dJ cs=true):(kU 32 (.pointer (some ⟨b,o,none⟩)) (.agg cs)).run Tryz.prog w=sQ Tryz.prog 32 w b o cs (aS w b o 4):=wK (by kernel_rfl) w b o cs hn h1
theorem agn(ρ:Operand→Value)(dst:Option Tmp)(x y:Operand)(ty:TypeId)(pos:String)(after:Array Edge)(guard:Option (Nat×Bool)):execOp ρ {dst,op:=.store 32 x y,type:=ty,pos,after,guard}=kU 32 (ρ x) (ρ y):=rfl
attribute [go_sem] agm
attribute [go_sem ↓] agn
end Go.Proofs.YtfieenjdcpjmgaaGreatDoor
namespace Go.WW
def o5(p q:az)(i:Nat)(c:Int):Prop:=fE p q=if c=0 then og (p.parts.drop i) (q.parts.drop i)else c
theorem agp(p q:az):o5 p q 0 (dD p.aG q.aG):=rfl
theorem agq{p q:az}{i:Nat}(h:o5 p q i 0)(hp:i<p.parts.length)(hq:i<q.parts.length):o5 p q (i+1) (dD p.parts[i] q.parts[i]):=by
 unfold o5 at h ⊢
 rw[if_pos rfl,List.drop_eq_getElem_cons hp,List.drop_eq_getElem_cons hq]at h
 exact h
theorem agr{p q:az}{i:Nat}{c:Int}(h:o5 p q i c)(hc:c≠0):fE p q=c:=by
 unfold o5 at h;rwa[if_neg hc]at h
theorem ags{p q:az}{i:Nat}(h:o5 p q i 0)(hp:p.parts.length≤i)(hq:i<q.parts.length):fE p q=-1:=by
 unfold o5 at h
 rw[if_pos rfl,List.drop_of_length_le hp,List.drop_eq_getElem_cons hq]at h
 exact h
theorem agt{p q:az}{i:Nat}(h:o5 p q i 0)(hp:i<p.parts.length)(hq:q.parts.length≤i):fE p q=1:=by
 unfold o5 at h
 rw[if_pos rfl,List.drop_of_length_le hq,List.drop_eq_getElem_cons hp]at h
 exact h
theorem agu{p q:az}{i:Nat}(h:o5 p q i 0)(hp:p.parts.length≤i)(hq:q.parts.length≤i):fE p q=0:=by
 unfold o5 at h
 rw[if_pos rfl,List.drop_of_length_le hp,List.drop_of_length_le hq]at h
 exact h
theorem KG{a b:ByteArray}(h:Op.bytesLess a.toList b.toList=true):dD a b=-1:=by rw[dD,if_pos h]
theorem KH{a b:ByteArray}(h:Op.bytesLess a.toList b.toList=false)(he:¬a=b):dD a b=1:=by
 have h2:Op.bytesLess b.toList a.toList=true:=by
  cases h2:Op.bytesLess b.toList a.toList
  ·exact absurd (toList_inj (Kw _ _ h h2)) he
  ·rfl
 rw[dD,h,h2];rfl
theorem KI(a:ByteArray):dD a a=0:=(oW.zero a a).2 rfl
def gq(d:Entry)(p:az):Bool:=d.aliases.any (fun a=>aY a p) || aY d.name p
end Go.WW
