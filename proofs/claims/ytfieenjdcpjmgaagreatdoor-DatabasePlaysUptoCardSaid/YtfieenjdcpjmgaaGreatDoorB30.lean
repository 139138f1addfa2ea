/- A part of the proof. -/
import Derived.Shelf.LaysM
import Derived.Shelf.Strconv.Itoa3
import Derived.Test.YtfieenjdcpjmgaaGreatDoorProg
import Derived.Shelf.Strings.OnBuilder
import Derived.Test.YtfieenjdcpjmgaaGreatDoorB29
import Derived.Test.YtfieenjdcpjmgaaGreatDoorB04
import Derived.Lib.ItoaMem
import Derived.Test.YtfieenjdcpjmgaaGreatDoorB08
set_option maxRecDepth 100000
set_option maxHeartbeats 8000000
namespace Go.Proofs
open Go.Shelf
def Tryz.laysM171_ren:Go.Shelf.Ren:=⟨fun|171=>111|243=>191|246=>273|283=>333|284=>334|285=>335|286=>336|129=>330|317=>366|318=>367|319=>368|320=>369|337=>387|338=>388|n=>n,fun|3=>3|9=>9|2=>2|4=>4|171=>338|0=>0|53=>111|37=>61|5=>5|173=>340|212=>386|51=>42|20=>20|213=>387|46=>113|232=>403|233=>404|n=>n,fun|17=>5|18=>6|19=>7|n=>n⟩
theorem Tryz.laysM171:Go.Proofs.LaysM.n171 Tryz.prog Tryz.laysM171_ren:={
 mixed:=by kernel_rfl
 f129:=Tryz.func330.trans (congrArg some (by kernel_rfl))
 f171:=Tryz.func111.trans (congrArg some (by kernel_rfl))
 f243:=Tryz.func191.trans (congrArg some (by kernel_rfl))
 f246:=Tryz.func273.trans (congrArg some (by kernel_rfl))
 f283:=Tryz.func333.trans (congrArg some (by kernel_rfl))
 f284:=Tryz.func334.trans (congrArg some (by kernel_rfl))
 f285:=Tryz.func335.trans (congrArg some (by kernel_rfl))
 f286:=Tryz.func336.trans (congrArg some (by kernel_rfl))
 f317:=Tryz.func366.trans (congrArg some (by kernel_rfl))
 f318:=Tryz.func367.trans (congrArg some (by kernel_rfl))
 f319:=Tryz.func368.trans (congrArg some (by kernel_rfl))
 f320:=Tryz.func369.trans (congrArg some (by kernel_rfl))
 f337:=Tryz.func387.trans (congrArg some (by kernel_rfl))
 f338:=Tryz.func388.trans (congrArg some (by kernel_rfl))
 t0:=Tryz.underlying0
 a0:=Tryz.isAgg0
 z0:=Tryz.sizeOf0
 v0:=Tryz.zeroValue0
 t2:=Tryz.underlying2
 a2:=Tryz.isAgg2
 z2:=Tryz.sizeOf2
 v2:=Tryz.zeroValue2
 t3:=Tryz.underlying3
 a3:=Tryz.isAgg3
 z3:=Tryz.sizeOf3
 v3:=Tryz.zeroValue3
 t4:=Tryz.underlying4
 a4:=Tryz.isAgg4
 z4:=Tryz.sizeOf4
 v4:=Tryz.zeroValue4
 t5:=Tryz.underlying5
 a5:=Tryz.isAgg5
 z5:=Tryz.sizeOf5
 v5:=Tryz.zeroValue5
 t9:=Tryz.underlying9
 a9:=Tryz.isAgg9
 z9:=Tryz.sizeOf9
 v9:=Tryz.zeroValue9
 t20:=Tryz.underlying20
 a20:=Tryz.isAgg20
 z20:=Tryz.sizeOf20
 v20:=Tryz.zeroValue20
 t37:=Tryz.underlying61
 a37:=Tryz.isAgg61
 z37:=Tryz.sizeOf61
 v37:=Tryz.zeroValue61
 t46:=Tryz.underlying113
 a46:=Tryz.isAgg113
 z46:=Tryz.sizeOf113
 v46:=Tryz.zeroValue113
 t51:=Tryz.underlying42
 a51:=Tryz.isAgg42
 z51:=Tryz.sizeOf42
 v51:=Tryz.zeroValue42
 t53:=Tryz.underlying111
 a53:=Tryz.isAgg111
 z53:=Tryz.sizeOf111
 v53:=Tryz.zeroValue111
 t171:=Tryz.underlying338
 a171:=Tryz.isAgg338
 z171:=Tryz.sizeOf338
 v171:=Tryz.zeroValue338
 t173:=Tryz.underlying340
 a173:=Tryz.isAgg340
 z173:=Tryz.sizeOf340
 v173:=Tryz.zeroValue340
 t212:=Tryz.underlying386
 a212:=Tryz.isAgg386
 z212:=Tryz.sizeOf386
 v212:=Tryz.zeroValue386
 t213:=Tryz.underlying387
 a213:=Tryz.isAgg387
 z213:=Tryz.sizeOf387
 t232:=Tryz.underlying403
 a232:=Tryz.isAgg403
 z232:=Tryz.sizeOf403
 v232:=Tryz.zeroValue403
 t233:=Tryz.underlying404
 a233:=Tryz.isAgg404
 z233:=Tryz.sizeOf404
 v233:=Tryz.zeroValue404
 g17:=by kernel_rfl
 g18:=by kernel_rfl
 g19:=by kernel_rfl
 i0:=by kernel_rfl
 i2:=by kernel_rfl
 i3:=by kernel_rfl
 i4:=by kernel_rfl
 i5:=by kernel_rfl
 i9:=by kernel_rfl
 i20:=by kernel_rfl
 i37:=by kernel_rfl
 i46:=by kernel_rfl
 i51:=by kernel_rfl
 i53:=by kernel_rfl
 i171:=by kernel_rfl
 i173:=by kernel_rfl
 i212:=by kernel_rfl
 i232:=by kernel_rfl
 i233:=by kernel_rfl
 m17:=by kernel_rfl
 m18:=by kernel_rfl
 m19:=by kernel_rfl}
open Go.RowKit Go.Sort Go.Lib in
theorem Tryz.strconv_Itoa(n:Int)(h0:-9223372036854775808≤n)(h1:n≤9223372036854775807)(w:World)(htab:Lib.TabIs Tryz.prog w "internal/strconv.uint64pow10" .u64 Lib.pow10Tab) :
  Calls Tryz.prog 111 #[.int .i64 n] w fun e w'=>e=.returned (.string ⟨(Lib.itoa n).toArray⟩)∧∃k os,w'=grow (w.drewN k) os:=Any.strconv_Itoa Tryz.laysM171 n h0 h1 w htab
def Tryz.lays156_ren:Go.Shelf.Ren:=⟨fun|156=>190|165=>270|166=>271|169=>272|240=>331|241=>332|276=>364|277=>365|n=>n,fun|31=>38|9=>9|3=>3|4=>4|0=>0|20=>20|72=>283|76=>157|70=>281|37=>61|75=>156|127=>337|164=>383|5=>5|80=>103|n=>n,fun|n=>n⟩
theorem Tryz.lays156:Go.Proofs.Lays.n156 Tryz.prog Tryz.lays156_ren:={
 mixed:=by kernel_rfl
 f156:=Tryz.func190.trans (congrArg some (by kernel_rfl))
 f165:=Tryz.func270.trans (congrArg some (by kernel_rfl))
 f166:=Tryz.func271.trans (congrArg some (by kernel_rfl))
 f169:=Tryz.func272.trans (congrArg some (by kernel_rfl))
 f240:=Tryz.func331.trans (congrArg some (by kernel_rfl))
 f241:=Tryz.func332.trans (congrArg some (by kernel_rfl))
 f276:=Tryz.func364.trans (congrArg some (by kernel_rfl))
 f277:=Tryz.func365.trans (congrArg some (by kernel_rfl))
 t0:=Tryz.underlying0
 a0:=Tryz.isAgg0
 z0:=Tryz.sizeOf0
 v0:=Tryz.zeroValue0
 t3:=Tryz.underlying3
 a3:=Tryz.isAgg3
 z3:=Tryz.sizeOf3
 v3:=Tryz.zeroValue3
 t4:=Tryz.underlying4
 a4:=Tryz.isAgg4
 z4:=Tryz.sizeOf4
 v4:=Tryz.zeroValue4
 t9:=Tryz.underlying9
 a9:=Tryz.isAgg9
 z9:=Tryz.sizeOf9
 v9:=Tryz.zeroValue9
 t20:=Tryz.underlying20
 a20:=Tryz.isAgg20
 z20:=Tryz.sizeOf20
 v20:=Tryz.zeroValue20
 t31:=Tryz.underlying38
 a31:=Tryz.isAgg38
 z31:=Tryz.sizeOf38
 v31:=Tryz.zeroValue38
 t37:=Tryz.underlying61
 a37:=Tryz.isAgg61
 z37:=Tryz.sizeOf61
 v37:=Tryz.zeroValue61
 t70:=Tryz.underlying281
 a70:=Tryz.isAgg281
 z70:=Tryz.sizeOf281
 v70:=Tryz.zeroValue281
 t72:=Tryz.underlying283
 a72:=Tryz.isAgg283
 z72:=Tryz.sizeOf283
 v72:=Tryz.zeroValue283
 t75:=Tryz.underlying156
 a75:=Tryz.isAgg156
 z75:=Tryz.sizeOf156
 v75:=Tryz.zeroValue156
 t76:=Tryz.underlying157
 a76:=Tryz.isAgg157
 z76:=Tryz.sizeOf157
 v76:=Tryz.zeroValue157
 t127:=Tryz.underlying337
 a127:=Tryz.isAgg337
 z127:=Tryz.sizeOf337
 v127:=Tryz.zeroValue337
 t164:=Tryz.underlying383
 a164:=Tryz.isAgg383
 z164:=Tryz.sizeOf383
 v164:=Tryz.zeroValue383}
theorem Tryz.Builder_Extra_156:Builder.Extra Tryz.prog Tryz.lays156_ren:={
 sizeBuilder:=by kernel_rfl
 liesBuilder:=by kernel_rfl
 t5:=Tryz.underlying5
 a5:=Tryz.isAgg5
 z5:=Tryz.sizeOf5
 v5:=Tryz.zeroValue5
 infoByte:=by kernel_rfl
 cellsByte:=by kernel_rfl
 sizeByte:=by kernel_rfl
 neB5:=by decide}
open Go.RowKit in
theorem Tryz.strings_Join(bk o c:Nat)(xs:List ByteArray)(sep:ByteArray)(w:World)(hcells:∀(j:Nat) x,xs[j]?=some x→w.cell? ⟨bk,o+j,none⟩=some (.string x))(hbk:bk<w.heap.size)(hN:xs.length≤140737488355328)(hcap:xs.length≤c)(hlen:(Lib.join (xs.map (·.data.toList)) sep.data.toList).length≤140737488355328) :
  Calls Tryz.prog 190 #[.slice (some ⟨bk,o,none⟩) xs.length c,.string sep] w fun e w'=>e=.returned (.string ⟨(Lib.join (xs.map (·.data.toList)) sep.data.toList).toArray⟩)∧Below w.heap.size w w':=Any.strings_Join Tryz.lays156 Tryz.Builder_Extra_156 bk o c xs sep w hcells hbk hN hcap hlen
end Go.Proofs
namespace Go.WW
open Go.RowKit
theorem kG{P:Program}{w w':World}{name:String}{k:IntKind}{t:List Int}(h:Lib.TabIs P w name k t)(hb:Below w.heap.size w w'):Lib.TabIs P w' name k t:=by
 unfold Lib.TabIs World.var? at *
 cases hg:P.globalNamed name with
 |none=>rw[hg]at h;cases h
 |some g=>
  rw[hg]at h
  simp only[Option.bind_some]at h ⊢
  have hlt:g<w.heap.size:=by
   rcases Nat.lt_or_ge g w.heap.size with hl|hl
   ·exact hl
   ·rw[Array.getElem?_eq_none hl]at h;cases h
  rw[hb.block g hlt]
  exact h
theorem below_grown(w:World)(k:Nat)(os:Array Obj):Below w.heap.size w (Go.Sort.grow (w.drewN k) os):=
 ⟨rfl,rfl,rfl,by show w.heap.size≤(w.heap++os).size;simp,fun j hj=>by show(w.heap++os)[j]?=_;rw[Array.getElem?_append_left hj]⟩
theorem ank(n a b c d e f g h i:ByteArray):(ByteArray.mk (Lib.join ([n,(⟨#[108,101,110,103,116,104,61]⟩:ByteArray)++a,(⟨#[99,108,97,115,115,101,115,61]⟩:ByteArray)++b,(⟨#[100,105,115,116,105,110,99,116,61]⟩:ByteArray)++c,(⟨#[104,105,115,116,111,114,121,61]⟩:ByteArray)++d,(((⟨#[97,103,101,61]⟩:ByteArray)++e)++(⟨#[46,46]⟩:ByteArray))++f,(⟨#[102,97,105,108,115,61]⟩:ByteArray)++g,(((⟨#[108,111,99,107,61]⟩:ByteArray)++h)++(⟨#[47]⟩:ByteArray))++i].map (·.data.toList)) [32]).toArray) =
  ((((((((((((((((((n++(⟨#[32,108,101,110,103,116,104,61]⟩:ByteArray))++a)++(⟨#[32,99,108,97,115,115,101,115,61]⟩:ByteArray))++b)++(⟨#[32,100,105,115,116,105,110,99,116,61]⟩:ByteArray))++c)++(⟨#[32,104,105,115,116,111,114,121,61]⟩:ByteArray))++d)++(⟨#[32,97,103,101,61]⟩:ByteArray))++e)++(⟨#[46,46]⟩:ByteArray))++f)++(⟨#[32,102,97,105,108,115,61]⟩:ByteArray))++g)++(⟨#[32,108,111,99,107,61]⟩:ByteArray))++h)++(⟨#[47]⟩:ByteArray))++i):=by
 have h1:∀x y:ByteArray,x.data.toList=y.data.toList→x=y:=fun x y h=>ByteArray.ext (Array.ext' h)
 apply h1
 simp[Lib.join,List.intercalate,ByteArray.data_append]
theorem anl(w:World)(xs:List ByteArray){cs:Array Value}{t:TypeId}(h:cs=(xs.map Value.string).toArray):∀(j:Nat) x,xs[j]?=some x→(w.alloc (.cells cs t)).cell? ⟨w.heap.size,0+j,none⟩=some (.string x):=by
 subst h
 intro j x hx
 rw[cell_of_row _ _ _ _ _ _ (World.alloc_heap_new _ _),Nat.zero_add]
 simp[hx]
abbrev wz(P:Program)(w:World):Prop:=Lib.TabIs P w "internal/strconv.uint64pow10" .u64 Lib.pow10Tab
end Go.WW
namespace Go.Proofs.YtfieenjdcpjmgaaGreatDoor
open Go.RowKit Go.WW
theorem wB(v:Int)(w:World)(h0:0≤v)(hv:v<4611686018427387904)(ht:wz Tryz.prog w):Calls Tryz.prog 111 #[.int .i64 v] w fun e w'=>e=.returned (.string (eU v.toNat))∧Below w.heap.size w w':=by
 refine(Tryz.strconv_Itoa v (by omega) (by omega) w ht).mono ?_
 rintro e w' ⟨rfl,k,os,rfl⟩
 refine⟨?_,below_grown w k os⟩
 have:=Lib.itoa_nonneg v.toNat
 rw[Int.toNat_of_nonneg h0]at this
 rw[this];rfl
theorem anm(b o c:Nat)(xs:List ByteArray)(w:World)(hs:∀(j:Nat) x,xs[j]?=some x→w.cell? ⟨b,o+j,none⟩=some (.string x))(hb:b<w.heap.size)(hc:xs.length≤c)(hl:(Lib.join (xs.map (·.data.toList)) [32]).length≤1000000)(hn:xs.length≤1000) :
  Calls Tryz.prog 110 #[.slice (some ⟨b,o,none⟩) xs.length c] w fun e w'=>e=.returned (.string ⟨(Lib.join (xs.map (·.data.toList)) [32]).toArray⟩)∧Below w.heap.size w w':=by
 have HJ:=Lib.hid (Tryz.strings_Join b o c xs ⟨#[32]⟩ w hs hb (by omega) hc (Nat.le_trans hl (by decide)))
 obtain⟨J,hJ⟩:∃J,J=(ByteArray.mk (Lib.join (xs.map (·.data.toList)) [32]).toArray):=⟨_,rfl⟩
 rw[←hJ]
 have HJJ:=Lib.hid hJ
 clear hJ hl hs
 go_enter Tryz.func110,Tryz.ntmps110
 go_wp2_with fail
 refine HJ.out.mono ?_
 rintro e w' ⟨rfl,hb'⟩
 go_wp2_with fail
 go_ret
 exact⟨by rw[HJJ.out];rfl,hb'⟩
theorem ano(p:ai)(w:World)(hok:dP p=true)(hnm:p.name.size≤lim)(ht:wz Tryz.prog w):Calls Tryz.prog 60 #[.agg (aC p)] w fun e w'=>e=.returned (.tuple #[.string (pO p),.int .i64 0])∧Below w.heap.size w w':=by
 have hB0:Below w.heap.size w (w.alloc (.cells (aC p) 50)):=aj (Below.refl _ _) _
 obtain⟨f0,f1,f2,f3,f4,f5,f6,f7,f8,f9⟩:=BI hok
 have d1:=ja f1
 have d2:=ja f2
 have d3:=ja f3
 have d4:=ja f4
 have d5:=ja f5
 have d6:=ja f6
 have d7:=ja f7
 have d8:=ja f8
 have d9:=ja f9
 obtain⟨S1,g1⟩:∃S,(⟨#[108,101,110,103,116,104,61]⟩:ByteArray)++eU p.length.toNat=S:=⟨_,rfl⟩
 have z1:S1.size≤22:=by rw[←g1,ByteArray.size_append];exact Nat.add_le_add (by decide:_≤9) d1
 obtain⟨S2,g2⟩:∃S,(⟨#[99,108,97,115,115,101,115,61]⟩:ByteArray)++eU p.classes.toNat=S:=⟨_,rfl⟩
 have z2:S2.size≤22:=by rw[←g2,ByteArray.size_append];exact Nat.add_le_add (by decide:_≤9) d2
 obtain⟨S3,g3⟩:∃S,(⟨#[100,105,115,116,105,110,99,116,61]⟩:ByteArray)++eU p.distinct.toNat=S:=⟨_,rfl⟩
 have z3:S3.size≤22:=by rw[←g3,ByteArray.size_append];exact Nat.add_le_add (by decide:_≤9) d3
 obtain⟨S4,g4⟩:∃S,(⟨#[104,105,115,116,111,114,121,61]⟩:ByteArray)++eU p.history.toNat=S:=⟨_,rfl⟩
 have z4:S4.size≤22:=by rw[←g4,ByteArray.size_append];exact Nat.add_le_add (by decide:_≤9) d4
 obtain⟨S5,g5⟩:∃S,(⟨#[97,103,101,61]⟩:ByteArray)++eU p.iH.toNat=S:=⟨_,rfl⟩
 have z5:S5.size≤22:=by rw[←g5,ByteArray.size_append];exact Nat.add_le_add (by decide:_≤9) d5
 obtain⟨S6,g6⟩:∃S,S5++(⟨#[46,46]⟩:ByteArray)=S:=⟨_,rfl⟩
 have z6:S6.size≤24:=by rw[←g6,ByteArray.size_append];exact Nat.add_le_add z5 (by decide:_≤2)
 obtain⟨S7,g7⟩:∃S,S6++eU p.eu.toNat=S:=⟨_,rfl⟩
 have z7:S7.size≤37:=by rw[←g7,ByteArray.size_append];exact Nat.add_le_add z6 d6
 obtain⟨S8,g8⟩:∃S,(⟨#[102,97,105,108,115,61]⟩:ByteArray)++eU p.fails.toNat=S:=⟨_,rfl⟩
 have z8:S8.size≤22:=by rw[←g8,ByteArray.size_append];exact Nat.add_le_add (by decide:_≤9) d7
 obtain⟨S9,g9⟩:∃S,(⟨#[108,111,99,107,61]⟩:ByteArray)++eU p.window.toNat=S:=⟨_,rfl⟩
 have z9:S9.size≤22:=by rw[←g9,ByteArray.size_append];exact Nat.add_le_add (by decide:_≤9) d8
 obtain⟨EJ,g10⟩:∃S,S9++(⟨#[47]⟩:ByteArray)=S:=⟨_,rfl⟩
 have z10:EJ.size≤24:=by rw[←g10,ByteArray.size_append];exact Nat.add_le_add z9 (by decide:_≤2)
 obtain⟨vX,g11⟩:∃S,EJ++eU p.lock.toNat=S:=⟨_,rfl⟩
 have z11:vX.size≤37:=by rw[←g11,ByteArray.size_append];exact Nat.add_le_add z10 d9
 have HX:=Lib.hid (show(ByteArray.mk (Lib.join ([p.name,S1,S2,S3,S4,S7,S8,vX].map (·.data.toList)) [32]).toArray)=pO p by
  subst g1;subst g2;subst g3;subst g4;subst g5;subst g6;subst g7;subst g8;subst g9;subst g10;subst g11
  exact ank _ _ _ _ _ _ _ _ _ _)
 have HL:=Lib.hid (show(Lib.join ([p.name,S1,S2,S3,S4,S7,S8,vX].map (·.data.toList)) [32]).length≤1000000 by
  simp[Lib.join,List.intercalate];omega)
 have hpv:=hok
 go_enter Tryz.func60,Tryz.ntmps60
 go_wp2_with fail
 refine(FO p _ hnm).mono ?_
 rintro e wv ⟨rfl,hbv⟩
 rw[hpv]
 obtain⟨hcc,aT,hrr⟩:=bg hbv
 have hwl:w.heap.size<wv.heap.size:=by have:=hbv.size;simp at this;omega
 have wC:=kG ht (ag hB0 hbv)
 clear hok hpv
 go_wp2_with fail
 refine pW (Below.refl _ wv) (by kernel_rfl) (by kernel_rfl) ?_
 intro v0 hv0
 repeat (first|(refine ax (by rfl) ?_)|(refine aI (by rfl) (by rfl) (fun K hK=>?_);go_big_quiet_op;refine hK _ ?_;clear hK K))
 refine aK (by rfl) (by rfl) (fun K hK=>?_)
 go_wp2_with fail
 refine(wB _ _ f1.1 (by omega) (kG wC hv0)).mono ?_
 rintro e v1 ⟨rfl,hb1⟩
 have hw1:=ag hv0 hb1
 clear hv0 hb1
 refine hK _ _ (aA hw1) ?_
 clear hK K
 repeat (first|(refine ax (by rfl) ?_)|(refine aI (by rfl) (by rfl) (fun K hK=>?_);go_big_quiet_op;refine hK _ ?_;clear hK K))
 refine aK (by rfl) (by rfl) (fun K hK=>?_)
 go_wp2_with fail
 refine(wB _ _ f2.1 (by omega) (kG wC hw1)).mono ?_
 rintro e v2 ⟨rfl,hb2⟩
 have hw2:=ag hw1 hb2
 clear hw1 hb2
 refine hK _ _ (aA hw2) ?_
 clear hK K
 repeat (first|(refine ax (by rfl) ?_)|(refine aI (by rfl) (by rfl) (fun K hK=>?_);go_big_quiet_op;refine hK _ ?_;clear hK K))
 refine aK (by rfl) (by rfl) (fun K hK=>?_)
 go_wp2_with fail
 refine(wB _ _ f3.1 (by omega) (kG wC hw2)).mono ?_
 rintro e v3 ⟨rfl,hb3⟩
 have hw3:=ag hw2 hb3
 clear hw2 hb3
 refine hK _ _ (aA hw3) ?_
 clear hK K
 repeat (first|(refine ax (by rfl) ?_)|(refine aI (by rfl) (by rfl) (fun K hK=>?_);go_big_quiet_op;refine hK _ ?_;clear hK K))
 refine aK (by rfl) (by rfl) (fun K hK=>?_)
 go_wp2_with fail
 refine(wB _ _ f4.1 (by omega) (kG wC hw3)).mono ?_
 rintro e v4 ⟨rfl,hb4⟩
 have hw4:=ag hw3 hb4
 clear hw3 hb4
 refine hK _ _ (aA hw4) ?_
 clear hK K
 repeat (first|(refine ax (by rfl) ?_)|(refine aI (by rfl) (by rfl) (fun K hK=>?_);go_big_quiet_op;refine hK _ ?_;clear hK K))
 refine aK (by rfl) (by rfl) (fun K hK=>?_)
 go_wp2_with fail
 refine(wB _ _ f5.1 (by omega) (kG wC hw4)).mono ?_
 rintro e v5 ⟨rfl,hb5⟩
 have hw5:=ag hw4 hb5
 clear hw4 hb5
 refine hK _ _ (aA hw5) ?_
 clear hK K
 repeat (first|(refine ax (by rfl) ?_)|(refine aI (by rfl) (by rfl) (fun K hK=>?_);go_big_quiet_op;refine hK _ ?_;clear hK K))
 refine aK (by rfl) (by rfl) (fun K hK=>?_)
 go_wp2_with fail
 refine(wB _ _ f6.1 (by omega) (kG wC hw5)).mono ?_
 rintro e v6 ⟨rfl,hb6⟩
 have hw6:=ag hw5 hb6
 clear hw5 hb6
 refine hK _ _ (aA hw6) ?_
 clear hK K
 repeat (first|(refine ax (by rfl) ?_)|(refine aI (by rfl) (by rfl) (fun K hK=>?_);go_big_quiet_op;refine hK _ ?_;clear hK K))
 refine aK (by rfl) (by rfl) (fun K hK=>?_)
 go_wp2_with fail
 refine(wB _ _ f7.1 (by omega) (kG wC hw6)).mono ?_
 rintro e v7 ⟨rfl,hb7⟩
 have hw7:=ag hw6 hb7
 clear hw6 hb7
 refine hK _ _ (aA hw7) ?_
 clear hK K
 repeat (first|(refine ax (by rfl) ?_)|(refine aI (by rfl) (by rfl) (fun K hK=>?_);go_big_quiet_op;refine hK _ ?_;clear hK K))
 refine aK (by rfl) (by rfl) (fun K hK=>?_)
 go_wp2_with fail
 refine(wB _ _ f8.1 (by omega) (kG wC hw7)).mono ?_
 rintro e v8 ⟨rfl,hb8⟩
 have hw8:=ag hw7 hb8
 clear hw7 hb8
 refine hK _ _ (aA hw8) ?_
 clear hK K
 repeat (first|(refine ax (by rfl) ?_)|(refine aI (by rfl) (by rfl) (fun K hK=>?_);go_big_quiet_op;refine hK _ ?_;clear hK K))
 refine aK (by rfl) (by rfl) (fun K hK=>?_)
 go_wp2_with fail
 refine(wB _ _ f9.1 (by omega) (kG wC hw8)).mono ?_
 rintro e v9 ⟨rfl,dW⟩
 have uT:=ag hw8 dW
 clear hw8 dW
 refine hK _ _ (aA uT) ?_
 clear hK K
 repeat (first|(refine ax (by rfl) ?_)|(refine aI (by rfl) (by rfl) (fun K hK=>?_);go_big_quiet_op;refine hK _ ?_;clear hK K))
 refine aK (by rfl) (by rfl) (fun K hK=>?_)
 go_wp2_with fail
 refine hK _ _ (aA (aj uT _)) ?_
 clear hK K
 repeat (first|(refine ax (by rfl) ?_)|(refine aI (by rfl) (by rfl) (fun K hK=>?_);go_big_quiet_op;refine hK _ ?_;clear hK K))
 refine aK (by rfl) (by rfl) (fun K hK=>?_)
 go_wp2_with fail
 refine(anm v9.heap.size 0 8 [p.name,S1,S2,S3,S4,S7,S8,vX] _ (anl v9 [p.name,S1,S2,S3,S4,S7,S8,vX] rfl) (by simp) (by simp) HL.out (by simp)).mono ?_
 rintro e vz ⟨rfl,hbz⟩
 rw[HX.out]
 have HB:=Lib.hid (ag (ag hB0 hbv) (ag (aj uT (.cells #[.string p.name,.string S1,.string S2,.string S3,.string S4,.string S7,.string S8,.string vX] 9)) hbz))
 have sJ:=ag (aj uT _) hbz
 clear hbz uT
 refine hK _ _ (aA sJ) ?_
 clear hK K
 repeat (first|(refine ax (by rfl) ?_)|(refine aI (by rfl) (by rfl) (fun K hK=>?_);go_big_quiet_op;refine hK _ ?_;clear hK K))
 refine bV ?_
 go_wp2_with fail
 go_ret2
 exact⟨rfl,HB.out⟩
end Go.Proofs.YtfieenjdcpjmgaaGreatDoor
namespace Go.WW
open Go.RowKit
theorem BL{w:World}{b:Nat}{c:Array Value}{t:TypeId}(h:w.heap[b]?=some (.cells c t)):(∀o,w.cell? ⟨b,o,none⟩=c[o]?)∧(∀o,w.frozen? ⟨b,o,none⟩=false)∧b<w.heap.size:=
 ⟨fun o=>cell_of_row w b o c t _ h,fun o=>frozen_of_row w b o c t h,(Array.getElem?_eq_some_iff.1 h).1⟩
theorem Zw{n g o:Nat}{w wr:World}{v:Value}(h:Below n w wr)(hg:n≤g):Below n w (wr.setCell ⟨g,o,none⟩ v):=
 ⟨h.os,h.tape,h.output,by have:=h.size;simpa[World.setCell]using this,fun k hk=>(Below.heap_setCell wr ⟨g,o,none⟩ v k (show k≠g by omega)).trans (h.block k hk)⟩
def qE(v n k:Nat):Array Value:=((List.range n).map fun j=>if n≤j+k then Value.int .u8 ((bM v n)[j]?.getD 0).toNat else Value.int .u8 0).toArray
theorem Jb(v n k:Nat):(qE v n k).size=n:=by simp[qE]
theorem EP(v n k j:Nat)(h:j<n):(qE v n k)[j]?=some (if n≤j+k then Value.int .u8 ((bM v n)[j]?.getD 0).toNat else Value.int .u8 0):=by
 simp[qE,h]
theorem anp(v n:Nat):qE v n 0=(List.replicate n (Value.int .u8 0)).toArray:=by
 apply Array.ext_getElem?
 intro j
 by_cases h:j<n
 ·rw[EP v n 0 j h,if_neg (by omega)];simp[h]
 ·rw[Array.getElem?_eq_none (by rw[Jb];omega),Array.getElem?_eq_none (by simp;omega)]
theorem anq(v n k:Nat)(h:k<n){c:UInt8}(hc:c=UInt8.ofNat (v / 256 ^ k)):(qE v n k).setIfInBounds (n-1-k) (Value.int .u8 c.toNat)=qE v n (k+1):=by
 apply Array.ext_getElem?
 intro j
 by_cases hj:j<n
 ·rw[Array.getElem?_setIfInBounds,Jb,EP v n k j hj,EP v n (k+1) j hj]
  by_cases he:n-1-k=j
  ·subst he
   rw[if_pos rfl,if_pos (by omega),if_pos (by omega),Em _ _ _ (by omega),show n-1-(n-1-k)=k by omega,←hc]
   rfl
  ·rw[if_neg he]
   by_cases h2:n≤j+k
   ·rw[if_pos h2,if_pos (by omega)]
   ·rw[if_neg h2,if_neg (by omega)]
 ·rw[Array.getElem?_eq_none (by rw[Array.size_setIfInBounds,Jb];omega),Array.getElem?_eq_none (by rw[Jb];omega)]
theorem Zx{w:World}{g:Nat}{t:TypeId}{v n:Nat}(h:w.heap[g]?=some (.cells (qE v n n) t))(hn:n≤8):BytesAt w (some ⟨g,0,none⟩) (bM v n):=by
 refine⟨by rw[iy];unfold lim;omega,fun j hj=>?_⟩
 rw[iy]at hj
 refine⟨g,0,_,rfl,?_,(bM v n)[j]'(by rw[iy];exact hj),List.getElem?_eq_getElem _,rfl⟩
 rw[cell_of_row _ _ _ _ _ _ h,Nat.zero_add,EP v n n j hj,if_pos (by omega),List.getElem?_eq_getElem (by rw[iy];exact hj)]
 rfl
end Go.WW
namespace Go.Proofs.YtfieenjdcpjmgaaGreatDoor
open Go.RowKit Go.WW
theorem mkNum(v n:Nat)(h1:1≤n)(hn:n≤8)(w:World):∃V,(Instr.makeSlice 61 (.int .i64 n) (.int .i64 n)).run Tryz.prog w=.ok (.slice (some ⟨w.heap.size,0,none⟩) n n) V∧V.heap[w.heap.size]?=some (.cells (qE v n 0) 5)∧V.heap.size=w.heap.size+1∧Below w.heap.size w V:=by
 refine⟨w.alloc (.cells (List.replicate n (.int .u8 0)).toArray 5),?_,by rw[anp];exact World.alloc_heap_new _ _,by simp,aj (Below.refl _ _) _⟩
 rcases(show n=1∨n=2∨n=3∨n=4∨n=5∨n=6∨n=7∨n=8 by omega)with rfl|rfl|rfl|rfl|rfl|rfl|rfl|rfl<;>kernel_rfl
theorem Zy(v n:Nat)(w:World)(h1:1≤n)(hn:n≤8):Calls Tryz.prog 261 #[.int .i64 v,.int .i64 n] w (bI w (bM v n)):=by
 obtain⟨V,hmk,hV,GZ,DY⟩:=mkNum v n h1 hn w
 go_enter Tryz.func261,Tryz.ntmps261
 go_wp2_with fail
 obtain⟨g,hg⟩:∃g,g=w.heap.size:=⟨_,rfl⟩
 have HG:=Lib.hid hg
 rw[←hg]at hV ⊢
 clear hmk hg
 go_loopw [11] (fun iv wr=>∃k:Nat,k≤n∧iv=.int .i64 k∧wr.heap[g]?=some (.cells (qE v n k) 5)∧Hid (Below w.heap.size w wr)) (fun iv _=>n-(intOf iv).toNat)
 case atStart=>exact⟨0,Nat.zero_le _,rfl,hV,DY⟩
 case round=>
  obtain⟨k,hk,rfl,hW,hB⟩:=hrel
  by_cases hlt:k<n
  ·obtain⟨j,hj⟩:∃j:Nat,j=n-1-k:=⟨_,rfl⟩
   have hij:(n:Int)-1-k=j:=by omega
   obtain⟨hc,hf,hl⟩:=BL hW
   have hcj:wr.cell? ⟨g,j,none⟩=some (qE v n k)[j]!:=by rw[hc,EP _ _ _ _ (by omega)];simp[qE,show j<n by omega]
   have hfj:=hf j
   obtain⟨c,hc'⟩:∃c,c=UInt8.ofNat (v / 256 ^ k):=⟨_,rfl⟩
   have HS:=Lib.hid (YB v k)
   rw[←hc']at HS
   have HC:=Lib.hid hc'
   have HJ:=Lib.hid hj
   have hjn:j<n:=by omega
   have HW:=Lib.hid hW
   clear hc hf hc' hj hW
   go_wp2_with fail
   go_roundw
   case rel=>
    refine⟨k+1,by omega,by go_num,?_,Zw hB.out (by rw[HG.out];exact Nat.le_refl _)⟩
    rw[HS.out,dI _ HW.out,HJ.out,anq v n k hlt HC.out]
   case measure=>simp[intOf];omega
  ·obtain rfl:k=n:=by omega
   have HB:=Lib.hid (Zx hW hn)
   have hgl:=(BL hW).2.2
   have HW:=Lib.hid hW
   clear hW
   go_wp2_with fail
   go_ret
   have hl:=iy k v
   refine⟨⟨some ⟨g,0,none⟩,k⟩,by rw[hl];rfl,hB.out,fun x hx=>?_⟩
   refine Zx (t:=5) ?_ hn
   rw[hx g ⟨by rw[HG.out];exact Nat.le_refl _,hgl⟩]
   exact HW.out
theorem Zz(vi:Int)(v:Nat)(ni:Int)(n:Nat)(w:World)(hv:vi=v)(hni:ni=n)(h1:1≤n)(hn:n≤8):Calls Tryz.prog 261 #[.int .i64 vi,.int .i64 ni] w (bI w (bM v n)):=by
 subst hv hni;exact Zy v n w h1 hn
theorem ZA(a:Option Addr)(cap:Nat)(L:List UInt8)(w:World)(h:BytesAt w a L)(hn:L.length≤1000000):Calls Tryz.prog 187 #[.slice a L.length cap] w (bI w (gy L)):=by
 have hfl:[L].flatten=L:=by simp
 have HF:=Lib.hid hfl
 go_enter Tryz.func187,Tryz.ntmps187
 go_wp2_with fail
 refine(zD 4 4 _ _ [L] _ rfl (fK.lit [(⟨a,cap⟩,L)] rfl rfl (by simpa using h) (by simp[lim])) (by simp) (by rw[hfl];exact hn)).mono ?_
 rw[HF.out]
 intro e w4 h4
 obtain⟨s4,rfl,hb4,hd4⟩:=bI.from h4 (aj (Below.refl _ w) _)
 clear h hfl
 go_wp2_with fail
 go_ret
 exact⟨s4,rfl,hb4,hd4⟩
theorem PD(s:ByteArray)(w:World)(hs:s.size≤1000000):Calls Tryz.prog 266 #[.string s] w (bI w (fC s)):=by
 have hl:s.data.toList.length=s.size:=by simp
 obtain⟨cap,w1,hcv,hb1,hB1⟩:=YJ w s (by unfold lim;omega)
 have HT:=Lib.hid (show fC s=tlv 27 s.data.toList from rfl)
 rw[HT.out]
 obtain⟨L,hL⟩:∃L,L=s.data.toList:=⟨_,rfl⟩
 rw[←hL]at hl hcv hB1 ⊢
 have hl':L.length≤1000000:=by omega
 have HF:=Lib.hid (show [L].flatten=L by simp)
 clear hL hl
 go_enter Tryz.func266,Tryz.ntmps266
 go_wp2_with fail
 refine(zD 27 27 _ _ [L] _ rfl (fK.lit [(⟨_,cap⟩,L)] rfl rfl (by simpa using hB1) (by simp[lim])) (by simp) (by rw[HF.out];exact hl')).mono ?_
 rw[HF.out]
 intro e w4 h4
 obtain⟨s4,rfl,hb4,hd4⟩:=bI.from h4 (aj hb1 _)
 go_wp2_with fail
 go_ret
 exact⟨s4,rfl,hb4,hd4⟩
theorem xY(a:Option Addr)(cap:Nat)(l:List (List UInt8))(w:World)(h:fK w a l)(h0:0<l.length)(hn:l.flatten.length≤1000000):Calls Tryz.prog 258 #[.slice a l.length cap] w (bI w (dR l)):=by
 have HS:=Lib.hid (show dR l=tlv 48 l.flatten from rfl)
 rw[HS.out]
 go_enter Tryz.func258,Tryz.ntmps258
 go_wp2_with fail
 refine(zD 48 48 _ _ l _ rfl h h0 hn).mono ?_
 rintro e w4 ⟨s4,rfl,hb4,hd4⟩
 go_wp2_with fail
 go_ret
 exact⟨s4,rfl,hb4,hd4⟩
theorem ZB(v:Int)(w:World)(h0:0≤v)(h1:v≤1099511627776):Calls Tryz.prog 265 #[.int .i64 v] w (bI w (lQ v.toNat)):=by
 obtain⟨n,rfl⟩:=Int.eq_ofNat_of_zero_le h0
 rw[Int.toNat_natCast]
 have HT:=Lib.hid (show lQ n=tlv 24 (bM n 6) from rfl)
 have HF:=Lib.hid (show [bM n 6].flatten=bM n 6 by simp)
 rw[HT.out]
 go_enter Tryz.func265,Tryz.ntmps265
 go_wp2_with fail
 refine(Zy n 6 _ (by decide) (by decide)).mono ?_
 rintro e w1 ⟨s1,rfl,hb1,hd1⟩
 go_wp2_with fail
 refine(zD 24 24 _ _ [bM n 6] _ rfl (fK.lit [(s1,bM n 6)] rfl rfl (by simpa using hd1.out) (by simp[lim])) (by simp) (by rw[HF.out,iy];decide)).mono ?_
 rw[HF.out]
 intro e w4 h4
 obtain⟨s4,rfl,hb4,hd4⟩:=bI.from h4 (aj hb1 _)
 clear hd1
 go_wp2_with fail
 go_ret
 exact⟨s4,rfl,hb4,hd4⟩
theorem anr(n:Nat)(a:Option Addr)(cap:Nat)(L:List UInt8)(w:World)(hn:n≤30)(h:BytesAt w a L)(hl:L.length≤1000000):Calls Tryz.prog 319 #[.int .i64 160,.int .i64 n,.slice a L.length cap] w (bI w (bT n L)):=by
 by_cases h0:L.length=0
 ·have HT:=Lib.hid (show bT n L=[] by unfold bT;rw[if_pos h0])
  rw[HT.out]
  obtain rfl:L=[]:=List.eq_nil_of_length_eq_zero h0
  clear h h0 hl
  go_enter Tryz.func319,Tryz.ntmps319
  go_wp2_with fail
  go_ret
  exact pK (Below.refl _ _)
 ·have HT:=Lib.hid (show bT n L=tlv (160+n) L by unfold bT;rw[if_neg h0])
  have HF:=Lib.hid (show [L].flatten=L by simp)
  have h0':((L.length:Int) == 0)=false:=beq_eq_false_iff_ne.2 (by omega)
  rw[HT.out]
  go_enter Tryz.func319,Tryz.ntmps319
  go_wp2_with fail
  refine(zD _ (160+n) _ _ [L] _ (by simp;omega) (fK.lit [(⟨a,cap⟩,L)] rfl rfl (by simpa using h) (by simp[lim])) (by simp) (by rw[HF.out];exact hl)).mono ?_
  rw[HF.out]
  intro e w4 h4
  obtain⟨s4,rfl,hb4,hd4⟩:=bI.from h4 (aj (Below.refl _ w) _)
  clear h
  go_wp2_with fail
  go_ret
  exact⟨s4,rfl,hb4,hd4⟩
theorem Jc(ni:Int)(n:Nat)(a:Option Addr)(cap:Nat)(L:List UInt8)(w:World)(hni:ni=n)(hn:n≤30)(h:BytesAt w a L)(hl:L.length≤1000000):Calls Tryz.prog 257 #[.int .i64 ni,.slice a L.length cap] w (bI w (bT n L)):=by
 subst hni
 go_enter Tryz.func257,Tryz.ntmps257
 go_wp2_with fail
 refine(anr n _ _ L _ hn h hl).mono ?_
 rintro e w4 ⟨s4,rfl,hb4,hd4⟩
 go_wp2_with fail
 go_ret
 exact⟨s4,rfl,hb4,hd4⟩
theorem ZC(v:Nat):1≤ny v:=by
 by_cases h:v<128
 ·rw[En h];exact Nat.le_refl _
 ·rw[II h];omega
theorem Jd(v:Int)(w:World)(h0:0≤v)(hv:v<4611686018427387904):Calls Tryz.prog 262 #[.int .i64 v] w (bI w (fB v.toNat)):=by
 obtain⟨n,hn⟩:∃n,n=v.toNat:=⟨_,rfl⟩
 rw[←hn]
 have HN:=Lib.hid (show v=(n:Int) by omega)
 have hA:¬v < -4611686018427387904:=by omega
 have hB:¬4611686018427387904<v:=by omega
 have h8:=Oo 8 n (by decide) (by omega)
 have h1:=ZC n
 have HT:=Lib.hid (show fB n=tlv 2 (bM n (ny n)) from rfl)
 have HF:=Lib.hid (show [bM n (ny n)].flatten=bM n (ny n) by simp)
 rw[HT.out]
 obtain⟨z,hz⟩:∃z,z=ny n:=⟨_,rfl⟩
 have HZ:=Lib.hid hz
 rw[←hz]at h8 h1 HF ⊢
 have ZE:n≤4611686018427387904:=by omega
 have HN8:=Lib.hid ZE
 clear hz h0 hv hn ZE
 go_enter Tryz.func262,Tryz.ntmps262
 go_wp2_with fail
 go_loopw [3,4] (fun sv rv wr=>∃(k m:Nat),sv=.int .i64 (k+1:Nat)∧rv=.int .i64 m∧wr=w∧m≤n∧Hid (z=ny m+k)) (fun _ rv _=>(intOf rv).toNat)
 case atStart=>exact⟨0,n,rfl,by rw[HN.out],rfl,Nat.le_refl _,HZ.out⟩
 case round=>
  obtain⟨k,m,rfl,rfl,rfl,hm,HK⟩:=hrel
  by_cases hlt:m<128
  ·have hk:k+1=z:=by rw[HK.out,En hlt];omega
   subst hk
   have hd:¬(m:Int) < -128:=by omega
   have hd2:¬127<(m:Int):=by omega
   go_wp2_with fail
   refine(Zz v n _ (k+1) _ HN.out (by simp) h1 h8).mono ?_
   rintro e w1 ⟨s1,rfl,hb1,hd1⟩
   go_wp2_with fail
   refine(zD 2 2 _ _ [bM n (k+1)] _ rfl (fK.lit [(s1,bM n (k+1))] rfl rfl (by simpa using hd1.out) (by simp[lim])) (by simp) (by rw[HF.out,iy];omega)).mono ?_
   rw[HF.out]
   intro e w4 h4
   obtain⟨s4,rfl,hb4,hd4⟩:=bI.from h4 (aj hb1 _)
   clear hd1
   go_wp2_with fail
   go_ret
   exact⟨s4,rfl,hb4,hd4⟩
  ·have hk:z=ny (m / 256)+(k+1):=by rw[HK.out,II hlt];omega
   have HK':=Lib.hid hk
   have hk8:k≤8:=by have:=ZC m;have:=HK.out;omega
   have hd:¬(m:Int) < -128:=by omega
   have hd2:127<(m:Int):=by omega
   have hmb:m≤4611686018427387904:=Nat.le_trans hm HN8.out
   have HM:=Lib.hid (show m / 256≤n by omega)
   clear hk
   go_wp2_with fail
   go_roundw
   case rel=>exact⟨k+1,m / 256,by go_num,by go_num,trivial,HM.out,HK'.out⟩
   case measure=>simp[intOf];omega
end Go.Proofs.YtfieenjdcpjmgaaGreatDoor
namespace Go.WW
open Go.RowKit
theorem ZF:∀(l:List (List UInt8)) (n:Nat) (x:List UInt8),dX n (l++[x])=dX n l++[bT (n+l.length) x]
 | [],n,x=>rfl
 |y::l,n,x=>by
  rw[List.cons_append,dX,ZF l (n+1) x,dX,List.cons_append,List.length_cons,show n+1+l.length=n+(l.length+1) by omega]
theorem ZG{l:List (List UInt8)}{k:Nat}(h:k<l.length){L:List (List UInt8)}(hL:L=dX 0 (l.take k)):dX 0 (l.take (k+1))=L++[bT k l[k]]:=by
 rw[List.take_succ_eq_append_getElem h,ZF,hL,Nat.zero_add,List.length_take,Nat.min_eq_left (by omega)]
end Go.WW
namespace Go.Proofs.YtfieenjdcpjmgaaGreatDoor
open Go.RowKit Go.WW
theorem anv(v:Int)(w:World)(h0:0≤v)(h1:v≤4294967295):Calls Tryz.prog 180 #[.int .u32 v] w (bI w (uB v.toNat)):=by
 obtain⟨n,hn⟩:∃n,n=v.toNat:=⟨_,rfl⟩
 rw[←hn]
 have HN:=Lib.hid (show v=(n:Int) by omega)
 have HT:=Lib.hid (show uB n=tlv 3 (0::bM n 4) from rfl)
 have HF:=Lib.hid (show [[0],bM n 4].flatten=0::bM n 4 by simp)
 rw[HT.out]
 clear hn
 have hB0:=aj (Below.refl _ w) (.cells #[.int .u8 0] 5)
 have hl0:BytesAt (w.alloc (.cells #[.int .u8 0] 5)) (some ⟨w.heap.size,0,none⟩) [0]:=BytesAt.lit _ [0] rfl rfl (by simp[lim])
 go_enter Tryz.func180,Tryz.ntmps180
 go_wp2_with fail
 refine(Zz v n 4 4 _ HN.out rfl (by decide) (by decide)).mono ?_
 rintro e w1 ⟨s1,rfl,hb1,hd1⟩
 have hP:=((⟨hB0,by simp⟩:Ps w _ []).mid (Below.refl _ _)).add hb1 (s:=⟨some ⟨w.heap.size,0,none⟩,1⟩) (hl0.later hb1)
 have hP2:=hP.add (Below.refl _ _) hd1.out
 go_wp2_with fail
 refine(zD 3 3 _ _ [[0],bM n 4] _ rfl (fK.lit _ rfl rfl hP2.at_ (by simp[lim])) (by simp) (by rw[HF.out,List.length_cons,iy];decide)).mono ?_
 rw[HF.out]
 intro e w4 h4
 obtain⟨s4,rfl,hb4,hd4⟩:=bI.from h4 (aj hP2.b _)
 clear hP hP2 hd1 hl0 hB0
 go_wp2_with fail
 go_ret
 exact⟨s4,rfl,hb4,hd4⟩
theorem anw(a:Option Addr)(cap:Nat)(l:List (List UInt8))(w:World)(h:fK w a l)(h0:0<l.length)(hx:∀x∈l,x.length≠0)(hn:l.flatten.length≤1000000):Calls Tryz.prog 385 #[.slice a l.length cap] w (bI w (dR l)):=by
 have hpl:l.length≤4294967000:=h.1
 obtain⟨b,o,s0,rfl,-,-⟩:=h.get 0 h0
 have HX:=Lib.hid hx
 clear hx
 go_enter Tryz.func385,Tryz.ntmps385
 go_wp2_with fail
 go_loopw [7] (fun iv wr=>∃k:Nat,k≤l.length∧iv=.int .i64 k∧wr=w) (fun iv _=>l.length-(intOf iv).toNat)
 case atStart=>exact⟨0,Nat.zero_le _,rfl,rfl⟩
 case round=>
  obtain⟨k,hk,rfl,rfl⟩:=hrel
  by_cases hlt:k<l.length
  ·obtain⟨s,hc,hb⟩:=h.at k hlt
   have hne:((l[k].length:Int) == 0)=false:=beq_eq_false_iff_ne.2 (by have:=HX.out _ (List.getElem_mem hlt);omega)
   go_wp2_with fail
   go_roundw
   case rel=>exact⟨k+1,by omega,by go_num,trivial⟩
   case measure=>simp[intOf];omega
  ·go_wp2_with fail
   refine(xY _ _ l _ h h0 hn).mono ?_
   rintro e w4 ⟨s4,rfl,hb4,hd4⟩
   go_wp2_with fail
   go_ret
   exact⟨s4,rfl,hb4,hd4⟩
theorem anx{n:Nat}{x:List UInt8}(h:x.length≠0):(bT n x).length≠0:=by
 unfold bT;rw[if_neg h]
 have:=(oJ (160+n) x).1;omega
theorem ZH:∀(l:List (List UInt8)) (n:Nat),(∀x∈l,x.length≠0)→∀x∈dX n l,x.length≠0
 | [],_,_,x,hx=>by cases hx
 |y::l,n,h,x,hx=>by
  rw[dX]at hx
  rcases List.mem_cons.1 hx with rfl|hx
  ·exact anx (h y (by simp))
  ·exact ZH l (n+1) (fun z hz=>h z (by simp[hz])) x hx
theorem anz(a:Option Addr)(cap:Nat)(l:List (List UInt8))(w:World)(h:fK w a l)(h0:0<l.length)(h30:l.length≤30)(hx:∀x∈l,x.length≠0)(hx1:∀x∈l,x.length≤1000000)(hn:(dX 0 l).flatten.length≤1000000):Calls Tryz.prog 358 #[.slice a l.length cap] w (bI w (mJ l)):=by
 obtain⟨b,o,s0,rfl,-,-⟩:=h.get 0 h0
 have HX:=Lib.hid (ZH l 0 hx)
 have PE:=Lib.hid hx1
 have HS:=Lib.hid (show mJ l=dR (dX 0 l) from rfl)
 have HN:=Lib.hid hn
 rw[HS.out]
 clear hx hx1 hn
 go_enter Tryz.func358,Tryz.ntmps358
 go_wp2_with fail
 go_loopw [3,8] (fun bv iv wr=>∃(k:Nat) (so:Sl) (L:List (List UInt8)),k≤l.length∧iv=.int .i64 k∧bv=.slice so.a L.length so.cap∧iC 61 w wr so L∧Hid (L=dX 0 (l.take k))) (fun _ iv _=>l.length-(intOf iv).toNat)
 case atStart=>exact⟨0,⟨none,0⟩,[],Nat.zero_le _,rfl,rfl,iC.none _ (Below.refl _ _),rfl⟩
 case round=>
  obtain⟨k,so,L,hk,rfl,rfl,hH,HL⟩:=hrel
  by_cases hlt:k<l.length
  ·obtain⟨s,hc,hb⟩:=(h.later hH.b).at k hlt
   obtain⟨L',hL'⟩:∃L',L'=dX 0 (l.take (k+1)):=⟨_,rfl⟩
   have HA:=Lib.hid (show L'=L++[bT k l[k]] by rw[hL',ZG hlt HL.out])
   have hLn:L'.length≤1000000:=by rw[hL',Eo,List.length_take];omega
   have kE:=Lib.hid hL'
   clear hL'
   go_wp2_with fail
   refine(Jc k k _ _ l[k] _ rfl (by omega) hb (PE.out _ (List.getElem_mem hlt))).mono ?_
   rintro e w2 ⟨s2,rfl,hb2,hd2⟩
   go_wp2_with (at_builtin;refine sF (L:=L') rfl _ _ _ rfl qh hH hb2 hd2 rfl rfl rfl rfl HA.out hLn ?_;intro s3 w3 hH3)
   go_roundw
   case rel=>exact⟨k+1,s3,L',by omega,by go_num,rfl,hH3,kE.out⟩
   case measure=>simp[intOf];omega
  ·have HE:=Lib.hid (show L=dX 0 l by rw[HL.out,List.take_of_length_le (by omega)])
   have hL0:L.length=l.length:=by rw[HE.out,Eo]
   have hh:=(hH.hist (by unfold lim;omega)).out
   have hL1:0<L.length:=by omega
   rw[←HE.out]at HX HN ⊢
   clear hL0
   go_wp2_with fail
   refine(anw _ _ L _ hh hL1 HX.out HN.out).mono ?_
   intro e w4 h4
   obtain⟨s4,rfl,hb4,hd4⟩:=bI.from h4 hH.b
   clear hH hh
   go_wp2_with fail
   go_ret
   rw[←HE.out]
   exact⟨s4,rfl,hb4,hd4⟩
end Go.Proofs.YtfieenjdcpjmgaaGreatDoor
namespace Go.WW
open Go.RowKit
def nS(l:List (Sl×List UInt8)):Array Value:=(l.map fun x=>Value.slice x.1.a x.2.length x.1.cap).toArray
theorem anA{l:List (Sl×List UInt8)}{j:Nat}{v:Value}(h:(nS l)[j]?=some v):∃x,l[j]?=some x∧v=.slice x.1.a x.2.length x.1.cap:=by
 unfold nS at h
 rw[List.getElem?_toArray,List.getElem?_map]at h
 cases hx:l[j]? with
 |none=>rw[hx]at h;cases h
 |some x=>rw[hx]at h;exact⟨x,rfl,by cases h;rfl⟩
theorem ZI{l:List (Sl×List UInt8)}{j:Nat}(h:j<l.length):(nS l)[j]?=some (.slice l[j].1.a l[j].2.length l[j].1.cap):=by
 unfold nS;simp[h]
theorem anB{w:World}{g k:Nat}{v:Value}{items:List (Sl×List UInt8)}{t:TypeId}(hg:w.heap[g]?=some (.cells (nS items) t)){A:Option Addr}{l:List UInt8}(h:BytesAt w A l):BytesAt (w.setCell ⟨g,k,none⟩ v) A l:=by
 refine⟨h.1,fun i hi=>?_⟩
 obtain⟨b,o,u,ha,hc,c,hc1,hc2⟩:=h.2 i hi
 refine⟨b,o,u,ha,?_,c,hc1,hc2⟩
 have hne:b≠g:=by
  intro e;subst e
  rw[(BL hg).1]at hc
  obtain⟨x,-,hx⟩:=anA hc
  subst hc2;cases hx
 rw[World.cell?_of_block (a:=⟨b,o+i,none⟩) (Below.heap_setCell w ⟨g,k,none⟩ v b hne)]
 exact hc
theorem anC{k:Nat}(res rest:List (Sl×List UInt8))(x:Sl×List UInt8)(hk:res.length=k):(nS (res++x::rest))[k]?=some (.slice x.1.a x.2.length x.1.cap):=by
 subst hk
 rw[ZI (by simp)];simp
theorem anD{k:Nat}(res rest:List (Sl×List UInt8))(x y:Sl×List UInt8)(hk:res.length=k):(nS (res++x::rest)).setIfInBounds k (.slice y.1.a y.2.length y.1.cap)=nS ((res++[y])++rest):=by
 subst hk
 unfold nS
 simp
theorem anE{w:World}{g:Nat}{t:TypeId}{items:List (Sl×List UInt8)}(hg:w.heap[g]?=some (.cells (nS items) t))(hb:∀x∈items,BytesAt w x.1.a x.2)(hl:items.length≤lim):fK w (some ⟨g,0,none⟩) (items.map (·.2)):=by
 refine⟨by simpa using hl,fun i hi=>?_⟩
 have hi':i<items.length:=by simpa using hi
 refine⟨g,0,.slice items[i].1.a items[i].2.length items[i].1.cap,rfl,?_,items[i].2,items[i].1,by simp[hi'],rfl,hb _ (List.getElem_mem hi')⟩
 rw[(BL hg).1,Nat.zero_add,ZI hi']
end Go.WW
namespace Go.Proofs.YtfieenjdcpjmgaaGreatDoor
open Go.RowKit Go.WW
theorem ZJ(g n0 cap:Nat)(items:List (Sl×List UInt8))(w:World)(hg:w.heap[g]?=some (.cells (nS items) 61))(hn0:n0≤g)(hb:∀x∈items,BytesAt w x.1.a x.2)(h0:0<items.length)(h30:items.length≤30)
  (hx1:∀x∈items,x.2.length≤1000000) (hn:(dX 0 (items.map (·.2))).flatten.length≤1000000) :
  Calls Tryz.prog 177 #[.slice (some ⟨g,0,none⟩) items.length cap] w fun e w'=>∃s:Sl,e=.returned (.slice s.a (mJ (items.map (·.2))).length s.cap)∧Below n0 w w'∧bH w' (fresh w.heap.size w') fun x=>BytesAt x s.a (mJ (items.map (·.2))):=by
 have PE:=Lib.hid hx1
 have HS:=Lib.hid (show mJ (items.map (·.2))=dR (dX 0 (items.map (·.2))) from rfl)
 have HN:=Lib.hid hn
 have HB:=Lib.hid hb
 have HG:=Lib.hid hg
 have hgl:=(BL hg).2.2
 rw[HS.out]
 clear hx1 hn hb hg
 go_enter Tryz.func177,Tryz.ntmps177
 go_wp2_with fail
 go_loopw [7] (fun iv wr=>∃(k:Nat) (res:List (Sl×List UInt8)),k≤items.length∧iv=.int .i64 k∧Hid (res.length=k∧res.map (·.2)=dX 0 ((items.map (·.2)).take k)∧wr.heap[g]?=some (.cells (nS (res++items.drop k)) 61)∧(∀x∈res++items.drop k,BytesAt wr x.1.a x.2)∧Below n0 w wr∧w.heap.size≤wr.heap.size)) (fun iv _=>items.length-(intOf iv).toNat)
 case atStart=>exact⟨0,[],Nat.zero_le _,rfl,rfl,rfl,HG.out,HB.out,(Below.refl _ _).mono (by omega),Nat.le_refl _⟩
 case round=>
  obtain⟨k,res,hk,rfl,HI⟩:=hrel
  by_cases hlt:k<items.length
  ·obtain⟨hrl,hrm,hgw,hbw,hbl,hsz⟩:=HI.out
   obtain⟨hc,hf,hgl⟩:=BL hgw
   have hd:items.drop k=items[k]::items.drop (k+1):=List.drop_eq_getElem_cons hlt
   have hxk:=hbw items[k] (List.mem_append.2 (.inr (hd▸List.mem_cons_self)))
   have hck:wr.cell? ⟨g,k,none⟩=some (.slice items[k].1.a items[k].2.length items[k].1.cap):=by
    rw[hc,hd]
    exact anC _ _ _ hrl
   have hfk:=hf k
   have hn1:=PE.out items[k] (List.getElem_mem hlt)
   clear hc hf hrl hrm hgw hbw hbl hsz hd
   go_wp2_with fail
   refine(Jc k k _ _ items[k].2 _ rfl (by omega) hxk hn1).mono ?_
   rintro e w2 ⟨s2,rfl,hb2,hd2⟩
   have hc2:w2.cell? ⟨g,k,none⟩=some (.slice items[k].1.a items[k].2.length items[k].1.cap):=(hb2.cell (p:=⟨g,k,none⟩) hgl).trans hck
   have hf2:w2.frozen? ⟨g,k,none⟩=false:=(hb2.frozen (p:=⟨g,k,none⟩) hgl).trans hfk
   clear hck hfk hxk
   go_wp2_with fail
   go_roundw
   case rel=>
    obtain⟨hrl,hrm,hgw,hbw,hbl,hsz⟩:=HI.out
    have hd:items.drop k=items[k]::items.drop (k+1):=List.drop_eq_getElem_cons hlt
    have hg2:w2.heap[g]?=some (.cells (nS (res++items.drop k)) 61):=(hb2.block g hgl).trans hgw
    refine⟨k+1,res++[(s2,bT k items[k].2)],by omega,by go_num,by simp[hrl],?_,?_,?_,Zw ((hbl.trans (hb2.mono ?_))) hn0,?_⟩
    ·rw[List.map_append,ZG (by simpa using hlt) hrm]
     simp
    ·rw[hd]at hg2
     have:=dI (o:=k) (.slice s2.a (bT k items[k].2).length s2.cap) hg2
     rw[anD _ _ _ (s2,bT k items[k].2) hrl]at this
     exact this
    ·intro x hx
     refine anB hg2 ?_
     rcases List.mem_append.1 hx with hx|hx
     ·rcases List.mem_append.1 hx with hx|hx
      ·exact(hbw x (List.mem_append.2 (.inl hx))).later hb2
      ·simp only[List.mem_cons,List.not_mem_nil,or_false]at hx;subst hx;exact hd2.out
     ·exact(hbw x (List.mem_append.2 (.inr (hd▸List.mem_cons_of_mem _ hx)))).later hb2
    ·have:=hbl.size;omega
    ·have:=hb2.size;simp[World.setCell];omega
   case measure=>simp[intOf];omega
  ·obtain⟨hrl,hrm,hgw,hbw,hbl,hsz⟩:=HI.out
   rw[List.drop_of_length_le (by omega),List.append_nil]at hgw hbw
   rw[List.take_of_length_le (by rw[List.length_map];omega)]at hrm
   have hh:=anE hgw hbw (by unfold lim;omega)
   rw[hrm]at hh
   have hln:(dX 0 (items.map (·.2))).length=items.length:=by rw[Eo,List.length_map]
   have PG:=Lib.hid (xY (some ⟨g,0,none⟩) cap (dX 0 (items.map (·.2))) wr hh (by rw[hln];exact h0) HN.out)
   rw[hln]at PG
   have ZK:=Lib.hid hbl
   clear hh hln hrl hrm hgw hbw hbl
   go_wp2_with fail
   refine PG.out.mono ?_
   rintro e w4 ⟨s4,rfl,hb4,hd4⟩
   have HB4:=Lib.hid (ZK.out.trans (hb4.mono (by have:=ZK.out.size;omega)))
   have HD4:=Lib.hid (hd4.to (S1:=fresh w.heap.size w4) (fun _ _=>rfl) (fun j hj=>⟨Nat.le_trans hsz hj.1,hj.2⟩))
   clear hd4 hb4 PG
   go_wp2_with fail
   go_ret
   exact⟨s4,rfl,HB4.out,HD4.out⟩
theorem anF(s:Sl)(k:Key)(w:World)(hk:kJ w s k)(hf:zy k):Calls Tryz.prog 264 #[.agg (bZ s k)] w (bI w (iG k)):=by
 have hfl:=Ov hf
 obtain⟨h1,h2,h3⟩:=hf
 have e1:=rZ (v:=k.profile.toNat) (k:=1) (by decide) (by simp;omega)
 have e2:=rZ (v:=k.version.toNat) (k:=3) (by decide) (by simp;omega)
 have e3:=Bq k.bytes
 have hB0:Below w.heap.size w (w.alloc (.cells (bZ s k) 69)):=aj (Below.refl _ _) _
 have ou:BytesAt (w.alloc (.cells (bZ s k) 69)) s.a k.bytes:=BytesAt.later hB0 hk
 have HK:=Lib.hid (show iG k=mJ [fB k.profile.toNat,fB k.version.toNat,gy k.bytes] from rfl)
 have HE:=Lib.hid (show(∀x∈[fB k.profile.toNat,fB k.version.toNat,gy k.bytes],x.length≠0)∧∀x∈[fB k.profile.toNat,fB k.version.toNat,gy k.bytes],x.length≤1000000 by
  have n1:=(oJ 2 (uA k.profile.toNat)).1
  have n2:=(oJ 2 (uA k.version.toNat)).1
  have n3:=(oJ 4 k.bytes).1
  refine⟨?_,?_⟩<;>
  ·intro x hx
   simp only[List.mem_cons,List.not_mem_nil,or_false]at hx
   rcases hx with rfl|rfl|rfl<;>first|omega|(unfold fB;omega)|(unfold gy;omega))
 have HF:=Lib.hid (Nat.le_trans hfl (by decide:290≤1000000))
 rw[HK.out]
 clear hfl e1 e2 e3
 have main:Calls Tryz.prog 320 #[.int .i64 k.profile,.int .i64 k.version,.slice s.a k.bytes.length s.cap] (w.alloc (.cells (bZ s k) 69)) (bI (w.alloc (.cells (bZ s k) 69)) (mJ [fB k.profile.toNat,fB k.version.toNat,gy k.bytes])):=by
  generalize w.alloc (.cells (bZ s k) 69)=W0 at *
  have hP0:Ps W0 W0 []:=⟨Below.refl _ _,by simp⟩
  go_enter Tryz.func320,Tryz.ntmps320
  go_wp2_with fail
  refine(Jd _ _ h1.1 (by omega)).mono ?_
  rintro e w1 ⟨s1,rfl,hb1,hd1⟩
  have hP1:=hP0.add hb1 hd1.out
  go_wp2_with fail
  refine(Jd _ _ h2.1 (by omega)).mono ?_
  rintro e w2 ⟨s2,rfl,hb2,hd2⟩
  have hP2:=hP1.add hb2 hd2.out
  go_wp2_with fail
  refine(ZA _ _ k.bytes _ (ou.later hP2.b) (by omega)).mono ?_
  rintro e w3 ⟨s3,rfl,hb3,hd3⟩
  have hP3:=hP2.add hb3 hd3.out
  clear hP0 hP1 hP2 hb1 hd1 hb2 hd2 hb3 hd3
  go_wp2_with fail
  refine(anz _ _ [fB k.profile.toNat,fB k.version.toNat,gy k.bytes] _ (fK.lit _ rfl rfl hP3.at_ (by simp[lim])) (by simp) (by simp) HE.out.1 HE.out.2 HF.out).mono ?_
  intro e w4 h4
  obtain⟨s4,rfl,hb4,hd4⟩:=bI.from h4 (aj hP3.b _)
  clear hP3
  go_wp2_with fail
  go_ret
  exact⟨s4,rfl,hb4,hd4⟩
 have HM:=Lib.hid main
 clear main
 go_enter Tryz.func264,Tryz.ntmps264
 go_wp2_with fail
 refine HM.out.mono ?_
 intro e w4 h4
 obtain⟨s4,rfl,hb4,hd4⟩:=bI.from h4 hB0
 go_wp2_with fail
 go_ret
 exact⟨s4,rfl,hb4,hd4⟩
theorem ER(v:Int)(w:World)(h0:0≤v)(hv:v<4611686018427387904):Calls Tryz.prog 181 #[.int .i64 v] w (bI w (fZ v.toNat)):=by
 by_cases hz:v=0
 ·subst hz
  have HT:=Lib.hid (show fZ (0:Int).toNat=[] from rfl)
  rw[HT.out]
  go_enter Tryz.func181,Tryz.ntmps181
  go_wp2_with fail
  go_ret
  exact pK (Below.refl _ _)
 ·have HT:=Lib.hid (show fZ v.toNat=fB v.toNat by unfold fZ;rw[if_neg (by omega)])
  have hz':(v == 0)=false:=beq_eq_false_iff_ne.2 hz
  have HC:=Lib.hid (Jd v w h0 hv)
  rw[HT.out]
  clear hz h0 hv
  go_enter Tryz.func181,Tryz.ntmps181
  go_wp2_with fail
  refine HC.out.mono ?_
  rintro e w1 ⟨s1,rfl,hb1,hd1⟩
  go_wp2_with fail
  go_ret
  exact⟨s1,rfl,hb1,hd1⟩
theorem Je(v:Int)(w:World)(h0:0≤v)(hv:v≤1099511627776):Calls Tryz.prog 185 #[.int .i64 v] w (bI w (jh v.toNat)):=by
 by_cases hz:v=0
 ·subst hz
  have HT:=Lib.hid (show jh (0:Int).toNat=[] from rfl)
  rw[HT.out]
  go_enter Tryz.func185,Tryz.ntmps185
  go_wp2_with fail
  go_ret
  exact pK (Below.refl _ _)
 ·have HT:=Lib.hid (show jh v.toNat=lQ v.toNat by unfold jh;rw[if_neg (by omega)])
  have hz':(v == 0)=false:=beq_eq_false_iff_ne.2 hz
  have HC:=Lib.hid (ZB v w h0 hv)
  rw[HT.out]
  clear hz h0 hv
  go_enter Tryz.func185,Tryz.ntmps185
  go_wp2_with fail
  refine HC.out.mono ?_
  rintro e w1 ⟨s1,rfl,hb1,hd1⟩
  go_wp2_with fail
  go_ret
  exact⟨s1,rfl,hb1,hd1⟩
theorem ZL(s:ByteArray)(w:World)(hs:s.size≤1000000):Calls Tryz.prog 184 #[.string s] w (bI w (jR s)):=by
 have hc:=OQ s
 cases hz:s.toList.isEmpty
 ·rw[hz]at hc
  have HT:=Lib.hid (show jR s=fC s from hc)
  have HC:=Lib.hid (PD s w hs)
  rw[HT.out]
  clear hc hs
  go_enter Tryz.func184,Tryz.ntmps184
  go_wp2_with fail
  refine HC.out.mono ?_
  rintro e w1 ⟨s1,rfl,hb1,hd1⟩
  go_wp2_with fail
  go_ret
  exact⟨s1,rfl,hb1,hd1⟩
 ·rw[hz]at hc
  have HT:=Lib.hid (show jR s=[] from hc)
  rw[HT.out]
  clear hc hs
  go_enter Tryz.func184,Tryz.ntmps184
  go_wp2_with fail
  go_ret
  exact pK (Below.refl _ _)
end Go.Proofs.YtfieenjdcpjmgaaGreatDoor
