/- A part of the proof. -/
import Derived.Shelf.LaysM
import Derived.Shelf.Strconv.Itoa3
import Derived.Test.YtpfifochimkpfaaGreatDoorProg
import Derived.Shelf.Strings.OnBuilder
import Derived.Test.YtpfifochimkpfaaGreatDoorA27
import Derived.Test.YtpfifochimkpfaaGreatDoorA06
import Derived.Lib.ItoaMem
import Derived.Test.YtpfifochimkpfaaGreatDoorA23
import Derived.Test.YtpfifochimkpfaaGreatDoorA05
import Derived.Test.YtpfifochimkpfaaGreatDoorA10
set_option maxRecDepth 100000
set_option maxHeartbeats 8000000
namespace Go.Proofs
open Go.Shelf
def Tryz.laysM171_ren:Go.Shelf.Ren:=⟨fun|171=>86|243=>141|246=>186|283=>221|284=>222|285=>223|286=>224|129=>218|317=>246|318=>247|319=>248|320=>249|337=>265|338=>266|n=>n,fun|3=>3|9=>9|2=>2|4=>4|171=>234|0=>0|53=>102|37=>58|5=>5|173=>236|212=>263|51=>39|20=>20|213=>264|46=>203|232=>280|233=>281|n=>n,fun|17=>1|18=>4|19=>5|n=>n⟩
theorem Tryz.laysM171:Go.Proofs.LaysM.n171 Tryz.prog Tryz.laysM171_ren:={
 mixed:=by kernel_rfl
 f129:=Tryz.func218.trans (congrArg some (by kernel_rfl))
 f171:=Tryz.func86.trans (congrArg some (by kernel_rfl))
 f243:=Tryz.func141.trans (congrArg some (by kernel_rfl))
 f246:=Tryz.func186.trans (congrArg some (by kernel_rfl))
 f283:=Tryz.func221.trans (congrArg some (by kernel_rfl))
 f284:=Tryz.func222.trans (congrArg some (by kernel_rfl))
 f285:=Tryz.func223.trans (congrArg some (by kernel_rfl))
 f286:=Tryz.func224.trans (congrArg some (by kernel_rfl))
 f317:=Tryz.func246.trans (congrArg some (by kernel_rfl))
 f318:=Tryz.func247.trans (congrArg some (by kernel_rfl))
 f319:=Tryz.func248.trans (congrArg some (by kernel_rfl))
 f320:=Tryz.func249.trans (congrArg some (by kernel_rfl))
 f337:=Tryz.func265.trans (congrArg some (by kernel_rfl))
 f338:=Tryz.func266.trans (congrArg some (by kernel_rfl))
 t0:=Tryz.underlying0
 a0:=Tryz.isAgg0
 z0:=Tryz.sizeOf0
 v0:=Tryz.zeroValue0
 t2:=Tryz.underlying2
 a2:=Tryz.isAgg2
 z2:=Tryz.sizeOf2
 v2:=Tryz.zeroValue2
 t3:=Tryz.underlying3
 a3:=Tryz.isAgg3
 z3:=Tryz.sizeOf3
 v3:=Tryz.zeroValue3
 t4:=Tryz.underlying4
 a4:=Tryz.isAgg4
 z4:=Tryz.sizeOf4
 v4:=Tryz.zeroValue4
 t5:=Tryz.underlying5
 a5:=Tryz.isAgg5
 z5:=Tryz.sizeOf5
 v5:=Tryz.zeroValue5
 t9:=Tryz.underlying9
 a9:=Tryz.isAgg9
 z9:=Tryz.sizeOf9
 v9:=Tryz.zeroValue9
 t20:=Tryz.underlying20
 a20:=Tryz.isAgg20
 z20:=Tryz.sizeOf20
 v20:=Tryz.zeroValue20
 t37:=Tryz.underlying58
 a37:=Tryz.isAgg58
 z37:=Tryz.sizeOf58
 v37:=Tryz.zeroValue58
 t46:=Tryz.underlying203
 a46:=Tryz.isAgg203
 z46:=Tryz.sizeOf203
 v46:=Tryz.zeroValue203
 t51:=Tryz.underlying39
 a51:=Tryz.isAgg39
 z51:=Tryz.sizeOf39
 v51:=Tryz.zeroValue39
 t53:=Tryz.underlying102
 a53:=Tryz.isAgg102
 z53:=Tryz.sizeOf102
 v53:=Tryz.zeroValue102
 t171:=Tryz.underlying234
 a171:=Tryz.isAgg234
 z171:=Tryz.sizeOf234
 v171:=Tryz.zeroValue234
 t173:=Tryz.underlying236
 a173:=Tryz.isAgg236
 z173:=Tryz.sizeOf236
 v173:=Tryz.zeroValue236
 t212:=Tryz.underlying263
 a212:=Tryz.isAgg263
 z212:=Tryz.sizeOf263
 v212:=Tryz.zeroValue263
 t213:=Tryz.underlying264
 a213:=Tryz.isAgg264
 z213:=Tryz.sizeOf264
 t232:=Tryz.underlying280
 a232:=Tryz.isAgg280
 z232:=Tryz.sizeOf280
 v232:=Tryz.zeroValue280
 t233:=Tryz.underlying281
 a233:=Tryz.isAgg281
 z233:=Tryz.sizeOf281
 v233:=Tryz.zeroValue281
 g17:=by kernel_rfl
 g18:=by kernel_rfl
 g19:=by kernel_rfl
 i0:=by kernel_rfl
 i2:=by kernel_rfl
 i3:=by kernel_rfl
 i4:=by kernel_rfl
 i5:=by kernel_rfl
 i9:=by kernel_rfl
 i20:=by kernel_rfl
 i37:=by kernel_rfl
 i46:=by kernel_rfl
 i51:=by kernel_rfl
 i53:=by kernel_rfl
 i171:=by kernel_rfl
 i173:=by kernel_rfl
 i212:=by kernel_rfl
 i232:=by kernel_rfl
 i233:=by kernel_rfl
 m17:=by kernel_rfl
 m18:=by kernel_rfl
 m19:=by kernel_rfl}
open Go.RowKit Go.Sort Go.Lib in
theorem Tryz.strconv_Itoa(n:Int)(h0:-9223372036854775808≤n)(h1:n≤9223372036854775807)(w:World)(htab:Lib.TabIs Tryz.prog w "internal/strconv.uint64pow10" .u64 Lib.pow10Tab) :
  Calls Tryz.prog 86 #[.int .i64 n] w fun e w'=>e=.returned (.string ⟨(Lib.itoa n).toArray⟩)∧∃k os,w'=grow (w.drewN k) os:=Any.strconv_Itoa Tryz.laysM171 n h0 h1 w htab
def Tryz.lays156_ren:Go.Shelf.Ren:=⟨fun|156=>140|165=>183|166=>184|169=>185|240=>219|241=>220|276=>244|277=>245|n=>n,fun|31=>33|9=>9|3=>3|4=>4|0=>0|20=>20|72=>206|76=>210|70=>204|37=>58|75=>209|127=>233|164=>260|5=>5|80=>81|n=>n,fun|n=>n⟩
theorem Tryz.lays156:Go.Proofs.Lays.n156 Tryz.prog Tryz.lays156_ren:={
 mixed:=by kernel_rfl
 f156:=Tryz.func140.trans (congrArg some (by kernel_rfl))
 f165:=Tryz.func183.trans (congrArg some (by kernel_rfl))
 f166:=Tryz.func184.trans (congrArg some (by kernel_rfl))
 f169:=Tryz.func185.trans (congrArg some (by kernel_rfl))
 f240:=Tryz.func219.trans (congrArg some (by kernel_rfl))
 f241:=Tryz.func220.trans (congrArg some (by kernel_rfl))
 f276:=Tryz.func244.trans (congrArg some (by kernel_rfl))
 f277:=Tryz.func245.trans (congrArg some (by kernel_rfl))
 t0:=Tryz.underlying0
 a0:=Tryz.isAgg0
 z0:=Tryz.sizeOf0
 v0:=Tryz.zeroValue0
 t3:=Tryz.underlying3
 a3:=Tryz.isAgg3
 z3:=Tryz.sizeOf3
 v3:=Tryz.zeroValue3
 t4:=Tryz.underlying4
 a4:=Tryz.isAgg4
 z4:=Tryz.sizeOf4
 v4:=Tryz.zeroValue4
 t9:=Tryz.underlying9
 a9:=Tryz.isAgg9
 z9:=Tryz.sizeOf9
 v9:=Tryz.zeroValue9
 t20:=Tryz.underlying20
 a20:=Tryz.isAgg20
 z20:=Tryz.sizeOf20
 v20:=Tryz.zeroValue20
 t31:=Tryz.underlying33
 a31:=Tryz.isAgg33
 z31:=Tryz.sizeOf33
 v31:=Tryz.zeroValue33
 t37:=Tryz.underlying58
 a37:=Tryz.isAgg58
 z37:=Tryz.sizeOf58
 v37:=Tryz.zeroValue58
 t70:=Tryz.underlying204
 a70:=Tryz.isAgg204
 z70:=Tryz.sizeOf204
 v70:=Tryz.zeroValue204
 t72:=Tryz.underlying206
 a72:=Tryz.isAgg206
 z72:=Tryz.sizeOf206
 v72:=Tryz.zeroValue206
 t75:=Tryz.underlying209
 a75:=Tryz.isAgg209
 z75:=Tryz.sizeOf209
 v75:=Tryz.zeroValue209
 t76:=Tryz.underlying210
 a76:=Tryz.isAgg210
 z76:=Tryz.sizeOf210
 v76:=Tryz.zeroValue210
 t127:=Tryz.underlying233
 a127:=Tryz.isAgg233
 z127:=Tryz.sizeOf233
 v127:=Tryz.zeroValue233
 t164:=Tryz.underlying260
 a164:=Tryz.isAgg260
 z164:=Tryz.sizeOf260
 v164:=Tryz.zeroValue260}
theorem Tryz.Builder_Extra_156:Builder.Extra Tryz.prog Tryz.lays156_ren:={
 sizeBuilder:=by kernel_rfl
 liesBuilder:=by kernel_rfl
 t5:=Tryz.underlying5
 a5:=Tryz.isAgg5
 z5:=Tryz.sizeOf5
 v5:=Tryz.zeroValue5
 infoByte:=by kernel_rfl
 cellsByte:=by kernel_rfl
 sizeByte:=by kernel_rfl
 neB5:=by decide}
open Go.RowKit in
theorem Tryz.strings_Join(bk o c:Nat)(xs:List ByteArray)(sep:ByteArray)(w:World)(hcells:∀(j:Nat) x,xs[j]?=some x→w.cell? ⟨bk,o+j,none⟩=some (.string x))(hbk:bk<w.heap.size)(hN:xs.length≤140737488355328)(hcap:xs.length≤c)(hlen:(Lib.join (xs.map (·.data.toList)) sep.data.toList).length≤140737488355328) :
  Calls Tryz.prog 140 #[.slice (some ⟨bk,o,none⟩) xs.length c,.string sep] w fun e w'=>e=.returned (.string ⟨(Lib.join (xs.map (·.data.toList)) sep.data.toList).toArray⟩)∧Below w.heap.size w w':=Any.strings_Join Tryz.lays156 Tryz.Builder_Extra_156 bk o c xs sep w hcells hbk hN hcap hlen
end Go.Proofs
namespace Go.WW
open Go.RowKit
theorem nX{P:Program}{w w':World}{name:String}{k:IntKind}{t:List Int}(h:Lib.TabIs P w name k t)(hb:Below w.heap.size w w'):Lib.TabIs P w' name k t:=by
 unfold Lib.TabIs World.var? at *
 cases hg:P.globalNamed name with
 |none=>rw[hg]at h;cases h
 |some g=>
  rw[hg]at h
  simp only[Option.bind_some]at h ⊢
  have hlt:g<w.heap.size:=by
   rcases Nat.lt_or_ge g w.heap.size with hl|hl
   ·exact hl
   ·rw[Array.getElem?_eq_none hl]at h;cases h
  rw[hb.block g hlt]
  exact h
theorem below_grown(w:World)(k:Nat)(os:Array Obj):Below w.heap.size w (Go.Sort.grow (w.drewN k) os):=
 ⟨rfl,rfl,rfl,by show w.heap.size≤(w.heap++os).size;simp,fun j hj=>by show(w.heap++os)[j]?=_;rw[Array.getElem?_append_left hj]⟩
theorem akn(n a b c d e f g h i:ByteArray):(ByteArray.mk (Lib.join ([n,(⟨#[108,101,110,103,116,104,61]⟩:ByteArray)++a,(⟨#[99,108,97,115,115,101,115,61]⟩:ByteArray)++b,(⟨#[100,105,115,116,105,110,99,116,61]⟩:ByteArray)++c,(⟨#[104,105,115,116,111,114,121,61]⟩:ByteArray)++d,(((⟨#[97,103,101,61]⟩:ByteArray)++e)++(⟨#[46,46]⟩:ByteArray))++f,(⟨#[102,97,105,108,115,61]⟩:ByteArray)++g,(((⟨#[108,111,99,107,61]⟩:ByteArray)++h)++(⟨#[47]⟩:ByteArray))++i].map (·.data.toList)) [32]).toArray) =
  ((((((((((((((((((n++(⟨#[32,108,101,110,103,116,104,61]⟩:ByteArray))++a)++(⟨#[32,99,108,97,115,115,101,115,61]⟩:ByteArray))++b)++(⟨#[32,100,105,115,116,105,110,99,116,61]⟩:ByteArray))++c)++(⟨#[32,104,105,115,116,111,114,121,61]⟩:ByteArray))++d)++(⟨#[32,97,103,101,61]⟩:ByteArray))++e)++(⟨#[46,46]⟩:ByteArray))++f)++(⟨#[32,102,97,105,108,115,61]⟩:ByteArray))++g)++(⟨#[32,108,111,99,107,61]⟩:ByteArray))++h)++(⟨#[47]⟩:ByteArray))++i):=by
 have h1:∀x y:ByteArray,x.data.toList=y.data.toList→x=y:=fun x y h=>ByteArray.ext (Array.ext' h)
 apply h1
 simp[Lib.join,List.intercalate,ByteArray.data_append]
theorem ako(w:World)(xs:List ByteArray){cs:Array Value}{t:TypeId}(h:cs=(xs.map Value.string).toArray):∀(j:Nat) x,xs[j]?=some x→(w.alloc (.cells cs t)).cell? ⟨w.heap.size,0+j,none⟩=some (.string x):=by
 subst h
 intro j x hx
 rw[cell_of_row _ _ _ _ _ _ (World.alloc_heap_new _ _),Nat.zero_add]
 simp[hx]
abbrev BJ(P:Program)(w:World):Prop:=Lib.TabIs P w "internal/strconv.uint64pow10" .u64 Lib.pow10Tab
end Go.WW
namespace Go.Proofs.YtpfifochimkpfaaGreatDoor
open Go.RowKit Go.WW
theorem wH(v:Int)(w:World)(h0:0≤v)(hv:v<4611686018427387904)(ht:BJ Tryz.prog w):Calls Tryz.prog 86 #[.int .i64 v] w fun e w'=>e=.returned (.string (eF v.toNat))∧Below w.heap.size w w':=by
 refine(Tryz.strconv_Itoa v (by omega) (by omega) w ht).mono ?_
 rintro e w' ⟨rfl,k,os,rfl⟩
 refine⟨?_,below_grown w k os⟩
 have:=Lib.itoa_nonneg v.toNat
 rw[Int.toNat_of_nonneg h0]at this
 rw[this];rfl
theorem akp(b o c:Nat)(xs:List ByteArray)(w:World)(hs:∀(j:Nat) x,xs[j]?=some x→w.cell? ⟨b,o+j,none⟩=some (.string x))(hb:b<w.heap.size)(hc:xs.length≤c)(hl:(Lib.join (xs.map (·.data.toList)) [32]).length≤1000000)(hn:xs.length≤1000) :
  Calls Tryz.prog 85 #[.slice (some ⟨b,o,none⟩) xs.length c] w fun e w'=>e=.returned (.string ⟨(Lib.join (xs.map (·.data.toList)) [32]).toArray⟩)∧Below w.heap.size w w':=by
 have HJ:=Lib.hid (Tryz.strings_Join b o c xs ⟨#[32]⟩ w hs hb (by omega) hc (Nat.le_trans hl (by decide)))
 obtain⟨J,hJ⟩:∃J,J=(ByteArray.mk (Lib.join (xs.map (·.data.toList)) [32]).toArray):=⟨_,rfl⟩
 rw[←hJ]
 have HJJ:=Lib.hid hJ
 clear hJ hl hs
 go_enter Tryz.func85,Tryz.ntmps85
 go_wp2_with fail
 refine HJ.out.mono ?_
 rintro e w' ⟨rfl,hb'⟩
 go_wp2_with fail
 go_ret
 exact⟨by rw[HJJ.out];rfl,hb'⟩
theorem akr(p:ah)(w:World)(hok:dA p=true)(hnm:p.name.size≤lim)(ht:BJ Tryz.prog w):Calls Tryz.prog 51 #[.agg (ak p)] w fun e w'=>e=.returned (.tuple #[.string (pM p),.int .i64 0])∧Below w.heap.size w w':=by
 have hB0:Below w.heap.size w (w.alloc (.cells (ak p) 52)):=ay (Below.refl _ _) _
 obtain⟨f0,f1,f2,f3,f4,f5,f6,f7,f8,f9⟩:=BH hok
 have d1:=iZ f1
 have d2:=iZ f2
 have d3:=iZ f3
 have d4:=iZ f4
 have d5:=iZ f5
 have d6:=iZ f6
 have d7:=iZ f7
 have d8:=iZ f8
 have d9:=iZ f9
 obtain⟨S1,g1⟩:∃S,(⟨#[108,101,110,103,116,104,61]⟩:ByteArray)++eF p.length.toNat=S:=⟨_,rfl⟩
 have z1:S1.size≤22:=by rw[←g1,ByteArray.size_append];exact Nat.add_le_add (by decide:_≤9) d1
 obtain⟨S2,g2⟩:∃S,(⟨#[99,108,97,115,115,101,115,61]⟩:ByteArray)++eF p.classes.toNat=S:=⟨_,rfl⟩
 have z2:S2.size≤22:=by rw[←g2,ByteArray.size_append];exact Nat.add_le_add (by decide:_≤9) d2
 obtain⟨S3,g3⟩:∃S,(⟨#[100,105,115,116,105,110,99,116,61]⟩:ByteArray)++eF p.distinct.toNat=S:=⟨_,rfl⟩
 have z3:S3.size≤22:=by rw[←g3,ByteArray.size_append];exact Nat.add_le_add (by decide:_≤9) d3
 obtain⟨S4,g4⟩:∃S,(⟨#[104,105,115,116,111,114,121,61]⟩:ByteArray)++eF p.history.toNat=S:=⟨_,rfl⟩
 have z4:S4.size≤22:=by rw[←g4,ByteArray.size_append];exact Nat.add_le_add (by decide:_≤9) d4
 obtain⟨S5,g5⟩:∃S,(⟨#[97,103,101,61]⟩:ByteArray)++eF p.iU.toNat=S:=⟨_,rfl⟩
 have z5:S5.size≤22:=by rw[←g5,ByteArray.size_append];exact Nat.add_le_add (by decide:_≤9) d5
 obtain⟨S6,g6⟩:∃S,S5++(⟨#[46,46]⟩:ByteArray)=S:=⟨_,rfl⟩
 have z6:S6.size≤24:=by rw[←g6,ByteArray.size_append];exact Nat.add_le_add z5 (by decide:_≤2)
 obtain⟨S7,g7⟩:∃S,S6++eF p.eG.toNat=S:=⟨_,rfl⟩
 have z7:S7.size≤37:=by rw[←g7,ByteArray.size_append];exact Nat.add_le_add z6 d6
 obtain⟨S8,g8⟩:∃S,(⟨#[102,97,105,108,115,61]⟩:ByteArray)++eF p.fails.toNat=S:=⟨_,rfl⟩
 have z8:S8.size≤22:=by rw[←g8,ByteArray.size_append];exact Nat.add_le_add (by decide:_≤9) d7
 obtain⟨S9,g9⟩:∃S,(⟨#[108,111,99,107,61]⟩:ByteArray)++eF p.window.toNat=S:=⟨_,rfl⟩
 have z9:S9.size≤22:=by rw[←g9,ByteArray.size_append];exact Nat.add_le_add (by decide:_≤9) d8
 obtain⟨Eg,g10⟩:∃S,S9++(⟨#[47]⟩:ByteArray)=S:=⟨_,rfl⟩
 have z10:Eg.size≤24:=by rw[←g10,ByteArray.size_append];exact Nat.add_le_add z9 (by decide:_≤2)
 obtain⟨wC,g11⟩:∃S,Eg++eF p.lock.toNat=S:=⟨_,rfl⟩
 have z11:wC.size≤37:=by rw[←g11,ByteArray.size_append];exact Nat.add_le_add z10 d9
 have HX:=Lib.hid (show(ByteArray.mk (Lib.join ([p.name,S1,S2,S3,S4,S7,S8,wC].map (·.data.toList)) [32]).toArray)=pM p by
  subst g1;subst g2;subst g3;subst g4;subst g5;subst g6;subst g7;subst g8;subst g9;subst g10;subst g11
  exact akn _ _ _ _ _ _ _ _ _ _)
 have HL:=Lib.hid (show(Lib.join ([p.name,S1,S2,S3,S4,S7,S8,wC].map (·.data.toList)) [32]).length≤1000000 by
  simp[Lib.join,List.intercalate];omega)
 have hpv:=hok
 go_enter Tryz.func51,Tryz.ntmps51
 go_wp2_with fail
 refine(Cj p _ hnm).mono ?_
 rintro e wv ⟨rfl,hbv⟩
 rw[hpv]
 obtain⟨hcc,bf,hrr⟩:=aQ hbv
 have hwl:w.heap.size<wv.heap.size:=by have:=hbv.size;simp at this;omega
 have wI:=nX ht (ag hB0 hbv)
 clear hok hpv
 go_wp2_with fail
 refine nz (Below.refl _ wv) (by kernel_rfl) (by kernel_rfl) ?_
 intro v0 hv0
 repeat (first|(refine ai (by rfl) ?_)|(refine au (by rfl) (by rfl) (fun K hK=>?_);go_big_quiet_op;refine hK _ ?_;clear hK K))
 refine aB (by rfl) (by rfl) (fun K hK=>?_)
 go_wp2_with fail
 refine(wH _ _ f1.1 (by omega) (nX wI hv0)).mono ?_
 rintro e v1 ⟨rfl,hb1⟩
 have hw1:=ag hv0 hb1
 clear hv0 hb1
 refine hK _ _ (aj hw1) ?_
 clear hK K
 repeat (first|(refine ai (by rfl) ?_)|(refine au (by rfl) (by rfl) (fun K hK=>?_);go_big_quiet_op;refine hK _ ?_;clear hK K))
 refine aB (by rfl) (by rfl) (fun K hK=>?_)
 go_wp2_with fail
 refine(wH _ _ f2.1 (by omega) (nX wI hw1)).mono ?_
 rintro e v2 ⟨rfl,hb2⟩
 have hw2:=ag hw1 hb2
 clear hw1 hb2
 refine hK _ _ (aj hw2) ?_
 clear hK K
 repeat (first|(refine ai (by rfl) ?_)|(refine au (by rfl) (by rfl) (fun K hK=>?_);go_big_quiet_op;refine hK _ ?_;clear hK K))
 refine aB (by rfl) (by rfl) (fun K hK=>?_)
 go_wp2_with fail
 refine(wH _ _ f3.1 (by omega) (nX wI hw2)).mono ?_
 rintro e v3 ⟨rfl,hb3⟩
 have hw3:=ag hw2 hb3
 clear hw2 hb3
 refine hK _ _ (aj hw3) ?_
 clear hK K
 repeat (first|(refine ai (by rfl) ?_)|(refine au (by rfl) (by rfl) (fun K hK=>?_);go_big_quiet_op;refine hK _ ?_;clear hK K))
 refine aB (by rfl) (by rfl) (fun K hK=>?_)
 go_wp2_with fail
 refine(wH _ _ f4.1 (by omega) (nX wI hw3)).mono ?_
 rintro e v4 ⟨rfl,hb4⟩
 have hw4:=ag hw3 hb4
 clear hw3 hb4
 refine hK _ _ (aj hw4) ?_
 clear hK K
 repeat (first|(refine ai (by rfl) ?_)|(refine au (by rfl) (by rfl) (fun K hK=>?_);go_big_quiet_op;refine hK _ ?_;clear hK K))
 refine aB (by rfl) (by rfl) (fun K hK=>?_)
 go_wp2_with fail
 refine(wH _ _ f5.1 (by omega) (nX wI hw4)).mono ?_
 rintro e v5 ⟨rfl,hb5⟩
 have hw5:=ag hw4 hb5
 clear hw4 hb5
 refine hK _ _ (aj hw5) ?_
 clear hK K
 repeat (first|(refine ai (by rfl) ?_)|(refine au (by rfl) (by rfl) (fun K hK=>?_);go_big_quiet_op;refine hK _ ?_;clear hK K))
 refine aB (by rfl) (by rfl) (fun K hK=>?_)
 go_wp2_with fail
 refine(wH _ _ f6.1 (by omega) (nX wI hw5)).mono ?_
 rintro e v6 ⟨rfl,hb6⟩
 have hw6:=ag hw5 hb6
 clear hw5 hb6
 refine hK _ _ (aj hw6) ?_
 clear hK K
 repeat (first|(refine ai (by rfl) ?_)|(refine au (by rfl) (by rfl) (fun K hK=>?_);go_big_quiet_op;refine hK _ ?_;clear hK K))
 refine aB (by rfl) (by rfl) (fun K hK=>?_)
 go_wp2_with fail
 refine(wH _ _ f7.1 (by omega) (nX wI hw6)).mono ?_
 rintro e v7 ⟨rfl,hb7⟩
 have hw7:=ag hw6 hb7
 clear hw6 hb7
 refine hK _ _ (aj hw7) ?_
 clear hK K
 repeat (first|(refine ai (by rfl) ?_)|(refine au (by rfl) (by rfl) (fun K hK=>?_);go_big_quiet_op;refine hK _ ?_;clear hK K))
 refine aB (by rfl) (by rfl) (fun K hK=>?_)
 go_wp2_with fail
 refine(wH _ _ f8.1 (by omega) (nX wI hw7)).mono ?_
 rintro e v8 ⟨rfl,hb8⟩
 have hw8:=ag hw7 hb8
 clear hw7 hb8
 refine hK _ _ (aj hw8) ?_
 clear hK K
 repeat (first|(refine ai (by rfl) ?_)|(refine au (by rfl) (by rfl) (fun K hK=>?_);go_big_quiet_op;refine hK _ ?_;clear hK K))
 refine aB (by rfl) (by rfl) (fun K hK=>?_)
 go_wp2_with fail
 refine(wH _ _ f9.1 (by omega) (nX wI hw8)).mono ?_
 rintro e v9 ⟨rfl,iG⟩
 have vw:=ag hw8 iG
 clear hw8 iG
 refine hK _ _ (aj vw) ?_
 clear hK K
 repeat (first|(refine ai (by rfl) ?_)|(refine au (by rfl) (by rfl) (fun K hK=>?_);go_big_quiet_op;refine hK _ ?_;clear hK K))
 refine aB (by rfl) (by rfl) (fun K hK=>?_)
 go_wp2_with fail
 refine hK _ _ (aj (ay vw _)) ?_
 clear hK K
 repeat (first|(refine ai (by rfl) ?_)|(refine au (by rfl) (by rfl) (fun K hK=>?_);go_big_quiet_op;refine hK _ ?_;clear hK K))
 refine aB (by rfl) (by rfl) (fun K hK=>?_)
 go_wp2_with fail
 refine(akp v9.heap.size 0 8 [p.name,S1,S2,S3,S4,S7,S8,wC] _ (ako v9 [p.name,S1,S2,S3,S4,S7,S8,wC] rfl) (by simp) (by simp) HL.out (by simp)).mono ?_
 rintro e vz ⟨rfl,hbz⟩
 rw[HX.out]
 have HB:=Lib.hid (ag (ag hB0 hbv) (ag (ay vw (.cells #[.string p.name,.string S1,.string S2,.string S3,.string S4,.string S7,.string S8,.string wC] 9)) hbz))
 have sG:=ag (ay vw _) hbz
 clear hbz vw
 refine hK _ _ (aj sG) ?_
 clear hK K
 repeat (first|(refine ai (by rfl) ?_)|(refine au (by rfl) (by rfl) (fun K hK=>?_);go_big_quiet_op;refine hK _ ?_;clear hK K))
 refine bz ?_
 go_wp2_with fail
 go_ret2
 exact⟨rfl,HB.out⟩
end Go.Proofs.YtpfifochimkpfaaGreatDoor
namespace Go.WW
end Go.WW
namespace Go.Proofs.YtpfifochimkpfaaGreatDoor
open Go.RowKit Go.WW
theorem aks(cap:Nat)(w:World):(convert 58 9 (.slice none 0 cap)).run Tryz.prog w=.ok (.string ⟨#[]⟩) w:=by kernel_rfl
theorem akt(ad:Addr)(cap:Nat)(w:World):(convert 58 9 (.slice (some ad) 0 cap)).run Tryz.prog w=.ok (.string ⟨#[]⟩) w:=by kernel_rfl
theorem wJ(a:Option Addr)(cap:Nat)(l:List UInt8)(w:World)(h:BytesAt w a l):(convert 58 9 (.slice a l.length cap)).run Tryz.prog w=.ok (.string ⟨l.toArray⟩) w:=by
 by_cases h0:l.length=0
 ·obtain rfl:l=[]:=List.eq_nil_of_length_eq_zero h0
  cases a with
  |none=>exact aks cap w
  |some ad=>exact akt ad cap w
 ·obtain⟨b,o,rfl,-⟩:=h.get 0 (by omega)
  exact JJ w 58 9 5 Tryz.underlying58 Tryz.underlying5 Tryz.underlying9 b o cap l (fun i hi=>h.at i hi)
def sameKey(a b:Key):Bool:=(a.profile == b.profile)&&((a.version == b.version)&&decide (a.bytes=b.bytes))
end Go.Proofs.YtpfifochimkpfaaGreatDoor
namespace Go.WW
open Go.RowKit
theorem BK{w:World}{b:Nat}{c:Array Value}{t:TypeId}(h:w.heap[b]?=some (.cells c t)):(∀o,w.cell? ⟨b,o,none⟩=c[o]?)∧(∀o,w.frozen? ⟨b,o,none⟩=false)∧b<w.heap.size:=
 ⟨fun o=>cell_of_row w b o c t _ h,fun o=>frozen_of_row w b o c t h,(Array.getElem?_eq_some_iff.1 h).1⟩
theorem Xz{n g o:Nat}{w wr:World}{v:Value}(h:Below n w wr)(hg:n≤g):Below n w (wr.setCell ⟨g,o,none⟩ v):=
 ⟨h.os,h.tape,h.output,by have:=h.size;simpa[World.setCell]using this,fun k hk=>(Below.heap_setCell wr ⟨g,o,none⟩ v k (show k≠g by omega)).trans (h.block k hk)⟩
def qE(v n k:Nat):Array Value:=((List.range n).map fun j=>if n≤j+k then Value.int .u8 ((bM v n)[j]?.getD 0).toNat else Value.int .u8 0).toArray
theorem IZ(v n k:Nat):(qE v n k).size=n:=by simp[qE]
theorem Eo(v n k j:Nat)(h:j<n):(qE v n k)[j]?=some (if n≤j+k then Value.int .u8 ((bM v n)[j]?.getD 0).toNat else Value.int .u8 0):=by
 simp[qE,h]
theorem aku(v n:Nat):qE v n 0=(List.replicate n (Value.int .u8 0)).toArray:=by
 apply Array.ext_getElem?
 intro j
 by_cases h:j<n
 ·rw[Eo v n 0 j h,if_neg (by omega)];simp[h]
 ·rw[Array.getElem?_eq_none (by rw[IZ];omega),Array.getElem?_eq_none (by simp;omega)]
theorem akv(v n k:Nat)(h:k<n){c:UInt8}(hc:c=UInt8.ofNat (v / 256 ^ k)):(qE v n k).setIfInBounds (n-1-k) (Value.int .u8 c.toNat)=qE v n (k+1):=by
 apply Array.ext_getElem?
 intro j
 by_cases hj:j<n
 ·rw[Array.getElem?_setIfInBounds,IZ,Eo v n k j hj,Eo v n (k+1) j hj]
  by_cases he:n-1-k=j
  ·subst he
   rw[if_pos rfl,if_pos (by omega),if_pos (by omega),DV _ _ _ (by omega),show n-1-(n-1-k)=k by omega,←hc]
   rfl
  ·rw[if_neg he]
   by_cases h2:n≤j+k
   ·rw[if_pos h2,if_pos (by omega)]
   ·rw[if_neg h2,if_neg (by omega)]
 ·rw[Array.getElem?_eq_none (by rw[Array.size_setIfInBounds,IZ];omega),Array.getElem?_eq_none (by rw[IZ];omega)]
theorem XA{w:World}{g:Nat}{t:TypeId}{v n:Nat}(h:w.heap[g]?=some (.cells (qE v n n) t))(hn:n≤8):BytesAt w (some ⟨g,0,none⟩) (bM v n):=by
 refine⟨by rw[gZ];unfold lim;omega,fun j hj=>?_⟩
 rw[gZ]at hj
 refine⟨g,0,_,rfl,?_,(bM v n)[j]'(by rw[gZ];exact hj),List.getElem?_eq_getElem _,rfl⟩
 rw[cell_of_row _ _ _ _ _ _ h,Nat.zero_add,Eo v n n j hj,if_pos (by omega),List.getElem?_eq_getElem (by rw[gZ];exact hj)]
 rfl
end Go.WW
namespace Go.Proofs.YtpfifochimkpfaaGreatDoor
open Go.RowKit Go.WW
theorem mkNum(v n:Nat)(h1:1≤n)(hn:n≤8)(w:World):∃V,(Instr.makeSlice 58 (.int .i64 n) (.int .i64 n)).run Tryz.prog w=.ok (.slice (some ⟨w.heap.size,0,none⟩) n n) V∧V.heap[w.heap.size]?=some (.cells (qE v n 0) 5)∧V.heap.size=w.heap.size+1∧Below w.heap.size w V:=by
 refine⟨w.alloc (.cells (List.replicate n (.int .u8 0)).toArray 5),?_,by rw[aku];exact World.alloc_heap_new _ _,by simp,ay (Below.refl _ _) _⟩
 rcases(show n=1∨n=2∨n=3∨n=4∨n=5∨n=6∨n=7∨n=8 by omega)with rfl|rfl|rfl|rfl|rfl|rfl|rfl|rfl<;>kernel_rfl
theorem XB(v n:Nat)(w:World)(h1:1≤n)(hn:n≤8):Calls Tryz.prog 193 #[.int .i64 v,.int .i64 n] w (bG w (bM v n)):=by
 obtain⟨V,hmk,hV,Gz,kU⟩:=mkNum v n h1 hn w
 go_enter Tryz.func193,Tryz.ntmps193
 go_wp2_with fail
 obtain⟨g,hg⟩:∃g,g=w.heap.size:=⟨_,rfl⟩
 have HG:=Lib.hid hg
 rw[←hg]at hV ⊢
 clear hmk hg
 go_loopw [11] (fun iv wr=>∃k:Nat,k≤n∧iv=.int .i64 k∧wr.heap[g]?=some (.cells (qE v n k) 5)∧Hid (Below w.heap.size w wr)) (fun iv _=>n-(intOf iv).toNat)
 case atStart=>exact⟨0,Nat.zero_le _,rfl,hV,kU⟩
 case round=>
  obtain⟨k,hk,rfl,hW,hB⟩:=hrel
  by_cases hlt:k<n
  ·obtain⟨j,hj⟩:∃j:Nat,j=n-1-k:=⟨_,rfl⟩
   have hij:(n:Int)-1-k=j:=by omega
   obtain⟨hc,hf,hl⟩:=BK hW
   have hcj:wr.cell? ⟨g,j,none⟩=some (qE v n k)[j]!:=by rw[hc,Eo _ _ _ _ (by omega)];simp[qE,show j<n by omega]
   have hfj:=hf j
   obtain⟨c,hc'⟩:∃c,c=UInt8.ofNat (v / 256 ^ k):=⟨_,rfl⟩
   have HS:=Lib.hid (Wl v k)
   rw[←hc']at HS
   have HC:=Lib.hid hc'
   have HJ:=Lib.hid hj
   have hjn:j<n:=by omega
   have HW:=Lib.hid hW
   clear hc hf hc' hj hW
   go_wp2_with fail
   go_roundw
   case rel=>
    refine⟨k+1,by omega,by go_num,?_,Xz hB.out (by rw[HG.out];exact Nat.le_refl _)⟩
    rw[HS.out,dH _ HW.out,HJ.out,akv v n k hlt HC.out]
   case measure=>simp[intOf];omega
  ·obtain rfl:k=n:=by omega
   have HB:=Lib.hid (XA hW hn)
   have hgl:=(BK hW).2.2
   have HW:=Lib.hid hW
   clear hW
   go_wp2_with fail
   go_ret
   have hl:=gZ k v
   refine⟨⟨some ⟨g,0,none⟩,k⟩,by rw[hl];rfl,hB.out,fun x hx=>?_⟩
   refine XA (t:=5) ?_ hn
   rw[hx g ⟨by rw[HG.out];exact Nat.le_refl _,hgl⟩]
   exact HW.out
theorem XC(vi:Int)(v:Nat)(ni:Int)(n:Nat)(w:World)(hv:vi=v)(hni:ni=n)(h1:1≤n)(hn:n≤8):Calls Tryz.prog 193 #[.int .i64 vi,.int .i64 ni] w (bG w (bM v n)):=by
 subst hv hni;exact XB v n w h1 hn
theorem XD(a:Option Addr)(cap:Nat)(L:List UInt8)(w:World)(h:BytesAt w a L)(hn:L.length≤1000000):Calls Tryz.prog 156 #[.slice a L.length cap] w (bG w (gp L)):=by
 have hfl:[L].flatten=L:=by simp
 have HF:=Lib.hid hfl
 go_enter Tryz.func156,Tryz.ntmps156
 go_wp2_with fail
 refine(zO 4 4 _ _ [L] _ rfl (dY.lit [(⟨a,cap⟩,L)] rfl rfl (by simpa using h) (by simp[lim])) (by simp) (by rw[hfl];exact hn)).mono ?_
 rw[HF.out]
 intro e w4 h4
 obtain⟨s4,rfl,hb4,hd4⟩:=bG.from h4 (ay (Below.refl _ w) _)
 clear h hfl
 go_wp2_with fail
 go_ret
 exact⟨s4,rfl,hb4,hd4⟩
theorem OH(s:ByteArray)(w:World)(hs:s.size≤1000000):Calls Tryz.prog 198 #[.string s] w (bG w (eY s)):=by
 have hl:s.data.toList.length=s.size:=by simp
 obtain⟨cap,w1,hcv,hb1,hB1⟩:=Wy w s (by unfold lim;omega)
 have HT:=Lib.hid (show eY s=tlv 27 s.data.toList from rfl)
 rw[HT.out]
 obtain⟨L,hL⟩:∃L,L=s.data.toList:=⟨_,rfl⟩
 rw[←hL]at hl hcv hB1 ⊢
 have hl':L.length≤1000000:=by omega
 have HF:=Lib.hid (show [L].flatten=L by simp)
 clear hL hl
 go_enter Tryz.func198,Tryz.ntmps198
 go_wp2_with fail
 refine(zO 27 27 _ _ [L] _ rfl (dY.lit [(⟨_,cap⟩,L)] rfl rfl (by simpa using hB1) (by simp[lim])) (by simp) (by rw[HF.out];exact hl')).mono ?_
 rw[HF.out]
 intro e w4 h4
 obtain⟨s4,rfl,hb4,hd4⟩:=bG.from h4 (ay hb1 _)
 go_wp2_with fail
 go_ret
 exact⟨s4,rfl,hb4,hd4⟩
theorem xX(a:Option Addr)(cap:Nat)(l:List (List UInt8))(w:World)(h:dY w a l)(h0:0<l.length)(hn:l.flatten.length≤1000000):Calls Tryz.prog 190 #[.slice a l.length cap] w (bG w (dM l)):=by
 have HS:=Lib.hid (show dM l=tlv 48 l.flatten from rfl)
 rw[HS.out]
 go_enter Tryz.func190,Tryz.ntmps190
 go_wp2_with fail
 refine(zO 48 48 _ _ l _ rfl h h0 hn).mono ?_
 rintro e w4 ⟨s4,rfl,hb4,hd4⟩
 go_wp2_with fail
 go_ret
 exact⟨s4,rfl,hb4,hd4⟩
theorem XE(v:Int)(w:World)(h0:0≤v)(h1:v≤1099511627776):Calls Tryz.prog 197 #[.int .i64 v] w (bG w (lI v.toNat)):=by
 obtain⟨n,rfl⟩:=Int.eq_ofNat_of_zero_le h0
 rw[Int.toNat_natCast]
 have HT:=Lib.hid (show lI n=tlv 24 (bM n 6) from rfl)
 have HF:=Lib.hid (show [bM n 6].flatten=bM n 6 by simp)
 rw[HT.out]
 go_enter Tryz.func197,Tryz.ntmps197
 go_wp2_with fail
 refine(XB n 6 _ (by decide) (by decide)).mono ?_
 rintro e w1 ⟨s1,rfl,hb1,hd1⟩
 go_wp2_with fail
 refine(zO 24 24 _ _ [bM n 6] _ rfl (dY.lit [(s1,bM n 6)] rfl rfl (by simpa using hd1.out) (by simp[lim])) (by simp) (by rw[HF.out,gZ];decide)).mono ?_
 rw[HF.out]
 intro e w4 h4
 obtain⟨s4,rfl,hb4,hd4⟩:=bG.from h4 (ay hb1 _)
 clear hd1
 go_wp2_with fail
 go_ret
 exact⟨s4,rfl,hb4,hd4⟩
theorem akw(n:Nat)(a:Option Addr)(cap:Nat)(L:List UInt8)(w:World)(hn:n≤30)(h:BytesAt w a L)(hl:L.length≤1000000):Calls Tryz.prog 233 #[.int .i64 160,.int .i64 n,.slice a L.length cap] w (bG w (bQ n L)):=by
 by_cases h0:L.length=0
 ·have HT:=Lib.hid (show bQ n L=[] by unfold bQ;rw[if_pos h0])
  rw[HT.out]
  obtain rfl:L=[]:=List.eq_nil_of_length_eq_zero h0
  clear h h0 hl
  go_enter Tryz.func233,Tryz.ntmps233
  go_wp2_with fail
  go_ret
  exact pJ (Below.refl _ _)
 ·have HT:=Lib.hid (show bQ n L=tlv (160+n) L by unfold bQ;rw[if_neg h0])
  have HF:=Lib.hid (show [L].flatten=L by simp)
  have h0':((L.length:Int) == 0)=false:=beq_eq_false_iff_ne.2 (by omega)
  rw[HT.out]
  go_enter Tryz.func233,Tryz.ntmps233
  go_wp2_with fail
  refine(zO _ (160+n) _ _ [L] _ (by simp;omega) (dY.lit [(⟨a,cap⟩,L)] rfl rfl (by simpa using h) (by simp[lim])) (by simp) (by rw[HF.out];exact hl)).mono ?_
  rw[HF.out]
  intro e w4 h4
  obtain⟨s4,rfl,hb4,hd4⟩:=bG.from h4 (ay (Below.refl _ w) _)
  clear h
  go_wp2_with fail
  go_ret
  exact⟨s4,rfl,hb4,hd4⟩
theorem I4(ni:Int)(n:Nat)(a:Option Addr)(cap:Nat)(L:List UInt8)(w:World)(hni:ni=n)(hn:n≤30)(h:BytesAt w a L)(hl:L.length≤1000000):Calls Tryz.prog 189 #[.int .i64 ni,.slice a L.length cap] w (bG w (bQ n L)):=by
 subst hni
 go_enter Tryz.func189,Tryz.ntmps189
 go_wp2_with fail
 refine(akw n _ _ L _ hn h hl).mono ?_
 rintro e w4 ⟨s4,rfl,hb4,hd4⟩
 go_wp2_with fail
 go_ret
 exact⟨s4,rfl,hb4,hd4⟩
theorem XF(v:Nat):1≤mX v:=by
 by_cases h:v<128
 ·rw[DW h];exact Nat.le_refl _
 ·rw[Iu h];omega
theorem I5(v:Int)(w:World)(h0:0≤v)(hv:v<4611686018427387904):Calls Tryz.prog 194 #[.int .i64 v] w (bG w (eU v.toNat)):=by
 obtain⟨n,hn⟩:∃n,n=v.toNat:=⟨_,rfl⟩
 rw[←hn]
 have HN:=Lib.hid (show v=(n:Int) by omega)
 have hA:¬v < -4611686018427387904:=by omega
 have hB:¬4611686018427387904<v:=by omega
 have h8:=Nv 8 n (by decide) (by omega)
 have h1:=XF n
 have HT:=Lib.hid (show eU n=tlv 2 (bM n (mX n)) from rfl)
 have HF:=Lib.hid (show [bM n (mX n)].flatten=bM n (mX n) by simp)
 rw[HT.out]
 obtain⟨z,hz⟩:∃z,z=mX n:=⟨_,rfl⟩
 have HZ:=Lib.hid hz
 rw[←hz]at h8 h1 HF ⊢
 have XG:n≤4611686018427387904:=by omega
 have HN8:=Lib.hid XG
 clear hz h0 hv hn XG
 go_enter Tryz.func194,Tryz.ntmps194
 go_wp2_with fail
 go_loopw [3,4] (fun sv rv wr=>∃(k m:Nat),sv=.int .i64 (k+1:Nat)∧rv=.int .i64 m∧wr=w∧m≤n∧Hid (z=mX m+k)) (fun _ rv _=>(intOf rv).toNat)
 case atStart=>exact⟨0,n,rfl,by rw[HN.out],rfl,Nat.le_refl _,HZ.out⟩
 case round=>
  obtain⟨k,m,rfl,rfl,rfl,hm,HK⟩:=hrel
  by_cases hlt:m<128
  ·have hk:k+1=z:=by rw[HK.out,DW hlt];omega
   subst hk
   have hd:¬(m:Int) < -128:=by omega
   have hd2:¬127<(m:Int):=by omega
   go_wp2_with fail
   refine(XC v n _ (k+1) _ HN.out (by simp) h1 h8).mono ?_
   rintro e w1 ⟨s1,rfl,hb1,hd1⟩
   go_wp2_with fail
   refine(zO 2 2 _ _ [bM n (k+1)] _ rfl (dY.lit [(s1,bM n (k+1))] rfl rfl (by simpa using hd1.out) (by simp[lim])) (by simp) (by rw[HF.out,gZ];omega)).mono ?_
   rw[HF.out]
   intro e w4 h4
   obtain⟨s4,rfl,hb4,hd4⟩:=bG.from h4 (ay hb1 _)
   clear hd1
   go_wp2_with fail
   go_ret
   exact⟨s4,rfl,hb4,hd4⟩
  ·have hk:z=mX (m / 256)+(k+1):=by rw[HK.out,Iu hlt];omega
   have HK':=Lib.hid hk
   have hk8:k≤8:=by have:=XF m;have:=HK.out;omega
   have hd:¬(m:Int) < -128:=by omega
   have hd2:127<(m:Int):=by omega
   have hmb:m≤4611686018427387904:=Nat.le_trans hm HN8.out
   have HM:=Lib.hid (show m / 256≤n by omega)
   clear hk
   go_wp2_with fail
   go_roundw
   case rel=>exact⟨k+1,m / 256,by go_num,by go_num,trivial,HM.out,HK'.out⟩
   case measure=>simp[intOf];omega
end Go.Proofs.YtpfifochimkpfaaGreatDoor
namespace Go.WW
open Go.RowKit
theorem XH:∀(l:List (List UInt8)) (n:Nat) (x:List UInt8),dR n (l++[x])=dR n l++[bQ (n+l.length) x]
 | [],n,x=>rfl
 |y::l,n,x=>by
  rw[List.cons_append,dR,XH l (n+1) x,dR,List.cons_append,List.length_cons,show n+1+l.length=n+(l.length+1) by omega]
theorem XI{l:List (List UInt8)}{k:Nat}(h:k<l.length){L:List (List UInt8)}(hL:L=dR 0 (l.take k)):dR 0 (l.take (k+1))=L++[bQ k l[k]]:=by
 rw[List.take_succ_eq_append_getElem h,XH,hL,Nat.zero_add,List.length_take,Nat.min_eq_left (by omega)]
end Go.WW
namespace Go.Proofs.YtpfifochimkpfaaGreatDoor
open Go.RowKit Go.WW
theorem akz(v:Int)(w:World)(h0:0≤v)(h1:v≤4294967295):Calls Tryz.prog 149 #[.int .u32 v] w (bG w (uC v.toNat)):=by
 obtain⟨n,hn⟩:∃n,n=v.toNat:=⟨_,rfl⟩
 rw[←hn]
 have HN:=Lib.hid (show v=(n:Int) by omega)
 have HT:=Lib.hid (show uC n=tlv 3 (0::bM n 4) from rfl)
 have HF:=Lib.hid (show [[0],bM n 4].flatten=0::bM n 4 by simp)
 rw[HT.out]
 clear hn
 have hB0:=ay (Below.refl _ w) (.cells #[.int .u8 0] 5)
 have hl0:BytesAt (w.alloc (.cells #[.int .u8 0] 5)) (some ⟨w.heap.size,0,none⟩) [0]:=BytesAt.lit _ [0] rfl rfl (by simp[lim])
 go_enter Tryz.func149,Tryz.ntmps149
 go_wp2_with fail
 refine(XC v n 4 4 _ HN.out rfl (by decide) (by decide)).mono ?_
 rintro e w1 ⟨s1,rfl,hb1,hd1⟩
 have hP:=((⟨hB0,by simp⟩:Ps w _ []).mid (Below.refl _ _)).add hb1 (s:=⟨some ⟨w.heap.size,0,none⟩,1⟩) (hl0.later hb1)
 have hP2:=hP.add (Below.refl _ _) hd1.out
 go_wp2_with fail
 refine(zO 3 3 _ _ [[0],bM n 4] _ rfl (dY.lit _ rfl rfl hP2.at_ (by simp[lim])) (by simp) (by rw[HF.out,List.length_cons,gZ];decide)).mono ?_
 rw[HF.out]
 intro e w4 h4
 obtain⟨s4,rfl,hb4,hd4⟩:=bG.from h4 (ay hP2.b _)
 clear hP hP2 hd1 hl0 hB0
 go_wp2_with fail
 go_ret
 exact⟨s4,rfl,hb4,hd4⟩
theorem akA(a:Option Addr)(cap:Nat)(l:List (List UInt8))(w:World)(h:dY w a l)(h0:0<l.length)(hx:∀x∈l,x.length≠0)(hn:l.flatten.length≤1000000):Calls Tryz.prog 268 #[.slice a l.length cap] w (bG w (dM l)):=by
 have hpl:l.length≤4294967000:=h.1
 obtain⟨b,o,s0,rfl,-,-⟩:=h.get 0 h0
 have HX:=Lib.hid hx
 clear hx
 go_enter Tryz.func268,Tryz.ntmps268
 go_wp2_with fail
 go_loopw [7] (fun iv wr=>∃k:Nat,k≤l.length∧iv=.int .i64 k∧wr=w) (fun iv _=>l.length-(intOf iv).toNat)
 case atStart=>exact⟨0,Nat.zero_le _,rfl,rfl⟩
 case round=>
  obtain⟨k,hk,rfl,rfl⟩:=hrel
  by_cases hlt:k<l.length
  ·obtain⟨s,hc,hb⟩:=h.at k hlt
   have hne:((l[k].length:Int) == 0)=false:=beq_eq_false_iff_ne.2 (by have:=HX.out _ (List.getElem_mem hlt);omega)
   go_wp2_with fail
   go_roundw
   case rel=>exact⟨k+1,by omega,by go_num,trivial⟩
   case measure=>simp[intOf];omega
  ·go_wp2_with fail
   refine(xX _ _ l _ h h0 hn).mono ?_
   rintro e w4 ⟨s4,rfl,hb4,hd4⟩
   go_wp2_with fail
   go_ret
   exact⟨s4,rfl,hb4,hd4⟩
theorem akB{n:Nat}{x:List UInt8}(h:x.length≠0):(bQ n x).length≠0:=by
 unfold bQ;rw[if_neg h]
 have:=(oL (160+n) x).1;omega
theorem XJ:∀(l:List (List UInt8)) (n:Nat),(∀x∈l,x.length≠0)→∀x∈dR n l,x.length≠0
 | [],_,_,x,hx=>by cases hx
 |y::l,n,h,x,hx=>by
  rw[dR]at hx
  rcases List.mem_cons.1 hx with rfl|hx
  ·exact akB (h y (by simp))
  ·exact XJ l (n+1) (fun z hz=>h z (by simp[hz])) x hx
theorem akC(a:Option Addr)(cap:Nat)(l:List (List UInt8))(w:World)(h:dY w a l)(h0:0<l.length)(h30:l.length≤30)(hx:∀x∈l,x.length≠0)(hx1:∀x∈l,x.length≤1000000)(hn:(dR 0 l).flatten.length≤1000000):Calls Tryz.prog 253 #[.slice a l.length cap] w (bG w (lZ l)):=by
 obtain⟨b,o,s0,rfl,-,-⟩:=h.get 0 h0
 have HX:=Lib.hid (XJ l 0 hx)
 have OI:=Lib.hid hx1
 have HS:=Lib.hid (show lZ l=dM (dR 0 l) from rfl)
 have HN:=Lib.hid hn
 rw[HS.out]
 clear hx hx1 hn
 go_enter Tryz.func253,Tryz.ntmps253
 go_wp2_with fail
 go_loopw [3,8] (fun bv iv wr=>∃(k:Nat) (so:Sl) (L:List (List UInt8)),k≤l.length∧iv=.int .i64 k∧bv=.slice so.a L.length so.cap∧ig 58 w wr so L∧Hid (L=dR 0 (l.take k))) (fun _ iv _=>l.length-(intOf iv).toNat)
 case atStart=>exact⟨0,⟨none,0⟩,[],Nat.zero_le _,rfl,rfl,ig.none _ (Below.refl _ _),rfl⟩
 case round=>
  obtain⟨k,so,L,hk,rfl,rfl,hH,HL⟩:=hrel
  by_cases hlt:k<l.length
  ·obtain⟨s,hc,hb⟩:=(h.later hH.b).at k hlt
   obtain⟨L',hL'⟩:∃L',L'=dR 0 (l.take (k+1)):=⟨_,rfl⟩
   have HA:=Lib.hid (show L'=L++[bQ k l[k]] by rw[hL',XI hlt HL.out])
   have hLn:L'.length≤1000000:=by rw[hL',DX,List.length_take];omega
   have kC:=Lib.hid hL'
   clear hL'
   go_wp2_with fail
   refine(I4 k k _ _ l[k] _ rfl (by omega) hb (OI.out _ (List.getElem_mem hlt))).mono ?_
   rintro e w2 ⟨s2,rfl,hb2,hd2⟩
   go_wp2_with (at_builtin;refine rY (L:=L') rfl _ _ _ rfl pX hH hb2 hd2 rfl rfl rfl rfl HA.out hLn ?_;intro s3 w3 hH3)
   go_roundw
   case rel=>exact⟨k+1,s3,L',by omega,by go_num,rfl,hH3,kC.out⟩
   case measure=>simp[intOf];omega
  ·have HE:=Lib.hid (show L=dR 0 l by rw[HL.out,List.take_of_length_le (by omega)])
   have hL0:L.length=l.length:=by rw[HE.out,DX]
   have hh:=(hH.hist (by unfold lim;omega)).out
   have hL1:0<L.length:=by omega
   rw[←HE.out]at HX HN ⊢
   clear hL0
   go_wp2_with fail
   refine(akA _ _ L _ hh hL1 HX.out HN.out).mono ?_
   intro e w4 h4
   obtain⟨s4,rfl,hb4,hd4⟩:=bG.from h4 hH.b
   clear hH hh
   go_wp2_with fail
   go_ret
   rw[←HE.out]
   exact⟨s4,rfl,hb4,hd4⟩
end Go.Proofs.YtpfifochimkpfaaGreatDoor
namespace Go.WW
open Go.RowKit
def nY(l:List (Sl×List UInt8)):Array Value:=(l.map fun x=>Value.slice x.1.a x.2.length x.1.cap).toArray
theorem akD{l:List (Sl×List UInt8)}{j:Nat}{v:Value}(h:(nY l)[j]?=some v):∃x,l[j]?=some x∧v=.slice x.1.a x.2.length x.1.cap:=by
 unfold nY at h
 rw[List.getElem?_toArray,List.getElem?_map]at h
 cases hx:l[j]? with
 |none=>rw[hx]at h;cases h
 |some x=>rw[hx]at h;exact⟨x,rfl,by cases h;rfl⟩
theorem XK{l:List (Sl×List UInt8)}{j:Nat}(h:j<l.length):(nY l)[j]?=some (.slice l[j].1.a l[j].2.length l[j].1.cap):=by
 unfold nY;simp[h]
theorem akE{w:World}{g k:Nat}{v:Value}{items:List (Sl×List UInt8)}{t:TypeId}(hg:w.heap[g]?=some (.cells (nY items) t)){A:Option Addr}{l:List UInt8}(h:BytesAt w A l):BytesAt (w.setCell ⟨g,k,none⟩ v) A l:=by
 refine⟨h.1,fun i hi=>?_⟩
 obtain⟨b,o,u,ha,hc,c,hc1,hc2⟩:=h.2 i hi
 refine⟨b,o,u,ha,?_,c,hc1,hc2⟩
 have hne:b≠g:=by
  intro e;subst e
  rw[(BK hg).1]at hc
  obtain⟨x,-,hx⟩:=akD hc
  subst hc2;cases hx
 rw[World.cell?_of_block (a:=⟨b,o+i,none⟩) (Below.heap_setCell w ⟨g,k,none⟩ v b hne)]
 exact hc
theorem akF{k:Nat}(res rest:List (Sl×List UInt8))(x:Sl×List UInt8)(hk:res.length=k):(nY (res++x::rest))[k]?=some (.slice x.1.a x.2.length x.1.cap):=by
 subst hk
 rw[XK (by simp)];simp
theorem akG{k:Nat}(res rest:List (Sl×List UInt8))(x y:Sl×List UInt8)(hk:res.length=k):(nY (res++x::rest)).setIfInBounds k (.slice y.1.a y.2.length y.1.cap)=nY ((res++[y])++rest):=by
 subst hk
 unfold nY
 simp
theorem akH{w:World}{g:Nat}{t:TypeId}{items:List (Sl×List UInt8)}(hg:w.heap[g]?=some (.cells (nY items) t))(hb:∀x∈items,BytesAt w x.1.a x.2)(hl:items.length≤lim):dY w (some ⟨g,0,none⟩) (items.map (·.2)):=by
 refine⟨by simpa using hl,fun i hi=>?_⟩
 have hi':i<items.length:=by simpa using hi
 refine⟨g,0,.slice items[i].1.a items[i].2.length items[i].1.cap,rfl,?_,items[i].2,items[i].1,by simp[hi'],rfl,hb _ (List.getElem_mem hi')⟩
 rw[(BK hg).1,Nat.zero_add,XK hi']
end Go.WW
namespace Go.Proofs.YtpfifochimkpfaaGreatDoor
open Go.RowKit Go.WW
theorem XL(g n0 cap:Nat)(items:List (Sl×List UInt8))(w:World)(hg:w.heap[g]?=some (.cells (nY items) 58))(hn0:n0≤g)(hb:∀x∈items,BytesAt w x.1.a x.2)(h0:0<items.length)(h30:items.length≤30)
  (hx1:∀x∈items,x.2.length≤1000000) (hn:(dR 0 (items.map (·.2))).flatten.length≤1000000) :
  Calls Tryz.prog 146 #[.slice (some ⟨g,0,none⟩) items.length cap] w fun e w'=>∃s:Sl,e=.returned (.slice s.a (lZ (items.map (·.2))).length s.cap)∧Below n0 w w'∧bu w' (fresh w.heap.size w') fun x=>BytesAt x s.a (lZ (items.map (·.2))):=by
 have OI:=Lib.hid hx1
 have HS:=Lib.hid (show lZ (items.map (·.2))=dM (dR 0 (items.map (·.2))) from rfl)
 have HN:=Lib.hid hn
 have HB:=Lib.hid hb
 have HG:=Lib.hid hg
 have hgl:=(BK hg).2.2
 rw[HS.out]
 clear hx1 hn hb hg
 go_enter Tryz.func146,Tryz.ntmps146
 go_wp2_with fail
 go_loopw [7] (fun iv wr=>∃(k:Nat) (res:List (Sl×List UInt8)),k≤items.length∧iv=.int .i64 k∧Hid (res.length=k∧res.map (·.2)=dR 0 ((items.map (·.2)).take k)∧wr.heap[g]?=some (.cells (nY (res++items.drop k)) 58)∧(∀x∈res++items.drop k,BytesAt wr x.1.a x.2)∧Below n0 w wr∧w.heap.size≤wr.heap.size)) (fun iv _=>items.length-(intOf iv).toNat)
 case atStart=>exact⟨0,[],Nat.zero_le _,rfl,rfl,rfl,HG.out,HB.out,(Below.refl _ _).mono (by omega),Nat.le_refl _⟩
 case round=>
  obtain⟨k,res,hk,rfl,HI⟩:=hrel
  by_cases hlt:k<items.length
  ·obtain⟨hrl,hrm,hgw,hbw,hbl,hsz⟩:=HI.out
   obtain⟨hc,hf,hgl⟩:=BK hgw
   have hd:items.drop k=items[k]::items.drop (k+1):=List.drop_eq_getElem_cons hlt
   have hxk:=hbw items[k] (List.mem_append.2 (.inr (hd▸List.mem_cons_self)))
   have hck:wr.cell? ⟨g,k,none⟩=some (.slice items[k].1.a items[k].2.length items[k].1.cap):=by
    rw[hc,hd]
    exact akF _ _ _ hrl
   have hfk:=hf k
   have hn1:=OI.out items[k] (List.getElem_mem hlt)
   clear hc hf hrl hrm hgw hbw hbl hsz hd
   go_wp2_with fail
   refine(I4 k k _ _ items[k].2 _ rfl (by omega) hxk hn1).mono ?_
   rintro e w2 ⟨s2,rfl,hb2,hd2⟩
   have hc2:w2.cell? ⟨g,k,none⟩=some (.slice items[k].1.a items[k].2.length items[k].1.cap):=(hb2.cell (p:=⟨g,k,none⟩) hgl).trans hck
   have hf2:w2.frozen? ⟨g,k,none⟩=false:=(hb2.frozen (p:=⟨g,k,none⟩) hgl).trans hfk
   clear hck hfk hxk
   go_wp2_with fail
   go_roundw
   case rel=>
    obtain⟨hrl,hrm,hgw,hbw,hbl,hsz⟩:=HI.out
    have hd:items.drop k=items[k]::items.drop (k+1):=List.drop_eq_getElem_cons hlt
    have hg2:w2.heap[g]?=some (.cells (nY (res++items.drop k)) 58):=(hb2.block g hgl).trans hgw
    refine⟨k+1,res++[(s2,bQ k items[k].2)],by omega,by go_num,by simp[hrl],?_,?_,?_,Xz ((hbl.trans (hb2.mono ?_))) hn0,?_⟩
    ·rw[List.map_append,XI (by simpa using hlt) hrm]
     simp
    ·rw[hd]at hg2
     have:=dH (o:=k) (.slice s2.a (bQ k items[k].2).length s2.cap) hg2
     rw[akG _ _ _ (s2,bQ k items[k].2) hrl]at this
     exact this
    ·intro x hx
     refine akE hg2 ?_
     rcases List.mem_append.1 hx with hx|hx
     ·rcases List.mem_append.1 hx with hx|hx
      ·exact(hbw x (List.mem_append.2 (.inl hx))).later hb2
      ·simp only[List.mem_cons,List.not_mem_nil,or_false]at hx;subst hx;exact hd2.out
     ·exact(hbw x (List.mem_append.2 (.inr (hd▸List.mem_cons_of_mem _ hx)))).later hb2
    ·have:=hbl.size;omega
    ·have:=hb2.size;simp[World.setCell];omega
   case measure=>simp[intOf];omega
  ·obtain⟨hrl,hrm,hgw,hbw,hbl,hsz⟩:=HI.out
   rw[List.drop_of_length_le (by omega),List.append_nil]at hgw hbw
   rw[List.take_of_length_le (by rw[List.length_map];omega)]at hrm
   have hh:=akH hgw hbw (by unfold lim;omega)
   rw[hrm]at hh
   have hln:(dR 0 (items.map (·.2))).length=items.length:=by rw[DX,List.length_map]
   have OJ:=Lib.hid (xX (some ⟨g,0,none⟩) cap (dR 0 (items.map (·.2))) wr hh (by rw[hln];exact h0) HN.out)
   rw[hln]at OJ
   have XM:=Lib.hid hbl
   clear hh hln hrl hrm hgw hbw hbl
   go_wp2_with fail
   refine OJ.out.mono ?_
   rintro e w4 ⟨s4,rfl,hb4,hd4⟩
   have HB4:=Lib.hid (XM.out.trans (hb4.mono (by have:=XM.out.size;omega)))
   have HD4:=Lib.hid (hd4.to (S1:=fresh w.heap.size w4) (fun _ _=>rfl) (fun j hj=>⟨Nat.le_trans hsz hj.1,hj.2⟩))
   clear hd4 hb4 OJ
   go_wp2_with fail
   go_ret
   exact⟨s4,rfl,HB4.out,HD4.out⟩
theorem akI(s:Sl)(k:Key)(w:World)(hk:mg w s k)(hf:zK k):Calls Tryz.prog 196 #[.agg (dD s k)] w (bG w (iH k)):=by
 have hfl:=NC hf
 obtain⟨h1,h2,h3⟩:=hf
 have e1:=rX (v:=k.profile.toNat) (k:=1) (by decide) (by simp;omega)
 have e2:=rX (v:=k.version.toNat) (k:=3) (by decide) (by simp;omega)
 have e3:=Bz k.bytes
 have hB0:Below w.heap.size w (w.alloc (.cells (dD s k) 176)):=ay (Below.refl _ _) _
 have mP:BytesAt (w.alloc (.cells (dD s k) 176)) s.a k.bytes:=BytesAt.later hB0 hk
 have HK:=Lib.hid (show iH k=lZ [eU k.profile.toNat,eU k.version.toNat,gp k.bytes] from rfl)
 have HE:=Lib.hid (show(∀x∈[eU k.profile.toNat,eU k.version.toNat,gp k.bytes],x.length≠0)∧∀x∈[eU k.profile.toNat,eU k.version.toNat,gp k.bytes],x.length≤1000000 by
  have n1:=(oL 2 (uB k.profile.toNat)).1
  have n2:=(oL 2 (uB k.version.toNat)).1
  have n3:=(oL 4 k.bytes).1
  refine⟨?_,?_⟩<;>
  ·intro x hx
   simp only[List.mem_cons,List.not_mem_nil,or_false]at hx
   rcases hx with rfl|rfl|rfl<;>first|omega|(unfold eU;omega)|(unfold gp;omega))
 have HF:=Lib.hid (Nat.le_trans hfl (by decide:290≤1000000))
 rw[HK.out]
 clear hfl e1 e2 e3
 have main:Calls Tryz.prog 234 #[.int .i64 k.profile,.int .i64 k.version,.slice s.a k.bytes.length s.cap] (w.alloc (.cells (dD s k) 176)) (bG (w.alloc (.cells (dD s k) 176)) (lZ [eU k.profile.toNat,eU k.version.toNat,gp k.bytes])):=by
  generalize w.alloc (.cells (dD s k) 176)=W0 at *
  have hP0:Ps W0 W0 []:=⟨Below.refl _ _,by simp⟩
  go_enter Tryz.func234,Tryz.ntmps234
  go_wp2_with fail
  refine(I5 _ _ h1.1 (by omega)).mono ?_
  rintro e w1 ⟨s1,rfl,hb1,hd1⟩
  have hP1:=hP0.add hb1 hd1.out
  go_wp2_with fail
  refine(I5 _ _ h2.1 (by omega)).mono ?_
  rintro e w2 ⟨s2,rfl,hb2,hd2⟩
  have hP2:=hP1.add hb2 hd2.out
  go_wp2_with fail
  refine(XD _ _ k.bytes _ (mP.later hP2.b) (by omega)).mono ?_
  rintro e w3 ⟨s3,rfl,hb3,hd3⟩
  have hP3:=hP2.add hb3 hd3.out
  clear hP0 hP1 hP2 hb1 hd1 hb2 hd2 hb3 hd3
  go_wp2_with fail
  refine(akC _ _ [eU k.profile.toNat,eU k.version.toNat,gp k.bytes] _ (dY.lit _ rfl rfl hP3.at_ (by simp[lim])) (by simp) (by simp) HE.out.1 HE.out.2 HF.out).mono ?_
  intro e w4 h4
  obtain⟨s4,rfl,hb4,hd4⟩:=bG.from h4 (ay hP3.b _)
  clear hP3
  go_wp2_with fail
  go_ret
  exact⟨s4,rfl,hb4,hd4⟩
 have HM:=Lib.hid main
 clear main
 go_enter Tryz.func196,Tryz.ntmps196
 go_wp2_with fail
 refine HM.out.mono ?_
 intro e w4 h4
 obtain⟨s4,rfl,hb4,hd4⟩:=bG.from h4 hB0
 go_wp2_with fail
 go_ret
 exact⟨s4,rfl,hb4,hd4⟩
theorem Ep(v:Int)(w:World)(h0:0≤v)(hv:v<4611686018427387904):Calls Tryz.prog 150 #[.int .i64 v] w (bG w (fP v.toNat)):=by
 by_cases hz:v=0
 ·subst hz
  have HT:=Lib.hid (show fP (0:Int).toNat=[] from rfl)
  rw[HT.out]
  go_enter Tryz.func150,Tryz.ntmps150
  go_wp2_with fail
  go_ret
  exact pJ (Below.refl _ _)
 ·have HT:=Lib.hid (show fP v.toNat=eU v.toNat by unfold fP;rw[if_neg (by omega)])
  have hz':(v == 0)=false:=beq_eq_false_iff_ne.2 hz
  have HC:=Lib.hid (I5 v w h0 hv)
  rw[HT.out]
  clear hz h0 hv
  go_enter Tryz.func150,Tryz.ntmps150
  go_wp2_with fail
  refine HC.out.mono ?_
  rintro e w1 ⟨s1,rfl,hb1,hd1⟩
  go_wp2_with fail
  go_ret
  exact⟨s1,rfl,hb1,hd1⟩
theorem I7(v:Int)(w:World)(h0:0≤v)(hv:v≤1099511627776):Calls Tryz.prog 154 #[.int .i64 v] w (bG w (jf v.toNat)):=by
 by_cases hz:v=0
 ·subst hz
  have HT:=Lib.hid (show jf (0:Int).toNat=[] from rfl)
  rw[HT.out]
  go_enter Tryz.func154,Tryz.ntmps154
  go_wp2_with fail
  go_ret
  exact pJ (Below.refl _ _)
 ·have HT:=Lib.hid (show jf v.toNat=lI v.toNat by unfold jf;rw[if_neg (by omega)])
  have hz':(v == 0)=false:=beq_eq_false_iff_ne.2 hz
  have HC:=Lib.hid (XE v w h0 hv)
  rw[HT.out]
  clear hz h0 hv
  go_enter Tryz.func154,Tryz.ntmps154
  go_wp2_with fail
  refine HC.out.mono ?_
  rintro e w1 ⟨s1,rfl,hb1,hd1⟩
  go_wp2_with fail
  go_ret
  exact⟨s1,rfl,hb1,hd1⟩
theorem XN(s:ByteArray)(w:World)(hs:s.size≤1000000):Calls Tryz.prog 153 #[.string s] w (bG w (jO s)):=by
 have hc:=NW s
 cases hz:s.toList.isEmpty
 ·rw[hz]at hc
  have HT:=Lib.hid (show jO s=eY s from hc)
  have HC:=Lib.hid (OH s w hs)
  rw[HT.out]
  clear hc hs
  go_enter Tryz.func153,Tryz.ntmps153
  go_wp2_with fail
  refine HC.out.mono ?_
  rintro e w1 ⟨s1,rfl,hb1,hd1⟩
  go_wp2_with fail
  go_ret
  exact⟨s1,rfl,hb1,hd1⟩
 ·rw[hz]at hc
  have HT:=Lib.hid (show jO s=[] from hc)
  rw[HT.out]
  clear hc hs
  go_enter Tryz.func153,Tryz.ntmps153
  go_wp2_with fail
  go_ret
  exact pJ (Below.refl _ _)
end Go.Proofs.YtpfifochimkpfaaGreatDoor
