/- A part of the proof. -/
import Derived.Test.YtibhckkjciflaaaGreatDoorA23
import Derived.Test.YtibhckkjciflaaaGreatDoorA16
import Derived.Shelf.LaysM
import Derived.Shelf.Strconv.Itoa3
import Derived.Test.YtibhckkjciflaaaGreatDoorProg
import Derived.Shelf.Strings.OnBuilder
import Derived.Shelf.Strings.Shaped
import Derived.Lib.ItoaMem
set_option maxRecDepth 100000
set_option maxHeartbeats 8000000
namespace Go.WW
open Go.RowKit
def jY(p:aO):ByteArray:=((((((((((((((((((p.name++⟨#[32,108,101,110,103,116,104,61]⟩)++dY p.length.toNat)++⟨#[32,99,108,97,115,115,101,115,61]⟩)++dY p.classes.toNat)++⟨#[32,100,105,115,116,105,110,99,116,61]⟩)++dY p.distinct.toNat)++⟨#[32,104,105,115,116,111,114,121,61]⟩)++dY p.history.toNat)++⟨#[32,97,103,101,61]⟩)++dY p.gZ.toNat)++⟨#[46,46]⟩)++dY p.dU.toNat)++⟨#[32,102,97,105,108,115,61]⟩)++dY p.fails.toNat)++⟨#[32,108,111,99,107,61]⟩)++dY p.window.toNat)++⟨#[47]⟩)++dY p.lock.toNat)
structure JZ(p:aO):Prop where
 name:p.name.size≤32
 length:0≤p.length∧p.length≤1099511627776
 classes:0≤p.classes∧p.classes≤1099511627776
 distinct:0≤p.distinct∧p.distinct≤1099511627776
 history:0≤p.history∧p.history≤1099511627776
 gZ:0≤p.gZ∧p.gZ≤1099511627776
 dU:0≤p.dU∧p.dU≤1099511627776
 fails:0≤p.fails∧p.fails≤1099511627776
 window:0≤p.window∧p.window≤1099511627776
 lock:0≤p.lock∧p.lock≤1099511627776
theorem EP{p:aO}(h:eX p=true):JZ p:=by
 simp only[eX,mP,Bool.and_eq_true,Aj]at h
 obtain⟨⟨⟨⟨⟨⟨⟨⟨⟨⟨⟨-,h0⟩,h1⟩,h2⟩,h3⟩,h4⟩,h5⟩,h6⟩,-⟩,h7⟩,h8⟩,h9⟩:=h
 exact⟨by omega,by omega,by omega,by omega,by omega,by omega,by omega,by omega,by omega,by omega⟩
theorem iI{v:Int}(h:0≤v∧v≤1099511627776):(dY v.toNat).size≤13:=JY 13 v.toNat (by decide) (by omega)
end Go.WW
namespace Go.Proofs.YtibhckkjciflaaaGreatDoor
open Go.RowKit Go.WW
theorem ad7(p:aO)(w:World)(hf:JZ p):Calls Tryz.prog 50 #[.agg (bZ p)] w fun e w'=>e=.returned (.string (jY p))∧Below w.heap.size w w':=by
 have hB0:Below w.heap.size w (w.alloc (.cells (bZ p) 34)):=az (Below.refl _ _) _
 obtain⟨f0,f1,f2,f3,f4,f5,f6,f7,f8,f9⟩:=hf
 have d1:=iI f1
 have d2:=iI f2
 have d3:=iI f3
 have d4:=iI f4
 have d5:=iI f5
 have d6:=iI f6
 have d7:=iI f7
 have d8:=iI f8
 have d9:=iI f9
 obtain⟨S1,g1⟩:∃S,p.name++⟨#[32,108,101,110,103,116,104,61]⟩=S:=⟨_,rfl⟩
 have z1:S1.size≤42:=by rw[←g1,ByteArray.size_append];exact Nat.add_le_add f0 (by decide:_≤10)
 obtain⟨S2,g2⟩:∃S,S1++dY p.length.toNat=S:=⟨_,rfl⟩
 have z2:S2.size≤55:=by rw[←g2,ByteArray.size_append];exact Nat.add_le_add z1 d1
 obtain⟨S3,g3⟩:∃S,S2++⟨#[32,99,108,97,115,115,101,115,61]⟩=S:=⟨_,rfl⟩
 have z3:S3.size≤65:=by rw[←g3,ByteArray.size_append];exact Nat.add_le_add z2 (by decide:_≤10)
 obtain⟨S4,g4⟩:∃S,S3++dY p.classes.toNat=S:=⟨_,rfl⟩
 have z4:S4.size≤78:=by rw[←g4,ByteArray.size_append];exact Nat.add_le_add z3 d2
 obtain⟨S5,g5⟩:∃S,S4++⟨#[32,100,105,115,116,105,110,99,116,61]⟩=S:=⟨_,rfl⟩
 have z5:S5.size≤88:=by rw[←g5,ByteArray.size_append];exact Nat.add_le_add z4 (by decide:_≤10)
 obtain⟨S6,g6⟩:∃S,S5++dY p.distinct.toNat=S:=⟨_,rfl⟩
 have z6:S6.size≤101:=by rw[←g6,ByteArray.size_append];exact Nat.add_le_add z5 d3
 obtain⟨S7,g7⟩:∃S,S6++⟨#[32,104,105,115,116,111,114,121,61]⟩=S:=⟨_,rfl⟩
 have z7:S7.size≤111:=by rw[←g7,ByteArray.size_append];exact Nat.add_le_add z6 (by decide:_≤10)
 obtain⟨S8,g8⟩:∃S,S7++dY p.history.toNat=S:=⟨_,rfl⟩
 have z8:S8.size≤124:=by rw[←g8,ByteArray.size_append];exact Nat.add_le_add z7 d4
 obtain⟨S9,g9⟩:∃S,S8++⟨#[32,97,103,101,61]⟩=S:=⟨_,rfl⟩
 have z9:S9.size≤134:=by rw[←g9,ByteArray.size_append];exact Nat.add_le_add z8 (by decide:_≤10)
 obtain⟨BD,g10⟩:∃S,S9++dY p.gZ.toNat=S:=⟨_,rfl⟩
 have z10:BD.size≤147:=by rw[←g10,ByteArray.size_append];exact Nat.add_le_add z9 d5
 obtain⟨rP,g11⟩:∃S,BD++⟨#[46,46]⟩=S:=⟨_,rfl⟩
 have z11:rP.size≤157:=by rw[←g11,ByteArray.size_append];exact Nat.add_le_add z10 (by decide:_≤10)
 obtain⟨RV,g12⟩:∃S,rP++dY p.dU.toNat=S:=⟨_,rfl⟩
 have z12:RV.size≤170:=by rw[←g12,ByteArray.size_append];exact Nat.add_le_add z11 d6
 obtain⟨RX,g13⟩:∃S,RV++⟨#[32,102,97,105,108,115,61]⟩=S:=⟨_,rfl⟩
 have z13:RX.size≤180:=by rw[←g13,ByteArray.size_append];exact Nat.add_le_add z12 (by decide:_≤10)
 obtain⟨RY,g14⟩:∃S,RX++dY p.fails.toNat=S:=⟨_,rfl⟩
 have z14:RY.size≤193:=by rw[←g14,ByteArray.size_append];exact Nat.add_le_add z13 d7
 obtain⟨RZ,g15⟩:∃S,RY++⟨#[32,108,111,99,107,61]⟩=S:=⟨_,rfl⟩
 have z15:RZ.size≤203:=by rw[←g15,ByteArray.size_append];exact Nat.add_le_add z14 (by decide:_≤10)
 obtain⟨Si,g16⟩:∃S,RZ++dY p.window.toNat=S:=⟨_,rfl⟩
 have z16:Si.size≤216:=by rw[←g16,ByteArray.size_append];exact Nat.add_le_add z15 d8
 obtain⟨Sj,g17⟩:∃S,Si++⟨#[47]⟩=S:=⟨_,rfl⟩
 have z17:Sj.size≤226:=by rw[←g17,ByteArray.size_append];exact Nat.add_le_add z16 (by decide:_≤10)
 obtain⟨Sm,g18⟩:∃S,Sj++dY p.lock.toNat=S:=⟨_,rfl⟩
 have z18:Sm.size≤239:=by rw[←g18,ByteArray.size_append];exact Nat.add_le_add z17 d9
 have HT:=Lib.hid (show jY p=Sm by rw[←g18,←g17,←g16,←g15,←g14,←g13,←g12,←g11,←g10,←g9,←g8,←g7,←g6,←g5,←g4,←g3,←g2,←g1];rfl)
 rw[HT.out]
 go_enter Tryz.func50,Tryz.ntmps50
 go_wp2_with fail
 refine jr (Below.refl _ (w.alloc (.cells (bZ p) 34))) (by kernel_rfl) (by kernel_rfl) ?_
 intro v0 hv0
 repeat (first|(refine ah (by rfl) ?_)|(refine ai (by rfl) (by rfl) (fun K hK=>?_);go_big_quiet_op;refine hK _ ?_;clear hK K))
 refine au (by rfl) (by rfl) (fun K hK=>?_)
 go_wp2_with fail
 refine(rO _ _ f1.1 (by omega)).mono ?_
 rintro e v1 ⟨rfl,hb1⟩
 have hw1:=af hv0 hb1
 clear hv0 hb1
 refine hK _ _ (ak hw1) ?_
 clear hK K
 repeat (first|(refine ah (by rfl) ?_)|(refine ai (by rfl) (by rfl) (fun K hK=>?_);go_big_quiet_op;refine hK _ ?_;clear hK K))
 refine au (by rfl) (by rfl) (fun K hK=>?_)
 go_wp2_with fail
 refine(rO _ _ f2.1 (by omega)).mono ?_
 rintro e v2 ⟨rfl,hb2⟩
 have hw2:=af hw1 hb2
 clear hw1 hb2
 refine hK _ _ (ak hw2) ?_
 clear hK K
 repeat (first|(refine ah (by rfl) ?_)|(refine ai (by rfl) (by rfl) (fun K hK=>?_);go_big_quiet_op;refine hK _ ?_;clear hK K))
 refine au (by rfl) (by rfl) (fun K hK=>?_)
 go_wp2_with fail
 refine(rO _ _ f3.1 (by omega)).mono ?_
 rintro e v3 ⟨rfl,hb3⟩
 have hw3:=af hw2 hb3
 clear hw2 hb3
 refine hK _ _ (ak hw3) ?_
 clear hK K
 repeat (first|(refine ah (by rfl) ?_)|(refine ai (by rfl) (by rfl) (fun K hK=>?_);go_big_quiet_op;refine hK _ ?_;clear hK K))
 refine au (by rfl) (by rfl) (fun K hK=>?_)
 go_wp2_with fail
 refine(rO _ _ f4.1 (by omega)).mono ?_
 rintro e v4 ⟨rfl,hb4⟩
 have hw4:=af hw3 hb4
 clear hw3 hb4
 refine hK _ _ (ak hw4) ?_
 clear hK K
 repeat (first|(refine ah (by rfl) ?_)|(refine ai (by rfl) (by rfl) (fun K hK=>?_);go_big_quiet_op;refine hK _ ?_;clear hK K))
 refine au (by rfl) (by rfl) (fun K hK=>?_)
 go_wp2_with fail
 refine(rO _ _ f5.1 (by omega)).mono ?_
 rintro e v5 ⟨rfl,hb5⟩
 have hw5:=af hw4 hb5
 clear hw4 hb5
 refine hK _ _ (ak hw5) ?_
 clear hK K
 repeat (first|(refine ah (by rfl) ?_)|(refine ai (by rfl) (by rfl) (fun K hK=>?_);go_big_quiet_op;refine hK _ ?_;clear hK K))
 refine au (by rfl) (by rfl) (fun K hK=>?_)
 go_wp2_with fail
 refine(rO _ _ f6.1 (by omega)).mono ?_
 rintro e v6 ⟨rfl,hb6⟩
 have hw6:=af hw5 hb6
 clear hw5 hb6
 refine hK _ _ (ak hw6) ?_
 clear hK K
 repeat (first|(refine ah (by rfl) ?_)|(refine ai (by rfl) (by rfl) (fun K hK=>?_);go_big_quiet_op;refine hK _ ?_;clear hK K))
 refine au (by rfl) (by rfl) (fun K hK=>?_)
 go_wp2_with fail
 refine(rO _ _ f7.1 (by omega)).mono ?_
 rintro e v7 ⟨rfl,hb7⟩
 have hw7:=af hw6 hb7
 clear hw6 hb7
 refine hK _ _ (ak hw7) ?_
 clear hK K
 repeat (first|(refine ah (by rfl) ?_)|(refine ai (by rfl) (by rfl) (fun K hK=>?_);go_big_quiet_op;refine hK _ ?_;clear hK K))
 refine au (by rfl) (by rfl) (fun K hK=>?_)
 go_wp2_with fail
 refine(rO _ _ f8.1 (by omega)).mono ?_
 rintro e v8 ⟨rfl,hb8⟩
 have hw8:=af hw7 hb8
 clear hw7 hb8
 refine hK _ _ (ak hw8) ?_
 clear hK K
 repeat (first|(refine ah (by rfl) ?_)|(refine ai (by rfl) (by rfl) (fun K hK=>?_);go_big_quiet_op;refine hK _ ?_;clear hK K))
 refine au (by rfl) (by rfl) (fun K hK=>?_)
 go_wp2_with fail
 refine(rO _ _ f9.1 (by omega)).mono ?_
 rintro e v9 ⟨rfl,aZ⟩
 have rJ:=af hw8 aZ
 clear hw8 aZ
 refine hK _ _ (ak rJ) ?_
 clear hK K
 repeat (first|(refine ah (by rfl) ?_)|(refine ai (by rfl) (by rfl) (fun K hK=>?_);go_big_quiet_op;refine hK _ ?_;clear hK K))
 refine iH ?_
 go_wp2_with fail
 go_ret
 exact⟨rfl,af hB0 rJ⟩
end Go.Proofs.YtibhckkjciflaaaGreatDoor
namespace Go.Proofs
open Go.Shelf
def Tryz.laysM171_ren:Go.Shelf.Ren:=⟨fun|171=>186|243=>224|246=>262|283=>300|284=>301|285=>302|286=>303|129=>351|317=>350|318=>352|319=>353|320=>354|337=>383|338=>384|n=>n,fun|3=>3|9=>9|2=>2|4=>4|171=>326|0=>0|53=>174|37=>41|5=>5|173=>329|212=>371|51=>27|20=>20|213=>372|46=>146|232=>84|233=>419|n=>n,fun|17=>5|18=>8|19=>9|n=>n⟩
theorem Tryz.laysM171:Go.Proofs.LaysM.n171 Tryz.prog Tryz.laysM171_ren:={
 mixed:=by kernel_rfl
 f129:=Tryz.func351.trans (congrArg some (by kernel_rfl))
 f171:=Tryz.func186.trans (congrArg some (by kernel_rfl))
 f243:=Tryz.func224.trans (congrArg some (by kernel_rfl))
 f246:=Tryz.func262.trans (congrArg some (by kernel_rfl))
 f283:=Tryz.func300.trans (congrArg some (by kernel_rfl))
 f284:=Tryz.func301.trans (congrArg some (by kernel_rfl))
 f285:=Tryz.func302.trans (congrArg some (by kernel_rfl))
 f286:=Tryz.func303.trans (congrArg some (by kernel_rfl))
 f317:=Tryz.func350.trans (congrArg some (by kernel_rfl))
 f318:=Tryz.func352.trans (congrArg some (by kernel_rfl))
 f319:=Tryz.func353.trans (congrArg some (by kernel_rfl))
 f320:=Tryz.func354.trans (congrArg some (by kernel_rfl))
 f337:=Tryz.func383.trans (congrArg some (by kernel_rfl))
 f338:=Tryz.func384.trans (congrArg some (by kernel_rfl))
 t0:=Tryz.underlying0
 a0:=Tryz.isAgg0
 z0:=Tryz.sizeOf0
 v0:=Tryz.zeroValue0
 t2:=Tryz.underlying2
 a2:=Tryz.isAgg2
 z2:=Tryz.sizeOf2
 v2:=Tryz.zeroValue2
 t3:=Tryz.underlying3
 a3:=Tryz.isAgg3
 z3:=Tryz.sizeOf3
 v3:=Tryz.zeroValue3
 t4:=Tryz.underlying4
 a4:=Tryz.isAgg4
 z4:=Tryz.sizeOf4
 v4:=Tryz.zeroValue4
 t5:=Tryz.underlying5
 a5:=Tryz.isAgg5
 z5:=Tryz.sizeOf5
 v5:=Tryz.zeroValue5
 t9:=Tryz.underlying9
 a9:=Tryz.isAgg9
 z9:=Tryz.sizeOf9
 v9:=Tryz.zeroValue9
 t20:=Tryz.underlying20
 a20:=Tryz.isAgg20
 z20:=Tryz.sizeOf20
 v20:=Tryz.zeroValue20
 t37:=Tryz.underlying41
 a37:=Tryz.isAgg41
 z37:=Tryz.sizeOf41
 v37:=Tryz.zeroValue41
 t46:=Tryz.underlying146
 a46:=Tryz.isAgg146
 z46:=Tryz.sizeOf146
 v46:=Tryz.zeroValue146
 t51:=Tryz.underlying27
 a51:=Tryz.isAgg27
 z51:=Tryz.sizeOf27
 v51:=Tryz.zeroValue27
 t53:=Tryz.underlying174
 a53:=Tryz.isAgg174
 z53:=Tryz.sizeOf174
 v53:=Tryz.zeroValue174
 t171:=Tryz.underlying326
 a171:=Tryz.isAgg326
 z171:=Tryz.sizeOf326
 v171:=Tryz.zeroValue326
 t173:=Tryz.underlying329
 a173:=Tryz.isAgg329
 z173:=Tryz.sizeOf329
 v173:=Tryz.zeroValue329
 t212:=Tryz.underlying371
 a212:=Tryz.isAgg371
 z212:=Tryz.sizeOf371
 v212:=Tryz.zeroValue371
 t213:=Tryz.underlying372
 a213:=Tryz.isAgg372
 z213:=Tryz.sizeOf372
 t232:=Tryz.underlying84
 a232:=Tryz.isAgg84
 z232:=Tryz.sizeOf84
 v232:=Tryz.zeroValue84
 t233:=Tryz.underlying419
 a233:=Tryz.isAgg419
 z233:=Tryz.sizeOf419
 v233:=Tryz.zeroValue419
 g17:=by kernel_rfl
 g18:=by kernel_rfl
 g19:=by kernel_rfl
 i0:=by kernel_rfl
 i2:=by kernel_rfl
 i3:=by kernel_rfl
 i4:=by kernel_rfl
 i5:=by kernel_rfl
 i9:=by kernel_rfl
 i20:=by kernel_rfl
 i37:=by kernel_rfl
 i46:=by kernel_rfl
 i51:=by kernel_rfl
 i53:=by kernel_rfl
 i171:=by kernel_rfl
 i173:=by kernel_rfl
 i212:=by kernel_rfl
 i232:=by kernel_rfl
 i233:=by kernel_rfl
 m17:=by kernel_rfl
 m18:=by kernel_rfl
 m19:=by kernel_rfl}
open Go.RowKit Go.Sort Go.Lib in
theorem Tryz.strconv_Itoa(n:Int)(h0:-9223372036854775808≤n)(h1:n≤9223372036854775807)(w:World)(htab:Lib.TabIs Tryz.prog w "internal/strconv.uint64pow10" .u64 Lib.pow10Tab) :
  Calls Tryz.prog 186 #[.int .i64 n] w fun e w'=>e=.returned (.string ⟨(Lib.itoa n).toArray⟩)∧∃k os,w'=grow (w.drewN k) os:=Any.strconv_Itoa Tryz.laysM171 n h0 h1 w htab
def Tryz.lays156_ren:Go.Shelf.Ren:=⟨fun|156=>223|165=>259|166=>260|169=>261|240=>298|241=>299|276=>348|277=>349|n=>n,fun|31=>23|9=>9|3=>3|4=>4|0=>0|20=>20|72=>292|76=>278|70=>290|37=>41|75=>277|127=>325|164=>368|5=>5|80=>91|n=>n,fun|n=>n⟩
theorem Tryz.lays156:Go.Proofs.Lays.n156 Tryz.prog Tryz.lays156_ren:={
 mixed:=by kernel_rfl
 f156:=Tryz.func223.trans (congrArg some (by kernel_rfl))
 f165:=Tryz.func259.trans (congrArg some (by kernel_rfl))
 f166:=Tryz.func260.trans (congrArg some (by kernel_rfl))
 f169:=Tryz.func261.trans (congrArg some (by kernel_rfl))
 f240:=Tryz.func298.trans (congrArg some (by kernel_rfl))
 f241:=Tryz.func299.trans (congrArg some (by kernel_rfl))
 f276:=Tryz.func348.trans (congrArg some (by kernel_rfl))
 f277:=Tryz.func349.trans (congrArg some (by kernel_rfl))
 t0:=Tryz.underlying0
 a0:=Tryz.isAgg0
 z0:=Tryz.sizeOf0
 v0:=Tryz.zeroValue0
 t3:=Tryz.underlying3
 a3:=Tryz.isAgg3
 z3:=Tryz.sizeOf3
 v3:=Tryz.zeroValue3
 t4:=Tryz.underlying4
 a4:=Tryz.isAgg4
 z4:=Tryz.sizeOf4
 v4:=Tryz.zeroValue4
 t9:=Tryz.underlying9
 a9:=Tryz.isAgg9
 z9:=Tryz.sizeOf9
 v9:=Tryz.zeroValue9
 t20:=Tryz.underlying20
 a20:=Tryz.isAgg20
 z20:=Tryz.sizeOf20
 v20:=Tryz.zeroValue20
 t31:=Tryz.underlying23
 a31:=Tryz.isAgg23
 z31:=Tryz.sizeOf23
 v31:=Tryz.zeroValue23
 t37:=Tryz.underlying41
 a37:=Tryz.isAgg41
 z37:=Tryz.sizeOf41
 v37:=Tryz.zeroValue41
 t70:=Tryz.underlying290
 a70:=Tryz.isAgg290
 z70:=Tryz.sizeOf290
 v70:=Tryz.zeroValue290
 t72:=Tryz.underlying292
 a72:=Tryz.isAgg292
 z72:=Tryz.sizeOf292
 v72:=Tryz.zeroValue292
 t75:=Tryz.underlying277
 a75:=Tryz.isAgg277
 z75:=Tryz.sizeOf277
 v75:=Tryz.zeroValue277
 t76:=Tryz.underlying278
 a76:=Tryz.isAgg278
 z76:=Tryz.sizeOf278
 v76:=Tryz.zeroValue278
 t127:=Tryz.underlying325
 a127:=Tryz.isAgg325
 z127:=Tryz.sizeOf325
 v127:=Tryz.zeroValue325
 t164:=Tryz.underlying368
 a164:=Tryz.isAgg368
 z164:=Tryz.sizeOf368
 v164:=Tryz.zeroValue368}
theorem Tryz.Builder_Extra_156:Builder.Extra Tryz.prog Tryz.lays156_ren:={
 sizeBuilder:=by kernel_rfl
 liesBuilder:=by kernel_rfl
 t5:=Tryz.underlying5
 a5:=Tryz.isAgg5
 z5:=Tryz.sizeOf5
 v5:=Tryz.zeroValue5
 infoByte:=by kernel_rfl
 cellsByte:=by kernel_rfl
 sizeByte:=by kernel_rfl
 neB5:=by decide}
open Go.RowKit in
theorem Tryz.strings_Join(bk o c:Nat)(xs:List ByteArray)(sep:ByteArray)(w:World)(hcells:∀(j:Nat) x,xs[j]?=some x→w.cell? ⟨bk,o+j,none⟩=some (.string x))(hbk:bk<w.heap.size)(hN:xs.length≤140737488355328)(hcap:xs.length≤c)(hlen:(Lib.join (xs.map (·.data.toList)) sep.data.toList).length≤140737488355328) :
  Calls Tryz.prog 223 #[.slice (some ⟨bk,o,none⟩) xs.length c,.string sep] w fun e w'=>e=.returned (.string ⟨(Lib.join (xs.map (·.data.toList)) sep.data.toList).toArray⟩)∧Below w.heap.size w w':=Any.strings_Join Tryz.lays156 Tryz.Builder_Extra_156 bk o c xs sep w hcells hbk hN hcap hlen
def Tryz.laysM219_ren:Go.Shelf.Ren:=⟨fun|219=>256|217=>293|225=>294|224=>295|267=>296|266=>345|314=>346|n=>n,fun|9=>9|3=>3|4=>4|5=>5|46=>146|146=>366|51=>27|n=>n,fun|1=>4|n=>n⟩
theorem Tryz.laysM219:Go.Proofs.LaysM.n219 Tryz.prog Tryz.laysM219_ren:={
 mixed:=by kernel_rfl
 f217:=Tryz.func293.trans (congrArg some (by kernel_rfl))
 f219:=Tryz.func256.trans (congrArg some (by kernel_rfl))
 f224:=Tryz.func295.trans (congrArg some (by kernel_rfl))
 f225:=Tryz.func294.trans (congrArg some (by kernel_rfl))
 f266:=Tryz.func345.trans (congrArg some (by kernel_rfl))
 f267:=Tryz.func296.trans (congrArg some (by kernel_rfl))
 f314:=Tryz.func346.trans (congrArg some (by kernel_rfl))
 t3:=Tryz.underlying3
 a3:=Tryz.isAgg3
 z3:=Tryz.sizeOf3
 v3:=Tryz.zeroValue3
 t4:=Tryz.underlying4
 a4:=Tryz.isAgg4
 z4:=Tryz.sizeOf4
 v4:=Tryz.zeroValue4
 t5:=Tryz.underlying5
 a5:=Tryz.isAgg5
 z5:=Tryz.sizeOf5
 v5:=Tryz.zeroValue5
 t9:=Tryz.underlying9
 a9:=Tryz.isAgg9
 z9:=Tryz.sizeOf9
 v9:=Tryz.zeroValue9
 t46:=Tryz.underlying146
 a46:=Tryz.isAgg146
 z46:=Tryz.sizeOf146
 v46:=Tryz.zeroValue146
 t51:=Tryz.underlying27
 a51:=Tryz.isAgg27
 z51:=Tryz.sizeOf27
 v51:=Tryz.zeroValue27
 t146:=Tryz.underlying366
 a146:=Tryz.isAgg366
 z146:=Tryz.sizeOf366
 v146:=Tryz.zeroValue366
 g1:=by kernel_rfl
 i3:=by kernel_rfl
 i4:=by kernel_rfl
 i5:=by kernel_rfl
 i9:=by kernel_rfl
 i46:=by kernel_rfl
 i51:=by kernel_rfl
 i146:=by kernel_rfl
 m1:=by kernel_rfl
 s1_3:=fun w h=>Go.Proofs.cell_of_shapedOpen_int (zero:=#[.int .i64 0]) (t:=3) h (of_decide_eq_true (by kernel_rfl)) (by kernel_rfl) rfl (by kernel_rfl) (by kernel_rfl) Tryz.underlying3}
end Go.Proofs
namespace Go.WW
open Go.RowKit
theorem lY{P:Program}{w w':World}{name:String}{k:IntKind}{t:List Int}(h:Lib.TabIs P w name k t)(hb:Below w.heap.size w w'):Lib.TabIs P w' name k t:=by
 unfold Lib.TabIs World.var? at *
 cases hg:P.globalNamed name with
 |none=>rw[hg]at h;cases h
 |some g=>
  rw[hg]at h
  simp only[Option.bind_some]at h ⊢
  have hlt:g<w.heap.size:=by
   rcases Nat.lt_or_ge g w.heap.size with hl|hl
   ·exact hl
   ·rw[Array.getElem?_eq_none hl]at h;cases h
  rw[hb.block g hlt]
  exact h
theorem below_grown(w:World)(k:Nat)(os:Array Obj):Below w.heap.size w (Go.Sort.grow (w.drewN k) os):=
 ⟨rfl,rfl,rfl,by show w.heap.size≤(w.heap++os).size;simp,fun j hj=>by show(w.heap++os)[j]?=_;rw[Array.getElem?_append_left hj]⟩
theorem aeb(n a b c d e f g h i:ByteArray):(ByteArray.mk (Lib.join ([n,(⟨#[108,101,110,103,116,104,61]⟩:ByteArray)++a,(⟨#[99,108,97,115,115,101,115,61]⟩:ByteArray)++b,(⟨#[100,105,115,116,105,110,99,116,61]⟩:ByteArray)++c,(⟨#[104,105,115,116,111,114,121,61]⟩:ByteArray)++d,(((⟨#[97,103,101,61]⟩:ByteArray)++e)++(⟨#[46,46]⟩:ByteArray))++f,(⟨#[102,97,105,108,115,61]⟩:ByteArray)++g,(((⟨#[108,111,99,107,61]⟩:ByteArray)++h)++(⟨#[47]⟩:ByteArray))++i].map (·.data.toList)) [32]).toArray) =
  ((((((((((((((((((n++(⟨#[32,108,101,110,103,116,104,61]⟩:ByteArray))++a)++(⟨#[32,99,108,97,115,115,101,115,61]⟩:ByteArray))++b)++(⟨#[32,100,105,115,116,105,110,99,116,61]⟩:ByteArray))++c)++(⟨#[32,104,105,115,116,111,114,121,61]⟩:ByteArray))++d)++(⟨#[32,97,103,101,61]⟩:ByteArray))++e)++(⟨#[46,46]⟩:ByteArray))++f)++(⟨#[32,102,97,105,108,115,61]⟩:ByteArray))++g)++(⟨#[32,108,111,99,107,61]⟩:ByteArray))++h)++(⟨#[47]⟩:ByteArray))++i):=by
 have h1:∀x y:ByteArray,x.data.toList=y.data.toList→x=y:=fun x y h=>ByteArray.ext (Array.ext' h)
 apply h1
 simp[Lib.join,List.intercalate,ByteArray.data_append]
theorem aec(w:World)(xs:List ByteArray){cs:Array Value}{t:TypeId}(h:cs=(xs.map Value.string).toArray):∀(j:Nat) x,xs[j]?=some x→(w.alloc (.cells cs t)).cell? ⟨w.heap.size,0+j,none⟩=some (.string x):=by
 subst h
 intro j x hx
 rw[cell_of_row _ _ _ _ _ _ (World.alloc_heap_new _ _),Nat.zero_add]
 simp[hx]
abbrev uF(P:Program)(w:World):Prop:=Lib.TabIs P w "internal/strconv.uint64pow10" .u64 Lib.pow10Tab
end Go.WW
namespace Go.Proofs.YtibhckkjciflaaaGreatDoor
open Go.RowKit Go.WW
theorem rQ(v:Int)(w:World)(h0:0≤v)(hv:v<4611686018427387904)(ht:uF Tryz.prog w):Calls Tryz.prog 186 #[.int .i64 v] w fun e w'=>e=.returned (.string (dY v.toNat))∧Below w.heap.size w w':=by
 refine(Tryz.strconv_Itoa v (by omega) (by omega) w ht).mono ?_
 rintro e w' ⟨rfl,k,os,rfl⟩
 refine⟨?_,below_grown w k os⟩
 have:=Lib.itoa_nonneg v.toNat
 rw[Int.toNat_of_nonneg h0]at this
 rw[this];rfl
theorem aed(b o c:Nat)(xs:List ByteArray)(w:World)(hs:∀(j:Nat) x,xs[j]?=some x→w.cell? ⟨b,o+j,none⟩=some (.string x))(hb:b<w.heap.size)(hc:xs.length≤c)(hl:(Lib.join (xs.map (·.data.toList)) [32]).length≤1000000)(hn:xs.length≤1000) :
  Calls Tryz.prog 185 #[.slice (some ⟨b,o,none⟩) xs.length c] w fun e w'=>e=.returned (.string ⟨(Lib.join (xs.map (·.data.toList)) [32]).toArray⟩)∧Below w.heap.size w w':=by
 have HJ:=Lib.hid (Tryz.strings_Join b o c xs ⟨#[32]⟩ w hs hb (by omega) hc (Nat.le_trans hl (by decide)))
 obtain⟨J,hJ⟩:∃J,J=(ByteArray.mk (Lib.join (xs.map (·.data.toList)) [32]).toArray):=⟨_,rfl⟩
 rw[←hJ]
 have HJJ:=Lib.hid hJ
 clear hJ hl hs
 go_enter Tryz.func185,Tryz.ntmps185
 go_wp2_with fail
 refine HJ.out.mono ?_
 rintro e w' ⟨rfl,hb'⟩
 go_wp2_with fail
 go_ret
 exact⟨by rw[HJJ.out];rfl,hb'⟩
theorem aef(p:aO)(w:World)(hok:eX p=true)(hnm:p.name.size≤lim)(ht:uF Tryz.prog w):Calls Tryz.prog 153 #[.agg (bZ p)] w fun e w'=>e=.returned (.tuple #[.string (jY p),.int .i64 0])∧Below w.heap.size w w':=by
 have hB0:Below w.heap.size w (w.alloc (.cells (bZ p) 34)):=az (Below.refl _ _) _
 obtain⟨f0,f1,f2,f3,f4,f5,f6,f7,f8,f9⟩:=EP hok
 have d1:=iI f1
 have d2:=iI f2
 have d3:=iI f3
 have d4:=iI f4
 have d5:=iI f5
 have d6:=iI f6
 have d7:=iI f7
 have d8:=iI f8
 have d9:=iI f9
 obtain⟨S1,g1⟩:∃S,(⟨#[108,101,110,103,116,104,61]⟩:ByteArray)++dY p.length.toNat=S:=⟨_,rfl⟩
 have z1:S1.size≤22:=by rw[←g1,ByteArray.size_append];exact Nat.add_le_add (by decide:_≤9) d1
 obtain⟨S2,g2⟩:∃S,(⟨#[99,108,97,115,115,101,115,61]⟩:ByteArray)++dY p.classes.toNat=S:=⟨_,rfl⟩
 have z2:S2.size≤22:=by rw[←g2,ByteArray.size_append];exact Nat.add_le_add (by decide:_≤9) d2
 obtain⟨S3,g3⟩:∃S,(⟨#[100,105,115,116,105,110,99,116,61]⟩:ByteArray)++dY p.distinct.toNat=S:=⟨_,rfl⟩
 have z3:S3.size≤22:=by rw[←g3,ByteArray.size_append];exact Nat.add_le_add (by decide:_≤9) d3
 obtain⟨S4,g4⟩:∃S,(⟨#[104,105,115,116,111,114,121,61]⟩:ByteArray)++dY p.history.toNat=S:=⟨_,rfl⟩
 have z4:S4.size≤22:=by rw[←g4,ByteArray.size_append];exact Nat.add_le_add (by decide:_≤9) d4
 obtain⟨S5,g5⟩:∃S,(⟨#[97,103,101,61]⟩:ByteArray)++dY p.gZ.toNat=S:=⟨_,rfl⟩
 have z5:S5.size≤22:=by rw[←g5,ByteArray.size_append];exact Nat.add_le_add (by decide:_≤9) d5
 obtain⟨S6,g6⟩:∃S,S5++(⟨#[46,46]⟩:ByteArray)=S:=⟨_,rfl⟩
 have z6:S6.size≤24:=by rw[←g6,ByteArray.size_append];exact Nat.add_le_add z5 (by decide:_≤2)
 obtain⟨S7,g7⟩:∃S,S6++dY p.dU.toNat=S:=⟨_,rfl⟩
 have z7:S7.size≤37:=by rw[←g7,ByteArray.size_append];exact Nat.add_le_add z6 d6
 obtain⟨S8,g8⟩:∃S,(⟨#[102,97,105,108,115,61]⟩:ByteArray)++dY p.fails.toNat=S:=⟨_,rfl⟩
 have z8:S8.size≤22:=by rw[←g8,ByteArray.size_append];exact Nat.add_le_add (by decide:_≤9) d7
 obtain⟨S9,g9⟩:∃S,(⟨#[108,111,99,107,61]⟩:ByteArray)++dY p.window.toNat=S:=⟨_,rfl⟩
 have z9:S9.size≤22:=by rw[←g9,ByteArray.size_append];exact Nat.add_le_add (by decide:_≤9) d8
 obtain⟨BD,g10⟩:∃S,S9++(⟨#[47]⟩:ByteArray)=S:=⟨_,rfl⟩
 have z10:BD.size≤24:=by rw[←g10,ByteArray.size_append];exact Nat.add_le_add z9 (by decide:_≤2)
 obtain⟨rP,g11⟩:∃S,BD++dY p.lock.toNat=S:=⟨_,rfl⟩
 have z11:rP.size≤37:=by rw[←g11,ByteArray.size_append];exact Nat.add_le_add z10 d9
 have HX:=Lib.hid (show(ByteArray.mk (Lib.join ([p.name,S1,S2,S3,S4,S7,S8,rP].map (·.data.toList)) [32]).toArray)=jY p by
  subst g1;subst g2;subst g3;subst g4;subst g5;subst g6;subst g7;subst g8;subst g9;subst g10;subst g11
  exact aeb _ _ _ _ _ _ _ _ _ _)
 have HL:=Lib.hid (show(Lib.join ([p.name,S1,S2,S3,S4,S7,S8,rP].map (·.data.toList)) [32]).length≤1000000 by
  simp[Lib.join,List.intercalate];omega)
 have hpv:=hok
 go_enter Tryz.func153,Tryz.ntmps153
 go_wp2_with fail
 refine(PM p _ hnm).mono ?_
 rintro e wv ⟨rfl,hbv⟩
 rw[hpv]
 obtain⟨hcc,ax,hrr⟩:=aK hbv
 have hwl:w.heap.size<wv.heap.size:=by have:=hbv.size;simp at this;omega
 have rU:=lY ht (af hB0 hbv)
 clear hok hpv
 go_wp2_with fail
 refine jr (Below.refl _ wv) (by kernel_rfl) (by kernel_rfl) ?_
 intro v0 hv0
 repeat (first|(refine ah (by rfl) ?_)|(refine ai (by rfl) (by rfl) (fun K hK=>?_);go_big_quiet_op;refine hK _ ?_;clear hK K))
 refine au (by rfl) (by rfl) (fun K hK=>?_)
 go_wp2_with fail
 refine(rQ _ _ f1.1 (by omega) (lY rU hv0)).mono ?_
 rintro e v1 ⟨rfl,hb1⟩
 have hw1:=af hv0 hb1
 clear hv0 hb1
 refine hK _ _ (ak hw1) ?_
 clear hK K
 repeat (first|(refine ah (by rfl) ?_)|(refine ai (by rfl) (by rfl) (fun K hK=>?_);go_big_quiet_op;refine hK _ ?_;clear hK K))
 refine au (by rfl) (by rfl) (fun K hK=>?_)
 go_wp2_with fail
 refine(rQ _ _ f2.1 (by omega) (lY rU hw1)).mono ?_
 rintro e v2 ⟨rfl,hb2⟩
 have hw2:=af hw1 hb2
 clear hw1 hb2
 refine hK _ _ (ak hw2) ?_
 clear hK K
 repeat (first|(refine ah (by rfl) ?_)|(refine ai (by rfl) (by rfl) (fun K hK=>?_);go_big_quiet_op;refine hK _ ?_;clear hK K))
 refine au (by rfl) (by rfl) (fun K hK=>?_)
 go_wp2_with fail
 refine(rQ _ _ f3.1 (by omega) (lY rU hw2)).mono ?_
 rintro e v3 ⟨rfl,hb3⟩
 have hw3:=af hw2 hb3
 clear hw2 hb3
 refine hK _ _ (ak hw3) ?_
 clear hK K
 repeat (first|(refine ah (by rfl) ?_)|(refine ai (by rfl) (by rfl) (fun K hK=>?_);go_big_quiet_op;refine hK _ ?_;clear hK K))
 refine au (by rfl) (by rfl) (fun K hK=>?_)
 go_wp2_with fail
 refine(rQ _ _ f4.1 (by omega) (lY rU hw3)).mono ?_
 rintro e v4 ⟨rfl,hb4⟩
 have hw4:=af hw3 hb4
 clear hw3 hb4
 refine hK _ _ (ak hw4) ?_
 clear hK K
 repeat (first|(refine ah (by rfl) ?_)|(refine ai (by rfl) (by rfl) (fun K hK=>?_);go_big_quiet_op;refine hK _ ?_;clear hK K))
 refine au (by rfl) (by rfl) (fun K hK=>?_)
 go_wp2_with fail
 refine(rQ _ _ f5.1 (by omega) (lY rU hw4)).mono ?_
 rintro e v5 ⟨rfl,hb5⟩
 have hw5:=af hw4 hb5
 clear hw4 hb5
 refine hK _ _ (ak hw5) ?_
 clear hK K
 repeat (first|(refine ah (by rfl) ?_)|(refine ai (by rfl) (by rfl) (fun K hK=>?_);go_big_quiet_op;refine hK _ ?_;clear hK K))
 refine au (by rfl) (by rfl) (fun K hK=>?_)
 go_wp2_with fail
 refine(rQ _ _ f6.1 (by omega) (lY rU hw5)).mono ?_
 rintro e v6 ⟨rfl,hb6⟩
 have hw6:=af hw5 hb6
 clear hw5 hb6
 refine hK _ _ (ak hw6) ?_
 clear hK K
 repeat (first|(refine ah (by rfl) ?_)|(refine ai (by rfl) (by rfl) (fun K hK=>?_);go_big_quiet_op;refine hK _ ?_;clear hK K))
 refine au (by rfl) (by rfl) (fun K hK=>?_)
 go_wp2_with fail
 refine(rQ _ _ f7.1 (by omega) (lY rU hw6)).mono ?_
 rintro e v7 ⟨rfl,hb7⟩
 have hw7:=af hw6 hb7
 clear hw6 hb7
 refine hK _ _ (ak hw7) ?_
 clear hK K
 repeat (first|(refine ah (by rfl) ?_)|(refine ai (by rfl) (by rfl) (fun K hK=>?_);go_big_quiet_op;refine hK _ ?_;clear hK K))
 refine au (by rfl) (by rfl) (fun K hK=>?_)
 go_wp2_with fail
 refine(rQ _ _ f8.1 (by omega) (lY rU hw7)).mono ?_
 rintro e v8 ⟨rfl,hb8⟩
 have hw8:=af hw7 hb8
 clear hw7 hb8
 refine hK _ _ (ak hw8) ?_
 clear hK K
 repeat (first|(refine ah (by rfl) ?_)|(refine ai (by rfl) (by rfl) (fun K hK=>?_);go_big_quiet_op;refine hK _ ?_;clear hK K))
 refine au (by rfl) (by rfl) (fun K hK=>?_)
 go_wp2_with fail
 refine(rQ _ _ f9.1 (by omega) (lY rU hw8)).mono ?_
 rintro e v9 ⟨rfl,aZ⟩
 have rJ:=af hw8 aZ
 clear hw8 aZ
 refine hK _ _ (ak rJ) ?_
 clear hK K
 repeat (first|(refine ah (by rfl) ?_)|(refine ai (by rfl) (by rfl) (fun K hK=>?_);go_big_quiet_op;refine hK _ ?_;clear hK K))
 refine au (by rfl) (by rfl) (fun K hK=>?_)
 go_wp2_with fail
 refine hK _ _ (ak (az rJ _)) ?_
 clear hK K
 repeat (first|(refine ah (by rfl) ?_)|(refine ai (by rfl) (by rfl) (fun K hK=>?_);go_big_quiet_op;refine hK _ ?_;clear hK K))
 refine au (by rfl) (by rfl) (fun K hK=>?_)
 go_wp2_with fail
 refine(aed v9.heap.size 0 8 [p.name,S1,S2,S3,S4,S7,S8,rP] _ (aec v9 [p.name,S1,S2,S3,S4,S7,S8,rP] rfl) (by simp) (by simp) HL.out (by simp)).mono ?_
 rintro e vz ⟨rfl,hbz⟩
 rw[HX.out]
 have HB:=Lib.hid (af (af hB0 hbv) (af (az rJ (.cells #[.string p.name,.string S1,.string S2,.string S3,.string S4,.string S7,.string S8,.string rP] 9)) hbz))
 have pI:=af (az rJ _) hbz
 clear hbz rJ
 refine hK _ _ (ak pI) ?_
 clear hK K
 repeat (first|(refine ah (by rfl) ?_)|(refine ai (by rfl) (by rfl) (fun K hK=>?_);go_big_quiet_op;refine hK _ ?_;clear hK K))
 refine iH ?_
 go_wp2_with fail
 go_ret2
 exact⟨rfl,HB.out⟩
end Go.Proofs.YtibhckkjciflaaaGreatDoor
namespace Go.WW
open Go.RowKit
def aj(i t m k:Int)(s:Sl)(n:aG)(r:aC)(d:Entry)(q:aO)(pn:ByteArray)(f a b:Int):Array Value:=#[.int .i64 i,.int .i64 t,.int .i64 m,.int .i64 k,.slice s.a n.parts.length s.cap,.string n.aQ,.slice r.parts.a d.name.parts.length r.parts.cap,.string d.name.aQ,.slice r.aliases.a d.aliases.length r.aliases.cap,.int .u32 d.attrs,.int .i64 d.dF,.slice r.keys.a d.keys.length r.keys.cap,.string d.dn,.int .i64 d.fQ,.int .i64 d.fU,.int .i64 d.fF,.int .i64 d.fG,.int .i64 d.fails,.int .i64 d.eP,.int .i64 d.gq,.slice r.targets.a d.targets.length r.targets.cap,.slice r.aP.a d.aP.length r.aP.cap,.slice r.history.a d.history.length r.history.cap,.string q.name,.int .i64 q.length,.int .i64 q.classes,.int .i64 q.distinct,.int .i64 q.history,.int .i64 q.gZ,.int .i64 q.dU,.int .i64 q.fails,.int .i64 q.window,.int .i64 q.lock,.string pn,.int .i64 f,.int .i64 a,.int .i64 b]
theorem wK(i t m k:Int)(s:Sl)(n:aG)(r:aC)(d:Entry)(q:aO)(pn:ByteArray)(f a b:Int):(aj i t m k s n r d q pn f a b).size=37:=by simp[aj]
theorem aeg(i t m k:Int)(s:Sl)(n:aG)(r:aC)(d:Entry)(q:aO)(pn:ByteArray)(f a b:Int):dG (aj i t m k s n r d q pn f a b)=true:=by simp[dG,aj,Value.oneCell']
theorem aeh(i t m k:Int)(s:Sl)(n:aG)(r:aC)(d:Entry)(q:aO)(pn:ByteArray)(f a b:Int)(h:23<(aj i t m k s n r d q pn f a b).size):(aj i t m k s n r d q pn f a b)[23]'h=.string q.name:=by simp[aj]
theorem aei(i t m k:Int)(s:Sl)(n:aG)(r:aC)(d:Entry)(q:aO)(pn:ByteArray)(f a b:Int)(h:33<(aj i t m k s n r d q pn f a b).size):(aj i t m k s n r d q pn f a b)[33]'h=.string pn:=by simp[aj]
theorem aej(i t m k:Int)(s:Sl)(n:aG)(r:aC)(d:Entry)(q:aO)(pn:ByteArray)(f a b:Int):mF (aj i t m k s n r d q pn f a b) 4 2=some (aJ s n):=by kernel_rfl
theorem aek(i t m k:Int)(s:Sl)(n:aG)(r:aC)(d:Entry)(q:aO)(pn:ByteArray)(f a b:Int):mF (aj i t m k s n r d q pn f a b) 6 17=some (ay r d):=by kernel_rfl
attribute [go_sem] wK aeg aeh aei aej aek
end Go.WW
namespace Go.Proofs.YtibhckkjciflaaaGreatDoor
open Go.RowKit Go.WW
theorem ael(w:World)(b o:Nat):(kG 36 (.pointer (some ⟨b,o,none⟩))).run Tryz.prog w=qP Tryz.prog 36 w b o (row? w b o 37):=vO Tryz.underlying36 rfl (by kernel_rfl) w b o
theorem aem(ρ:Operand→Value)(dst:Option Tmp)(x:Operand)(ty:TypeId)(pos:String)(after:Array Edge)(guard:Option (Nat×Bool)):execOp ρ {dst,op:=.load 36 x,type:=ty,pos,after,guard}=kG 36 (ρ x):=rfl
attribute [go_sem] ael
attribute [go_sem ↓] aem
end Go.Proofs.YtibhckkjciflaaaGreatDoor
namespace Go.WW
open Go.RowKit
noncomputable def wL(p:Prop):Bool:=@decide p (Classical.propDecidable p)
theorem ER{p:Prop}(h:p):wL p=true:=@decide_eq_true p (Classical.propDecidable p) h
theorem aen{p:Prop}(h:¬p):wL p=false:=@decide_eq_false p (Classical.propDecidable p) h
theorem aeo{w:World}(cs:Array Value)(t:TypeId):Below w.heap.size w (w.alloc (.cells cs t)):=(Below.refl _ _).alloc (Nat.le_refl _) _
theorem BF{P:Program}{o:Oper}{a:Act}{w:World}{K:Act→World→Prop}{Q:Exit→Act→World→Prop}(x y:Operand)(t:TypeId)(ho:o.op=.call {callee:=.builtin .append,args:=#[x,y],argTypes:=#[t,t]})
  {e:TypeId} {k bytes:Nat} (he:ik P t e k bytes) {base:Nat} {s:Sl} {n:Nat} {rows:List (Array Value)} (hx:a.eval x=.slice s.a n s.cap) (hn:n=rows.length) (h:Own w base e k s rows) {A:Option Addr} {news:List (Array Value)} {m c:Nat}
  (hy:a.eval y=.slice A m c) (hm:m=news.length) (hs:eF w k A news) (hlen:(rows.length+news.length)*(bytes+1)≤140737488355328) (hbase:base≤w.heap.size)
  (hK:∀(s':Sl) w',Own w' base e k s' (rows++news)→w.grownBy w' s.blk→(s'.blk=s.blk∨s'.blk=some w.heap.size)→K (a.put o.dst (.slice s'.a (n+m) s'.cap)) w'):o.wp P a w K Q:=by
 subst hn hm
 exact I5 x y t ho he hx h hy rfl hs hlen hbase hK
theorem own_below{W w w':World}{E:TypeId}{k:Nat}{s:Sl}{rows:List (Array Value)}(h:Own w W.heap.size E k s rows)(hb:Below W.heap.size W w)(hg:w.grownBy w' s.blk):Below W.heap.size W w':=hb.grown hg hb.size (fun _ e=>(h.base e).1)
structure oM(w:World)(rows:List (Array Value))(l:List aG):Prop where
 len:rows.length=l.length
 at_:∀i (hi:i<rows.length),∃p s,l[i]?=some p∧rows[i]=aJ s p∧gu w s p
theorem oM.nil(w:World):oM w [] []:=⟨rfl,fun _ hi=>absurd hi (Nat.not_lt_zero _)⟩
theorem oM.append{w:World}{r1 r2:List (Array Value)}{l1 l2:List aG}(h1:oM w r1 l1)(h2:oM w r2 l2):oM w (r1++r2) (l1++l2):=by
 refine⟨by simp[h1.len,h2.len],fun i hi=>?_⟩
 by_cases hlt:i<r1.length
 ·obtain⟨p,s,e1,e2,e3⟩:=h1.at_ i hlt
  exact⟨p,s,by rw[List.getElem?_append_left (by have:=h1.len;omega)];exact e1,by rw[List.getElem_append_left hlt];exact e2,e3⟩
 ·obtain⟨p,s,e1,e2,e3⟩:=h2.at_ (i-r1.length) (by simp at hi;omega)
  exact⟨p,s,by rw[List.getElem?_append_right (by have:=h1.len;omega),←h1.len];exact e1,by rw[List.getElem_append_right (by omega)];exact e2,e3⟩
theorem oM.later{w w':World}{r:List (Array Value)}{l:List aG}(h:oM w r l)(hb:Below w.heap.size w w'):oM w' r l:=
 ⟨h.len,fun i hi=>by obtain⟨p,s,e1,e2,e3⟩:=h.at_ i hi;exact⟨p,s,e1,e2,e3.later hb⟩⟩
theorem oM.aep{w:World}{base:Nat}{e:TypeId}{s:Sl}{r:List (Array Value)}{l:List aG}(h:oM w r l)(ho:Own w base e 2 s r)(hl:l.length≤lim):fH w s.a l:=
 cu.lQ ho h.len hl h.at_
def BG(p:aG):Prop:=p.parts.length≤8∧p.aQ.size≤60∧∀j (h:j<p.parts.length),p.parts[j].size≤60
structure uG(n:aG)(d:Entry)(q:aO)(pn:ByteArray):Prop where
 count:2+d.aliases.length+d.targets.length+d.aP.length≤14
 keys:d.keys.length≤4
 dn:d.dn.size≤60
 history:d.history.length≤20
 aeq:pn.size≤60
 BH:q.name.size≤60
 names:∀x∈[n,d.name]++d.aliases++d.targets++d.aP,BG x
 sets:∀x∈d.keys,x.keys.length≤6∧x.bF.size≤300
theorem aer(s t:Sl)(n p:aG):Array.foldl (fun cs (x:Value×Nat)=>cs.setIfInBounds (2+x.snd) x.fst) (Array.foldl (fun cs (x:Value×Nat)=>cs.setIfInBounds x.snd x.fst)
  #[Value.slice none 0 0,Value.string ⟨#[]⟩,Value.slice none 0 0,Value.string ⟨#[]⟩] (aJ s n).zipIdx 0 2) (aJ t p).zipIdx 0 2=aJ s n++aJ t p:=by kernel_rfl
theorem Own.two(w:World)(c0 c1:Array Value)(t:TypeId)(k:Nat)(h0:c0.size=k)(h1:c1.size=k):Own (w.alloc (.cells (c0++c1) t)) w.heap.size t k ⟨some ⟨w.heap.size,0,none⟩,2⟩ [c0,c1]:=by
 refine⟨⟨by simp[flat,h0,h1];omega,.inr ⟨w.heap.size,2,c0++c1,rfl,Nat.le_refl _,World.alloc_heap_new w _,Nat.le_refl _,by unfold maxLen;omega,by simp[h0,h1];omega,?_⟩⟩,by simp[h0,h1]⟩
 simp only[flat,List.flatMap_cons,List.flatMap_nil,List.append_nil,Array.toList_append]
 exact List.take_of_length_le (by simp[h0,h1];omega)
end Go.WW
namespace Go.Proofs.YtibhckkjciflaaaGreatDoor
open Go.RowKit Go.WW
theorem Sr(i t m k:Int)(s:Sl)(n:aG)(r:aC)(d:Entry)(q:aO)(pn:ByteArray)(f a b:Int)(w:World)(hn:gu w s n)(he:iT w r d)(hq:q.name.size≤lim)(hp:pn.size≤lim) :
  Calls Tryz.prog 4 #[.agg (aj i t m k s n r d q pn f a b)] w fun e w'=>e=.returned (.bool (wL (¬uG n d q pn)))∧Below w.heap.size w w':=by
 have nA:d.aliases.length≤4294967000:=he.aliases.1
 have nT:d.targets.length≤4294967000:=he.targets.1
 have nD:d.aP.length≤4294967000:=he.aP.1
 have nK:d.keys.length≤4294967000:=he.keys.1
 have nP:d.dn.size≤4294967000:=he.dn
 have nH:d.history.length≤4294967000:=he.history.1
 have nQ:q.name.size≤4294967000:=hq
 have nN:pn.size≤4294967000:=hp
 obtain⟨rA,lA,sA,qA⟩:=cu.src he.aliases Ef
 obtain⟨rT,lT,sT,qT⟩:=cu.src he.targets Ef
 obtain⟨rD,lD,sD,qD⟩:=cu.src he.aP Ef
 have LA:=Lib.hid lA
 have LT:=Lib.hid lT
 have LD:=Lib.hid lD
 have QA:=Lib.hid qA
 have QT:=Lib.hid qT
 have QD:=Lib.hid qD
 have SA:=Lib.hid sA
 have ST:=Lib.hid sT
 have SD:=Lib.hid sD
 clear lA lT lD qA qT qD sA sT sD
 have hB0:Below w.heap.size w (w.alloc (.cells (aj i t m k s n r d q pn f a b) 36)):=aeo _ _
 obtain⟨W0,hW0⟩:∃W0,W0=(w.alloc (.cells (aj i t m k s n r d q pn f a b) 36)).alloc (.cells (ay r d) 32):=⟨_,rfl⟩
 have hB:Below w.heap.size w W0:=by rw[hW0];exact hB0.alloc (by simp) _
 go_enter Tryz.func4,Tryz.ntmps4
 go_wp2_with fail
 refine jr (Below.refl _ ((w.alloc (.cells (aj i t m k s n r d q pn f a b) 36)).alloc (.cells (ay r d) 32))) (by kernel_rfl) (by kernel_rfl) ?_
 intro w1 hb1
 obtain⟨hcc,ax,hrr⟩:=aK hb1
 have hsz:w.heap.size+1<w1.heap.size:=by have:=hb1.size;simp at this;omega
 repeat (first|(refine ah (by rfl) ?_)|(refine ai (by rfl) (by rfl) (fun K hK=>?_);go_big_quiet_op;refine hK _ ?_;clear hK K))
 refine au (by rfl) (by rfl) (fun K hK=>?_)
 go_wp2_with fail
 rw[aer]
 have hb2:=az hb1 (.cells (aJ s n++aJ r.parts d.name) 25)
 rw[←hW0]at hb1 hb2
 have hown:Go.WW.Own (w1.alloc (.cells (aJ s n++aJ r.parts d.name) 25)) W0.heap.size 25 2 ⟨some ⟨w1.heap.size,0,none⟩,2⟩ [aJ s n,aJ r.parts d.name]:=by
  have h:=Own.two w1 (aJ s n) (aJ r.parts d.name) 25 2 (Ai _ _) (Ai _ _)
  exact⟨⟨h.own.1,h.own.2.imp id fun⟨g,cap,cur,h1,h2,h3⟩=>⟨g,cap,cur,h1,Nat.le_trans hb1.size h2,h3⟩⟩,h.size⟩
 rw[←hW0]at hK
 refine hK _ _ (ak hb2) ?_
 clear hK K
 repeat (first|(refine ah (by rfl) ?_)|(refine ai (by rfl) (by rfl) (fun K hK=>?_);go_big_quiet_op;refine hK _ ?_;clear hK K))
 refine au (by rfl) (by rfl) (fun K hK=>?_)
 refine BF (.tmp 14) (.tmp 16) _ rfl Bz (n:=2) (s:=⟨some ⟨w1.heap.size,0,none⟩,2⟩) rfl rfl hown rfl LA.out.symm (SA.out.later (af hB hb2)) (by rw[LA.out];simp;omega) (by have:=hb2.size;exact this) ?_
 intro s3 w3 hown3 hg3 jh
 have hb3:=own_below hown hb2 hg3
 go_wp2_with fail
 refine hK _ _ (ak hb3) ?_
 clear hK K
 repeat (first|(refine ah (by rfl) ?_)|(refine ai (by rfl) (by rfl) (fun K hK=>?_);go_big_quiet_op;refine hK _ ?_;clear hK K))
 refine au (by rfl) (by rfl) (fun K hK=>?_)
 refine BF (.tmp 17) (.tmp 19) _ rfl Bz (n:=2+d.aliases.length) (s:=s3) rfl (by have:=LA.out;simp[this];omega) hown3 rfl LT.out.symm (ST.out.later (af hB hb3)) (by have:=LA.out;rw[LT.out];simp[this];omega) (by have:=hb3.size;exact this) ?_
 intro s4 w4 hown4 hg4 aes
 have hb4:=own_below hown3 hb3 hg4
 go_wp2_with fail
 refine hK _ _ (ak hb4) ?_
 clear hK K
 repeat (first|(refine ah (by rfl) ?_)|(refine ai (by rfl) (by rfl) (fun K hK=>?_);go_big_quiet_op;refine hK _ ?_;clear hK K))
 refine au (by rfl) (by rfl) (fun K hK=>?_)
 refine BF (.tmp 20) (.tmp 22) _ rfl Bz (n:=2+d.aliases.length+d.targets.length) (s:=s4) rfl (by have:=LA.out;have:=LT.out;simp[*];omega) hown4 rfl LD.out.symm (SD.out.later (af hB hb4)) (by have h1:=LA.out;have h2:=LT.out;rw[LD.out];simp[h1,h2];omega) (by have:=hb4.size;exact this) ?_
 intro s5 w5 hown5 hg5 ES
 have hb5:=own_below hown4 hb4 hg5
 go_wp2_with fail
 refine hK _ _ (ak hb5) ?_
 clear hK K
 repeat (first|(refine ah (by rfl) ?_)|(refine ai (by rfl) (by rfl) (fun K hK=>?_);go_big_quiet_op;refine hK _ ?_;clear hK K))
 refine iH ?_
 have mV:=af hB hb5
 obtain⟨L,hL⟩:∃L,L=[n,d.name]++d.aliases++d.targets++d.aP:=⟨_,rfl⟩
 have hLn:2+d.aliases.length+d.targets.length+d.aP.length=L.length:=by rw[hL];simp;omega
 rw[hLn]
 by_cases hbig:14<L.length
 ·have hbig':(14:Int)<(L.length:Int):=by omega
  have HN:=Lib.hid (ER (show ¬uG n d q pn from fun h=>by have:=h.count;omega))
  go_wp2_with fail
  go_ret
  exact⟨by rw[HN.out];rfl,mV⟩
 have hbig':¬(14:Int)<(L.length:Int):=by omega
 have HP:=Lib.hid (show fH w5 s5.a L by
  have h0:oM w [aJ s n,aJ r.parts d.name] [n,d.name]:=⟨rfl,fun i hi=>by
   match i,hi with
   |0,_=>exact⟨n,s,rfl,rfl,hn⟩
   |1,_=>exact⟨d.name,r.parts,rfl,rfl,he.name⟩⟩
  have h:=((h0.append ⟨LA.out,QA.out⟩).append ⟨LT.out,QT.out⟩).append ⟨LD.out,QD.out⟩
  rw[hL]
  exact(h.later mV).aep hown5 (by unfold lim;simp;omega))
 have HL:=Lib.hid hL
 have HLn:=Lib.hid hLn
 rw[hW0]at hb5
 clear hL hLn hcc ax hrr hsz hown hown3 hown4 hown5 hg3 hg4 hg5 jh aes ES
 obtain⟨hcc,ax,hrr⟩:=aK hb5
 have hsz:w.heap.size+1<w5.heap.size:=by have:=hb5.size;simp at this;omega
 have hkeys:=Lib.hid (he.keys.later mV)
 go_wp2_with fail
 all_goals first
  |(go_ret;exact⟨by rw[ER (fun h:uG n d q pn=>by have h1:=h.count;have h2:=h.keys;have h3:=h.dn;have h4:=h.history;have h5:=h.aeq;have h6:=h.BH;have h7:=HLn.out;omega)];rfl,mV⟩)
  |skip
 have HC:=Lib.hid (show L.length≤14∧d.keys.length≤4∧d.dn.size≤60∧d.history.length≤20∧pn.size≤60∧q.name.size≤60 from⟨by omega,by omega,by omega,by omega,by omega,by omega⟩)
 go_loop [5] (fun i=>∃k:Nat,k≤L.length∧i=.int .i64 k∧Hid (∀j (h:j<L.length),j<k→BG L[j])) (fun i=>L.length-(intOf i).toNat)
 case atStart=>exact⟨0,Nat.zero_le _,rfl,fun j h hj=>absurd hj (Nat.not_lt_zero _)⟩
 case round=>
  obtain⟨k,hk,rfl,hall⟩:=hrel
  by_cases hlt:k<L.length
  ·obtain⟨g,o,t,ha,hrow,hpa⟩:=HP.out.get k hlt
   have aet:(k:Int)<(L.length:Int):=by omega
   have amL:g<w5.heap.size:=kT hrow
   have hq0:w5.cell? ⟨g,o+k*2,none⟩=some (.slice t.a L[k].parts.length t.cap):=by have:=kF hrow 0 (by omega);simpa[go_sem]using this
   have hq1:w5.cell? ⟨g,o+k*2+1,none⟩=some (.string L[k].aQ):=by have:=kF hrow 1 (by omega);simpa[go_sem]using this
   have hpl:L[k].parts.length≤4294967000:=hpa.1.1
   have hpr:L[k].aQ.size≤4294967000:=hpa.2
   obtain⟨s5a,Su⟩:=s5
   dsimp only at ha
   subst ha
   have yK:=Lib.hid (show ¬BG L[k]→wL (¬uG n d q pn)=true from fun h=>ER (fun hh=>h (hh.names _ (by rw[←HL.out];exact List.getElem_mem hlt))))
   by_cases hz1:L[k].parts.length≤8
   case neg=>
    go_wp2_with fail
    go_ret
    exact⟨by rw[yK.out (fun h=>hz1 h.1)];rfl,mV⟩
   by_cases hz2:L[k].aQ.size≤60
   case neg=>
    go_wp2_with fail
    go_ret
    exact⟨by rw[yK.out (fun h=>hz2 h.2.1)];rfl,mV⟩
   go_wp2_with fail
   go_loop [6] (fun i=>∃j:Nat,j≤L[k].parts.length∧i=.int .i64 j∧Hid (∀l (h:l<L[k].parts.length),l<j→L[k].parts[l].size≤60)) (fun i=>L[k].parts.length-(intOf i).toNat)
   case atStart=>exact⟨0,Nat.zero_le _,rfl,fun j h hj=>absurd hj (Nat.not_lt_zero _)⟩
   case round=>
    obtain⟨j,hj,rfl,hby⟩:=hrel
    by_cases hjt:j<L[k].parts.length
    ·obtain⟨b2,o2,ha2,hc2,hs2⟩:=hpa.1.get j hjt
     have hs2':L[k].parts[j].size≤4294967000:=hs2
     have aev:b2<w5.heap.size:=World.block_lt_of_cell? w5 _ hc2
     rw[ha2]at hq0
     go_wp2_with fail
     all_goals first
      |(go_ret;exact⟨by rw[yK.out (fun h=>by have:=h.2.2 j hjt;omega)];rfl,mV⟩)
      |(go_round
        case rel=>exact⟨j+1,by omega,by go_num,fun l h hl=>by
         rcases Nat.lt_or_ge l j with h1|h1
         ·exact hby.out l h h1
         ·obtain rfl:l=j:=by omega
          omega⟩
        case measure=>simp[intOf];omega)
    ·have HS:=Lib.hid (show ∀l (h:l<L.length),l<k+1→BG L[l] from fun l h hl=>by
      rcases Nat.lt_or_ge l k with h1|h1
      ·exact hall.out l h h1
      ·obtain rfl:l=k:=by omega
       exact⟨hz1,hz2,fun m hm=>hby.out m hm (by omega)⟩)
     go_wp2_with fail
     go_round
     case rel=>exact⟨k+1,by omega,by go_num,HS.out⟩
     case measure=>simp[intOf];omega
  ·have aet:¬(k:Int)<(L.length:Int):=by omega
   have HA:=Lib.hid (show ∀x∈[n,d.name]++d.aliases++d.targets++d.aP,BG x by
    intro x hx
    rw[←HL.out]at hx
    obtain⟨i,hi,rfl⟩:=List.mem_iff_getElem.1 hx
    exact hall.out i hi (by omega))
   go_wp2_with fail
   go_loop [7] (fun i=>∃k:Nat,k≤d.keys.length∧i=.int .i64 k∧Hid (∀j (h:j<d.keys.length),j<k→d.keys[j].keys.length≤6∧d.keys[j].bF.size≤300)) (fun i=>d.keys.length-(intOf i).toNat)
   case atStart=>exact⟨0,Nat.zero_le _,rfl,fun j h hj=>absurd hj (Nat.not_lt_zero _)⟩
   case round=>
    obtain⟨j,hj,rfl,hset⟩:=hrel
    by_cases hjt:j<d.keys.length
    ·obtain⟨b2,o2,s2,ha2,hq2,hs2⟩:=hkeys.out.get j hjt
     have aev:=kT hq2
     have hy1:w5.cell? ⟨b2,o2+j*5+1,none⟩=some (.slice s2.a d.keys[j].keys.length s2.cap):=by have:=kF hq2 1 (by omega);simpa[go_sem]using this
     have hy2:w5.cell? ⟨b2,o2+j*5+2,none⟩=some (.string d.keys[j].bF):=by have:=kF hq2 2 (by omega);simpa[go_sem]using this
     have hkl:d.keys[j].keys.length≤4294967000:=hs2.1.1
     have hsl:d.keys[j].bF.size≤4294967000:=hs2.2
     have yK:=Lib.hid (show ¬(d.keys[j].keys.length≤6∧d.keys[j].bF.size≤300)→wL (¬uG n d q pn)=true from fun h=>ER (fun hh=>h (hh.sets _ (List.getElem_mem hjt))))
     by_cases hz1:d.keys[j].keys.length≤6
     case neg=>
      go_wp2_with fail
      go_ret
      exact⟨by rw[yK.out (fun h=>hz1 h.1)];rfl,mV⟩
     by_cases hz2:d.keys[j].bF.size≤300
     case neg=>
      go_wp2_with fail
      go_ret
      exact⟨by rw[yK.out (fun h=>hz2 h.2)];rfl,mV⟩
     go_wp2_with fail
     go_round
     case rel=>exact⟨j+1,by omega,by go_num,fun l h hl=>by
      rcases Nat.lt_or_ge l j with h1|h1
      ·exact hset.out l h h1
      ·obtain rfl:l=j:=by omega
       exact⟨hz1,hz2⟩⟩
     case measure=>simp[intOf];omega
    ·have HN:=Lib.hid (aen (show ¬¬uG n d q pn from fun h=>h ⟨by have:=HLn.out;have:=HC.out.1;omega,HC.out.2.1,HC.out.2.2.1,HC.out.2.2.2.1,HC.out.2.2.2.2.1,HC.out.2.2.2.2.2,HA.out,fun x hx=>by
      obtain⟨i,hi,rfl⟩:=List.mem_iff_getElem.1 hx
      exact hset.out i hi (by omega)⟩))
     go_wp2_with fail
     go_ret
     exact⟨by rw[HN.out];rfl,mV⟩
end Go.Proofs.YtibhckkjciflaaaGreatDoor
namespace Go.WW
open Go.RowKit
structure aT where
 i:Int
 t:Int
 m:Int
 k:Int
 f:Int
 a:Int
 b:Int
 n:aG
 d:Entry
 q:aO
 pn:ByteArray
def aH(x:aT)(s:Sl)(r:aC):Array Value:=aj x.i x.t x.m x.k s x.n r x.d x.q x.pn x.f x.a x.b
def dV(w:World)(s:Sl)(r:aC)(x:aT):Prop:=gu w s x.n∧iT w r x.d∧x.q.name.size≤lim∧x.pn.size≤lim
theorem dV.later{w w':World}{s:Sl}{r:aC}{x:aT}(h:dV w s r x)(hb:Below w.heap.size w w'):dV w' s r x:=⟨h.1.later hb,h.2.1.later hb,h.2.2.1,h.2.2.2⟩
end Go.WW
