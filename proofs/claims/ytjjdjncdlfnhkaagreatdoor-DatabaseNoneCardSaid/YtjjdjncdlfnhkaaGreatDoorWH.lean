/- The closed facts of a row, joined. Printed by wip/src/genfacts.py. -/
import Derived.Test.YtjjdjncdlfnhkaaGreatDoorWG
import Derived.Test.YtjjdjncdlfnhkaaGreatDoorWE
import Derived.Test.YtjjdjncdlfnhkaaGreatDoorWF
import Derived.Test.YtjjdjncdlfnhkaaGreatDoorCards
import Derived.Test.YtjjdjncdlfnhkaaGreatDoorTie
import Derived.Lib.LaidTab
import Derived.Deep.DeepWitnessRowRef
namespace Go.Proofs.YtjjdjncdlfnhkaaGreatDoor.Facts
open Go
theorem and_i {a b : Bool} (h : a = true) (k : b = true) : (a && b) = true := by rw [h, k]; rfl
set_option maxRecDepth 2000000 in
theorem closed : joinedFacts Tryz.prog 3 Tryz.f3 Rows.databaseNoneSpec Rows.databaseNoneRow = true := and_i (and_i (and_i (and_i (and_i (and_i (and_i (and_i (and_i (and_i (and_i (and_i (and_i (and_i (and_i (and_i (and_i (and_i (and_i (and_i (and_i (and_i (and_i (and_i (and_i (and_i (and_i (and_i (and_i (and_i (and_i (j0) j1) j2) j3) j4) j5) j6) j7) j8) j9) j10) j11) j12) j13) j14) j15) j16) j17) j18) j19) j20) j21) j22) j23) j24) j25) j26) j27) j28) j29) j30) j31
end Go.Proofs.YtjjdjncdlfnhkaaGreatDoor.Facts
/- DatabaseNone is true of every act and every boolean, and the arguments read afterwards as they read before. Condition: the listed package-level variables hold what the program's text lays (the given tie). -/
namespace Go.Proofs.YtjjdjncdlfnhkaaGreatDoor
open Go.ChangeShapes Go.WideShapes Go.ChangeAt Go.RowKit Go.WW Go.Deep
theorem own : ownKnob Tryz.prog.godebug = none := by kernel_rfl
def lit1 : DataW Unit → Value
  | .lit (.int k n) => .int k n
  | _ => undef
def flat1 : DataW Unit → List Value
  | .agg l => l.map lit1
  | _ => []
def flat2 : DataW Unit → List Value
  | .agg l => l.flatMap flat1
  | _ => []
def setTo (cs : List Value) : Obj → Obj
  | .cells _ t frozen => .cells cs.toArray t frozen
  | o => o
def refTo (t : TypeId) (b : Nat) : Obj → Obj
  | .cells _ u frozen => .cells #[.iface t (.pointer (some ⟨b, 0, none⟩))] u frozen
  | o => o
/-- The blocks of the two errors. -/
def errBlocks : Array Obj := #[.cells #[.string ⟨#[118, 97, 108, 117, 101, 32, 111, 117, 116, 32, 111, 102, 32, 114, 97, 110, 103, 101]⟩] 363, .cells #[.string ⟨#[105, 110, 118, 97, 108, 105, 100, 32, 115, 121, 110, 116, 97, 120]⟩] 363]
/-- A world for the witness: the settled one, the listed variables holding what their initialisers lay. -/
noncomputable def laidWorld (os : Os) : World :=
  { World.holding Tryz.prog os ⟨errBlocks, #[], []⟩ with heap := ((((((((World.holding Tryz.prog os ⟨errBlocks, #[], []⟩).heap.modify 4 (setTo (flat1 Rows.laid_unicode_utf8_first))).modify 5 (setTo (flat2 Rows.laid_unicode_utf8_acceptRanges))).modify 8 (setTo (flat1 Rows.laid_watchword_sha_start))).modify 9 (setTo (flat1 Rows.laid_watchword_sha_constants))).modify 6 (setTo (flat1 Rows.laid_math_bits_deBruijn32tab))).modify 7 (setTo (flat1 Rows.laid_math_bits_deBruijn64tab))).modify 3 (setTo (flat1 Rows.laid_internal_strconv_uint64pow10))).modify 2 (refTo 361 (World.settled Tryz.prog os).heap.size) |>.modify 1 (refTo 361 ((World.settled Tryz.prog os).heap.size + 1)) }
end Go.Proofs.YtjjdjncdlfnhkaaGreatDoor
namespace Go.Proofs.YtjjdjncdlfnhkaaGreatDoor.None
open Go.ChangeShapes Go.WideShapes Go.ChangeAt Go.RowKit Go.WW Go.Deep
set_option maxRecDepth 2000000 in
theorem contract (H : Type) (enc : TypeId × Value → H) (W : World) (base : Nat) (args : Array Value) (ds gs : List (DataW H)) (before : List MemPlace)
    (hval : ∀ (j : Nat) t v, Tryz.f3.params[j]? = some t → args[j]? = some v → Value.okWide Tryz.prog W .any base t v)
    (hW : DataW.Whole enc Tryz.prog Tryz.f3.params.toList Rows.databaseNoneSpec.vars false W args.toList ds gs before) :
    Calls Tryz.prog 3 args W fun e W' => ∃ v, e = .returned v ∧ Rows.databaseNoneSpec.post enc Tryz.prog Tryz.f3 false true false false W args v W' := by
  have hW' := hW
  obtain ⟨p, q, hA0, hV, rfl, hfz, hnd⟩ := hW
  have hA : DataW.TrodAll enc Tryz.prog W 0 (fun _ => true) true Tryz.f3.params.toList args.toList ds p := hA0
  rw [Tryz.params3] at hA hval
  obtain ⟨v0, vs0, d0, ds0, p0, q0', hargs, rfl, rfl, h0, r0'⟩ := trodAll_cons hA
  obtain ⟨v1, vs1, d1, ds1, p1, q1, rfl, rfl, rfl, h1, r1⟩ := trodAll_cons r0'
  obtain ⟨rfl, rfl, rfl⟩ := trodAll_nil r1
  obtain rfl : args = #[v0, v1] := by cases args; simp_all
  obtain ⟨rfl, rfl⟩ := trodVars_none hV
  obtain ⟨k0, a0, b0, c0, r0, e0, s0, n0, q0, rfl, eh0, ph0, qh0⟩ := arg_act (hval 0 36 v0 rfl rfl) h0
  have h1' := h1
  obtain ⟨zv1, rfl, hrest1⟩ := open_bool Tryz.underlying4 (hval 1 4 v1 rfl rfl) h1
  refine (dbNone_c k0 a0 b0 c0 r0 e0 s0 n0 q0 zv1 W eh0 ph0 qh0).mono fun e W' ⟨he', hbel⟩ => ?_
  subst he'
  have hlt := hW'.lt
  refine ⟨_, rfl, law_post hW' (fun _ _ _ => trodAll_cons_mk (shut_bool Tryz.underlying4 _) trodAll_mk0) (fun sp hsp => ?_) (fun _ => rfl) hbel (ok_one (by kernel_rfl) rfl (okWide_bool_mk Tryz.underlying4 _))⟩
  rw [Tryz.params3]
  have hT := trodAll_cons_mk (stays readAct ltAct h0 hbel (fun x hx => hlt x (by simp [hx])) (fun x hx => hsp x (by simp [hx]))) (trodAll_cons_mk (stays readBool ltBool h1' hbel (fun x hx => hlt x (by simp [hx])) (fun x hx => hsp x (by simp [hx]))) trodAll_mk0)
  rw [show (p0 ++ (p1 ++ [])) ++ [] = p0 ++ (p1 ++ []) from List.append_nil _]
  exact hT
def wargs : Array Value := #[.agg #[.int .u8 0, .slice none 0 0, .string ⟨#[]⟩, .slice none 0 0, .int .u32 0, .int .i64 0, .slice none 0 0, .string ⟨#[]⟩, .int .i64 0, .int .i64 0, .int .i64 0, .int .i64 0, .int .i64 0, .int .i64 0, .int .i64 0, .slice none 0 0, .slice none 0 0, .slice none 0 0, .slice none 0 0, .string ⟨#[]⟩, .int .i64 0, .int .i64 0, .int .i64 0, .string ⟨#[]⟩, .int .i64 0, .int .i64 0, .int .i64 0, .int .i64 0, .int .i64 0, .int .i64 0, .int .i64 0, .int .i64 0, .int .i64 0], .bool false]
set_option maxRecDepth 2000000 in
theorem laid_met (os : Os) : laidMet Tryz.prog Rows.databaseNoneRow.laid ((laidWorld os).forCall (fun _ _ => 0) ⟨#[], wargs, []⟩).memory :=
  laidMet_of_run' 8 (by kernel_rfl) (by kernel_rfl)
def wdata {H : Type} : List (DataW H) := [.agg [.lit (.int .u8 0), .agg [.agg [.nil, .lit (.string [])], .nil, .lit (.int .u32 0), .lit (.int .i64 0), .nil, .lit (.string []), .lit (.int .i64 0), .lit (.int .i64 0), .lit (.int .i64 0), .lit (.int .i64 0), .lit (.int .i64 0), .lit (.int .i64 0), .lit (.int .i64 0), .nil, .nil, .nil], .agg [.nil, .lit (.string [])], .agg [.lit (.int .i64 0), .lit (.int .i64 0), .lit (.int .i64 0)], .agg [.lit (.string []), .lit (.int .i64 0), .lit (.int .i64 0), .lit (.int .i64 0), .lit (.int .i64 0), .lit (.int .i64 0), .lit (.int .i64 0), .lit (.int .i64 0), .lit (.int .i64 0), .lit (.int .i64 0)]], .lit (.bool false)]
set_option maxRecDepth 2000000 in
theorem reads (os : Os) {H : Type} (enc : TypeId × Value → H) : ∃ places, DataW.whole enc Tryz.prog ((laidWorld os).forCall (fun _ _ => 0) ⟨#[], wargs, []⟩).memory Tryz.f3.params.toList Rows.databaseNoneSpec.vars false wargs.toList 8 = some (wdata, [], places) :=
  ⟨[], by kernel_rfl⟩
set_option maxRecDepth 2000000 in
theorem lifted (os : Os) (started : os.Started) (H : Type) (enc : TypeId × Value → H) (F : Stop.Interp) :
    ReturnsInHanded {} Tryz.checked os 3 .any ((OpenSpec.ofChange Rows.databaseNoneSpec).preRow enc Tryz.prog Tryz.f3 Rows.databaseNoneRow.domain false Rows.databaseNoneRow.laid) (((OpenSpec.ofChange Rows.databaseNoneSpec).at F).post enc Tryz.prog Tryz.f3 false true false false) := by
  obtain ⟨places, hx⟩ := reads os enc
  refine returnsInHanded_of_row (C := Tryz.checked) (s := OpenSpec.ofChange Rows.databaseNoneSpec) own started (by kernel_rfl) Tryz.func3
    (witness_row_atRef (enc := enc) (C := Tryz.checked) false (laidWorld os) wargs rfl (by kernel_rfl) (by kernel_rfl) (by kernel_rfl)
      (OpenSpec.preRow_of_cond 8 hx (by kernel_rfl) (fun k hk => by cases hk) (by kernel_rfl) (laid_met os))) ?_
  intro W base args ds gs before hval hW _ _ _ _ _ _
  exact contract H enc W base args ds gs before hval hW
set_option maxRecDepth 2000000 in
theorem said : Rows.DatabaseNoneSaid :=
  OpenClaim.holds_of_cond 3 Tryz.f3 rfl rfl rfl rfl rfl rfl rfl ⟨rfl, rfl, rfl, rfl, rfl⟩ rfl rfl rfl rfl rfl (by kernel_rfl) Tryz.func3 Facts.closed
    (of_decide_eq_true (by kernel_rfl)) (by unfold Func.isWrapper; first | (rw [if_pos (by decide +kernel)]; kernel_rfl) | (rw [if_neg (by decide +kernel)]; exact ⟨rfl, rfl⟩))
    (fun os started H enc _ F => by rw [OpenClaim.pre_eq_preRow]; exact lifted os started H enc F)
set_option maxRecDepth 2000000 in
theorem plain (f : FuncId) (fn : Func) (hf : Tryz.pinned.checked.prog.funcNamed "watchword/watchwordlaw26.DatabaseNone" = some f) (hfn : Tryz.pinned.checked.prog.funcs[f]? = some fn) :
    true = Tryz.pinned.checked.prog.looks [] ∧ ∀ (j : Nat) t, fn.params[j]? = some t → Tryz.pinned.checked.prog.wantsStandIn t = false := by
  obtain rfl : f = 3 := Option.some.inj ((show Tryz.prog.funcNamed "watchword/watchwordlaw26.DatabaseNone" = some 3 by kernel_rfl).symm.trans hf) |>.symm
  obtain rfl : fn = Tryz.f3 := (Option.some.inj (Tryz.func3.symm.trans hfn)).symm
  refine ⟨by kernel_rfl, fun j t ht => ?_⟩
  rw [Tryz.params3] at ht
  have hm := Array.mem_of_getElem? ht
  have : t = 36 ∨ t = 4 := by simpa using hm
  rcases this with rfl | rfl
  · exact (show Tryz.prog.wantsStandIn 36 = false by kernel_rfl)
  · exact (show Tryz.prog.wantsStandIn 4 = false by kernel_rfl)
end Go.Proofs.YtjjdjncdlfnhkaaGreatDoor.None
namespace Go.Proofs.YtjjdjncdlfnhkaaGreatDoor
open Go.ChangeShapes Go.WideShapes Go.ChangeAt Go.RowKit Go.WW Go.Deep
set_option maxRecDepth 2000000 in
theorem databaseNone_full : Rows.DatabaseNoneCardSaid :=
  Claim7.holds_tied_plain_at .later [] _ _ _ _ None.said (fun _ h => by cases h) (by kernel_rfl) (fun _ h => by cases h) databaseNone_row_tie rfl ⟨rfl, rfl⟩ (by kernel_rfl) rfl None.plain (by kernel_rfl)
end Go.Proofs.YtjjdjncdlfnhkaaGreatDoor
