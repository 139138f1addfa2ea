/- The closed facts of a row, joined. Printed by wip/src/genfacts.py. -/
import Derived.Test.YtpibcnchkndejaaGreatDoorWG
import Derived.Test.YtpibcnchkndejaaGreatDoorWE
import Derived.Test.YtpibcnchkndejaaGreatDoorCards
import Derived.Test.YtpibcnchkndejaaGreatDoorTie
import Derived.Lib.LaidTab
import Derived.Stop.LaidErr
import Derived.Deep.DeepWitnessRowRef
namespace Go.Proofs.YtpibcnchkndejaaGreatDoor.Facts
open Go
theorem and_i {a b : Bool} (h : a = true) (k : b = true) : (a && b) = true := by rw [h, k]; rfl
set_option maxRecDepth 2000000 in
theorem closed : joinedFacts Tryz.prog 4 Tryz.f4 Rows.passwordNoneSpec Rows.passwordNoneRow = true := and_i (and_i (and_i (and_i (and_i (and_i (and_i (and_i (and_i (and_i (and_i (and_i (and_i (and_i (and_i (and_i (and_i (and_i (and_i (and_i (and_i (and_i (and_i (and_i (and_i (and_i (and_i (and_i (and_i (and_i (and_i (j0) j1) j2) j3) j4) j5) j6) j7) j8) j9) j10) j11) j12) j13) j14) j15) j16) j17) j18) j19) j20) j21) j22) j23) j24) j25) j26) j27) j28) j29) j30) j31
end Go.Proofs.YtpibcnchkndejaaGreatDoor.Facts
/- PasswordNone is true of every act and every boolean, and the arguments read afterwards as they read before. Condition: the listed package-level variables hold what the program's text lays (the given tie). -/
namespace Go.Proofs.YtpibcnchkndejaaGreatDoor
open Go.ChangeShapes Go.WideShapes Go.ChangeAt Go.RowKit Go.WW Go.Deep
theorem own : ownKnob Tryz.prog.godebug = none := by kernel_rfl
def lit1 : DataW Unit → Value
  | .lit (.int k n) => .int k n
  | _ => undef
def flat1 : DataW Unit → List Value
  | .agg l => l.map lit1
  | _ => []
def flat2 : DataW Unit → List Value
  | .agg l => l.flatMap flat1
  | _ => []
def setTo (cs : List Value) : Obj → Obj
  | .cells _ t frozen => .cells cs.toArray t frozen
  | o => o
/-- A world for the witness: the settled one, the listed variables holding what their initialisers lay. -/
noncomputable def laidWorld (os : Os) : World :=
  { World.holding Tryz.prog os ⟨#[], #[], []⟩ with heap := (((((World.holding Tryz.prog os ⟨#[], #[], []⟩).heap.modify 2 (setTo (flat1 Rows.laid_unicode_utf8_first))).modify 3 (setTo (flat2 Rows.laid_unicode_utf8_acceptRanges))).modify 1 (setTo (flat1 Rows.laid_watchword_sha_start))).modify 4 (setTo (flat1 Rows.laid_watchword_sha_constants))) }
theorem glob_cell {W : World} (hsh : W.ShapedOpen Tryz.prog) {name : String} {g : Nat} {zero arr : Array Value} {t : TypeId} (hg : Tryz.prog.globalNamed name = some g) (hlt : g < Tryz.prog.globals.size) (hz : ((begin Tryz.prog (fun _ _ => 0) default).world.heap[g]?).bind Obj.row? = some (zero, t)) (hv : W.var? Tryz.prog name = some arr) :
    W.heap[g]? = some (.cells arr t (0, 0)) := by
  obtain ⟨cs, h1, -, -⟩ := hsh.1 g zero t hlt hz
  unfold World.var? at hv
  rw [hg] at hv
  simp only [Option.bind_some, h1, Option.some.injEq] at hv
  subst hv; exact h1
set_option maxRecDepth 100000 in
theorem varsAt_of {W : World} (hl : laidMet Tryz.prog Rows.passwordNoneRow.laid W) (hshape : W.ShapedOpen Tryz.prog) : VarsAt W := by
  have h4 := hl.tail
  have t0 := Lib.tabIs_of_head (P := Tryz.prog) (W := W) (name := "watchword/sha.start") (k := .u32) (zs := MiniT.shaT.l0.map fun (n : Nat) => (n : Int)) (g := 1) (t := 242) (e := 26) (n := 8) (by kernel_rfl) (by kernel_rfl) (by kernel_rfl) (by kernel_rfl) (by kernel_rfl) (by kernel_rfl) h4
  have t1 := Lib.tabIs_of_head (P := Tryz.prog) (W := W) (name := "watchword/sha.constants") (k := .u32) (zs := MiniT.shaT.l1.map fun (n : Nat) => (n : Int)) (g := 4) (t := 297) (e := 26) (n := 64) (by kernel_rfl) (by kernel_rfl) (by kernel_rfl) (by kernel_rfl) (by kernel_rfl) (by kernel_rfl) h4.tail
  unfold Lib.TabIs at t0 t1
  rw [List.map_map] at t0 t1
  exact ⟨glob_cell (zero := Array.replicate 8 (.int .u32 0)) hshape (by kernel_rfl) (of_decide_eq_true (by kernel_rfl)) (by kernel_rfl) t0, glob_cell (zero := Array.replicate 64 (.int .u32 0)) hshape (by kernel_rfl) (of_decide_eq_true (by kernel_rfl)) (by kernel_rfl) t1, Tryz.laysM219.s1_3 W hshape⟩
end Go.Proofs.YtpibcnchkndejaaGreatDoor
namespace Go.Proofs.YtpibcnchkndejaaGreatDoor.None
open Go.ChangeShapes Go.WideShapes Go.ChangeAt Go.RowKit Go.WW Go.Deep
set_option maxRecDepth 2000000 in
theorem contract (H : Type) (enc : TypeId × Value → H) (W : World) (base : Nat) (args : Array Value) (ds gs : List (DataW H)) (before : List MemPlace)
    (hval : ∀ (j : Nat) t v, Tryz.f4.params[j]? = some t → args[j]? = some v → Value.okWide Tryz.prog W .any base t v)
    (hW : DataW.Whole enc Tryz.prog Tryz.f4.params.toList Rows.passwordNoneSpec.vars false W args.toList ds gs before) (hlaid : laidMet Tryz.prog Rows.passwordNoneRow.laid W) (hshape : W.ShapedOpen Tryz.prog) :
    Calls Tryz.prog 4 args W fun e W' => ∃ v, e = .returned v ∧ Rows.passwordNoneSpec.post enc Tryz.prog Tryz.f4 false true false false W args v W' := by
  have hW' := hW
  obtain ⟨p, q, hA0, hV, rfl, hfz, hnd⟩ := hW
  have hA : DataW.TrodAll enc Tryz.prog W 0 (fun _ => true) true Tryz.f4.params.toList args.toList ds p := hA0
  rw [Tryz.params4] at hA hval
  obtain ⟨v0, vs0, d0, ds0, p0, q0', hargs, rfl, rfl, h0, r0'⟩ := trodAll_cons hA
  obtain ⟨v1, vs1, d1, ds1, p1, q1, rfl, rfl, rfl, h1, r1⟩ := trodAll_cons r0'
  obtain ⟨rfl, rfl, rfl⟩ := trodAll_nil r1
  obtain rfl : args = #[v0, v1] := by cases args; simp_all
  obtain ⟨rfl, rfl⟩ := trodVars_none hV
  obtain ⟨x0, rfl, hx0⟩ := arg_act (hval 0 48 v0 rfl rfl) h0
  have h1' := h1
  obtain ⟨zv1, rfl, hrest1⟩ := open_bool Tryz.underlying4 (hval 1 4 v1 rfl rfl) h1
  refine (pwNone_c x0 zv1 W hx0 (varsAt_of hlaid hshape)).mono fun e W' ⟨he', hbel⟩ => ?_
  subst he'
  have hlt := hW'.lt
  refine ⟨_, rfl, law_post hW' (fun _ _ _ => trodAll_cons_mk (shut_bool Tryz.underlying4 _) trodAll_mk0) (fun sp hsp => ?_) (fun _ => rfl) hbel (ok_one (by kernel_rfl) rfl (okWide_bool_mk Tryz.underlying4 _))⟩
  rw [Tryz.params4]
  have hT := trodAll_cons_mk (stays readAct ltAct h0 hbel (fun x hx => hlt x (by simp [hx])) (fun x hx => hsp x (by simp [hx]))) (trodAll_cons_mk (stays readBool ltBool h1' hbel (fun x hx => hlt x (by simp [hx])) (fun x hx => hsp x (by simp [hx]))) trodAll_mk0)
  rw [show (p0 ++ (p1 ++ [])) ++ [] = p0 ++ (p1 ++ []) from List.append_nil _]
  exact hT
def wargs : Array Value := #[.agg #[.int .u8 0, .slice none 0 0, .string ⟨#[]⟩, .slice none 0 0, .slice none 0 0, .int .i64 0, .int .i64 0, .slice none 0 0, .int .i64 0, .bool false, .slice none 0 0], .bool false]
set_option maxRecDepth 2000000 in
theorem laid_met (os : Os) : laidMet Tryz.prog Rows.passwordNoneRow.laid ((laidWorld os).forCall (fun _ _ => 0) ⟨#[], wargs, []⟩).memory :=
  laidMet_of_run' 8 (by kernel_rfl) (by kernel_rfl)
def wdata {H : Type} : List (DataW H) := [.agg [.lit (.int .u8 0), .agg [.nil, .lit (.string [])], .nil, .nil, .lit (.int .i64 0), .lit (.int .i64 0), .agg [.nil, .lit (.int .i64 0)], .lit (.bool false), .nil], .lit (.bool false)]
set_option maxRecDepth 2000000 in
theorem reads (os : Os) {H : Type} (enc : TypeId × Value → H) : ∃ places, DataW.whole enc Tryz.prog ((laidWorld os).forCall (fun _ _ => 0) ⟨#[], wargs, []⟩).memory Tryz.f4.params.toList Rows.passwordNoneSpec.vars false wargs.toList 8 = some (wdata, [], places) :=
  ⟨[], by kernel_rfl⟩
set_option maxRecDepth 2000000 in
theorem lifted (os : Os) (started : os.Started) (H : Type) (enc : TypeId × Value → H) (F : Stop.Interp) :
    ReturnsInHanded {} Tryz.checked os 4 .any ((OpenSpec.ofChange Rows.passwordNoneSpec).preRow enc Tryz.prog Tryz.f4 Rows.passwordNoneRow.domain false Rows.passwordNoneRow.laid) (((OpenSpec.ofChange Rows.passwordNoneSpec).at F).post enc Tryz.prog Tryz.f4 false true false false) := by
  obtain ⟨places, hx⟩ := reads os enc
  refine returnsInHanded_of_row (C := Tryz.checked) (s := OpenSpec.ofChange Rows.passwordNoneSpec) own started (by kernel_rfl) Tryz.func4
    (witness_row_at (enc := enc) (C := Tryz.checked) false (laidWorld os) wargs rfl (by kernel_rfl) (by kernel_rfl) (by kernel_rfl)
      (OpenSpec.preRow_of_cond 8 hx (by kernel_rfl) (fun k hk => by cases hk) (by kernel_rfl) (laid_met os))) ?_
  intro W base args ds gs before hval hW _ _ _ hlaid hshape _
  exact contract H enc W base args ds gs before hval hW hlaid hshape
set_option maxRecDepth 2000000 in
theorem said : Rows.PasswordNoneSaid :=
  OpenClaim.holds_of_cond 4 Tryz.f4 rfl rfl rfl rfl rfl rfl rfl ⟨rfl, rfl, rfl, rfl, rfl⟩ rfl rfl rfl rfl rfl (by kernel_rfl) Tryz.func4 Facts.closed
    (of_decide_eq_true (by kernel_rfl)) (by unfold Func.isWrapper; first | (rw [if_pos (by decide +kernel)]; kernel_rfl) | (rw [if_neg (by decide +kernel)]; exact ⟨rfl, rfl⟩))
    (fun os started H enc _ F => by rw [OpenClaim.pre_eq_preRow]; exact lifted os started H enc F)
set_option maxRecDepth 2000000 in
theorem plain (f : FuncId) (fn : Func) (hf : Tryz.pinned.checked.prog.funcNamed "watchword/watchwordlaw27.PasswordNone" = some f) (hfn : Tryz.pinned.checked.prog.funcs[f]? = some fn) :
    false = Tryz.pinned.checked.prog.looks [] ∧ ∀ (j : Nat) t, fn.params[j]? = some t → Tryz.pinned.checked.prog.wantsStandIn t = false := by
  obtain rfl : f = 4 := Option.some.inj ((show Tryz.prog.funcNamed "watchword/watchwordlaw27.PasswordNone" = some 4 by kernel_rfl).symm.trans hf) |>.symm
  obtain rfl : fn = Tryz.f4 := (Option.some.inj (Tryz.func4.symm.trans hfn)).symm
  refine ⟨by kernel_rfl, fun j t ht => ?_⟩
  rw [Tryz.params4] at ht
  have hm := Array.mem_of_getElem? ht
  have : t = 48 ∨ t = 4 := by simpa using hm
  rcases this with rfl | rfl
  · exact (show Tryz.prog.wantsStandIn 48 = false by kernel_rfl)
  · exact (show Tryz.prog.wantsStandIn 4 = false by kernel_rfl)
end Go.Proofs.YtpibcnchkndejaaGreatDoor.None
namespace Go.Proofs.YtpibcnchkndejaaGreatDoor
open Go.ChangeShapes Go.WideShapes Go.ChangeAt Go.RowKit Go.WW Go.Deep
set_option maxRecDepth 2000000 in
theorem passwordNone_full : Rows.PasswordNoneCardSaid :=
  Claim7.holds_tied_plain_at .later [] _ _ _ _ None.said (fun _ h => by cases h) (by kernel_rfl) (fun _ h => by cases h) passwordNone_row_tie rfl ⟨rfl, rfl⟩ (by kernel_rfl) rfl None.plain (by kernel_rfl)
end Go.Proofs.YtpibcnchkndejaaGreatDoor
