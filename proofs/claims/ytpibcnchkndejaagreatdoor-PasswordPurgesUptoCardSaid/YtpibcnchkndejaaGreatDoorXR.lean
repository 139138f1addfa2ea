/- The closed facts of a row, joined. Printed by wip/src/genfacts.py. -/
import Derived.Test.YtpibcnchkndejaaGreatDoorXQ
import Derived.Test.YtpibcnchkndejaaGreatDoorXP
import Derived.Test.YtpibcnchkndejaaGreatDoorXO
import Derived.Test.YtpibcnchkndejaaGreatDoorCards
import Derived.Test.YtpibcnchkndejaaGreatDoorTie
import Derived.Lib.LaidTab
import Derived.Stop.LaidErr
import Derived.Deep.DeepWitnessRowRef
namespace Go.Proofs.YtpibcnchkndejaaGreatDoor.Facts
open Go
theorem and_i {a b : Bool} (h : a = true) (k : b = true) : (a && b) = true := by rw [h, k]; rfl
set_option maxRecDepth 2000000 in
theorem closed : joinedFacts Tryz.prog 3 Tryz.f3 Rows.passwordPurgesSpec Rows.passwordPurgesUptoRow = true := and_i (and_i (and_i (and_i (and_i (and_i (and_i (and_i (and_i (and_i (and_i (and_i (and_i (and_i (and_i (and_i (and_i (and_i (and_i (and_i (and_i (and_i (and_i (and_i (and_i (and_i (and_i (and_i (and_i (and_i (and_i (j0) j1) j2) j3) j4) j5) j6) j7) j8) j9) j10) j11) j12) j13) j14) j15) j16) j17) j18) j19) j20) j21) j22) j23) j24) j25) j26) j27) j28) j29) j30) j31
end Go.Proofs.YtpibcnchkndejaaGreatDoor.Facts
/- PasswordPurges is true of every entry, time, lifetime and number whose reading is of bulk at most 1048576, and the arguments read afterwards as they read before. Conditions: that bulk; the listed package-level variables hold what the program's text lays (the given tie). -/
namespace Go.Proofs.YtpibcnchkndejaaGreatDoor
open Go.ChangeShapes Go.WideShapes Go.ChangeAt Go.RowKit Go.WW Go.Deep
theorem bulk_of {H : Type} {ds : List (DataW H)} (h : Rows.uptoSmall H ds = true) : Rows.uptoBulkAll ds ≤ 1048576 := of_decide_eq_true h
theorem own : ownKnob Tryz.prog.godebug = none := by kernel_rfl
def lit1 : DataW Unit → Value
  | .lit (.int k n) => .int k n
  | _ => undef
def flat1 : DataW Unit → List Value
  | .agg l => l.map lit1
  | _ => []
def flat2 : DataW Unit → List Value
  | .agg l => l.flatMap flat1
  | _ => []
def setTo (cs : List Value) : Obj → Obj
  | .cells _ t frozen => .cells cs.toArray t frozen
  | o => o
/-- A world for the witness: the settled one, the listed variables holding what their initialisers lay. -/
noncomputable def laidWorld (os : Os) : World :=
  { World.holding Tryz.prog os ⟨#[], #[], []⟩ with heap := (((((World.holding Tryz.prog os ⟨#[], #[], []⟩).heap.modify 2 (setTo (flat1 Rows.laid_unicode_utf8_first))).modify 3 (setTo (flat2 Rows.laid_unicode_utf8_acceptRanges))).modify 1 (setTo (flat1 Rows.laid_watchword_sha_start))).modify 4 (setTo (flat1 Rows.laid_watchword_sha_constants))) }
theorem glob_cell {W : World} (hsh : W.ShapedOpen Tryz.prog) {name : String} {g : Nat} {zero arr : Array Value} {t : TypeId} (hg : Tryz.prog.globalNamed name = some g) (hlt : g < Tryz.prog.globals.size) (hz : ((begin Tryz.prog (fun _ _ => 0) default).world.heap[g]?).bind Obj.row? = some (zero, t)) (hv : W.var? Tryz.prog name = some arr) :
    W.heap[g]? = some (.cells arr t (0, 0)) := by
  obtain ⟨cs, h1, -, -⟩ := hsh.1 g zero t hlt hz
  unfold World.var? at hv
  rw [hg] at hv
  simp only [Option.bind_some, h1, Option.some.injEq] at hv
  subst hv; exact h1
set_option maxRecDepth 100000 in
theorem varsAt_of {W : World} (hl : laidMet Tryz.prog Rows.passwordPurgesUptoRow.laid W) (hshape : W.ShapedOpen Tryz.prog) : VarsAt W := by
  have h4 := hl.tail
  have t0 := Lib.tabIs_of_head (P := Tryz.prog) (W := W) (name := "watchword/sha.start") (k := .u32) (zs := MiniT.shaT.l0.map fun (n : Nat) => (n : Int)) (g := 1) (t := 242) (e := 26) (n := 8) (by kernel_rfl) (by kernel_rfl) (by kernel_rfl) (by kernel_rfl) (by kernel_rfl) (by kernel_rfl) h4
  have t1 := Lib.tabIs_of_head (P := Tryz.prog) (W := W) (name := "watchword/sha.constants") (k := .u32) (zs := MiniT.shaT.l1.map fun (n : Nat) => (n : Int)) (g := 4) (t := 297) (e := 26) (n := 64) (by kernel_rfl) (by kernel_rfl) (by kernel_rfl) (by kernel_rfl) (by kernel_rfl) (by kernel_rfl) h4.tail
  unfold Lib.TabIs at t0 t1
  rw [List.map_map] at t0 t1
  exact ⟨glob_cell (zero := Array.replicate 8 (.int .u32 0)) hshape (by kernel_rfl) (of_decide_eq_true (by kernel_rfl)) (by kernel_rfl) t0, glob_cell (zero := Array.replicate 64 (.int .u32 0)) hshape (by kernel_rfl) (of_decide_eq_true (by kernel_rfl)) (by kernel_rfl) t1, Tryz.laysM219.s1_3 W hshape⟩
end Go.Proofs.YtpibcnchkndejaaGreatDoor
namespace Go.Proofs.YtpibcnchkndejaaGreatDoor.PasswordPurges
open Go.ChangeShapes Go.WideShapes Go.ChangeAt Go.RowKit Go.WW Go.Deep
set_option maxRecDepth 2000000 in
theorem contract (H : Type) (enc : TypeId × Value → H) (W : World) (base : Nat) (args : Array Value) (ds gs : List (DataW H)) (before : List MemPlace)
    (hval : ∀ (j : Nat) t v, Tryz.f3.params[j]? = some t → args[j]? = some v → Value.okWide Tryz.prog W .any base t v)
    (hW : DataW.Whole enc Tryz.prog Tryz.f3.params.toList Rows.passwordPurgesSpec.vars false W args.toList ds gs before) (hcond : Rows.uptoSmall H (ds ++ gs) = true) (hlaid : laidMet Tryz.prog Rows.passwordPurgesUptoRow.laid W) (hshape : W.ShapedOpen Tryz.prog) :
    Calls Tryz.prog 3 args W fun e W' => ∃ v, e = .returned v ∧ Rows.passwordPurgesSpec.post enc Tryz.prog Tryz.f3 false true false false W args v W' := by
  have hW' := hW
  obtain ⟨p, q, hA0, hV, rfl, hfz, hnd⟩ := hW
  have hA : DataW.TrodAll enc Tryz.prog W 0 (fun _ => true) true Tryz.f3.params.toList args.toList ds p := hA0
  rw [Tryz.params3] at hA hval
  obtain ⟨v0, vs0, d0, ds0, p0, q0, hargs, rfl, rfl, h0, r0⟩ := trodAll_cons hA
  obtain ⟨v1, vs1, d1, ds1, p1, q1, rfl, rfl, rfl, h1, r1⟩ := trodAll_cons r0
  obtain ⟨v2, vs2, d2, ds2, p2, q2, rfl, rfl, rfl, h2, r2⟩ := trodAll_cons r1
  obtain ⟨v3, vs3, d3, ds3, p3, q3, rfl, rfl, rfl, h3, r3⟩ := trodAll_cons r2
  obtain ⟨rfl, rfl, rfl⟩ := trodAll_nil r3
  obtain rfl : args = #[v0, v1, v2, v3] := by cases args; simp_all
  obtain ⟨rfl, rfl⟩ := trodVars_none hV
  have hb := bulk_of hcond
  simp only [List.append_nil, Rows.uptoBulkAll] at hb
  obtain ⟨er0, ed0, rfl, eh0⟩ := arg_ent (hval 0 31 v0 rfl rfl) h0 (by omega)
  have h1' := h1
  obtain ⟨nv1, rfl, hrest1⟩ := open_int Tryz.underlying3 (hval 1 3 v1 rfl rfl) h1
  have h2' := h2
  obtain ⟨nv2, rfl, hrest2⟩ := open_int Tryz.underlying3 (hval 2 3 v2 rfl rfl) h2
  have h3' := h3
  obtain ⟨nv3, rfl, hrest3⟩ := open_int Tryz.underlying3 (hval 3 3 v3 rfl rfl) h3
  refine (purges_c er0 ed0 nv1 nv2 nv3 W eh0 (varsAt_of hlaid hshape)).mono fun e W' ⟨he', hbel⟩ => ?_
  subst he'
  have hlt := hW'.lt
  refine ⟨_, rfl, law_post hW' (fun _ _ _ => trodAll_cons_mk (shut_bool Tryz.underlying4 _) trodAll_mk0) (fun sp hsp => ?_) (fun _ => rfl) hbel (ok_one (by kernel_rfl) rfl (okWide_bool_mk Tryz.underlying4 _))⟩
  rw [Tryz.params3]
  have hT := trodAll_cons_mk (stays readEnt ltEnt h0 hbel (fun x hx => hlt x (by simp [hx])) (fun x hx => hsp x (by simp [hx]))) (trodAll_cons_mk (stays readInt ltInt h1' hbel (fun x hx => hlt x (by simp [hx])) (fun x hx => hsp x (by simp [hx]))) (trodAll_cons_mk (stays readInt ltInt h2' hbel (fun x hx => hlt x (by simp [hx])) (fun x hx => hsp x (by simp [hx]))) (trodAll_cons_mk (stays readInt ltInt h3' hbel (fun x hx => hlt x (by simp [hx])) (fun x hx => hsp x (by simp [hx]))) trodAll_mk0)))
  rw [show (p0 ++ (p1 ++ (p2 ++ (p3 ++ [])))) ++ [] = p0 ++ (p1 ++ (p2 ++ (p3 ++ []))) from List.append_nil _]
  exact hT
def wargs : Array Value := #[.agg #[.slice none 0 0, .string ⟨#[]⟩, .slice none 0 0, .int .u32 0, .int .i64 0, .slice none 0 0, .string ⟨#[]⟩, .int .i64 0, .int .i64 0, .int .i64 0, .int .i64 0, .int .i64 0, .int .i64 0, .int .i64 0, .slice none 0 0, .slice none 0 0, .slice none 0 0], .int .i64 0, .int .i64 0, .int .i64 0]
set_option maxRecDepth 2000000 in
theorem laid_met (os : Os) : laidMet Tryz.prog Rows.passwordPurgesUptoRow.laid ((laidWorld os).forCall (fun _ _ => 0) ⟨#[], wargs, []⟩).memory :=
  laidMet_of_run' 8 (by kernel_rfl) (by kernel_rfl)
def wdata {H : Type} : List (DataW H) := [.agg [.agg [.nil, .lit (.string [])], .nil, .lit (.int .u32 0), .lit (.int .i64 0), .nil, .lit (.string []), .lit (.int .i64 0), .lit (.int .i64 0), .lit (.int .i64 0), .lit (.int .i64 0), .lit (.int .i64 0), .lit (.int .i64 0), .lit (.int .i64 0), .nil, .nil, .nil], .lit (.int .i64 0), .lit (.int .i64 0), .lit (.int .i64 0)]
set_option maxRecDepth 2000000 in
theorem reads (os : Os) {H : Type} (enc : TypeId × Value → H) : ∃ places, DataW.whole enc Tryz.prog ((laidWorld os).forCall (fun _ _ => 0) ⟨#[], wargs, []⟩).memory Tryz.f3.params.toList Rows.passwordPurgesSpec.vars false wargs.toList 8 = some (wdata, [], places) :=
  ⟨[], by kernel_rfl⟩
set_option maxRecDepth 2000000 in
theorem liftedUpto (os : Os) (started : os.Started) (H : Type) (enc : TypeId × Value → H) (F : Stop.Interp) :
    ReturnsInHanded {} Tryz.checked os 3 .any ((Rows.OpenSpec.upto Rows.passwordPurgesSpec).preRow enc Tryz.prog Tryz.f3 Rows.passwordPurgesUptoRow.domain false Rows.passwordPurgesUptoRow.laid) (((Rows.OpenSpec.upto Rows.passwordPurgesSpec).at F).post enc Tryz.prog Tryz.f3 false true false false) := by
  obtain ⟨places, hx⟩ := reads os enc
  refine returnsInHanded_of_row (C := Tryz.checked) (s := Rows.OpenSpec.upto Rows.passwordPurgesSpec) own started (by kernel_rfl) Tryz.func3
    (witness_row_at (enc := enc) (C := Tryz.checked) false (laidWorld os) wargs rfl (by kernel_rfl) (by kernel_rfl) (by kernel_rfl)
      (OpenSpec.preRow_of_cond 8 hx (by kernel_rfl) (fun k hk => by cases hk; kernel_rfl) (by kernel_rfl) (laid_met os))) ?_
  intro W base args ds gs before hval hW _ hcond _ hlaid hshape _
  exact contract H enc W base args ds gs before hval hW (hcond _ rfl) hlaid hshape
set_option maxRecDepth 2000000 in
theorem saidUpto : Rows.PasswordPurgesUptoSaid :=
  OpenClaim.holds_of_cond 3 Tryz.f3 rfl rfl rfl rfl rfl rfl rfl ⟨rfl, rfl, rfl, rfl, rfl⟩ rfl rfl rfl rfl rfl (by kernel_rfl) Tryz.func3 Facts.closed
    (of_decide_eq_true (by kernel_rfl)) (by unfold Func.isWrapper; first | (rw [if_pos (by decide +kernel)]; kernel_rfl) | (rw [if_neg (by decide +kernel)]; exact ⟨rfl, rfl⟩))
    (fun os started H enc _ F => by rw [OpenClaim.pre_eq_preRow]; exact liftedUpto os started H enc F)
set_option maxRecDepth 2000000 in
theorem plain (f : FuncId) (fn : Func) (hf : Tryz.pinned.checked.prog.funcNamed "watchword/watchwordlaw27.PasswordPurges" = some f) (hfn : Tryz.pinned.checked.prog.funcs[f]? = some fn) :
    false = Tryz.pinned.checked.prog.looks [] ∧ ∀ (j : Nat) t, fn.params[j]? = some t → Tryz.pinned.checked.prog.wantsStandIn t = false := by
  obtain rfl : f = 3 := Option.some.inj ((show Tryz.prog.funcNamed "watchword/watchwordlaw27.PasswordPurges" = some 3 by kernel_rfl).symm.trans hf) |>.symm
  obtain rfl : fn = Tryz.f3 := (Option.some.inj (Tryz.func3.symm.trans hfn)).symm
  refine ⟨by kernel_rfl, fun j t ht => ?_⟩
  rw [Tryz.params3] at ht
  have hm := Array.mem_of_getElem? ht
  have : t = 31 ∨ t = 3 := by simpa using hm
  rcases this with rfl | rfl
  · exact (show Tryz.prog.wantsStandIn 31 = false by kernel_rfl)
  · exact (show Tryz.prog.wantsStandIn 3 = false by kernel_rfl)
end Go.Proofs.YtpibcnchkndejaaGreatDoor.PasswordPurges
namespace Go.Proofs.YtpibcnchkndejaaGreatDoor
open Go.ChangeShapes Go.WideShapes Go.ChangeAt Go.RowKit Go.WW Go.Deep
set_option maxRecDepth 2000000 in
theorem passwordPurges_upto : Rows.PasswordPurgesUptoCardSaid :=
  Claim7.holds_tied_plain_at .later [] _ _ _ _ PasswordPurges.saidUpto (fun _ h => by cases h) (by kernel_rfl) (fun _ h => by cases h) passwordPurgesUpto_row_tie rfl ⟨rfl, rfl⟩ (by kernel_rfl) rfl PasswordPurges.plain (by kernel_rfl)
end Go.Proofs.YtpibcnchkndejaaGreatDoor
