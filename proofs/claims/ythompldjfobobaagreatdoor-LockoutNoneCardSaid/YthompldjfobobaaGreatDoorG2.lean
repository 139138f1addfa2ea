/- LockoutNone is true of every name and time, and the arguments read afterwards as they read before. Condition: the listed package-level variables hold what the program's text lays (the given tie). -/
import Derived.Test.YthompldjfobobaaGreatDoorGT
import Derived.Test.YthompldjfobobaaGreatDoorG1

namespace Go.Proofs.YthompldjfobobaaGreatDoor.None
open Go.ChangeShapes Go.WideShapes Go.ChangeAt Go.RowKit Go.WW Go.Deep
set_option maxRecDepth 2000000 in
theorem contract (H : Type) (enc : TypeId × Value → H) (W : World) (base : Nat) (args : Array Value) (ds gs : List (DataW H)) (before : List MemPlace)
    (hval : ∀ (j : Nat) t v, Tryz.f4.params[j]? = some t → args[j]? = some v → Value.okWide Tryz.prog W .any base t v)
    (hW : DataW.Whole enc Tryz.prog Tryz.f4.params.toList Rows.lockoutNoneSpec.vars false W args.toList ds gs before) :
    Calls Tryz.prog 4 args W fun e W' => ∃ v, e = .returned v ∧ Rows.lockoutNoneSpec.post enc Tryz.prog Tryz.f4 false true false false W args v W' := by
  have hW' := hW
  obtain ⟨p, q, hA0, hV, rfl, hfz, hnd⟩ := hW
  have hA : DataW.TrodAll enc Tryz.prog W 0 (fun _ => true) true Tryz.f4.params.toList args.toList ds p := hA0
  rw [Tryz.params4] at hA hval
  obtain ⟨v0, vs0, d0, ds0, p0, q0, hargs, rfl, rfl, h0, r0⟩ := trodAll_cons hA
  obtain ⟨v1, vs1, d1, ds1, p1, q1, rfl, rfl, rfl, h1, r1⟩ := trodAll_cons r0
  obtain ⟨rfl, rfl, rfl⟩ := trodAll_nil r1
  obtain rfl : args = #[v0, v1] := by cases args; simp_all
  obtain ⟨rfl, rfl⟩ := trodVars_none hV
  obtain ⟨ps0, pd0, rfl, pp0⟩ := arg_prin (hval 0 24 v0 rfl rfl) h0
  have h1' := h1
  obtain ⟨nv1, rfl, hrest1⟩ := open_int Tryz.underlying3 (hval 1 3 v1 rfl rfl) h1
  refine (none_c ps0 pd0 nv1 W pp0).mono fun e W' ⟨he', hbel⟩ => ?_
  subst he'
  have hlt := hW'.lt
  refine ⟨_, rfl, law_post hW' (fun _ _ _ => trodAll_cons_mk (shut_bool Tryz.underlying4 _) trodAll_mk0) (fun sp hsp => ?_) (fun _ => rfl) hbel (ok_one (by kernel_rfl) rfl (okWide_bool_mk Tryz.underlying4 _))⟩
  rw [Tryz.params4]
  have hT := trodAll_cons_mk (stays readPrin ltPrin h0 hbel (fun x hx => hlt x (by simp [hx])) (fun x hx => hsp x (by simp [hx]))) (trodAll_cons_mk (stays readInt ltInt h1' hbel (fun x hx => hlt x (by simp [hx])) (fun x hx => hsp x (by simp [hx]))) trodAll_mk0)
  rw [show (p0 ++ (p1 ++ [])) ++ [] = p0 ++ (p1 ++ []) from List.append_nil _]
  exact hT
def wargs : Array Value := #[.agg #[.slice none 0 0, .string ⟨#[]⟩], .int .i64 0]
set_option maxRecDepth 2000000 in
theorem laid_met (os : Os) : laidMet Tryz.prog Rows.lockoutNoneRow.laid ((laidWorld os).forCall (fun _ _ => 0) ⟨#[], wargs, []⟩).memory :=
  laidMet_of_run' 8 (by kernel_rfl) (by kernel_rfl)
def wdata {H : Type} : List (DataW H) := [.agg [.nil, .lit (.string [])], .lit (.int .i64 0)]
set_option maxRecDepth 2000000 in
theorem reads (os : Os) {H : Type} (enc : TypeId × Value → H) : ∃ places, DataW.whole enc Tryz.prog ((laidWorld os).forCall (fun _ _ => 0) ⟨#[], wargs, []⟩).memory Tryz.f4.params.toList Rows.lockoutNoneSpec.vars false wargs.toList 8 = some (wdata, [], places) :=
  ⟨[], by kernel_rfl⟩
set_option maxRecDepth 2000000 in
theorem lifted (os : Os) (started : os.Started) (H : Type) (enc : TypeId × Value → H) (F : Stop.Interp) :
    ReturnsInHanded {} Tryz.checked os 4 .any ((OpenSpec.ofChange Rows.lockoutNoneSpec).preRow enc Tryz.prog Tryz.f4 Rows.lockoutNoneRow.domain false Rows.lockoutNoneRow.laid) (((OpenSpec.ofChange Rows.lockoutNoneSpec).at F).post enc Tryz.prog Tryz.f4 false true false false) := by
  obtain ⟨places, hx⟩ := reads os enc
  refine returnsInHanded_of_row (C := Tryz.checked) (s := OpenSpec.ofChange Rows.lockoutNoneSpec) own started (by kernel_rfl) Tryz.func4
    (witness_row_at (enc := enc) (C := Tryz.checked) false (laidWorld os) wargs rfl (by kernel_rfl) (by kernel_rfl) (by kernel_rfl)
      (OpenSpec.preRow_of_cond 8 hx (by kernel_rfl) (fun k hk => by cases hk) (by kernel_rfl) (laid_met os))) ?_
  intro W base args ds gs before hval hW _ _ _ _ _ _
  exact contract H enc W base args ds gs before hval hW
set_option maxRecDepth 2000000 in
theorem said : Rows.LockoutNoneSaid :=
  OpenClaim.holds_of_cond 4 Tryz.f4 rfl rfl rfl rfl rfl rfl rfl ⟨rfl, rfl, rfl, rfl, rfl⟩ rfl rfl rfl rfl rfl (by kernel_rfl) Tryz.func4 (by kernel_rfl)
    (of_decide_eq_true (by kernel_rfl)) (by unfold Func.isWrapper; first | (rw [if_pos (by decide +kernel)]; kernel_rfl) | (rw [if_neg (by decide +kernel)]; exact ⟨rfl, rfl⟩))
    (fun os started H enc _ F => by rw [OpenClaim.pre_eq_preRow]; exact lifted os started H enc F)
set_option maxRecDepth 2000000 in
theorem plain (f : FuncId) (fn : Func) (hf : Tryz.pinned.checked.prog.funcNamed "watchword/watchwordlaw28.LockoutNone" = some f) (hfn : Tryz.pinned.checked.prog.funcs[f]? = some fn) :
    false = Tryz.pinned.checked.prog.looks [] ∧ ∀ (j : Nat) t, fn.params[j]? = some t → Tryz.pinned.checked.prog.wantsStandIn t = false := by
  obtain rfl : f = 4 := Option.some.inj ((show Tryz.prog.funcNamed "watchword/watchwordlaw28.LockoutNone" = some 4 by kernel_rfl).symm.trans hf) |>.symm
  obtain rfl : fn = Tryz.f4 := (Option.some.inj (Tryz.func4.symm.trans hfn)).symm
  refine ⟨by kernel_rfl, fun j t ht => ?_⟩
  rw [Tryz.params4] at ht
  have hm := Array.mem_of_getElem? ht
  have : t = 24 ∨ t = 3 := by simpa using hm
  rcases this with rfl | rfl
  · exact (show Tryz.prog.wantsStandIn 24 = false by kernel_rfl)
  · exact (show Tryz.prog.wantsStandIn 3 = false by kernel_rfl)
end Go.Proofs.YthompldjfobobaaGreatDoor.None
namespace Go.Proofs.YthompldjfobobaaGreatDoor
open Go.ChangeShapes Go.WideShapes Go.ChangeAt Go.RowKit Go.WW Go.Deep
set_option maxRecDepth 2000000 in
theorem lockoutNone_full : Rows.LockoutNoneCardSaid :=
  Claim7.holds_tied_plain_at .later [] _ _ _ _ None.said (fun _ h => by cases h) (by kernel_rfl) (fun _ h => by cases h) lockoutNone_row_tie rfl ⟨rfl, rfl⟩ (by kernel_rfl) rfl None.plain (by kernel_rfl)
end Go.Proofs.YthompldjfobobaaGreatDoor
