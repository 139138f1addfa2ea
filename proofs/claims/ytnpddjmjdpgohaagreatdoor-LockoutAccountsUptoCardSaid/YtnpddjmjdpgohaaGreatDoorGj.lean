/- LockoutAccounts is true of every list of policies, list of entries, time and number whose reading is of bulk at most 1048576, and the arguments read afterwards as they read before. Conditions: that bulk; the listed package-level variables hold what the program's text lays (the given tie). -/
import Derived.Test.YtnpddjmjdpgohaaGreatDoorGi
import Derived.Test.YtnpddjmjdpgohaaGreatDoorGh

namespace Go.Proofs.YtnpddjmjdpgohaaGreatDoor.Accounts
open Go.ChangeShapes Go.WideShapes Go.ChangeAt Go.RowKit Go.WW Go.Deep
set_option maxRecDepth 2000000 in
theorem contract (H : Type) (enc : TypeId × Value → H) (W : World) (base : Nat) (args : Array Value) (ds gs : List (DataW H)) (before : List MemPlace)
    (hval : ∀ (j : Nat) t v, Tryz.f4.params[j]? = some t → args[j]? = some v → Value.okWide Tryz.prog W .any base t v)
    (hW : DataW.Whole enc Tryz.prog Tryz.f4.params.toList Rows.lockoutAccountsSpec.vars false W args.toList ds gs before) (hcond : Rows.uptoSmall H (ds ++ gs) = true) :
    Calls Tryz.prog 4 args W fun e W' => ∃ v, e = .returned v ∧ Rows.lockoutAccountsSpec.post enc Tryz.prog Tryz.f4 false true false false W args v W' := by
  have hW' := hW
  obtain ⟨p, q, hA0, hV, rfl, hfz, hnd⟩ := hW
  have hA : DataW.TrodAll enc Tryz.prog W 0 (fun _ => true) true Tryz.f4.params.toList args.toList ds p := hA0
  rw [Tryz.params4] at hA hval
  obtain ⟨v0, vs0, d0, ds0, p0, q0, hargs, rfl, rfl, h0, r0⟩ := trodAll_cons hA
  obtain ⟨v1, vs1, d1, ds1, p1, q1, rfl, rfl, rfl, h1, r1⟩ := trodAll_cons r0
  obtain ⟨v2, vs2, d2, ds2, p2, q2, rfl, rfl, rfl, h2, r2⟩ := trodAll_cons r1
  obtain ⟨v3, vs3, d3, ds3, p3, q3, rfl, rfl, rfl, h3, r3⟩ := trodAll_cons r2
  obtain ⟨rfl, rfl, rfl⟩ := trodAll_nil r3
  obtain rfl : args = #[v0, v1, v2, v3] := by cases args; simp_all
  obtain ⟨rfl, rfl⟩ := trodVars_none hV
  have hb := bulk_of hcond
  simp only [List.append_nil, Rows.uptoBulkAll] at hb
  obtain ⟨ts0, tl0, rfl, th0⟩ := arg_pols (hval 0 45 v0 rfl rfl) h0 (by omega)
  obtain ⟨ts1, tl1, rfl, th1⟩ := arg_ents (hval 1 46 v1 rfl rfl) h1 (by omega)
  have h2' := h2
  obtain ⟨nv2, rfl, hrest2⟩ := open_int Tryz.underlying3 (hval 2 3 v2 rfl rfl) h2
  have h3' := h3
  obtain ⟨nv3, rfl, hrest3⟩ := open_int Tryz.underlying3 (hval 3 3 v3 rfl rfl) h3
  refine (accountsLaw_c _ _ _ _ _ _ _ _ W th0 th1).mono fun e W' ⟨he', hbel⟩ => ?_
  subst he'
  have hlt := hW'.lt
  refine ⟨_, rfl, law_post hW' (fun _ _ _ => trodAll_cons_mk (shut_bool Tryz.underlying4 _) trodAll_mk0) (fun sp hsp => ?_) (fun _ => rfl) hbel (ok_one (by kernel_rfl) rfl (okWide_bool_mk Tryz.underlying4 _))⟩
  rw [Tryz.params4]
  have hT := trodAll_cons_mk (stays readPols ltPols h0 hbel (fun x hx => hlt x (by simp [hx])) (fun x hx => hsp x (by simp [hx]))) (trodAll_cons_mk (stays readEnts ltEnts h1 hbel (fun x hx => hlt x (by simp [hx])) (fun x hx => hsp x (by simp [hx]))) (trodAll_cons_mk (stays readInt ltInt h2' hbel (fun x hx => hlt x (by simp [hx])) (fun x hx => hsp x (by simp [hx]))) (trodAll_cons_mk (stays readInt ltInt h3' hbel (fun x hx => hlt x (by simp [hx])) (fun x hx => hsp x (by simp [hx]))) trodAll_mk0)))
  rw [show (p0 ++ (p1 ++ (p2 ++ (p3 ++ [])))) ++ [] = p0 ++ (p1 ++ (p2 ++ (p3 ++ []))) from List.append_nil _]
  exact hT
def wargs : Array Value := #[.slice none 0 0, .slice none 0 0, .int .i64 0, .int .i64 0]
set_option maxRecDepth 2000000 in
theorem laid_met (os : Os) : laidMet Tryz.prog Rows.lockoutAccountsUptoRow.laid ((laidWorld os).forCall (fun _ _ => 0) ⟨#[], wargs, []⟩).memory :=
  laidMet_of_run' 8 (by kernel_rfl) (by kernel_rfl)
def wdata {H : Type} : List (DataW H) := [.nil, .nil, .lit (.int .i64 0), .lit (.int .i64 0)]
set_option maxRecDepth 2000000 in
theorem reads (os : Os) {H : Type} (enc : TypeId × Value → H) : ∃ places, DataW.whole enc Tryz.prog ((laidWorld os).forCall (fun _ _ => 0) ⟨#[], wargs, []⟩).memory Tryz.f4.params.toList Rows.lockoutAccountsSpec.vars false wargs.toList 8 = some (wdata, [], places) :=
  ⟨[], by kernel_rfl⟩
set_option maxRecDepth 2000000 in
theorem liftedUpto (os : Os) (started : os.Started) (H : Type) (enc : TypeId × Value → H) (F : Stop.Interp) :
    ReturnsInHanded {} Tryz.checked os 4 .any ((Rows.OpenSpec.upto Rows.lockoutAccountsSpec).preRow enc Tryz.prog Tryz.f4 Rows.lockoutAccountsUptoRow.domain false Rows.lockoutAccountsUptoRow.laid) (((Rows.OpenSpec.upto Rows.lockoutAccountsSpec).at F).post enc Tryz.prog Tryz.f4 false true false false) := by
  obtain ⟨places, hx⟩ := reads os enc
  refine returnsInHanded_of_row (C := Tryz.checked) (s := Rows.OpenSpec.upto Rows.lockoutAccountsSpec) own started (by kernel_rfl) Tryz.func4
    (witness_row_at (enc := enc) (C := Tryz.checked) false (laidWorld os) wargs rfl (by kernel_rfl) (by kernel_rfl) (by kernel_rfl)
      (OpenSpec.preRow_of_cond 8 hx (by kernel_rfl) (fun k hk => by cases hk; kernel_rfl) (by kernel_rfl) (laid_met os))) ?_
  intro W base args ds gs before hval hW _ hcond _ _ _ _
  exact contract H enc W base args ds gs before hval hW (hcond _ rfl)
set_option maxRecDepth 2000000 in
theorem saidUpto : Rows.LockoutAccountsUptoSaid :=
  OpenClaim.holds_of_cond 4 Tryz.f4 rfl rfl rfl rfl rfl rfl rfl ⟨rfl, rfl, rfl, rfl, rfl⟩ rfl rfl rfl rfl rfl (by kernel_rfl) Tryz.func4 (by kernel_rfl)
    (of_decide_eq_true (by kernel_rfl)) (by unfold Func.isWrapper; first | (rw [if_pos (by decide +kernel)]; kernel_rfl) | (rw [if_neg (by decide +kernel)]; exact ⟨rfl, rfl⟩))
    (fun os started H enc _ F => by rw [OpenClaim.pre_eq_preRow]; exact liftedUpto os started H enc F)
set_option maxRecDepth 2000000 in
theorem plain (f : FuncId) (fn : Func) (hf : Tryz.pinned.checked.prog.funcNamed "watchword/watchwordlaw28.LockoutAccounts" = some f) (hfn : Tryz.pinned.checked.prog.funcs[f]? = some fn) :
    false = Tryz.pinned.checked.prog.looks [] ∧ ∀ (j : Nat) t, fn.params[j]? = some t → Tryz.pinned.checked.prog.wantsStandIn t = false := by
  obtain rfl : f = 4 := Option.some.inj ((show Tryz.prog.funcNamed "watchword/watchwordlaw28.LockoutAccounts" = some 4 by kernel_rfl).symm.trans hf) |>.symm
  obtain rfl : fn = Tryz.f4 := (Option.some.inj (Tryz.func4.symm.trans hfn)).symm
  refine ⟨by kernel_rfl, fun j t ht => ?_⟩
  rw [Tryz.params4] at ht
  have hm := Array.mem_of_getElem? ht
  have : t = 45 ∨ t = 46 ∨ t = 3 := by simpa using hm
  rcases this with rfl | rfl | rfl
  · exact (show Tryz.prog.wantsStandIn 45 = false by kernel_rfl)
  · exact (show Tryz.prog.wantsStandIn 46 = false by kernel_rfl)
  · exact (show Tryz.prog.wantsStandIn 3 = false by kernel_rfl)
end Go.Proofs.YtnpddjmjdpgohaaGreatDoor.Accounts
namespace Go.Proofs.YtnpddjmjdpgohaaGreatDoor
open Go.ChangeShapes Go.WideShapes Go.ChangeAt Go.RowKit Go.WW Go.Deep
set_option maxRecDepth 2000000 in
theorem lockoutAccounts_upto : Rows.LockoutAccountsUptoCardSaid :=
  Claim7.holds_tied_plain_at .later [] _ _ _ _ Accounts.saidUpto (fun _ h => by cases h) (by kernel_rfl) (fun _ h => by cases h) lockoutAccountsUpto_row_tie rfl ⟨rfl, rfl⟩ (by kernel_rfl) rfl Accounts.plain (by kernel_rfl)
end Go.Proofs.YtnpddjmjdpgohaaGreatDoor
