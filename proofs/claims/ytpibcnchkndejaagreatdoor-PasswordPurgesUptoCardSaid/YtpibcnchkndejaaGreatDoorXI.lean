/- The rest of a long '&&' whose guard says no, in one step. -/
import Derived.Test.YtpibcnchkndejaaGreatDoorXH
namespace Go.WW
open Go.RowKit
def stepF (ops : Array Oper) (o : Oper) (a : Act) : Option Act :=
  if Region.wanted o (yielded ops a.tmps) then
    match o.op with
    | .move x => some (a.put o.dst (a.eval x))
    | .assign x => some (a.put o.dst (a.eval x))
    | .pick c x y => match a.eval c with | .bool b => some (a.put o.dst (if b then a.eval x else a.eval y)) | _ => none
    | _ => none
  else some (a.put o.dst undef)
def runF (ops : Array Oper) : List Oper → Act → Option Act
  | [], a => some a
  | o :: l, a => match stepF ops o a with | some a' => runF ops l a' | none => none
def okF (t : Nat) : Option Act → Bool
  | some a => match a.tmps.getD t undef with | .bool false => true | _ => false
  | none => false
theorem put_defers (a : Act) (d : Option Tmp) (v : Value) : (a.put d v).defers = a.defers := by unfold Act.put; cases d <;> rfl
theorem stepF_defers {ops : Array Oper} {o : Oper} {a a' : Act} (h : stepF ops o a = some a') : a'.defers = a.defers := by
  unfold stepF at h
  split at h
  · split at h
    · cases h; exact put_defers _ _ _
    · cases h; exact put_defers _ _ _
    · split at h
      · cases h; exact put_defers _ _ _
      · cases h
    · cases h
  · cases h; exact put_defers _ _ _
theorem runF_defers {ops : Array Oper} : ∀ {l : List Oper} {a a' : Act}, runF ops l a = some a' → a'.defers = a.defers
  | [], a, a', h => by cases h; rfl
  | o :: l, a, a', h => by
    unfold runF at h
    split at h
    · rename_i b hb; rw [runF_defers h, stepF_defers hb]
    · cases h
theorem wpList_stepF {P : Program} {ops : Array Oper} {Q : Exit → Act → World → Prop} {o : Oper} {rest : List Oper} {a a' : Act} {w : World} (h : stepF ops o a = some a') (hr : wpList P ops Q rest a' w) : wpList P ops Q (o :: rest) a w := by
  refine wpList_step fun K hK => ?_
  unfold stepF at h
  split at h
  · rename_i hw
    rw [if_pos hw]
    unfold Oper.wp
    split at h
    · rename_i x hop; cases h; simp only [execOp, hop, Sem.run_pure, Oper.upon]; exact hK _ _ hr
    · rename_i x hop; cases h; simp only [execOp, hop, Sem.run_pure, Oper.upon]; exact hK _ _ hr
    · rename_i c x y hop
      split at h
      · rename_i b hb; cases h
        simp only [execOp, hop, hb, asBool, Sem.run_bind, Sem.run_pure, Result.andThen, Oper.upon]
        exact hK _ _ (by cases b <;> exact hr)
      · cases h
    · cases h
  · rename_i hw
    cases h
    rw [if_neg hw]
    exact hK _ _ hr
theorem wpList_runF {P : Program} {ops : Array Oper} {Q : Exit → Act → World → Prop} {w : World} : ∀ {l : List Oper} {a a' : Act}, runF ops l a = some a' → Q .normal a' w → wpList P ops Q l a w
  | [], a, a', h, hq => by cases h; exact hq
  | o :: l, a, a', h, hq => by
    unfold runF at h
    split at h
    · rename_i b hb; exact wpList_stepF hb (wpList_runF h hq)
    · cases h
theorem wpList_falls {P : Program} {ops : Array Oper} {Q : Exit → Act → World → Prop} {w : World} {l : List Oper} {a : Act} (t : Nat) (h : okF t (runF ops l a) = true) (hq : ∀ a', a'.tmps.getD t undef = .bool false → a'.defers = a.defers → Q .normal a' w) : wpList P ops Q l a w := by
  cases hr : runF ops l a with
  | none => rw [hr] at h; cases h
  | some a' =>
    refine wpList_runF hr (hq a' ?_ (runF_defers hr))
    rw [hr] at h
    unfold okF at h
    split at h
    · rename_i b hb
      cases hb
      split at h
      · assumption
      · cases h
    · cases h
end Go.WW
/- entry.Valid. Printed by wip/src/genvalid.py. -/
namespace Go.WW
theorem bv_or_and (x y : BitVec 32) : (x &&& ~~~y = 0#32) ↔ (x ||| y = y) := by
  constructor
  · intro h
    apply BitVec.eq_of_getElem_eq
    intro i hi
    have := congrArg (fun v => v[i]) h
    simp at this ⊢
    intro h'
    cases hy : y[i]
    · exact absurd (this h') (by simp [hy])
    · rfl
  · intro h
    apply BitVec.eq_of_getElem_eq
    intro i hi
    have := congrArg (fun v => v[i]) h
    simp at this ⊢
    exact this
theorem attrs_not (a : Int) (h0 : 0 ≤ a) (h1 : a ≤ 4294967295) : (bits .andNot .u32 a 1023 == 0) = attrsOk a := by
  obtain ⟨n, rfl⟩ := Int.eq_ofNat_of_zero_le h0
  have hn : n < 4294967296 := by omega
  have e : bits .andNot .u32 (n : Int) 1023 = ((BitVec.ofInt 32 (n : Int) &&& ~~~ BitVec.ofInt 32 1023).toNat : Int) := by
    show IntKind.u32.wrap ((BitVec.ofInt 32 (n : Int) &&& ~~~ BitVec.ofInt 32 1023).toNat : Int) = _
    have := (BitVec.ofInt 32 (n : Int) &&& ~~~ BitVec.ofInt 32 1023).isLt
    generalize (BitVec.ofInt 32 (n : Int) &&& ~~~ BitVec.ofInt 32 1023).toNat = v at this ⊢
    have e2 : (2 : Int) ^ IntKind.u32.bits = 4294967296 := rfl
    have e3 : IntKind.u32.signed = false := rfl
    simp [IntKind.wrap, e2, e3]
    omega
  have e1 : (BitVec.ofInt 32 (n : Int)).toNat = n := by simp; omega
  have k1 : ((BitVec.ofInt 32 (n : Int) &&& ~~~ BitVec.ofInt 32 1023).toNat = 0) ↔ n ≤ 1023 := by
    rw [show (BitVec.ofInt 32 (n : Int) &&& ~~~ BitVec.ofInt 32 1023).toNat = 0 ↔ BitVec.ofInt 32 (n : Int) &&& ~~~ BitVec.ofInt 32 1023 = 0#32 from ⟨fun h => BitVec.eq_of_toNat_eq (by rw [h]; rfl), fun h => by rw [h]; rfl⟩, bv_or_and]
    rw [show (BitVec.ofInt 32 (n : Int) ||| BitVec.ofInt 32 1023 = BitVec.ofInt 32 1023) ↔ (n ||| 1023 = 1023) from ?_]
    · exact or_1023 n
    · constructor
      · intro h
        have := congrArg BitVec.toNat h
        rw [BitVec.toNat_or, e1] at this
        exact this
      · intro h
        apply BitVec.eq_of_toNat_eq
        rw [BitVec.toNat_or, e1]
        exact h
  rw [e, attrsOk, Bool.eq_iff_iff]
  simp only [beq_iff_eq, decide_eq_true_eq]
  omega

open Go.RowKit
theorem ints1 {w : World} {b : Nat} (x : Int) (h : w.cell? ⟨b, 0, none⟩ = some (.int .i64 x)) : IntsAt w (some ⟨b, 0, none⟩) [x] := by
  refine ⟨by simp [lim], fun i hi => ?_⟩
  match i, hi with
  | 0, _ => exact ⟨_, _, _, rfl, h, x, rfl, rfl⟩
theorem ints2 {w : World} {b : Nat} (x y : Int) (h : w.cell? ⟨b, 0, none⟩ = some (.int .i64 x)) (h1 : w.cell? ⟨b, 1, none⟩ = some (.int .i64 y)) : IntsAt w (some ⟨b, 0, none⟩) [x, y] := by
  refine ⟨by simp [lim], fun i hi => ?_⟩
  match i, hi with
  | 0, _ => exact ⟨_, _, _, rfl, h, x, rfl, rfl⟩
  | 1, _ => exact ⟨_, _, _, rfl, h1, y, rfl, rfl⟩
theorem ints4 {w : World} {b : Nat} (x y z u : Int) (h : w.cell? ⟨b, 0, none⟩ = some (.int .i64 x)) (h1 : w.cell? ⟨b, 1, none⟩ = some (.int .i64 y)) (h2 : w.cell? ⟨b, 2, none⟩ = some (.int .i64 z)) (h3 : w.cell? ⟨b, 3, none⟩ = some (.int .i64 u)) : IntsAt w (some ⟨b, 0, none⟩) [x, y, z, u] := by
  refine ⟨by simp [lim], fun i hi => ?_⟩
  match i, hi with
  | 0, _ => exact ⟨_, _, _, rfl, h, x, rfl, rfl⟩
  | 1, _ => exact ⟨_, _, _, rfl, h1, y, rfl, rfl⟩
  | 2, _ => exact ⟨_, _, _, rfl, h2, z, rfl, rfl⟩
  | 3, _ => exact ⟨_, _, _, rfl, h3, u, rfl, rfl⟩
end Go.WW
namespace Go.Proofs.YtpibcnchkndejaaGreatDoor
open Go.RowKit Go.WW
def validP (d : Entry) : Bool := namesOk d && attrsOk d.attrs && ([d.master].all fun v => btw v 0 65535) && keysOk d && (visible d.policy && decide ((d.policy.size : Int) ≤ 32)) && ([d.expires, d.pwExpires, d.lastFail, d.lastSuccess].all fun v => btw v 0 1099511627776) &&
  ([d.maxLife, d.maxRenew].all fun v => btw v 0 2147483648) && ([d.fails].all fun v => btw v 0 65535) && different d.targets && different d.delegates && (decide ((d.history.length : Int) ≤ 16) && d.history.all (fun h => (h.length : Int) == 16))
theorem valid_eq (d : Entry) : validP d = entryOk d := by
  unfold validP entryOk
  rw [names_eq]
  simp only [keysOk, entSmall, entTimes, List.all_cons, List.all_nil, Bool.and_true]
  rw [Bool.eq_iff_iff]
  simp only [Bool.and_eq_true]
  constructor
  · intro h; simp only [h, and_self]
  · intro h; simp only [h, and_self]
theorem histFn_c (a : Option Addr) (n cap : Nat) (w : World) : Calls Tryz.prog 86 #[.slice a n cap] w fun e w' => e = .returned (.bool ((n : Int) == 16)) ∧ Below w.heap.size w w' := by
  go_enter Tryz.func86, Tryz.ntmps86
  go_wp2_with fail
  go_ret
  exact ⟨by first | rfl | (congr 2; rw [Bool.eq_iff_iff]; simp; omega), Below.refl _ _⟩
theorem histFn_enters : Enters 86 := ⟨fun args w => by kernel_rfl⟩
set_option maxRecDepth 100000 in
set_option maxHeartbeats 8000000 in
theorem eValid_c (r : ERaw) (d : Entry) (w : World) (he : EntAt w r d) : Calls Tryz.prog 25 #[.agg (entC r d)] w fun e w' => e = .returned (.bool (entryOk d)) ∧ Below w.heap.size w w' := by
  have hB : Below w.heap.size w (w.alloc (.cells (entC r d) 31)) := (Below.refl _ w).alloc (Nat.le_refl _) _
  have hps : d.policy.size ≤ maxLen := by have := he.policy; unfold lim at this; unfold maxLen; omega
  have HPS := Lib.hid hps
  clear hps
  have hb0 : Below (w.alloc (.cells (entC r d) 31)).heap.size (w.alloc (.cells (entC r d) 31)) (w.alloc (.cells (entC r d) 31)) := Below.refl _ _
  go_enter Tryz.func25, Tryz.ntmps25
  rw [← valid_eq]
  go_wp2_with fail
  have hbx := hb0
  refine (validNames_c _ _ _ (he.later (below_step hB hbx))).mono ?_
  rintro e w1 ⟨rfl, hy⟩
  have hb1 := below_step hbx hy
  clear hbx hy
  obtain ⟨hcc, hff, hrr⟩ := bcell hb1
  have hsz : w.heap.size < w1.heap.size := by have := hb1.size; simp at this; omega
  cases c1 : namesOk d
  · have HN := Lib.hid (show validP d = false by rw [validP, c1]; simp only [Bool.false_and])
    dsimp only
    first | go_values | go_step | go_upon
    refine wpList_falls 2 (by kernel_rfl) ?_
    intro a' h1 h2
    go_wp2_with fail
    refine bodyPost_ret (results_tmp (t := 2) (by rfl) _ _ _) h2 ?_
    exact ⟨by rw [h1, HN.out], below_step hB hb1⟩
  have hat := attrs_not d.attrs he.attrs.1 he.attrs.2
  cases c2 : attrsOk d.attrs
  · have HN := Lib.hid (show validP d = false by rw [validP, c2]; simp only [Bool.and_false, Bool.false_and])
    rw [c2] at hat
    dsimp only
    iterate 17 (first | go_values | go_skip | go_guarded | go_step | go_upon)
    refine wpList_falls 2 (by kernel_rfl) ?_
    intro a' h1 h2
    go_wp2_with fail
    refine bodyPost_ret (results_tmp (t := 2) (by rfl) _ _ _) h2 ?_
    exact ⟨by rw [h1, HN.out], below_step hB hb1⟩
  rw [c2] at hat
  try dsimp only
  go_wp2_with fail
  have hbx := below_new hb1 (.cells #[.int .i64 d.master] 3)
  refine (within_c _ _ _ 65535 [d.master] _ (ints1 _ (by simp [go_sem]))).mono ?_
  rintro e w2 ⟨rfl, hy⟩
  have hb2 := below_step hbx hy
  clear hcc hff hrr hsz hbx hy
  obtain ⟨hcc, hff, hrr⟩ := bcell hb2
  have hsz : w.heap.size < w2.heap.size := by have := hb2.size; simp at this; omega
  cases c3 : ([d.master].all fun v => btw v 0 65535)
  · have HN := Lib.hid (show validP d = false by rw [validP, c3]; simp only [Bool.and_false, Bool.false_and])
    dsimp only
    first | go_values | go_step | go_upon
    refine wpList_falls 2 (by kernel_rfl) ?_
    intro a' h1 h2
    go_wp2_with fail
    refine bodyPost_ret (results_tmp (t := 2) (by rfl) _ _ _) h2 ?_
    exact ⟨by rw [h1, HN.out], below_step hB hb2⟩
  try dsimp only
  go_wp2_with fail
  have hbx := hb2
  refine (validKeys_c _ _ _ (he.later (below_step hB hbx))).mono ?_
  rintro e w3 ⟨rfl, hy⟩
  have hb3 := below_step hbx hy
  clear hcc hff hrr hsz hbx hy
  obtain ⟨hcc, hff, hrr⟩ := bcell hb3
  have hsz : w.heap.size < w3.heap.size := by have := hb3.size; simp at this; omega
  cases c4 : keysOk d
  · have HN := Lib.hid (show validP d = false by rw [validP, c4]; simp only [Bool.and_false, Bool.false_and])
    dsimp only
    first | go_values | go_step | go_upon
    refine wpList_falls 2 (by kernel_rfl) ?_
    intro a' h1 h2
    go_wp2_with fail
    refine bodyPost_ret (results_tmp (t := 2) (by rfl) _ _ _) h2 ?_
    exact ⟨by rw [h1, HN.out], below_step hB hb3⟩
  try dsimp only
  go_wp2_with fail
  refine (validText_c _ _ HPS.out).mono ?_
  rintro e w' ⟨rfl, rfl⟩
  cases c5 : (visible d.policy && decide ((d.policy.size : Int) ≤ 32))
  · have HN := Lib.hid (show validP d = false by rw [validP, c5]; simp only [Bool.and_false, Bool.false_and])
    dsimp only
    first | go_values | go_step | go_upon
    refine wpList_falls 2 (by kernel_rfl) ?_
    intro a' h1 h2
    go_wp2_with fail
    refine bodyPost_ret (results_tmp (t := 2) (by rfl) _ _ _) h2 ?_
    exact ⟨by rw [h1, HN.out], below_step hB hb3⟩
  try dsimp only
  go_wp2_with fail
  have hbx := below_new hb3 (.cells #[.int .i64 d.expires, .int .i64 d.pwExpires, .int .i64 d.lastFail, .int .i64 d.lastSuccess] 3)
  refine (within_c _ _ _ 1099511627776 [d.expires, d.pwExpires, d.lastFail, d.lastSuccess] _ (ints4 _ _ _ _ (by simp [go_sem]) (by simp [go_sem]) (by simp [go_sem]) (by simp [go_sem]))).mono ?_
  rintro e w4 ⟨rfl, hy⟩
  have hb4 := below_step hbx hy
  clear hcc hff hrr hsz hbx hy
  obtain ⟨hcc, hff, hrr⟩ := bcell hb4
  have hsz : w.heap.size < w4.heap.size := by have := hb4.size; simp at this; omega
  cases c6 : ([d.expires, d.pwExpires, d.lastFail, d.lastSuccess].all fun v => btw v 0 1099511627776)
  · have HN := Lib.hid (show validP d = false by rw [validP, c6]; simp only [Bool.and_false, Bool.false_and])
    dsimp only
    first | go_values | go_step | go_upon
    refine wpList_falls 2 (by kernel_rfl) ?_
    intro a' h1 h2
    go_wp2_with fail
    refine bodyPost_ret (results_tmp (t := 2) (by rfl) _ _ _) h2 ?_
    exact ⟨by rw [h1, HN.out], below_step hB hb4⟩
  try dsimp only
  go_wp2_with fail
  have hbx := below_new hb4 (.cells #[.int .i64 d.maxLife, .int .i64 d.maxRenew] 3)
  refine (within_c _ _ _ 2147483648 [d.maxLife, d.maxRenew] _ (ints2 _ _ (by simp [go_sem]) (by simp [go_sem]))).mono ?_
  rintro e w5 ⟨rfl, hy⟩
  have hb5 := below_step hbx hy
  clear hcc hff hrr hsz hbx hy
  obtain ⟨hcc, hff, hrr⟩ := bcell hb5
  have hsz : w.heap.size < w5.heap.size := by have := hb5.size; simp at this; omega
  cases c7 : ([d.maxLife, d.maxRenew].all fun v => btw v 0 2147483648)
  · have HN := Lib.hid (show validP d = false by rw [validP, c7]; simp only [Bool.and_false, Bool.false_and])
    dsimp only
    first | go_values | go_step | go_upon
    refine wpList_falls 2 (by kernel_rfl) ?_
    intro a' h1 h2
    go_wp2_with fail
    refine bodyPost_ret (results_tmp (t := 2) (by rfl) _ _ _) h2 ?_
    exact ⟨by rw [h1, HN.out], below_step hB hb5⟩
  try dsimp only
  go_wp2_with fail
  have hbx := below_new hb5 (.cells #[.int .i64 d.fails] 3)
  refine (within_c _ _ _ 65535 [d.fails] _ (ints1 _ (by simp [go_sem]))).mono ?_
  rintro e w6 ⟨rfl, hy⟩
  have hb6 := below_step hbx hy
  clear hcc hff hrr hsz hbx hy
  obtain ⟨hcc, hff, hrr⟩ := bcell hb6
  have hsz : w.heap.size < w6.heap.size := by have := hb6.size; simp at this; omega
  cases c8 : ([d.fails].all fun v => btw v 0 65535)
  · have HN := Lib.hid (show validP d = false by rw [validP, c8]; simp only [Bool.and_false, Bool.false_and])
    dsimp only
    first | go_values | go_step | go_upon
    refine wpList_falls 2 (by kernel_rfl) ?_
    intro a' h1 h2
    go_wp2_with fail
    refine bodyPost_ret (results_tmp (t := 2) (by rfl) _ _ _) h2 ?_
    exact ⟨by rw [h1, HN.out], below_step hB hb6⟩
  try dsimp only
  go_wp2_with fail
  have hbx := hb6
  refine (principals_c _ _ d.targets _ (he.targets.later (below_step hB hbx))).mono ?_
  rintro e w7 ⟨rfl, hy⟩
  have hb7 := below_step hbx hy
  clear hcc hff hrr hsz hbx hy
  obtain ⟨hcc, hff, hrr⟩ := bcell hb7
  have hsz : w.heap.size < w7.heap.size := by have := hb7.size; simp at this; omega
  cases c9 : different d.targets
  · have HN := Lib.hid (show validP d = false by rw [validP, c9]; simp only [Bool.and_false, Bool.false_and])
    dsimp only
    first | go_values | go_step | go_upon
    refine wpList_falls 2 (by kernel_rfl) ?_
    intro a' h1 h2
    go_wp2_with fail
    refine bodyPost_ret (results_tmp (t := 2) (by rfl) _ _ _) h2 ?_
    exact ⟨by rw [h1, HN.out], below_step hB hb7⟩
  try dsimp only
  go_wp2_with fail
  have hbx := hb7
  refine (principals_c _ _ d.delegates _ (he.delegates.later (below_step hB hbx))).mono ?_
  rintro e w8 ⟨rfl, hy⟩
  have hb8 := below_step hbx hy
  clear hcc hff hrr hsz hbx hy
  obtain ⟨hcc, hff, hrr⟩ := bcell hb8
  have hsz : w.heap.size < w8.heap.size := by have := hb8.size; simp at this; omega
  cases c10 : different d.delegates
  · have HN := Lib.hid (show validP d = false by rw [validP, c10]; simp only [Bool.and_false, Bool.false_and])
    dsimp only
    first | go_values | go_step | go_upon
    refine wpList_falls 2 (by kernel_rfl) ?_
    intro a' h1 h2
    go_wp2_with fail
    refine bodyPost_ret (results_tmp (t := 2) (by rfl) _ _ _) h2 ?_
    exact ⟨by rw [h1, HN.out], below_step hB hb8⟩
  have HN := Lib.hid (show validP d = (decide ((d.history.length : Int) ≤ 16) && d.history.all (fun h => (h.length : Int) == 16)) by rw [validP, c1, c2, c3, c4, c5, c6, c7, c8, c9, c10]; rfl)
  try dsimp only
  go_wp2_with fail
  refine (everyHist_c r.history.a r.history.cap 86 16 d.history (fun h => (h.length : Int) == 16) _ histFn_enters (he.history.later (below_step hB hb8)) (fun y t p _ _ => histFn_c _ _ _ _)).mono ?_
  rintro e w99 ⟨rfl, hy⟩
  try dsimp only
  go_wp2_with fail
  go_ret
  exact ⟨by rw [HN.out]; rfl, below_step (below_step hB hb8) hy⟩
end Go.Proofs.YtpibcnchkndejaaGreatDoor
