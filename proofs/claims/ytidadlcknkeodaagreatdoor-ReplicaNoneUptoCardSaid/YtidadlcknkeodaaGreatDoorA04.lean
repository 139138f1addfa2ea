/- A part of the proof. -/
import Derived.Test.YtidadlcknkeodaaGreatDoorA03
import Derived.OrdersIn
import Derived.Laws.Rows
import Derived.Lib.Join
import Derived.Lib.Index
/- The evaluator's drawn regions: the order, and what waits for what. -/
namespace Go.Mini
open Go.RowKit
/-! ### The order is one of all operations -/
theorem insP_perm (p : PE) (l : List PE) : (insP p l).Perm (p :: l) := by
  induction l with
  | nil => exact .refl _
  | cons q l ih =>
    show (Bool.rec (p :: q :: l) (q :: insP p l) (anyIn p.pre (q :: l)) : List PE).Perm _
    cases anyIn p.pre (q :: l) with
    | false => exact .refl _
    | true => exact (ih.cons q).trans (.swap _ _ _)
theorem orderP_perm (l : List PE) : ∀ acc, (orderP l acc).Perm (l ++ acc) := by
  induction l with
  | nil => intro acc; exact .refl _
  | cons p l ih =>
    intro acc
    show (orderP l (Bool.rec (acc ++ [p]) (insP p acc) (floats p.o))).Perm _
    refine (ih _).trans ?_
    have : (Bool.rec (acc ++ [p]) (insP p acc) (floats p.o) : List PE).Perm (p :: acc) := by
      cases floats p.o with
      | false => exact List.perm_append_comm
      | true => exact insP_perm p acc
    refine (this.append_left l).trans ?_
    exact List.perm_middle
/-! ### What waits -/
def Down (ops : Array Oper) (listed : Array Bool) : Prop := ∀ k o, ops[k]? = some o → listed.getD k false = true → ∀ e ∈ o.after, Region.binds .any e = true → listed.getD e.on false = true
def Waits (ops : Array Oper) (mask : Nat) (o : Oper) : Prop :=
  ∀ listed, Down ops listed → (∀ e ∈ o.after, Region.binds .any e = true → listed.getD e.on false = true) → ∀ i, mask.testBit i = true → listed.getD i false = true
theorem preOf_cons (ms : List Nat) (e : Edge) (es : List Edge) : preOf ms (e :: es) =
    Bool.rec (preOf ms es) (Nat.lor (preOf ms es) (Nat.lor (Nat.shiftLeft 1 e.on) (match lget ms e.on with | some m => m | none => 0))) (Region.binds .any e) := rfl
theorem preOf_bits (ms : List Nat) : ∀ (es : List Edge) (i : Nat), (preOf ms es).testBit i = true → ∃ e ∈ es, Region.binds .any e = true ∧ (e.on = i ∨ ∃ m, ms[e.on]? = some m ∧ m.testBit i = true) := by
  intro es
  induction es with
  | nil => intro i h; have e : preOf ms [] = 0 := rfl
           rw [e] at h; simp at h
  | cons e es ih =>
    intro i h
    rw [preOf_cons] at h
    cases hb : Region.binds .any e with
    | false =>
      rw [hb] at h
      obtain ⟨e', h1, h2⟩ := ih i h
      exact ⟨e', by simp [h1], h2⟩
    | true =>
      rw [hb] at h
      have h : ((preOf ms es) ||| ((1 <<< e.on) ||| (match lget ms e.on with | some m => m | none => 0))).testBit i = true := h
      rw [Nat.testBit_or, Nat.testBit_or, Bool.or_eq_true, Bool.or_eq_true] at h
      rcases h with h | h | h
      · obtain ⟨e', h1, h2⟩ := ih i h
        exact ⟨e', by simp [h1], h2⟩
      · refine ⟨e, by simp, hb, .inl ?_⟩
        rw [Nat.one_shiftLeft, Nat.testBit_two_pow] at h
        simpa using h
      · refine ⟨e, by simp, hb, .inr ?_⟩
        rw [lget_eq] at h
        split at h
        · rename_i m hm; exact ⟨m, hm, h⟩
        · simp at h
theorem pes_cons (o : Oper) (l : List Oper) (i : Nat) (ms : List Nat) : pes (o :: l) i ms = ⟨i, o, preOf ms o.after.toList⟩ :: pes l (i + 1) (ms ++ [preOf ms o.after.toList]) := rfl
theorem pes_ok (ops : Array Oper) : ∀ (l : List Oper) (i : Nat) (ms : List Nat), ms.length = i → (∀ (j : Nat), l[j]? = ops[i + j]?) → (∀ (j : Nat) (m : Nat), ms[j]? = some m → ∃ o, ops[j]? = some o ∧ Waits ops m o) →
    (pes l i ms).map (·.i) = List.range' i l.length ∧ ∀ p ∈ pes l i ms, ops[p.i]? = some p.o ∧ Waits ops p.pre p.o := by
  intro l
  induction l with
  | nil => intro i ms _ _ _; exact ⟨rfl, fun p hp => by cases hp⟩
  | cons o l ih =>
    intro i ms hlen hl hms
    rw [pes_cons]
    have ho : ops[i]? = some o := by have := hl 0; simpa using this.symm
    have hw : Waits ops (preOf ms o.after.toList) o := by
      intro listed hd he k hk
      obtain ⟨e, h1, h2, h3⟩ := preOf_bits ms _ k hk
      have h1 : e ∈ o.after := by simpa using h1
      rcases h3 with rfl | ⟨m, hm, hmk⟩
      · exact he e h1 h2
      · obtain ⟨o', ho', hw'⟩ := hms _ m hm
        exact hw' listed hd (fun e' he' hb' => hd _ o' ho' (he e h1 h2) e' he' hb') k hmk
    obtain ⟨h1, h2⟩ := ih (i + 1) (ms ++ [preOf ms o.after.toList]) (by simp [hlen]) (fun j => by have := hl (j + 1); simpa [Nat.add_assoc, Nat.add_comm 1 j] using this) (fun j m hm => by
      by_cases hj : j < ms.length
      · rw [List.getElem?_append_left hj] at hm; exact hms j m hm
      · rw [List.getElem?_append_right (by omega)] at hm
        have hj0 : j - ms.length = 0 := by
          have := (List.getElem?_eq_some_iff.1 hm).1
          simp at this; omega
        rw [hj0] at hm
        simp at hm
        subst hm
        exact ⟨o, by rw [show j = i by omega]; exact ho, hw⟩)
    refine ⟨by simp [h1, List.range'_succ], fun p hp => ?_⟩
    rcases List.mem_cons.1 hp with rfl | hp
    · exact ⟨ho, hw⟩
    · exact h2 p hp
structure PlanOk (ops : Array Oper) (l : List PE) : Prop where
  idx : (l.map (·.i)).Perm (List.range ops.size)
  el : ∀ p ∈ l, ops[p.i]? = some p.o ∧ Waits ops p.pre p.o
  ok : okPi ops l = true
theorem plan_ok {ops : Array Oper} {l : List PE} (h : planP ops = some l) : PlanOk ops l := by
  unfold planP at h
  cases hc : okPi ops (orderP (pes ops.toList 0 []) []) with
  | false => rw [hc] at h; cases h
  | true =>
    rw [hc] at h
    cases h
    have hp := orderP_perm (pes ops.toList 0 []) []
    rw [List.append_nil] at hp
    obtain ⟨h1, h2⟩ := pes_ok ops ops.toList 0 [] rfl (fun j => by simp) (fun j m hm => by simp at hm)
    refine ⟨?_, fun p hpm => h2 p (hp.mem_iff.1 hpm), hc⟩
    have := hp.map (·.i)
    rw [h1, ← List.range_eq_range'] at this
    simpa using this
end Go.Mini
/- The evaluator's drawn regions: equality, what touches what, ghosts. -/
namespace Go.Mini
open Go.RowKit
/-! ### Equality -/
theorem eqNs_eq : ∀ a b, eqNs a b = true → a = b
  | [], [], _ => rfl
  | [], _ :: _, h => by simp [eqNs] at h
  | _ :: _, [], h => by simp [eqNs] at h
  | a :: x, b :: y, h => by
    simp only [eqNs, Bool.and_eq_true, Nat.beq_eq] at h
    rw [h.1, eqNs_eq x y h.2]
mutual
theorem eqv_eq : ∀ u v, eqv u v = true → u = v
  | .fn f a b, .fn g c d, h => by
    simp only [eqv, Bool.and_eq_true, Nat.beq_eq] at h
    rw [h.1, eqvs_eq a c h.2.1, eqvs_eq b d h.2.2]
  | .agg a, .agg b, h => by simp only [eqv] at h; rw [eqvs_eq a b h]
  | .tup a, .tup b, h => by simp only [eqv] at h; rw [eqvs_eq a b h]
  | .bool a, .bool b, h => by simp only [eqv, beq_iff_eq] at h; rw [h]
  | .int k a, .int k' b, h => by simp only [eqv, Bool.and_eq_true, decide_eq_true_eq] at h; rw [h.1, h.2]
  | .str a, .str b, h => by simp only [eqv] at h; rw [eqNs_eq a b h]
  | .nilP, .nilP, _ => rfl
  | .nilS, .nilS, _ => rfl
  | .nilM, .nilM, _ => rfl
  | .nilF, .nilF, _ => rfl
  | .nilI, .nilI, _ => rfl
  | .ptr a b, .ptr c d, h => by simp only [eqv, Bool.and_eq_true, Nat.beq_eq] at h; rw [h.1, h.2]
  | .mp a, .mp b, h => by simp only [eqv, Nat.beq_eq] at h; rw [h]
  | .opq a, .opq b, h => by simp only [eqv, Nat.beq_eq] at h; rw [h]
  | .sl a b c d, .sl a' b' c' d', h => by simp only [eqv, Bool.and_eq_true, Nat.beq_eq] at h; rw [h.1.1, h.1.2, h.2.1, h.2.2]
  | .slo a b c d, .slo a' b' c' d', h => by simp only [eqv, Bool.and_eq_true, Nat.beq_eq] at h; rw [h.1.1, h.1.2, h.2.1, h.2.2]
  | .sle a b c d, .sle a' b' c' d', h => by simp only [eqv, Bool.and_eq_true, Nat.beq_eq] at h; rw [h.1.1, h.1.2, h.2.1, h.2.2]
  | .yld a, .yld b, h => by simp only [eqv, Nat.beq_eq] at h; rw [h]
  | .bool .., .int .., h | .bool .., .str .., h | .bool .., .nilP, h | .bool .., .ptr .., h | .bool .., .nilS, h | .bool .., .sl .., h | .bool .., .slo .., h | .bool .., .sle .., h | .bool .., .nilM, h | .bool .., .mp .., h | .bool .., .fn .., h | .bool .., .yld .., h | .bool .., .nilF, h | .bool .., .nilI, h | .bool .., .agg .., h | .bool .., .tup .., h => by simp [eqv] at h
  | .int .., .bool .., h | .int .., .str .., h | .int .., .nilP, h | .int .., .ptr .., h | .int .., .nilS, h | .int .., .sl .., h | .int .., .slo .., h | .int .., .sle .., h | .int .., .nilM, h | .int .., .mp .., h | .int .., .fn .., h | .int .., .yld .., h | .int .., .nilF, h | .int .., .nilI, h | .int .., .agg .., h | .int .., .tup .., h => by simp [eqv] at h
  | .str .., .bool .., h | .str .., .int .., h | .str .., .nilP, h | .str .., .ptr .., h | .str .., .nilS, h | .str .., .sl .., h | .str .., .slo .., h | .str .., .sle .., h | .str .., .nilM, h | .str .., .mp .., h | .str .., .fn .., h | .str .., .yld .., h | .str .., .nilF, h | .str .., .nilI, h | .str .., .agg .., h | .str .., .tup .., h => by simp [eqv] at h
  | .nilP, .bool .., h | .nilP, .int .., h | .nilP, .str .., h | .nilP, .ptr .., h | .nilP, .nilS, h | .nilP, .sl .., h | .nilP, .slo .., h | .nilP, .sle .., h | .nilP, .nilM, h | .nilP, .mp .., h | .nilP, .fn .., h | .nilP, .yld .., h | .nilP, .nilF, h | .nilP, .nilI, h | .nilP, .agg .., h | .nilP, .tup .., h => by simp [eqv] at h
  | .ptr .., .bool .., h | .ptr .., .int .., h | .ptr .., .str .., h | .ptr .., .nilP, h | .ptr .., .nilS, h | .ptr .., .sl .., h | .ptr .., .slo .., h | .ptr .., .sle .., h | .ptr .., .nilM, h | .ptr .., .mp .., h | .ptr .., .fn .., h | .ptr .., .yld .., h | .ptr .., .nilF, h | .ptr .., .nilI, h | .ptr .., .agg .., h | .ptr .., .tup .., h => by simp [eqv] at h
  | .nilS, .bool .., h | .nilS, .int .., h | .nilS, .str .., h | .nilS, .nilP, h | .nilS, .ptr .., h | .nilS, .sl .., h | .nilS, .slo .., h | .nilS, .sle .., h | .nilS, .nilM, h | .nilS, .mp .., h | .nilS, .fn .., h | .nilS, .yld .., h | .nilS, .nilF, h | .nilS, .nilI, h | .nilS, .agg .., h | .nilS, .tup .., h => by simp [eqv] at h
  | .sl .., .bool .., h | .sl .., .int .., h | .sl .., .str .., h | .sl .., .nilP, h | .sl .., .ptr .., h | .sl .., .nilS, h | .sl .., .slo .., h | .sl .., .sle .., h | .sl .., .nilM, h | .sl .., .mp .., h | .sl .., .fn .., h | .sl .., .yld .., h | .sl .., .nilF, h | .sl .., .nilI, h | .sl .., .agg .., h | .sl .., .tup .., h => by simp [eqv] at h
  | .slo .., .bool .., h | .slo .., .int .., h | .slo .., .str .., h | .slo .., .nilP, h | .slo .., .ptr .., h | .slo .., .nilS, h | .slo .., .sl .., h | .slo .., .sle .., h | .slo .., .nilM, h | .slo .., .mp .., h | .slo .., .fn .., h | .slo .., .yld .., h | .slo .., .nilF, h | .slo .., .nilI, h | .slo .., .agg .., h | .slo .., .tup .., h => by simp [eqv] at h
  | .nilM, .bool .., h | .nilM, .int .., h | .nilM, .str .., h | .nilM, .nilP, h | .nilM, .ptr .., h | .nilM, .nilS, h | .nilM, .sl .., h | .nilM, .slo .., h | .nilM, .sle .., h | .nilM, .mp .., h | .nilM, .fn .., h | .nilM, .yld .., h | .nilM, .nilF, h | .nilM, .nilI, h | .nilM, .agg .., h | .nilM, .tup .., h => by simp [eqv] at h
  | .mp .., .bool .., h | .mp .., .int .., h | .mp .., .str .., h | .mp .., .nilP, h | .mp .., .ptr .., h | .mp .., .nilS, h | .mp .., .sl .., h | .mp .., .slo .., h | .mp .., .sle .., h | .mp .., .nilM, h | .mp .., .fn .., h | .mp .., .yld .., h | .mp .., .nilF, h | .mp .., .nilI, h | .mp .., .agg .., h | .mp .., .tup .., h => by simp [eqv] at h
  | .fn .., .bool .., h | .fn .., .int .., h | .fn .., .str .., h | .fn .., .nilP, h | .fn .., .ptr .., h | .fn .., .nilS, h | .fn .., .sl .., h | .fn .., .slo .., h | .fn .., .sle .., h | .fn .., .nilM, h | .fn .., .mp .., h | .fn .., .yld .., h | .fn .., .nilF, h | .fn .., .nilI, h | .fn .., .agg .., h | .fn .., .tup .., h => by simp [eqv] at h
  | .nilF, .bool .., h | .nilF, .int .., h | .nilF, .str .., h | .nilF, .nilP, h | .nilF, .ptr .., h | .nilF, .nilS, h | .nilF, .sl .., h | .nilF, .slo .., h | .nilF, .sle .., h | .nilF, .nilM, h | .nilF, .mp .., h | .nilF, .fn .., h | .nilF, .yld .., h | .nilF, .nilI, h | .nilF, .agg .., h | .nilF, .tup .., h => by simp [eqv] at h
  | .nilI, .bool .., h | .nilI, .int .., h | .nilI, .str .., h | .nilI, .nilP, h | .nilI, .ptr .., h | .nilI, .nilS, h | .nilI, .sl .., h | .nilI, .slo .., h | .nilI, .sle .., h | .nilI, .nilM, h | .nilI, .mp .., h | .nilI, .fn .., h | .nilI, .yld .., h | .nilI, .nilF, h | .nilI, .agg .., h | .nilI, .tup .., h => by simp [eqv] at h
  | .agg .., .bool .., h | .agg .., .int .., h | .agg .., .str .., h | .agg .., .nilP, h | .agg .., .ptr .., h | .agg .., .nilS, h | .agg .., .sl .., h | .agg .., .slo .., h | .agg .., .sle .., h | .agg .., .nilM, h | .agg .., .mp .., h | .agg .., .fn .., h | .agg .., .yld .., h | .agg .., .nilF, h | .agg .., .nilI, h | .agg .., .tup .., h => by simp [eqv] at h
  | .tup .., .bool .., h | .tup .., .int .., h | .tup .., .str .., h | .tup .., .nilP, h | .tup .., .ptr .., h | .tup .., .nilS, h | .tup .., .sl .., h | .tup .., .slo .., h | .tup .., .sle .., h | .tup .., .nilM, h | .tup .., .mp .., h | .tup .., .fn .., h | .tup .., .yld .., h | .tup .., .nilF, h | .tup .., .nilI, h | .tup .., .agg .., h => by simp [eqv] at h
  | .sle .., .bool .., h | .sle .., .int .., h | .sle .., .str .., h | .sle .., .nilP, h | .sle .., .ptr .., h | .sle .., .nilS, h | .sle .., .sl .., h | .sle .., .slo .., h | .sle .., .nilM, h | .sle .., .mp .., h | .sle .., .fn .., h | .sle .., .yld .., h | .sle .., .nilF, h | .sle .., .nilI, h | .sle .., .agg .., h | .sle .., .tup .., h => by simp [eqv] at h
  | .yld .., .bool .., h | .yld .., .int .., h | .yld .., .str .., h | .yld .., .nilP, h | .yld .., .ptr .., h | .yld .., .nilS, h | .yld .., .sl .., h | .yld .., .slo .., h | .yld .., .sle .., h | .yld .., .nilM, h | .yld .., .mp .., h | .yld .., .fn .., h | .yld .., .nilF, h | .yld .., .nilI, h | .yld .., .agg .., h | .yld .., .tup .., h => by simp [eqv] at h
  | .opq .., .bool .., h | .opq .., .int .., h | .opq .., .str .., h | .opq .., .nilP, h | .opq .., .ptr .., h | .opq .., .nilS, h | .opq .., .sl .., h | .opq .., .slo .., h | .opq .., .sle .., h | .opq .., .nilM, h | .opq .., .mp .., h | .opq .., .fn .., h | .opq .., .yld .., h | .opq .., .nilF, h | .opq .., .nilI, h | .opq .., .agg .., h | .opq .., .tup .., h => by simp [eqv] at h
  | .bool .., .opq .., h | .int .., .opq .., h | .str .., .opq .., h | .nilP, .opq .., h | .ptr .., .opq .., h | .nilS, .opq .., h | .sl .., .opq .., h | .slo .., .opq .., h | .sle .., .opq .., h | .nilM, .opq .., h | .mp .., .opq .., h | .fn .., .opq .., h | .yld .., .opq .., h | .nilF, .opq .., h | .nilI, .opq .., h | .agg .., .opq .., h | .tup .., .opq .., h => by simp [eqv] at h
theorem eqvs_eq : ∀ a b, eqvs a b = true → a = b
  | [], [], _ => rfl
  | [], _ :: _, h => by simp [eqvs] at h
  | _ :: _, [], h => by simp [eqvs] at h
  | a :: x, b :: y, h => by
    simp only [eqvs, Bool.and_eq_true] at h
    rw [eqv_eq a b h.1, eqvs_eq x y h.2]
end
theorem eqB_eq : ∀ a b, eqB a b = true → a = b
  | .cells a t e o, .cells b t' e' o', h => by
    simp only [eqB, Bool.and_eq_true, Nat.beq_eq, beq_iff_eq] at h
    rw [eqvs_eq a b h.1, h.2.1.1, h.2.1.2, h.2.2]
  | .map [] c, .map [] c', h => by simp only [eqB, Nat.beq_eq] at h; rw [h]
  | .map [] _, .map (_ :: _) _, h => by simp [eqB] at h
  | .map (_ :: _) _, b, h => by cases b <;> simp [eqB] at h
  | .cells .., .map .., h | .cells .., .iter .., h | .cells .., .loop .., h | .cells .., .defd, h | .cells .., .dead, h => by simp [eqB] at h
  | .map [] _, .cells .., h | .map [] _, .iter .., h | .map [] _, .loop .., h | .map [] _, .defd, h | .map [] _, .dead, h => by simp [eqB] at h
  | .iter .., b, h => by cases b <;> simp [eqB] at h
  | .loop .., b, h => by cases b <;> simp [eqB] at h
  | .defd, b, h => by cases b <;> simp [eqB] at h
  | .dead, b, h => by cases b <;> simp [eqB] at h
variable [O : Opq]
/-! ### What touches what -/
omit O in
theorem dstIn_false {d : Option Tmp} {l : List Tmp} (h : dstIn d l = false) : ∀ t, d = some t → t ∉ l := by
  rintro t rfl ht
  simp only [dstIn, List.any_eq_false] at h
  exact h t ht (Nat.beq_refl t)
omit O in
theorem sameDst_false {a b : Option Tmp} (h : sameDst a b = false) : ∀ t, a = some t → b ≠ some t := by
  rintro t rfl rfl
  simp [sameDst, Nat.beq_refl] at h
def selfOk (ops : Array Oper) (p : PE) : Prop := noSel p.o = true ∧ dstIn p.o.dst (p.o.looksAt ops) = false ∧ backB p = true
omit O in
theorem okPi_iff (ops : Array Oper) : ∀ l, okPi ops l = true ↔ (∀ p ∈ l, selfOk ops p) ∧ l.Pairwise (fun p q => sepB ops p q = true) := by
  intro l
  induction l with
  | nil => simp [okPi]
  | cons p l ih =>
    simp only [okPi, Bool.and_eq_true, ih, List.forall_mem_cons, List.pairwise_cons, List.all_eq_true, selfOk, Bool.not_eq_true']
    constructor
    · rintro ⟨⟨a, b, c⟩, d, e, f⟩; exact ⟨⟨⟨a, b, c⟩, e⟩, d, f⟩
    · rintro ⟨⟨⟨a, b, c⟩, e⟩, d, f⟩; exact ⟨⟨a, b, c⟩, d, e, f⟩
omit O in
theorem sep_float {ops : Array Oper} {p q : PE} (h : sepB ops p q = true) (hq : floats q.o = true) :
    dstIn q.o.dst (p.o.looksAt ops) = false ∧ sameDst p.o.dst q.o.dst = false ∧ (q.pre.testBit p.i = true ∨ floats p.o = true ∧ dstIn p.o.dst (q.o.looksAt ops) = false) := by
  simp only [sepB, hq, Bool.not_true, Bool.and_false, Bool.false_or, Bool.and_eq_true, Bool.or_eq_true, Bool.not_eq_true'] at h
  exact ⟨h.1.1, h.1.2, h.2⟩
omit O in
theorem sep_free {ops : Array Oper} {p q : PE} (h : sepB ops p q = true) (hw : q.pre.testBit p.i = false) :
    dstIn q.o.dst (p.o.looksAt ops) = false ∧ sameDst p.o.dst q.o.dst = false ∧ floats p.o = true ∧ dstIn p.o.dst (q.o.looksAt ops) = false := by
  simp only [sepB, hw, Bool.false_and, Bool.false_or, Bool.and_eq_true, Bool.not_eq_true'] at h
  exact ⟨h.1.1, h.1.2, h.2.1, h.2.2⟩
omit O in
theorem mem_looks {ops : Array Oper} {o : Oper} {t : Tmp} (h : Operand.tmp t ∈ o.op.operands) : t ∈ o.looksAt ops :=
  List.mem_append_left _ (List.mem_filterMap.2 ⟨.tmp t, by simpa using h, rfl⟩)
/-! ### A temporary is written -/
omit O in
theorem put_nt (m : MA) (dst : Option Tmp) (v : MV) : (m.put dst v).nt = m.nt := by
  cases dst with
  | none => rfl
  | some d => unfold MA.put; dsimp only; cases Nat.blt d m.nt <;> rfl
omit O in
theorem put_defs (m : MA) (dst : Option Tmp) (v : MV) : (m.put dst v).defs = m.defs := by
  cases dst with
  | none => rfl
  | some d => unfold MA.put; dsimp only; cases Nat.blt d m.nt <;> rfl
omit O in
theorem put_ne (m : MA) {dst : Option Tmp} (v : MV) {k : Nat} (h : dst ≠ some k) : (m.put dst v).tmps.get k = m.tmps.get k := by
  cases dst with
  | none => rfl
  | some d =>
    unfold MA.put; dsimp only
    cases Nat.blt d m.nt with
    | false => rfl
    | true =>
      show (m.tmps.put d v).get k = _
      rw [Tr.get_put, if_neg (fun e => h (by rw [e]))]
omit O in
theorem put_has (m : MA) (v : MV) {k : Nat} (h : k < m.nt) : (m.put (some k) v).tmps.get k = some v := by
  unfold MA.put; dsimp only
  rw [lt_blt h]
  show (m.tmps.put k v).get k = _
  rw [Tr.get_put, if_pos rfl]
omit O in
theorem put_out (m : MA) (v : MV) {k : Nat} (h : ¬ k < m.nt) : m.put (some k) v = m := by
  unfold MA.put; dsimp only
  cases hb : Nat.blt k m.nt with
  | true => exact absurd (blt_lt hb) h
  | false => rfl
def Has (m : MA) (dst : Option Tmp) (v : MV) : Prop := ∀ d, dst = some d → d < m.nt → m.tmps.get d = some v
omit O in
theorem has_put (m : MA) (dst : Option Tmp) (v : MV) : Has (m.put dst v) dst v := by
  rintro d rfl hd
  rw [put_nt] at hd
  exact put_has m v hd
omit O in
theorem Has.put {m : MA} {dst dst' : Option Tmp} {v v' : MV} (h : Has m dst v) (hs : sameDst dst dst' = false) : Has (m.put dst' v') dst v := by
  intro d hd hlt
  rw [put_nt] at hlt
  rw [put_ne m v' (sameDst_false hs d hd)]
  exact h d hd hlt
section
variable {E : Env}
omit O in
theorem mop_put (m : MA) {ops : Array Oper} {o : Oper} {dst : Option Tmp} (v : MV) (h : MH) (hd : dstIn dst (o.looksAt ops) = false) : mop E ((m.put dst v).eval E.G) o.op h = mop E (m.eval E.G) o.op h := by
  refine mop_congr o.op fun x hx => ?_
  cases x with
  | tmp t => exact put_ne m v (fun e => dstIn_false hd t e (mem_looks hx))
  | const _ => rfl
  | global _ => rfl
  | func _ => rfl
omit O in
theorem wantedM_put (m : MA) {ops : Array Oper} {o : Oper} {dst : Option Tmp} (v : MV) (hd : dstIn dst (o.looksAt ops) = false) : wantedM ops (m.put dst v) o = wantedM ops m o := by
  unfold wantedM
  cases hg : o.guard with
  | none => rfl
  | some gw =>
    obtain ⟨g, want⟩ := gw
    dsimp only
    rw [lget_arr]
    cases hgo : ops[g]? with
    | none => rfl
    | some og =>
      dsimp only
      cases ht : og.dst with
      | none => rfl
      | some t =>
        dsimp only
        rw [put_ne m v (fun e => dstIn_false hd t e (by simp [Oper.looksAt, hg, hgo, ht]))]
/-! ### Ghosts: passed by the evaluator, not yet done in the world -/
def Still (E : Env) (ev : Ev) (h : MH) (g : FL) : Prop :=
  match g.r with
  | .skip => True
  | .look v => mop E ev g.p.o.op h = some (.val v)
  | .alc id _ b => h.get id = some b
omit O in
theorem still_of {ev : Ev} {h : MH} {mask : Nat} {g : FL} (hs : stillOk E ev h mask g = true) (hm : mask.testBit g.p.i = false) : Still E ev h g := by
  unfold stillOk at hs
  rw [show Nat.testBit mask g.p.i = false from hm] at hs
  unfold Still
  cases hr : g.r with
  | skip => trivial
  | look v =>
    simp only [hr] at hs ⊢
    split at hs
    · rename_i u hu; rw [hu, eqv_eq u v hs]
    · cases hs
  | alc id k b =>
    simp only [hr] at hs ⊢
    split at hs
    · rename_i c hc; rw [hc, eqB_eq c b hs]
    · cases hs
omit O in
theorem allOk_cons (ev : Ev) (h : MH) (mask : Nat) (f : FL) (fl : List FL) : allOk E ev h mask (f :: fl) = Bool.rec false (allOk E ev h mask fl) (stillOk E ev h mask f) := rfl
omit O in
theorem allOk_mem {ev : Ev} {h : MH} {mask : Nat} : ∀ {fl : List FL}, allOk E ev h mask fl = true → ∀ g ∈ fl, stillOk E ev h mask g = true := by
  intro fl
  induction fl with
  | nil => intro _ g hg; cases hg
  | cons f fl ih =>
    intro hs g hg
    rw [allOk_cons] at hs
    cases hf : stillOk E ev h mask f with
    | false => rw [hf] at hs; cases hs
    | true =>
      rw [hf] at hs
      rcases List.mem_cons.1 hg with rfl | hg
      · exact hf
      · exact ih hs g hg
omit O in
theorem keepFl_cons (mask : Nat) (f : FL) (fl : List FL) : keepFl mask (f :: fl) = Bool.rec (f :: keepFl mask fl) (keepFl mask fl) (Nat.testBit mask f.p.i) := rfl
omit O in
theorem keepFl_mem {mask : Nat} : ∀ {fl : List FL} {g : FL}, g ∈ fl → mask.testBit g.p.i = false → g ∈ keepFl mask fl := by
  intro fl
  induction fl with
  | nil => intro g hg; cases hg
  | cons f fl ih =>
    intro g hg hm
    rw [keepFl_cons]
    rcases List.mem_cons.1 hg with rfl | hg
    · rw [show Nat.testBit mask g.p.i = false from hm]; exact List.mem_cons_self ..
    · cases Nat.testBit mask f.p.i with
      | false => exact List.mem_cons_of_mem _ (ih hg hm)
      | true => exact ih hg hm
structure GhostOk (E : Env) (ops : Array Oper) (V : Nat → Prop) (n0 : Nat) (m : MA) (h : MH) (g : FL) : Prop where
  fl : floats g.p.o = true
  sk : g.r = .skip → wantedM ops m g.p.o = some false ∧ Has m g.p.o.dst undefM
  lk : ∀ v, g.r = .look v → wantedM ops m g.p.o = some true ∧ mop E (m.eval E.G) g.p.o.op h = some (.val v) ∧ Has m g.p.o.dst v
  al : ∀ id k b, g.r = .alc id k b → wantedM ops m g.p.o = some true ∧ mop E (m.eval E.G) g.p.o.op h = some (.new k b) ∧ Has m g.p.o.dst (k.at id) ∧
    ¬ V id ∧ id < h.nx ∧ E.G.ro ≤ id ∧ n0 ≤ id ∧ h.get id = some b
omit O in
theorem GhostOk.put {ops : Array Oper} {V V' : Nat → Prop} {n0 : Nat} {m : MA} {h h' : MH} {g : FL} (hg : GhostOk E ops V n0 m h g) {dst : Option Tmp} {v : MV} (hd : dstIn dst (g.p.o.looksAt ops) = false)
    (hs : sameDst g.p.o.dst dst = false) (hst : Still E ((m.put dst v).eval E.G) h' g) (hV : ∀ id, V' id → V id ∨ h.nx ≤ id) (hnx : h.nx ≤ h'.nx) : GhostOk E ops V' n0 (m.put dst v) h' g := by
  unfold Still at hst
  refine ⟨hg.fl, fun hr => ?_, fun u hr => ?_, fun id k b hr => ?_⟩
  · obtain ⟨h1, h2⟩ := hg.sk hr
    exact ⟨by rw [wantedM_put m v hd]; exact h1, h2.put hs⟩
  · obtain ⟨h1, h2, h3⟩ := hg.lk u hr
    simp only [hr] at hst
    exact ⟨by rw [wantedM_put m v hd]; exact h1, hst, h3.put hs⟩
  · obtain ⟨h1, h2, h3, h4, h5, h6, h7, h8⟩ := hg.al id k b hr
    simp only [hr] at hst
    refine ⟨by rw [wantedM_put m v hd]; exact h1, ?_, h3.put hs, fun hv => ?_, Nat.lt_of_lt_of_le h5 hnx, h6, h7, hst⟩
    · rw [mop_put m v h' hd]; exact new_heap h' h2
    · rcases hV id hv with hv | hv
      · exact h4 hv
      · omega
end
end Go.Mini
/- The evaluator's drawn regions: one operation out of what is known of its operands. -/
namespace Go.Mini
variable [O : Opq]
open Go.RowKit
section
variable {E : Env} {P : Program} {B : Nat → Prop} {W0 : World} {σ : Sg} {V : Nat → Prop} {h : MH} {w : World}
theorem oper_core (hE : EnvOk E P) (hW : ∀ k, B k → k < W0.heap.size) {go : Task → MH → Option (MV × MH)} (hgo : GoOk E P B W0 go) (r : Option Nat) {o : Oper} (hnd : ∀ c, o.op ≠ .defer c)
    (R : Rel E.G B W0 σ V h w) {ev : Ev} {a : Act} (hev : EvR σ V ev a.eval) {v : MV} {h' : MH} (ho : opRes go h (mop E ev o.op h) = some (v, h'))
    {K : Act → World → Prop} {Q : Exit → Act → World → Prop}
    (hK : ∀ σ' V' w', Agr V σ σ' → (∀ id, V id → V' id) → (∀ id, V' id → V id ∨ h.nx ≤ id) → h.nx ≤ h'.nx → Rel E.G B W0 σ' V' h' w' → wf σ' V' v → K (a.put o.dst (emb σ' v)) w') :
    o.wpIn (fence r) 0 P a w K Q := by
  unfold Oper.wpIn
  refine ⟨fun f _ => fence_fn r f, ?_⟩
  rw [Oper.semAt_eq _ _ _ hnd]
  cases hm : mop E ev o.op h with
  | none => rw [hm] at ho; cases ho
  | some res =>
    rw [hm] at ho
    cases res with
    | val u =>
      simp only [opRes, Option.some.injEq, Prod.mk.injEq] at ho
      obtain ⟨rfl, rfl⟩ := ho
      obtain ⟨h1, h2⟩ := look_ok hE R hev o hm
      rw [h2, Oper.uponIn_value]
      exact hK σ V w (Agr.refl _ _) (fun _ hx => hx) (fun _ hx => .inl hx) (Nat.le_refl _) R h1
    | new k b =>
      simp only [opRes, Option.some.injEq, Prod.mk.injEq] at ho
      obtain ⟨rfl, rfl⟩ := ho
      have hnV : ¬ V h.nx := fun hv => Nat.lt_irrefl _ (R.vx _ hv)
      obtain ⟨obj, h1, h2, h3⟩ := new_ok hE hev o hm hnV w
      rw [h1, Oper.uponIn_value]
      have hag := agr_upd (V := V) σ ⟨w.heap.size, 0, 0⟩ hnV
      exact hK _ _ _ hag (fun _ hx => .inl hx) (fun _ hx => hx.imp (fun x => x) (fun e => Nat.le_of_eq e.symm)) (Nat.le_succ _) (R.alloc (R.size hW) 0 0 h2) h3
    | upd u h1 =>
      simp only [opRes, Option.some.injEq, Prod.mk.injEq] at ho
      obtain ⟨rfl, rfl⟩ := ho
      obtain ⟨σ', V', w', g1, g2, g3, g4, g5, g6, g7⟩ := upd_ok hE R hW hev o hm
      have key := hK σ' V' w' g1 g2 g3 g4 g5 g6
      rcases g7 with g7 | ⟨rfl, g7⟩
      · rw [g7, Oper.uponIn_value]; exact key
      · rw [g7, Oper.uponIn_skip]
        exact key
    | enter f args =>
      simp only [opRes] at ho
      obtain ⟨F, hF, hb, hcall⟩ := hgo.1 f args h v h' ho
      obtain ⟨-, h2, h3⟩ := enter_ok hE hev o hm w
      rw [h3 F hF hb, Oper.uponIn_enter]
      refine ⟨fun hd => (by rw [fence_depth] at hd; cases hd), fence_calls ?_⟩
      refine (hcall σ V w R h2).mono ?_
      rintro e w' ⟨σ', V', g1, g2, g3, g4, g5, g6, rfl⟩
      exact hK σ' V' w' g1 g2 g3 g4 g5 g6
    | round l args =>
      simp only [opRes] at ho
      obtain ⟨h1, h2, h3⟩ := round_is hev o hm w
      obtain ⟨f, tm, assign, body, hy, hround⟩ := hgo.2 l args h v h' ho σ V w R h1 h2
      rw [h3, hy, Oper.uponIn_round]
      refine ⟨fun hd => (by rw [fence_depth] at hd; cases hd), fence_round_in ?_⟩
      refine hround.mono ?_
      rintro e w' ⟨σ', V', g1, g2, g3, g4, g5, g6, rfl⟩
      exact hK σ' V' w' g1 g2 g3 g4 g5 g6
structure TmP (σ : Sg) (V : Nat → Prop) (Gs : List FL) (m : MA) (a : Act) : Prop where
  size : a.tmps.size = m.nt
  cell : ∀ k v, m.tmps.get k = some v → (∃ g ∈ Gs, g.p.o.dst = some k ∧ k < m.nt) ∨ wf σ V v ∧ a.tmps[k]? = some (emb σ v)
  df : a.defers = m.defs.map (markOf σ)
  dv : ∀ d ∈ m.defs, V d
noncomputable def evOn (m : MA) (G : GB) (l : List Tmp) : Ev := fun x => match x with
  | .tmp t => if t ∈ l then m.tmps.get t else none
  | x => m.eval G x
omit O in
theorem evOn_mop {m : MA} {ops : Array Oper} (o : Oper) (h : MH) : mop E (evOn m E.G (o.looksAt ops)) o.op h = mop E (m.eval E.G) o.op h := by
  refine mop_congr o.op fun x hx => ?_
  cases x with
  | tmp t => simp only [evOn, MA.eval]; rw [if_pos (mem_looks hx)]
  | const _ => rfl
  | global _ => rfl
  | func _ => rfl
theorem TmP.evR {Gs : List FL} {m : MA} {a : Act} (T : TmP σ V Gs m a) (R : Rel E.G B W0 σ V h w) {l : List Tmp} (hl : ∀ g ∈ Gs, dstIn g.p.o.dst l = false) : EvR σ V (evOn m E.G l) a.eval := by
  intro x v hx
  cases x with
  | tmp t =>
    simp only [evOn] at hx
    split at hx
    · rename_i ht
      rcases T.cell t v hx with ⟨g, hg, hd, -⟩ | ⟨h1, h2⟩
      · exact absurd ht (dstIn_false (hl g hg) t hd)
      · refine ⟨h1, ?_⟩
        show a.tmps.getD t undef = _
        rw [Array.getD_eq_getD_getElem?, h2]; rfl
    · cases hx
  | const u =>
    obtain ⟨h1, h2⟩ := ofV_ok σ V u v hx
    exact ⟨h2, h1.symm⟩
  | global g =>
    simp only [evOn, MA.eval] at hx
    cases hb : Nat.blt g E.G.g0 with
    | false => rw [hb] at hx; cases hx
    | true =>
      rw [hb] at hx
      cases hx
      obtain ⟨h1, h2, h3⟩ := R.glob g (blt_lt hb)
      refine ⟨h1, ?_⟩
      simp only [Act.eval, emb, h2, h3]
  | func f =>
    simp only [evOn, MA.eval, Option.some.injEq] at hx
    subst hx
    exact ⟨by simp only [wf, wfs]; exact ⟨trivial, trivial⟩, rfl⟩
theorem TmP.wanted {Gs : List FL} {m : MA} {a : Act} (T : TmP σ V Gs m a) {ops : Array Oper} {o : Oper} (hl : ∀ g ∈ Gs, dstIn g.p.o.dst (o.looksAt ops) = false) {b : Bool} (hw : wantedM ops m o = some b) :
    Region.wanted o (yielded ops a.tmps) = b := by
  unfold wantedM at hw
  unfold Region.wanted
  split at hw
  · rename_i hg
    cases hw
    simp only [hg]
  · rename_i j want hg
    simp only [hg]
    split at hw
    · rename_i g hgo
      rw [lget_arr] at hgo
      split at hw
      · rename_i d hd
        have hin : d ∈ o.looksAt ops := by simp [Oper.looksAt, hg, hgo, hd]
        have cell : ∀ u, m.tmps.get d = some u → a.tmps[d]? = some (emb σ u) := fun u hu => by
          rcases T.cell d u hu with ⟨g, hg, hd, -⟩ | ⟨-, h2⟩
          · exact absurd hin (dstIn_false (hl g hg) d hd)
          · exact h2
        split at hw
        · rename_i c hc
          cases hw
          have h2 := cell _ hc
          unfold yielded
          simp only [hgo, Option.bind_some, hd, h2, emb]
          cases c <;> cases want <;> rfl
        · rename_i vs hc
          cases hw
          have h2 := cell _ hc
          unfold yielded
          simp only [hgo, Option.bind_some, hd, h2, emb]
          cases want <;> rfl
        · cases hw
      · cases hw
    · cases hw
theorem TmP.both {Gs : List FL} {m : MA} {a : Act} (T : TmP σ V Gs m a) {σ' : Sg} {V' : Nat → Prop} (hag : Agr V σ σ') (hV : ∀ id, V id → V' id) (dst : Option Tmp) {v : MV} (hv : wf σ' V' v) :
    TmP σ' V' Gs (m.put dst v) (a.put dst (emb σ' v)) := by
  have hsz : (a.put dst (emb σ' v)).tmps.size = a.tmps.size := by cases dst <;> simp [Act.put]
  have hdf : (a.put dst (emb σ' v)).defers = a.defers := by cases dst <;> rfl
  refine ⟨by rw [hsz, put_nt]; exact T.size, fun k u hu => ?_, ?_, fun d hd => hV d (T.dv d (by rw [put_defs] at hd; exact hd))⟩
  · by_cases hk : dst = some k ∧ k < m.nt
    · obtain ⟨rfl, hk⟩ := hk
      rw [put_has m v hk] at hu
      cases hu
      refine .inr ⟨hv, ?_⟩
      simp only [Act.put]
      rw [Array.getElem?_setIfInBounds, if_pos rfl, if_pos (by rw [T.size]; exact hk)]
    · have hold : m.tmps.get k = some u := by
        by_cases e : dst = some k
        · subst e; rw [put_out m v (fun hk' => hk ⟨rfl, hk'⟩)] at hu; exact hu
        · rw [put_ne m v e] at hu; exact hu
      rcases T.cell k u hold with ⟨g, hg, hd, hlt⟩ | ⟨h1, h2⟩
      · exact .inl ⟨g, hg, hd, by rw [put_nt]; exact hlt⟩
      · refine .inr ⟨wf_agr hag hV _ h1, ?_⟩
        rw [emb_agr hag _ h1, ← h2]
        cases dst with
        | none => rfl
        | some d =>
          simp only [Act.put]
          by_cases e : d = k
          · subst e
            rw [Array.getElem?_setIfInBounds, if_pos rfl, if_neg (by rw [T.size]; exact fun hk' => hk ⟨rfl, hk'⟩), Array.getElem?_eq_none (by rw [T.size]; exact Nat.le_of_not_lt (fun hk' => hk ⟨rfl, hk'⟩))]
          · exact Array.getElem?_setIfInBounds_ne e
  · rw [hdf, put_defs, T.df]
    exact List.map_congr_left fun d hd => by simp only [markOf, hag d (T.dv d hd)]
theorem TmP.ahead {Gs : List FL} {m : MA} {a : Act} (T : TmP σ V Gs m a) (g : FL) (v : MV) : TmP σ V (Gs ++ [g]) (m.put g.p.o.dst v) a := by
  refine ⟨by rw [put_nt]; exact T.size, fun k u hu => ?_, by rw [put_defs]; exact T.df, fun d hd => T.dv d (by rw [put_defs] at hd; exact hd)⟩
  by_cases hk : g.p.o.dst = some k ∧ k < m.nt
  · exact .inl ⟨g, by simp, hk.1, by rw [put_nt]; exact hk.2⟩
  · have hold : m.tmps.get k = some u := by
      by_cases e : g.p.o.dst = some k
      · rw [e, put_out m v (fun hk' => hk ⟨e, hk'⟩)] at hu; exact hu
      · rw [put_ne m v e] at hu; exact hu
    rcases T.cell k u hold with ⟨g', hg, hd, hlt⟩ | h1
    · exact .inl ⟨g', by simp [hg], hd, by rw [put_nt]; exact hlt⟩
    · exact .inr h1
theorem TmP.catch {G1 G2 : List FL} {g : FL} {m : MA} {a : Act} (T : TmP σ V (G1 ++ g :: G2) m a) {σ' : Sg} {V' : Nat → Prop} (hag : Agr V σ σ') (hV : ∀ id, V id → V' id) {v : MV} (hv : wf σ' V' v)
    (hh : Has m g.p.o.dst v) : TmP σ' V' (G1 ++ G2) m (a.put g.p.o.dst (emb σ' v)) := by
  have hsz : (a.put g.p.o.dst (emb σ' v)).tmps.size = a.tmps.size := by cases g.p.o.dst <;> simp [Act.put]
  have hdf : (a.put g.p.o.dst (emb σ' v)).defers = a.defers := by cases g.p.o.dst <;> rfl
  refine ⟨by rw [hsz]; exact T.size, fun k u hu => ?_, ?_, fun d hd => hV d (T.dv d hd)⟩
  · by_cases hk : g.p.o.dst = some k ∧ k < m.nt
    · obtain ⟨e, hk⟩ := hk
      have := hh k e hk
      rw [hu] at this
      cases this
      refine .inr ⟨hv, ?_⟩
      rw [e]
      simp only [Act.put]
      rw [Array.getElem?_setIfInBounds, if_pos rfl, if_pos (by rw [T.size]; exact hk)]
    · rcases T.cell k u hu with ⟨g', hg, hd, hlt⟩ | ⟨h1, h2⟩
      · rcases List.mem_append.1 hg with hg | hg
        · exact .inl ⟨g', by simp [hg], hd, hlt⟩
        · rcases List.mem_cons.1 hg with rfl | hg
          · exact absurd ⟨hd, hlt⟩ hk
          · exact .inl ⟨g', by simp [hg], hd, hlt⟩
      · refine .inr ⟨wf_agr hag hV _ h1, ?_⟩
        rw [emb_agr hag _ h1, ← h2]
        cases hd : g.p.o.dst with
        | none => rfl
        | some d =>
          simp only [Act.put]
          by_cases e : d = k
          · subst e
            rw [Array.getElem?_setIfInBounds, if_pos rfl, if_neg (by rw [T.size]; exact fun hk' => hk ⟨hd, hk'⟩), Array.getElem?_eq_none (by rw [T.size]; exact Nat.le_of_not_lt (fun hk' => hk ⟨hd, hk'⟩))]
          · exact Array.getElem?_setIfInBounds_ne e
  · rw [hdf, T.df]
    exact List.map_congr_left fun d hd => by simp only [markOf, hag d (T.dv d hd)]
end
end Go.Mini
/- The evaluator's drawn regions: the invariant and its steps. -/
namespace Go.Mini
variable [O : Opq]
open Go.RowKit
/-! ### What is listed -/
omit O in
theorem un_some {l : Array Bool} {i : Nat} : l.getD i true = false ↔ l[i]? = some false := by
  rw [Array.getD_eq_getD_getElem?]
  cases h : l[i]? with
  | none => simp
  | some b => simp
omit O in
theorem li_some {l : Array Bool} {i : Nat} : l.getD i false = true ↔ l[i]? = some true := by
  rw [Array.getD_eq_getD_getElem?]
  cases h : l[i]? with
  | none => simp
  | some b => simp
omit O in
theorem un_li {l : Array Bool} {i : Nat} (h : l.getD i true = false) (h' : l.getD i false = true) : False := by
  rw [un_some] at h; rw [li_some] at h'; rw [h] at h'; cases h'
omit O in
theorem set_un {l : Array Bool} {i j : Nat} : (l.setIfInBounds i true).getD j true = false ↔ j ≠ i ∧ l.getD j true = false := by
  rw [un_some, un_some, Array.getElem?_setIfInBounds]
  by_cases e : i = j
  · subst e
    rw [if_pos rfl]
    split <;> simp
  · rw [if_neg e]
    exact ⟨fun h => ⟨Ne.symm e, h⟩, fun h => h.2⟩
omit O in
theorem set_li {l : Array Bool} {i j : Nat} (h : l.getD j false = true) : (l.setIfInBounds i true).getD j false = true := by
  rw [li_some] at h ⊢
  rw [Array.getElem?_setIfInBounds]
  split
  · rename_i e; subst e
    rw [if_pos (Array.getElem?_eq_some_iff.1 h).1]
  · exact h
omit O in
theorem li_set {l : Array Bool} {i j : Nat} (h : (l.setIfInBounds i true).getD j false = true) : j = i ∨ l.getD j false = true := by
  rw [li_some] at h ⊢
  rw [Array.getElem?_setIfInBounds] at h
  split at h
  · rename_i e; exact .inl e.symm
  · exact .inr h
omit O in
theorem Down.step {ops : Array Oper} {l : Array Bool} (hd : Down ops l) {i : Nat} (hr : i ∈ Region.ready .any ops l) : Down ops (l.setIfInBounds i true) := by
  intro k o ho hk e he hb
  rcases li_set hk with rfl | hk
  · obtain ⟨-, o', ho', hall⟩ := mem_ready.1 hr
    rw [ho] at ho'; cases ho'
    exact set_li (hall e he hb)
  · exact set_li (hd k o ho hk e he hb)
omit O in
theorem mem_step {A C : List PE} {p : PE} {l : Array Bool} (nd : ((A ++ p :: C).map (·.i)).Nodup) (mem : ∀ i, i ∈ (A ++ p :: C).map (·.i) ↔ l.getD i true = false) :
    ∀ i, i ∈ (A ++ C).map (·.i) ↔ (l.setIfInBounds p.i true).getD i true = false := by
  intro i
  rw [set_un, ← mem i]
  simp only [List.map_append, List.map_cons, List.mem_append, List.mem_cons]
  rw [List.map_append, List.map_cons, List.nodup_append, List.nodup_cons] at nd
  obtain ⟨-, ⟨n1, -⟩, n2⟩ := nd
  constructor
  · rintro (h | h)
    · exact ⟨fun e => n2 i h p.i (List.mem_cons_self ..) e, .inl h⟩
    · exact ⟨fun e => n1 (e ▸ h), .inr (.inr h)⟩
  · rintro ⟨hne, h | h | h⟩
    · exact .inl h
    · exact absurd h hne
    · exact .inr h
section
variable {E : Env} {P : Program} {B : Nat → Prop} {W0 : World} {go : Task → MH → Option (MV × MH)} {ops : Array Oper} {n0 : Nat}
omit O in
theorem runPi_cons (p : PE) (l : List PE) (fl : List FL) (a : MA) (h : MH) : runPi E go ops (p :: l) fl a h =
    (match wantedM ops a p.o with
    | some true => (Bool.rec
        (match opRes go h (mop E (a.eval E.G) p.o.op h) with
          | some (v, h') => (Bool.rec none (runPi E go ops l (keepFl p.pre fl) (a.put p.o.dst v) h') (allOk E ((a.put p.o.dst v).eval E.G) h' p.pre fl) : Option (MA × MH))
          | none => none)
        (match mop E (a.eval E.G) p.o.op h with
          | some (.val v) => runPi E go ops l (⟨p, .look v⟩ :: fl) (a.put p.o.dst v) h
          | some (.new k b) => (Bool.rec none (runPi E go ops l (⟨p, .alc h.nx k b⟩ :: fl) (a.put p.o.dst (k.at h.nx)) (h.new b)) (allOk E ((a.put p.o.dst (k.at h.nx)).eval E.G) (h.new b) 0 fl) : Option (MA × MH))
          | _ => none)
        (floats p.o) : Option (MA × MH))
    | some false => (Bool.rec (runPi E go ops l (keepFl p.pre fl) (a.put p.o.dst undefM) h) (runPi E go ops l (⟨p, .skip⟩ :: fl) (a.put p.o.dst undefM) h) (floats p.o) : Option (MA × MH))
    | none => none) := rfl
structure Inv (E : Env) (B : Nat → Prop) (W0 : World) (ops : Array Oper) (n0 : Nat) (σ : Sg) (V : Nat → Prop) (h : MH) (w : World) (m : MA) (a : Act) (Gs fl : List FL) (L : List PE) (listed : Array Bool) : Prop where
  R : Rel E.G B W0 σ V h w
  tm : TmP σ V Gs m a
  gh : ∀ g ∈ Gs, GhostOk E ops V n0 m h g
  sub : ∀ g ∈ Gs, g ∈ fl
  self : ∀ p ∈ Gs.map (·.p) ++ L, selfOk ops p
  sep : (Gs.map (·.p) ++ L).Pairwise (fun p q => sepB ops p q = true)
  nd : ((Gs.map (·.p) ++ L).map (·.i)).Nodup
  mem : ∀ i, i ∈ (Gs.map (·.p) ++ L).map (·.i) ↔ listed.getD i true = false
  el : ∀ p ∈ Gs.map (·.p) ++ L, ops[p.i]? = some p.o ∧ Waits ops p.pre p.o
  down : Down ops listed
  ids : Gs.Pairwise (fun g g' => ∀ id k b id' k' b', g.r = .alc id k b → g'.r = .alc id' k' b' → id ≠ id')
  nx : n0 ≤ h.nx
variable {σ : Sg} {V : Nat → Prop} {h : MH} {w : World} {m : MA} {a : Act} {Gs fl : List FL} {L : List PE} {listed : Array Bool}
theorem Inv.notwait (I : Inv E B W0 ops n0 σ V h w m a Gs fl L listed) {q p : PE} (hq : q ∈ Gs.map (·.p) ++ L) (hr : q.i ∈ Region.ready .any ops listed) (hp : p ∈ Gs.map (·.p) ++ L) : q.pre.testBit p.i = false := by
  cases hb : q.pre.testBit p.i with
  | false => rfl
  | true =>
    obtain ⟨ho, hw⟩ := I.el q hq
    obtain ⟨-, o', ho', hall⟩ := mem_ready.1 hr
    rw [ho] at ho'; cases ho'
    exact (un_li ((I.mem p.i).1 (List.mem_map.2 ⟨p, hp, rfl⟩)) (hw listed I.down hall p.i hb)).elim
omit O in
theorem pairs {α : Type} {R : α → α → Prop} {A C : List α} {x : α} (h : (A ++ x :: C).Pairwise R) : (∀ y ∈ A, R y x) ∧ (∀ y ∈ C, R x y) := by
  rw [List.pairwise_append, List.pairwise_cons] at h
  exact ⟨fun y hy => h.2.2 y hy x (List.mem_cons_self ..), h.2.1.1⟩
theorem Inv.float {q : PE} (I : Inv E B W0 ops n0 σ V h w m a Gs fl (q :: L) listed) (hf : floats q.o = true) {o : Option (MA × MH)} (hr : runPi E go ops (q :: L) fl m h = o) (ho : o.isSome = true) :
    ∃ g m1 h1, Inv E B W0 ops n0 σ V h1 w m1 a (Gs ++ [g]) (g :: fl) L listed ∧ g.p = q ∧ runPi E go ops L (g :: fl) m1 h1 = o := by
  have hpair := (pairs I.sep).1
  have hold : ∀ g ∈ Gs, dstIn q.o.dst (g.p.o.looksAt ops) = false ∧ sameDst g.p.o.dst q.o.dst = false := fun g hg => by
    obtain ⟨h1, h2, -⟩ := sep_float (hpair g.p (List.mem_map.2 ⟨g, hg, rfl⟩)) hf
    exact ⟨h1, h2⟩
  have hself := (I.self q (by simp)).2.1
  have build : ∀ (g : FL) (v : MV) (h1 : MH), g.p = q → Rel E.G B W0 σ V h1 w → h.nx ≤ h1.nx → (∀ g' ∈ Gs, Still E ((m.put q.o.dst v).eval E.G) h1 g') → GhostOk E ops V n0 (m.put q.o.dst v) h1 g →
      (∀ id k b, g.r = .alc id k b → id = h.nx) → Inv E B W0 ops n0 σ V h1 w (m.put q.o.dst v) a (Gs ++ [g]) (g :: fl) L listed := by
    intro g v h1 hgp R1 hnx hst hg hid
    have e : (Gs ++ [g]).map (·.p) ++ L = Gs.map (·.p) ++ q :: L := by simp [hgp]
    refine ⟨R1, by rw [← hgp]; exact I.tm.ahead g v, fun g' hg' => ?_, fun g' hg' => ?_, by rw [e]; exact I.self, by rw [e]; exact I.sep, by rw [e]; exact I.nd, by rw [e]; exact I.mem, by rw [e]; exact I.el, I.down, ?_, Nat.le_trans I.nx hnx⟩
    · rcases List.mem_append.1 hg' with hg' | hg'
      · exact (I.gh g' hg').put (hold g' hg').1 (hold g' hg').2 (hst g' hg') (fun _ hv => .inl hv) hnx
      · rw [List.mem_singleton] at hg'; subst hg'; exact hg
    · rcases List.mem_append.1 hg' with hg' | hg'
      · exact List.mem_cons_of_mem _ (I.sub g' hg')
      · rw [List.mem_singleton] at hg'; subst hg'; exact List.mem_cons_self ..
    · rw [List.pairwise_append]
      refine ⟨I.ids, List.pairwise_singleton _ _, fun g' hg' g2 hg2 id k b id' k' b' e1 e2 => ?_⟩
      rw [List.mem_singleton] at hg2; subst hg2
      rw [hid id' k' b' e2]
      obtain ⟨-, -, -, -, h5, -⟩ := (I.gh g' hg').al id k b e1
      exact Nat.ne_of_lt h5
  have keep : ∀ v, ∀ g' ∈ Gs, Still E ((m.put q.o.dst v).eval E.G) h g' := fun v g' hg' => by
    unfold Still
    cases hr' : g'.r with
    | skip => trivial
    | look u => dsimp only; rw [mop_put m v h (hold g' hg').1]; exact ((I.gh g' hg').lk u hr').2.1
    | alc id k b => exact ((I.gh g' hg').al id k b hr').2.2.2.2.2.2.2
  rw [runPi_cons, hf] at hr
  cases hw : wantedM ops m q.o with
  | none => simp only [hw] at hr; rw [← hr] at ho; cases ho
  | some b =>
    cases b with
    | false =>
      simp only [hw] at hr
      refine ⟨⟨q, .skip⟩, _, h, build ⟨q, .skip⟩ undefM h rfl I.R (Nat.le_refl _) (keep _) ⟨hf, fun _ => ⟨?_, has_put m _ _⟩, fun v e => (by cases e), fun id k b e => (by cases e)⟩ (fun id k b e => by cases e), rfl, hr⟩
      rw [wantedM_put m _ hself]; exact hw
    | true =>
      simp only [hw] at hr
      split at hr
      · rename_i v hv
        refine ⟨⟨q, .look v⟩, _, h, build ⟨q, .look v⟩ v h rfl I.R (Nat.le_refl _) (keep _) ⟨hf, fun e => (by cases e), fun u e => ?_, fun id k b e => (by cases e)⟩ (fun id k b e => by cases e), rfl, hr⟩
        cases e
        exact ⟨by rw [wantedM_put m _ hself]; exact hw, by rw [mop_put m v h hself]; exact hv, has_put m _ _⟩
      · rename_i k b hv
        cases hal : allOk E ((m.put q.o.dst (k.at h.nx)).eval E.G) (h.new b) 0 fl with
        | false => rw [hal] at hr; rw [← hr] at ho; cases ho
        | true =>
          rw [hal] at hr
          refine ⟨⟨q, .alc h.nx k b⟩, _, h.new b, build ⟨q, .alc h.nx k b⟩ (k.at h.nx) (h.new b) rfl (I.R.ghost b) (Nat.le_succ _)
            (fun g' hg' => still_of (allOk_mem hal g' (I.sub g' hg')) (Nat.zero_testBit _)) ⟨hf, fun e => (by cases e), fun u e => (by cases e), fun id k' b' e => ?_⟩ (fun id k b e => by cases e; rfl), rfl, hr⟩
          cases e
          refine ⟨by rw [wantedM_put m _ hself]; exact hw, by rw [mop_put m _ _ hself]; exact new_heap _ hv, has_put m _ _, fun hv => Nat.lt_irrefl _ (I.R.vx _ hv), Nat.lt_succ_self _, I.R.gx, I.nx, ?_⟩
          rw [MH.get_new, if_pos rfl]
      · rw [← hr] at ho; cases ho
end
end Go.Mini
/- The evaluator's drawn regions: the world's steps; DrawOk. -/
namespace Go.Mini
variable [O : Opq]
open Go.RowKit
section
variable {E : Env} {P : Program} {B : Nat → Prop} {W0 : World} {go : Task → MH → Option (MV × MH)} {ops : Array Oper} {n0 : Nat}
variable {σ : Sg} {V : Nat → Prop} {h : MH} {w : World} {m : MA} {a : Act} {Gs fl : List FL} {L : List PE} {listed : Array Bool}
omit O in
theorem nosel_defer {o : Oper} (h : noSel o = true) : ∀ c, o.op ≠ .defer c := by
  intro c e
  simp [noSel, e] at h
theorem Inv.ghost (hE : EnvOk E P) (hW : ∀ k, B k → k < W0.heap.size) (r : Option Nat) {g : FL} (I : Inv E B W0 ops n0 σ V h w m a Gs fl L listed) (hg : g ∈ Gs) (hr : g.p.i ∈ Region.ready .any ops listed)
    {K : Act → World → Prop} {Q : Exit → Act → World → Prop}
    (hK : ∀ σ' V' w' a' Gs', Inv E B W0 ops n0 σ' V' h w' m a' Gs' fl L (listed.setIfInBounds g.p.i true) → (Gs'.map (·.p) ++ L).length + 1 = (Gs.map (·.p) ++ L).length →
      Agr V σ σ' → (∀ id, V id → V' id) → (∀ id, V' id → V id ∨ n0 ≤ id) → K a' w') : wpOpIn (fence r) 0 P ops Q g.p.i K a w := by
  obtain ⟨G1, G2, hG⟩ := List.append_of_mem hg
  subst hG
  have hgin : g.p ∈ (G1 ++ g :: G2).map (·.p) ++ L := List.mem_append_left _ (List.mem_map.2 ⟨g, hg, rfl⟩)
  have hgin' : ∀ g' ∈ G1 ++ g :: G2, g'.p ∈ (G1 ++ g :: G2).map (·.p) ++ L := fun g' hg' => List.mem_append_left _ (List.mem_map.2 ⟨g', hg', rfl⟩)
  have hel := (I.el g.p hgin).1
  have hgok := I.gh g hg
  have hsep := I.sep
  have elist : (G1 ++ g :: G2).map (·.p) ++ L = G1.map (·.p) ++ g.p :: (G2.map (·.p) ++ L) := by simp
  rw [elist] at hsep
  obtain ⟨sA, sC⟩ := pairs hsep
  have hlook : ∀ g' ∈ G1 ++ g :: G2, dstIn g'.p.o.dst (g.p.o.looksAt ops) = false := by
    intro g' hg'
    have hnw := I.notwait hgin hr (hgin' g' hg')
    rcases List.mem_append.1 hg' with h1 | h1
    · exact (sep_free (sA g'.p (List.mem_map.2 ⟨g', h1, rfl⟩)) hnw).2.2.2
    · rcases List.mem_cons.1 h1 with rfl | h1
      · exact (I.self _ hgin).2.1
      · exact (sep_float (sC g'.p (List.mem_append_left _ (List.mem_map.2 ⟨g', h1, rfl⟩))) (I.gh g' hg').fl).1
  have hev := I.tm.evR I.R hlook
  have hnd := nosel_defer (I.self _ hgin).1
  have e1 : (G1 ++ G2).map (·.p) ++ L = G1.map (·.p) ++ (G2.map (·.p) ++ L) := by simp
  have build : ∀ (σ' : Sg) (V' : Nat → Prop) (w' : World) (v : MV), Rel E.G B W0 σ' V' h w' → Agr V σ σ' → (∀ id, V id → V' id) → wf σ' V' v → Has m g.p.o.dst v →
      (∀ g' ∈ G1 ++ G2, GhostOk E ops V' n0 m h g') → Inv E B W0 ops n0 σ' V' h w' m (a.put g.p.o.dst (emb σ' v)) (G1 ++ G2) fl L (listed.setIfInBounds g.p.i true) := by
    intro σ' V' w' v R' hag hV hv hh hgh
    have hsub : (G1.map (·.p) ++ (G2.map (·.p) ++ L)).Sublist (G1.map (·.p) ++ g.p :: (G2.map (·.p) ++ L)) := List.Sublist.append_left (List.sublist_cons_self _ _) _
    have hsubg : ∀ x ∈ G1 ++ G2, x ∈ G1 ++ g :: G2 := fun x hx => by
      rcases List.mem_append.1 hx with h1 | h1
      · exact List.mem_append_left _ h1
      · exact List.mem_append_right _ (List.mem_cons_of_mem _ h1)
    have Isf := I.self
    have Ind := I.nd
    have Imem := I.mem
    have Iel := I.el
    rw [elist] at Isf Ind Imem Iel
    refine ⟨R', I.tm.catch hag hV hv hh, hgh, fun g' hg' => I.sub g' (hsubg g' hg'), ?_, ?_, ?_, ?_, ?_, I.down.step hr, ?_, I.nx⟩
    · rw [e1]; exact fun p hp => Isf p (hsub.subset hp)
    · rw [e1]; exact hsep.sublist hsub
    · rw [e1]; exact Ind.sublist (hsub.map _)
    · rw [e1]; exact mem_step Ind Imem
    · rw [e1]; exact fun p hp => Iel p (hsub.subset hp)
    · exact I.ids.sublist (List.Sublist.append_left (List.sublist_cons_self _ _) _)
  have hlen : ((G1 ++ G2).map (·.p) ++ L).length + 1 = ((G1 ++ g :: G2).map (·.p) ++ L).length := by simp; omega
  have hghs : ∀ g' ∈ G1 ++ G2, g' ∈ G1 ++ g :: G2 := fun x hx => by
    rcases List.mem_append.1 hx with h1 | h1
    · exact List.mem_append_left _ h1
    · exact List.mem_append_right _ (List.mem_cons_of_mem _ h1)
  unfold wpOpIn
  simp only [hel]
  cases hres : g.r with
  | skip =>
    obtain ⟨h1, h2⟩ := hgok.sk hres
    have hw := I.tm.wanted hlook h1
    rw [if_neg (by rw [hw]; exact Bool.false_ne_true)]
    refine ⟨fun f _ => fence_fn r f, ?_⟩
    exact hK σ V w _ (G1 ++ G2) (build σ V w undefM I.R (Agr.refl _ _) (fun _ hx => hx) wf_undef h2 (fun g' hg' => I.gh g' (hghs g' hg'))) hlen (Agr.refl _ _) (fun _ hx => hx) (fun _ hx => .inl hx)
  | look v =>
    obtain ⟨h1, h2, h3⟩ := hgok.lk v hres
    have hw := I.tm.wanted hlook h1
    rw [if_pos hw]
    rw [← evOn_mop (ops := ops)] at h2
    obtain ⟨k1, k2⟩ := look_ok hE I.R hev g.p.o h2
    unfold Oper.wpIn
    refine ⟨fun f _ => fence_fn r f, ?_⟩
    rw [Oper.semAt_eq _ _ _ hnd, k2, Oper.uponIn_value]
    exact hK σ V w _ (G1 ++ G2) (build σ V w v I.R (Agr.refl _ _) (fun _ hx => hx) k1 h3 (fun g' hg' => I.gh g' (hghs g' hg'))) hlen (Agr.refl _ _) (fun _ hx => hx) (fun _ hx => .inl hx)
  | alc id k b =>
    obtain ⟨h1, h2, h3, h4, h5, h6, h7, h8⟩ := hgok.al id k b hres
    have hw := I.tm.wanted hlook h1
    rw [if_pos hw]
    rw [← evOn_mop (ops := ops)] at h2
    obtain ⟨obj, k1, k2, k3⟩ := new_ok hE hev g.p.o h2 h4 w
    unfold Oper.wpIn
    refine ⟨fun f _ => fence_fn r f, ?_⟩
    rw [Oper.semAt_eq _ _ _ hnd, k1, Oper.uponIn_value]
    have hag := agr_upd (V := V) σ ⟨w.heap.size, 0, 0⟩ h4
    refine hK _ _ _ _ (G1 ++ G2) (build _ _ _ (k.at id) (I.R.mapIn (I.R.size hW) h4 h8 h6 0 0 k2) hag (fun _ hx => .inl hx) k3 h3 (fun g' hg' => ?_)) hlen hag (fun _ hx => .inl hx) (fun id' hx => hx.imp (fun x => x) (fun (e : id' = id) => by rw [e]; exact h7))
    have hg0 := I.gh g' (hghs g' hg')
    refine ⟨hg0.fl, hg0.sk, hg0.lk, fun id' k' b' e => ?_⟩
    obtain ⟨q1, q2, q3, q4, q5, q6, q7, q8⟩ := hg0.al id' k' b' e
    refine ⟨q1, q2, q3, fun hv => ?_, q5, q6, q7, q8⟩
    rcases hv with hv | hv
    · exact q4 hv
    · obtain ⟨i1, i2⟩ := List.pairwise_append.1 I.ids |>.2
      have i0 := (List.pairwise_append.1 I.ids).2.1
      rcases List.mem_append.1 hg' with hx | hx
      · exact (List.pairwise_append.1 I.ids).2.2 g' hx g (List.mem_cons_self ..) id' k' b' id k b e hres hv
      · exact (List.pairwise_cons.1 i0).1 g' hx id k b id' k' b' hres e hv.symm
theorem Inv.act (hE : EnvOk E P) (hW : ∀ k, B k → k < W0.heap.size) (hgo : GoOk E P B W0 go) (r : Option Nat) {q : PE} (I : Inv E B W0 ops n0 σ V h w m a Gs fl (q :: L) listed) (hf : floats q.o = false)
    (hr : q.i ∈ Region.ready .any ops listed) {o : MA × MH} (hrun : runPi E go ops (q :: L) fl m h = some o) {K : Act → World → Prop} {Q : Exit → Act → World → Prop}
    (hK : ∀ σ' V' h' w' m' a' fl', Inv E B W0 ops n0 σ' V' h' w' m' a' Gs fl' L (listed.setIfInBounds q.i true) → runPi E go ops L fl' m' h' = some o →
      Agr V σ σ' → (∀ id, V id → V' id) → (∀ id, V' id → V id ∨ n0 ≤ id) → K a' w') : wpOpIn (fence r) 0 P ops Q q.i K a w := by
  have hqin : q ∈ Gs.map (·.p) ++ q :: L := List.mem_append_right _ (List.mem_cons_self ..)
  have hgin' : ∀ g' ∈ Gs, g'.p ∈ Gs.map (·.p) ++ q :: L := fun g' hg' => List.mem_append_left _ (List.mem_map.2 ⟨g', hg', rfl⟩)
  have hel := (I.el q hqin).1
  obtain ⟨sA, sC⟩ := pairs I.sep
  have hfree : ∀ g' ∈ Gs, _ := fun g' hg' => sep_free (sA g'.p (List.mem_map.2 ⟨g', hg', rfl⟩)) (I.notwait hqin hr (hgin' g' hg'))
  have hlook : ∀ g' ∈ Gs, dstIn g'.p.o.dst (q.o.looksAt ops) = false := fun g' hg' => (hfree g' hg').2.2.2
  have hev := I.tm.evR I.R hlook
  have hnd := nosel_defer (I.self _ hqin).1
  have hsub : (Gs.map (·.p) ++ L).Sublist (Gs.map (·.p) ++ q :: L) := List.Sublist.append_left (List.sublist_cons_self _ _) _
  have hkeep : ∀ g ∈ Gs, g ∈ keepFl q.pre fl := fun g hg => keepFl_mem (I.sub g hg) (I.notwait hqin hr (hgin' g hg))
  have build : ∀ (σ' : Sg) (V' : Nat → Prop) (h' : MH) (w' : World) (v : MV), Rel E.G B W0 σ' V' h' w' → Agr V σ σ' → (∀ id, V id → V' id) → (∀ id, V' id → V id ∨ h.nx ≤ id) → h.nx ≤ h'.nx → wf σ' V' v →
      (∀ g ∈ Gs, Still E ((m.put q.o.dst v).eval E.G) h' g) → Inv E B W0 ops n0 σ' V' h' w' (m.put q.o.dst v) (a.put q.o.dst (emb σ' v)) Gs (keepFl q.pre fl) L (listed.setIfInBounds q.i true) := by
    intro σ' V' h' w' v R' hag hV hV' hnx hv hst
    exact ⟨R', I.tm.both hag hV q.o.dst hv, fun g hg => (I.gh g hg).put (hfree g hg).1 (hfree g hg).2.1 (hst g hg) hV' hnx, hkeep, fun p hp => I.self p (hsub.subset hp), I.sep.sublist hsub,
      I.nd.sublist (hsub.map _), mem_step I.nd I.mem, fun p hp => I.el p (hsub.subset hp), I.down.step hr, I.ids, Nat.le_trans I.nx hnx⟩
  rw [runPi_cons, hf] at hrun
  unfold wpOpIn
  simp only [hel]
  cases hw : wantedM ops m q.o with
  | none => simp only [hw] at hrun; cases hrun
  | some b =>
    have hw' := I.tm.wanted hlook hw
    cases b with
    | false =>
      simp only [hw] at hrun
      rw [if_neg (by rw [hw']; exact Bool.false_ne_true)]
      refine ⟨fun f _ => fence_fn r f, ?_⟩
      refine hK σ V h w _ _ _ (build σ V h w undefM I.R (Agr.refl _ _) (fun _ hx => hx) (fun _ hx => .inl hx) (Nat.le_refl _) wf_undef (fun g hg => ?_)) hrun (Agr.refl _ _) (fun _ hx => hx) (fun _ hx => .inl hx)
      unfold Still
      cases hr' : g.r with
      | skip => trivial
      | look u => dsimp only; rw [mop_put m _ h (hfree g hg).1]; exact ((I.gh g hg).lk u hr').2.1
      | alc id k b => exact ((I.gh g hg).al id k b hr').2.2.2.2.2.2.2
    | true =>
      simp only [hw] at hrun
      rw [if_pos hw']
      split at hrun
      · rename_i v h1 ho
        cases hal : allOk E ((m.put q.o.dst v).eval E.G) h1 q.pre fl with
        | false => rw [hal] at hrun; cases hrun
        | true =>
          rw [hal] at hrun
          rw [← evOn_mop (ops := ops)] at ho
          refine oper_core hE hW hgo r hnd I.R hev ho ?_
          intro σ' V' w' g1 g2 g3 g4 g5 g6
          refine hK σ' V' h1 w' _ _ _ (build σ' V' h1 w' v g5 g1 g2 g3 g4 g6 (fun g hg => still_of (allOk_mem hal g (I.sub g hg)) (I.notwait hqin hr (hgin' g hg)))) hrun g1 g2 (fun id hid => ?_)
          exact (g3 id hid).imp (fun x => x) (fun x => Nat.le_trans I.nx x)
      · cases hrun
theorem Inv.some_ready (I : Inv E B W0 ops n0 σ V h w m a Gs fl L listed) : ∀ (n : Nat) (p : PE), p ∈ Gs.map (·.p) ++ L → p.i = n → ∃ i, i ∈ Region.ready .any ops listed := by
  intro n
  induction n using Nat.strongRecOn with
  | ind n ih =>
    intro p hp hn
    have hun := (I.mem p.i).1 (List.mem_map.2 ⟨p, hp, rfl⟩)
    by_cases hall : ∀ e ∈ p.o.after, Region.binds .any e = true → listed.getD e.on false = true
    · exact ⟨p.i, mem_ready.2 ⟨hun, p.o, (I.el p hp).1, hall⟩⟩
    · have ⟨e, he, hb, hl⟩ : ∃ e ∈ p.o.after, Region.binds .any e = true ∧ ¬ listed.getD e.on false = true := by
        refine Classical.byContradiction fun hc => hall fun e he hb => Classical.byContradiction fun hl => hc ⟨e, he, hb, hl⟩
      have hlt : e.on < p.i := by
        have h1 := (I.self p hp).2.2
        simp only [backB, List.all_eq_true] at h1
        have h2 := h1 e (by simpa using he)
        rw [hb] at h2
        exact blt_lt (by simpa using h2)
      have hsz : p.i < listed.size := (Array.getElem?_eq_some_iff.1 (un_some.1 hun)).1
      have hune : listed.getD e.on true = false := by
        rw [un_some]
        rw [li_some] at hl
        have : e.on < listed.size := Nat.lt_trans hlt hsz
        rw [Array.getElem?_eq_getElem this] at hl ⊢
        cases hx : listed[e.on] with
        | false => rfl
        | true => rw [hx] at hl; exact absurd rfl hl
      obtain ⟨p', hp', he'⟩ := List.mem_map.1 ((I.mem e.on).2 hune)
      exact ih e.on (by omega) p' hp' he'
theorem Inv.pick (hE : EnvOk E P) (hW : ∀ k, B k → k < W0.heap.size) (hgo : GoOk E P B W0 go) (r : Option Nat) {o : MA × MH} {Q : Exit → Act → World → Prop} {K : Act → World → Prop} {p : PE} (hr : p.i ∈ Region.ready .any ops listed) :
    ∀ (L : List PE) (h : MH) (m : MA) (Gs fl : List FL), Inv E B W0 ops n0 σ V h w m a Gs fl L listed → p ∈ Gs.map (·.p) ++ L → runPi E go ops L fl m h = some o →
      (∀ σ' V' h' w' m' a' Gs' fl' L', Inv E B W0 ops n0 σ' V' h' w' m' a' Gs' fl' L' (listed.setIfInBounds p.i true) → (Gs'.map (·.p) ++ L').length + 1 = (Gs.map (·.p) ++ L).length → runPi E go ops L' fl' m' h' = some o →
        Agr V σ σ' → (∀ id, V id → V' id) → (∀ id, V' id → V id ∨ n0 ≤ id) → K a' w') → wpOpIn (fence r) 0 P ops Q p.i K a w := by
  intro L
  induction L with
  | nil =>
    intro h m Gs fl I hp hrun hK
    rw [List.append_nil] at hp
    obtain ⟨g, hg, rfl⟩ := List.mem_map.1 hp
    exact I.ghost hE hW r hg hr (fun σ' V' w' a' Gs' I' hlen g1 g2 g3 => hK σ' V' h w' m a' Gs' fl [] I' hlen hrun g1 g2 g3)
  | cons q L ih =>
    intro h m Gs fl I hp hrun hK
    have ghostly : p ∈ Gs.map (·.p) → wpOpIn (fence r) 0 P ops Q p.i K a w := fun hpG => by
      obtain ⟨g, hg, rfl⟩ := List.mem_map.1 hpG
      exact I.ghost hE hW r hg hr (fun σ' V' w' a' Gs' I' hlen g1 g2 g3 => hK σ' V' h w' m a' Gs' fl (q :: L) I' hlen hrun g1 g2 g3)
    rcases List.mem_append.1 hp with hpG | hpL
    · exact ghostly hpG
    · cases hf : floats q.o with
      | true =>
        obtain ⟨g, m1, h1, I1, hgp, hrun1⟩ := I.float hf hrun rfl
        have e : (Gs ++ [g]).map (·.p) ++ L = Gs.map (·.p) ++ q :: L := by simp [hgp]
        refine ih h1 m1 (Gs ++ [g]) (g :: fl) I1 (by rw [e]; exact hp) hrun1 ?_
        rw [e]
        exact hK
      | false =>
        have hpq : p = q := by
          rcases List.mem_cons.1 hpL with e | hpL'
          · exact e
          · have hs := (pairs I.sep).2 p hpL'
            have := (sep_free hs (I.notwait hp hr (List.mem_append_right _ (List.mem_cons_self ..)))).2.2.1
            rw [hf] at this; cases this
        subst hpq
        refine I.act hE hW hgo r hf hr hrun (fun σ' V' h' w' m' a' fl' I' hrun' g1 g2 g3 => hK σ' V' h' w' m' a' Gs fl' L I' ?_ hrun' g1 g2 g3)
        simp; omega
theorem Inv.any (hE : EnvOk E P) (hW : ∀ k, B k → k < W0.heap.size) (hgo : GoOk E P B W0 go) (r : Option Nat) {m' : MA} {h' : MH} {Q : Exit → Act → World → Prop} :
    ∀ (fuel : Nat) (σ : Sg) (V : Nat → Prop) (h : MH) (w : World) (m : MA) (a : Act) (Gs fl : List FL) (L : List PE) (listed : Array Bool), Inv E B W0 ops n0 σ V h w m a Gs fl L listed →
      (Gs.map (·.p) ++ L).length = fuel → runPi E go ops L fl m h = some (m', h') →
      (∀ σ' V' w' a', Agr V σ σ' → (∀ id, V id → V' id) → (∀ id, V' id → V id ∨ n0 ≤ id) → n0 ≤ h'.nx → Rel E.G B W0 σ' V' h' w' → ActR σ' V' m' a' → Q .normal a' w') →
      wpAnyIn (fence r) 0 P .any ops Q fuel listed a w := by
  intro fuel
  have done : ∀ (σ : Sg) (V : Nat → Prop) (h : MH) (w : World) (m : MA) (a : Act) (Gs fl : List FL) (L : List PE) (listed : Array Bool), Inv E B W0 ops n0 σ V h w m a Gs fl L listed →
      Gs.map (·.p) ++ L = [] → runPi E go ops L fl m h = some (m', h') →
      (∀ σ' V' w' a', Agr V σ σ' → (∀ id, V id → V' id) → (∀ id, V' id → V id ∨ n0 ≤ id) → n0 ≤ h'.nx → Rel E.G B W0 σ' V' h' w' → ActR σ' V' m' a' → Q .normal a' w') → Q .normal a w := by
    intro σ V h w m a Gs fl L listed I he hrun hQ
    obtain ⟨e1, e2⟩ := List.append_eq_nil_iff.1 he
    have e1 := List.map_eq_nil_iff.1 e1
    subst e1; subst e2
    have e : runPi E go ops [] fl m h = some (m, h) := rfl
    rw [e] at hrun; cases hrun
    refine hQ σ V w a (Agr.refl _ _) (fun _ hx => hx) (fun _ hx => .inl hx) I.nx I.R ⟨⟨I.tm.size, fun k v hk => ?_⟩, I.tm.df, I.tm.dv⟩
    rcases I.tm.cell k v hk with ⟨g, hg, -⟩ | hx
    · cases hg
    · exact hx
  have notready : ∀ (σ : Sg) (V : Nat → Prop) (h : MH) (w : World) (m : MA) (a : Act) (Gs fl : List FL) (L : List PE) (listed : Array Bool), Inv E B W0 ops n0 σ V h w m a Gs fl L listed →
      Region.ready .any ops listed = [] → Gs.map (·.p) ++ L = [] := by
    intro σ V h w m a Gs fl L listed I hr
    cases hl : Gs.map (·.p) ++ L with
    | nil => rfl
    | cons p l =>
      obtain ⟨i, hi⟩ := I.some_ready p.i p (by rw [hl]; exact List.mem_cons_self ..) rfl
      rw [hr] at hi; cases hi
  induction fuel with
  | zero =>
    intro σ V h w m a Gs fl L listed I hlen hrun hQ
    have he := List.eq_nil_of_length_eq_zero hlen
    refine ⟨?_, done σ V h w m a Gs fl L listed I he hrun hQ⟩
    cases hr : Region.ready .any ops listed with
    | nil => rfl
    | cons i l =>
      have hi : i ∈ Region.ready .any ops listed := by rw [hr]; exact List.mem_cons_self ..
      have := (I.mem i).2 (mem_ready.1 hi).1
      rw [he] at this; cases this
  | succ fuel ih =>
    intro σ V h w m a Gs fl L listed I hlen hrun hQ
    refine ⟨fun hr => done σ V h w m a Gs fl L listed I (notready σ V h w m a Gs fl L listed I hr) hrun hQ, fun i hi => ?_⟩
    obtain ⟨p, hp, rfl⟩ := List.mem_map.1 ((I.mem i).2 (mem_ready.1 hi).1)
    refine Inv.pick hE hW hgo r hi L h m Gs fl I hp hrun ?_
    intro σ' V' h1 w' m1 a' Gs' fl' L' I' hlen' hrun' g1 g2 g3
    refine ih σ' V' h1 w' m1 a' Gs' fl' L' _ I' (by omega) hrun' ?_
    intro σ2 V2 w2 a2 k1 k2 k3 k4 k5 k6
    refine hQ σ2 V2 w2 a2 (g1.trans g2 k1) (fun id hid => k2 id (g2 id hid)) (fun id hid => ?_) k4 k5 k6
    rcases k3 id hid with hx | hx
    · exact g3 id hx
    · exact .inr hx
theorem draw_ok (hE : EnvOk E P) (hW : ∀ k, B k → k < W0.heap.size) {go : Task → MH → Option (MV × MH)} (hgo : GoOk E P B W0 go) : DrawOk E P B W0 go := by
  intro id ops l m m' h h' hp hrun σ V w a r R ha
  obtain ⟨hidx, hel, hok⟩ := plan_ok hp
  obtain ⟨hself, hsep⟩ := (okPi_iff ops l).1 hok
  refine wpIn_region_any hE.mixed ?_
  have hun : ∀ i, (Array.replicate ops.size false).getD i true = false ↔ i < ops.size := fun i => by
    rw [un_some, Array.getElem?_replicate]
    split
    · rename_i hi; exact ⟨fun _ => hi, fun _ => rfl⟩
    · rename_i hi; exact ⟨fun hc => (by cases hc), fun hc => absurd hc hi⟩
  have hli : ∀ i, ¬ (Array.replicate ops.size false).getD i false = true := fun i hi => by
    rw [li_some, Array.getElem?_replicate] at hi
    split at hi <;> cases hi
  have I : Inv E B W0 ops h.nx σ V h w.drew m a [] [] l (Array.replicate ops.size false) := by
    refine ⟨R.drew, ⟨ha.tm.size, fun k v hk => .inr (ha.tm.cell k v hk), ha.df, ha.dv⟩, fun g hg => (by cases hg), fun g hg => (by cases hg), hself, hsep, ?_, fun i => ?_, hel, fun k o _ hk => (hli k hk).elim, List.Pairwise.nil, Nat.le_refl _⟩
    · exact hidx.nodup_iff.2 List.nodup_range
    · rw [hun]
      show i ∈ l.map (·.i) ↔ _
      rw [hidx.mem_iff, List.mem_range]
  have hlen : (([] : List FL).map (·.p) ++ l).length = ops.size := by
    have := hidx.length_eq
    simpa using this
  refine Inv.any hE hW hgo r ops.size σ V h w.drew m a [] [] l _ I hlen hrun ?_
  intro σ' V' w' a' g1 g2 g3 g4 g5 g6
  exact ⟨rfl, σ', V', g1, g2, g3, g4, g5, g6⟩
end
end Go.Mini
/- A call without arguments, out of the evaluator's answer. -/
namespace Go.Mini
open Go.RowKit
def isT : Option (MV × MH) → Bool
  | some (.bool b, _) => b
  | _ => false
def start (G : GB) (t : Tr MB) : MH := ⟨t, G.ro⟩
structure StartOk [Opq] (G : GB) (t : Tr MB) (σ : Sg) (w : World) : Prop where
  le : G.g0 ≤ G.ro
  lt : ∀ id b, t.get id = some b → id < G.ro
  glob : ∀ id, id < G.g0 → (σ id).blk = id ∧ (σ id).off = 0
  blk : ∀ id b, t.get id = some b → Blk σ (· < G.ro) id w b
  inj : ∀ id id' b b', t.get id = some b → t.get id' = some b' → live b = true → live b' = true → (σ id).blk = (σ id').blk → id = id'
theorem rel_start [Opq] {G : GB} {B : Nat → Prop} {t : Tr MB} {σ : Sg} {w : World} (h : StartOk G t σ w) : Rel G B w σ (· < G.ro) (start G t) w :=
  ⟨fun id b _ hb => h.blk id b hb, fun id id' b b' _ _ h1 h2 => h.inj id id' b b' h1 h2, fun id b _ hb _ hg => absurd (h.lt id b hb) (Nat.not_lt.2 hg), fun id hid => ⟨Nat.lt_of_lt_of_le hid h.le, h.glob id hid⟩, fun id b hb => h.lt id b hb,
    fun _ hid => hid, Nat.le_refl _, Kept.refl _ _⟩
structure StartN [Opq] (G : GB) (n : Nat) (B : Nat → Prop) (t : Tr MB) (σ : Sg) (w : World) : Prop where
  le : G.g0 ≤ n
  ro : G.ro ≤ n
  lt : ∀ id b, t.get id = some b → id < n
  glob : ∀ id, id < G.g0 → (σ id).blk = id ∧ (σ id).off = 0
  blk : ∀ id b, t.get id = some b → Blk σ (· < n) id w b
  inj : ∀ id id' b b', t.get id = some b → t.get id' = some b' → live b = true → live b' = true → (σ id).blk = (σ id').blk → id = id'
  own : ∀ id b, t.get id = some b → live b = true → G.ro ≤ id → ¬ B (σ id).blk
theorem rel_startN [Opq] {G : GB} {n : Nat} {B : Nat → Prop} {t : Tr MB} {σ : Sg} {w : World} (h : StartN G n B t σ w) : Rel G B w σ (· < n) ⟨t, n⟩ w :=
  ⟨fun id b _ hb => h.blk id b hb, fun id id' b b' _ _ h1 h2 => h.inj id id' b b' h1 h2, fun id b _ hb => h.own id b hb, fun id hid => ⟨Nat.lt_of_lt_of_le hid h.le, h.glob id hid⟩, fun id b hb => h.lt id b hb,
    fun _ hid => hid, h.ro, Kept.refl _ _⟩
theorem law_of [Opq] {E : Env} {P : Program} (hE : EnvOk E P) {w : World} (hO : OrcOk E P (· < w.heap.size) w) {t : Tr MB} {σ : Sg} (hS : StartOk E.G t σ w) {n : Nat} {f : FuncId} {args : List MV} (hw : wfs σ (· < E.G.ro) args) (hr : isT (run E n (.call f args) (start E.G t)) = true) :
    Calls P f ⟨embs σ args⟩ w (fun e w' => e = .returned (.bool true) ∧ Below w.heap.size w w') := by
  unfold isT at hr
  split at hr
  · rename_i b h' he
    subst hr
    obtain ⟨F, -, -, hc⟩ := (run_ok (B := (· < w.heap.size)) (W0 := w) hE hO (fun _ hk => hk) (fun go hgo => draw_ok hE (fun _ hk => hk) hgo) n).1 f args (start E.G t) _ _ he
    refine (hc _ _ w (rel_start hS) hw).mono ?_
    rintro e w' ⟨σ', V', -, -, -, -, R, -, rfl⟩
    exact ⟨rfl, R.below.below⟩
  · cases hr
/-! ### The tables -/
section
variable {α : Type}
noncomputable def Tr.toL : Tr α → List (Nat × α) :=
  Tr.rec [] (fun _ a _ x y => (match a with | some v => [(0, v)] | none => []) ++ (x.map (fun p => (2 * p.1 + 1, p.2)) ++ y.map (fun p => (2 * p.1 + 2, p.2))))
theorem Tr.toL_node (l : Tr α) (a : Option α) (r : Tr α) : (Tr.node l a r).toL = (match a with | some v => [(0, v)] | none => []) ++ (l.toL.map (fun p => (2 * p.1 + 1, p.2)) ++ r.toL.map (fun p => (2 * p.1 + 2, p.2))) := rfl
theorem Tr.mem_toP : ∀ (p : Pth) (t : Tr α) (v : α), Tr.gP p t = some v → (p.dec, v) ∈ t.toL := by
  intro p
  induction p with
  | e =>
    intro t v hv
    cases t with
    | nil => cases hv
    | node l a r =>
      have hv : a = some v := hv
      subst hv
      rw [Tr.toL_node]
      exact List.mem_append_left _ (List.mem_singleton.2 rfl)
  | l p ih =>
    intro t v hv
    cases t with
    | nil => cases hv
    | node l a r =>
      rw [Tr.toL_node]
      exact List.mem_append_right _ (List.mem_append_left _ (List.mem_map.2 ⟨_, ih l v hv, rfl⟩))
  | r p ih =>
    intro t v hv
    cases t with
    | nil => cases hv
    | node l a r =>
      rw [Tr.toL_node]
      exact List.mem_append_right _ (List.mem_append_right _ (List.mem_map.2 ⟨_, ih r v hv, rfl⟩))
theorem Tr.mem_toL {t : Tr α} {k : Nat} {v : α} (h : t.get k = some v) : (k, v) ∈ t.toL := by
  have := Tr.mem_toP (pth k) t v h
  rwa [dec_pth] at this
end
theorem ty_of {E : Env} {P : Program} (h1 : E.ty.toL.map (fun x => P.info? x.1) = E.ty.toL.map (fun x => some x.2.info)) (h2 : E.ty.toL.map (fun x => P.underlying x.1) = E.ty.toL.map (fun x => some x.2.und)) :
    ∀ t T, E.ty.get t = some T → P.info? t = some T.info ∧ P.underlying t = some T.und := fun t T h =>
  ⟨List.map_inj_left.1 h1 (t, T) (Tr.mem_toL h), List.map_inj_left.1 h2 (t, T) (Tr.mem_toL h)⟩
theorem fns_of {E : Env} {P : Program} (h1 : E.fns.toL.map (fun x => P.funcs[x.1]?) = E.fns.toL.map (fun x => some x.2)) (h2 : E.fns.toL.all (fun x => !decide (x.2.name = "runtime.NumGoroutine")) = true) :
    ∀ f F, E.fns.get f = some F → P.funcs[f]? = some F ∧ F.name ≠ "runtime.NumGoroutine" := fun f F h =>
  ⟨List.map_inj_left.1 h1 (f, F) (Tr.mem_toL h), by have := List.all_eq_true.1 h2 (f, F) (Tr.mem_toL h); simpa using this⟩
theorem cmp_of {P : Program} {T : Tr Unit} (h : T.toL.all (fun x => !P.eqGuardType P.depth x.1 && !P.stoodInHeld x.1) = true) : ∀ t, (T.get t).isSome = true → P.eqGuardType P.depth t = false ∧ P.stoodInHeld t = false := by
  intro t ht
  cases hg : T.get t with
  | none => rw [hg] at ht; cases ht
  | some u =>
    have := List.all_eq_true.1 h (t, u) (Tr.mem_toL hg)
    simpa using this
end Go.Mini
/- Answers of an oracle: what is asked of them, out of a contract. -/
namespace Go.Mini
open Go.RowKit
variable [O : Opq]
section
variable {G : GB} {B : Nat → Prop} {W0 : World} {σ : Sg} {V : Nat → Prop} {h : MH} {w w' : World}
theorem Rel.grown (R : Rel G B W0 σ V h w) (hW : ∀ k, B k → k < W0.heap.size) (hb : Below w.heap.size w w') : Rel G B W0 σ V h w' :=
  ⟨fun id b hv hg => (R.blk id b hv hg).agr (fun _ _ => rfl) (fun _ hx => hx) hv (fun hl => hb.block _ (R.lt hv hg hl)), R.inj, R.own, R.glob, R.nx, R.vx, R.gx,
    R.below.of_below hb (R.size hW)⟩
theorem endK_same {v : MV} (R : Rel G B W0 σ V h w) (hW : ∀ k, B k → k < W0.heap.size) (hb : Below w.heap.size w w') (hv : wf σ V v) : EndK G B W0 σ V h h v (.returned (emb σ v)) w' :=
  ⟨σ, V, Agr.refl _ _, fun _ hx => hx, fun _ hx => .inl hx, Nat.le_refl _, R.grown hW hb, hv, rfl⟩
noncomputable def opqs (n : Nat) : List MV := (List.range n).map .opq
end
noncomputable def orcRow (f n : Nat) (m : Int) (b : Bool) (g : FuncId) (args : List MV) (h : MH) : Option (MV × MH) :=
  cond (Nat.beq g f) (match args with
    | [.sl id off len _, .int .i64 k] => cond (and (Nat.beq len 1) (decide (k = m))) (match h.get id with
      | some (.cells cs _ _ _) => cond (and (Nat.beq off 0) (eqvs cs (opqs n))) (some (.bool b, h)) none
      | _ => none) none
    | _ => none) none
end Go.Mini
namespace Go.Mini
abbrev opqOf (l : List Value) (hl : ∀ v ∈ l, v.cells = #[v] ∧ v.oneCell' = true) : Opq where
  val i := (l[i]?).getD .nilFunc
  single i := by
    cases h : l[i]? with
    | none => rfl
    | some v => exact (hl v (List.mem_of_getElem? h)).1
  one i := by
    cases h : l[i]? with
    | none => rfl
    | some v => exact (hl v (List.mem_of_getElem? h)).2
end Go.Mini
/- Answers of several oracles: sha.turned, strings.Join, sha.Sum at known bytes. -/
namespace Go.Mini
open Go.RowKit
abbrev Orc := FuncId → List MV → MH → Option (MV × MH)
noncomputable def noOrc : Orc := fun _ _ _ => none
noncomputable def orOrc (o1 o2 : Orc) : Orc := fun f args h => match o1 f args h with | some r => some r | none => o2 f args h
section
variable [O : Opq]
def OrcIs (G : GB) (P : Program) (B : Nat → Prop) (W0 : World) (o : Orc) : Prop :=
  ∀ f args h v h', o f args h = some (v, h') → ∀ σ V w, Rel G B W0 σ V h w → wfs σ V args → Calls P f ⟨embs σ args⟩ w (EndK G B W0 σ V h h' v)
theorem orcIs_no {G : GB} {P : Program} {B : Nat → Prop} {W0 : World} : OrcIs G P B W0 noOrc := fun f args h v h' e => by cases e
theorem orcIs_or {G : GB} {P : Program} {B : Nat → Prop} {W0 : World} {o1 o2 : Orc} (h1 : OrcIs G P B W0 o1) (h2 : OrcIs G P B W0 o2) : OrcIs G P B W0 (orOrc o1 o2) := by
  intro f args h v h' e
  unfold orOrc at e
  split at e
  · rename_i r hr
    cases e
    exact h1 f args h v h' hr
  · exact h2 f args h v h' e
theorem orcOk_of {E : Env} {P : Program} {B : Nat → Prop} {W0 : World} (h : OrcIs E.G P B W0 E.orc) : OrcOk E P B W0 := h
end
/-! ### sha.turned -/
def rotI (x : Int) (n : Nat) : Int := bits .or .u32 (x * 2 ^ n % 4294967296) (x / 2 ^ (32 - n))
noncomputable def turnI (x : Int) (ps : List Nat) : Int → Int := List.rec (fun y => y) (fun p _ ih y => ih (bits .xor .u32 y (rotI x (32 - p)))) ps
theorem turnI_eq (x : Int) (ps : List Nat) : ∀ y, turnI x ps y = ps.foldl (fun y p => bits .xor .u32 y (rotI x (32 - p))) y := by
  induction ps with
  | nil => intro y; rfl
  | cons p ps ih => intro y; exact ih _
noncomputable def placesOf (l : List MV) : Option (List Nat) :=
  List.rec (some []) (fun v _ ih => match v with
    | .int .i64 (.ofNat n) => cond (and (Nat.ble 1 n) (Nat.ble n 31)) (match ih with | some r => some (n :: r) | none => none) none
    | _ => none) l
theorem placesOf_cons (v : MV) (l : List MV) : placesOf (v :: l) = (match v with
    | .int .i64 (.ofNat n) => cond (and (Nat.ble 1 n) (Nat.ble n 31)) (match placesOf l with | some r => some (n :: r) | none => none) none
    | _ => none) := rfl
theorem placesOf_ok : ∀ (l : List MV) (ps : List Nat), placesOf l = some ps → (∀ p ∈ ps, 1 ≤ p ∧ p ≤ 31) ∧ l = ps.map (fun n => .int .i64 (.ofNat n)) := by
  intro l
  induction l with
  | nil => intro ps h; have e : placesOf [] = some [] := rfl
           rw [e] at h; cases h; exact ⟨fun p hp => (by cases hp), rfl⟩
  | cons v l ih =>
    intro ps h
    rw [placesOf_cons] at h
    split at h
    · rename_i n
      cases hc : (and (Nat.ble 1 n) (Nat.ble n 31)) with
      | false => rw [hc] at h; cases h
      | true =>
        rw [hc] at h
        simp only [cond_true] at h
        obtain ⟨c1, c2⟩ := and2 hc
        split at h
        · rename_i r hr
          cases h
          obtain ⟨i1, i2⟩ := ih r hr
          refine ⟨fun p hp => ?_, by rw [i2]; rfl⟩
          rcases List.mem_cons.1 hp with rfl | hp
          · exact ⟨Nat.le_of_ble_eq_true c1, Nat.le_of_ble_eq_true c2⟩
          · exact i1 p hp
        · cases h
    · cases h
noncomputable def orcTurn (f : Nat) : Orc := fun g args h =>
  cond (Nat.beq g f) (match args with
    | [.int .u32 x, .sl id off len _] => cond (Nat.ble len 64) (match readCells h id off len with
      | some l => match placesOf l with | some ps => some (.int .u32 (turnI x ps 0), h) | none => none
      | none => none) none
    | _ => none) none
section
variable [O : Opq] {G : GB} {P : Program} {B : Nat → Prop} {W0 : World}
theorem rel_cells {σ : Sg} {V : Nat → Prop} {h : MH} {w : World} (R : Rel G B W0 σ V h w) {id off n : Nat} {l : List MV} (hv : V id) (hr : readCells h id off n = some l) :
    l.length = n ∧ wfs σ V l ∧ ∀ i v, l[i]? = some v → w.cell? ⟨(σ id).blk, (σ id).off + off + i, none⟩ = some (emb σ v) := by
  unfold readCells at hr
  split at hr
  · rename_i cs t es o hg
    obtain ⟨c, fz, h1, h2, -, h4, -, -⟩ := R.blk id _ hv hg
    obtain ⟨l1, l2⟩ := ltake_some hr
    rw [ldrop_eq] at l1 l2
    have hget : ∀ i v, l[i]? = some v → cs[off + i]? = some v := fun i v hi => by
      rw [l2, List.getElem?_take] at hi
      split at hi
      · rwa [List.getElem?_drop] at hi
      · cases hi
    refine ⟨by rw [l2, List.length_take]; omega, (wfs_iff _).2 fun v hv' => ?_, fun i v hi => ?_⟩
    · obtain ⟨i, hi⟩ := List.mem_iff_getElem?.1 hv'
      exact (wfs_iff _).1 h2 v (List.mem_of_getElem? (hget i v hi))
    · rw [cell_of_row w _ _ c t fz h1, Nat.add_assoc]
      exact h4 _ v (hget i v hi)
  · cases hr
end
end Go.Mini
/- The oracle of strings.Join. -/
namespace Go.Mini
open Go.RowKit
noncomputable def strsOf (l : List MV) : Option (List (List Nat)) :=
  List.rec (some []) (fun v _ ih => match v with
    | .str s => match ih with | some r => some (s :: r) | none => none
    | _ => none) l
theorem strsOf_cons (v : MV) (l : List MV) : strsOf (v :: l) = (match v with
    | .str s => match strsOf l with | some r => some (s :: r) | none => none
    | _ => none) := rfl
theorem strsOf_ok : ∀ (l : List MV) (ss : List (List Nat)), strsOf l = some ss → l = ss.map .str := by
  intro l
  induction l with
  | nil => intro ss h; have e : strsOf [] = some [] := rfl
           rw [e] at h; cases h; rfl
  | cons v l ih =>
    intro ss h
    rw [strsOf_cons] at h
    split at h
    · rename_i s
      split at h
      · rename_i r hr
        cases h
        rw [ih r hr]; rfl
      · cases h
    · cases h
noncomputable def joinTN (sep : List Nat) (r : List (List Nat)) : List Nat := List.rec [] (fun x _ ih => sep ++ (x ++ ih)) r
noncomputable def joinN (sep : List Nat) (ls : List (List Nat)) : List Nat := List.rec [] (fun x r _ => x ++ joinTN sep r) ls
theorem joinTN_map (sep : List Nat) (r : List (List Nat)) : Lib.joinTail (sep.map UInt8.ofNat) (r.map (·.map UInt8.ofNat)) = (joinTN sep r).map UInt8.ofNat := by
  induction r with
  | nil => rfl
  | cons x r ih =>
    have e : joinTN sep (x :: r) = sep ++ (x ++ joinTN sep r) := rfl
    rw [e]
    have ih' := ih
    unfold Lib.joinTail at ih' ⊢
    simp only [List.map_cons, List.flatten_cons, List.map_append, List.append_assoc]
    rw [ih']
theorem joinN_map (sep : List Nat) (ls : List (List Nat)) : Lib.join (ls.map (·.map UInt8.ofNat)) (sep.map UInt8.ofNat) = (joinN sep ls).map UInt8.ofNat := by
  cases ls with
  | nil => rfl
  | cons x r =>
    have e : joinN sep (x :: r) = x ++ joinTN sep r := rfl
    rw [e, List.map_cons, Lib.join_cons, joinTN_map, List.map_append]
theorem joinTN_mem (sep : List Nat) (r : List (List Nat)) : ∀ b ∈ joinTN sep r, b ∈ sep ∨ ∃ x ∈ r, b ∈ x := by
  induction r with
  | nil => intro b hb; cases hb
  | cons x r ih =>
    intro b hb
    have e : joinTN sep (x :: r) = sep ++ (x ++ joinTN sep r) := rfl
    rw [e] at hb
    simp only [List.mem_append] at hb
    rcases hb with h | h | h
    · exact .inl h
    · exact .inr ⟨x, by simp, h⟩
    · rcases ih b h with h | ⟨y, hy, h⟩
      · exact .inl h
      · exact .inr ⟨y, by simp [hy], h⟩
theorem joinN_mem (sep : List Nat) (ls : List (List Nat)) : ∀ b ∈ joinN sep ls, b ∈ sep ∨ ∃ x ∈ ls, b ∈ x := by
  cases ls with
  | nil => intro b hb; cases hb
  | cons x r =>
    intro b hb
    have e : joinN sep (x :: r) = x ++ joinTN sep r := rfl
    rw [e] at hb
    rcases List.mem_append.1 hb with h | h
    · exact .inr ⟨x, by simp, h⟩
    · rcases joinTN_mem sep r b h with h | ⟨y, hy, h⟩
      · exact .inl h
      · exact .inr ⟨y, by simp [hy], h⟩
noncomputable def joinR (h : MH) (sep : List Nat) : Option (List MV) → Option (MV × MH)
  | some l => match strsOf l with
    | some ss => cond (and (Nat.ble (llen ss 0) 65536) (Nat.ble (llen (joinN sep ss) 0) 65536)) (some (.str (joinN sep ss), h)) none
    | none => none
  | none => none
noncomputable def orcJoin (f : Nat) : Orc := fun g args h =>
  cond (Nat.beq g f) (match args with
    | [.sl id off len _, .str sep] => joinR h sep (readCells h id off len)
    | [.slo id off _ len, .str sep] => joinR h sep (readCells h id off len)
    | _ => none) none
section
variable [O : Opq] {G : GB} {P : Program} {B : Nat → Prop} {W0 : World}
def JoinC (P : Program) (f : Nat) : Prop := ∀ (bk o c : Nat) (xs : List ByteArray) (sep : ByteArray) (w : World), (∀ (j : Nat) x, xs[j]? = some x → w.cell? ⟨bk, o + j, none⟩ = some (.string x)) → bk < w.heap.size → xs.length ≤ 140737488355328 → xs.length ≤ c →
    (Lib.join (xs.map (·.data.toList)) sep.data.toList).length ≤ 140737488355328 →
    Calls P f #[.slice (some ⟨bk, o, none⟩) xs.length c, .string sep] w fun e w' => e = .returned (.string ⟨(Lib.join (xs.map (·.data.toList)) sep.data.toList).toArray⟩) ∧ Below w.heap.size w w'
theorem joinR_ok (hW : ∀ k, B k → k < W0.heap.size) {f : Nat} (hc : JoinC P f) {σ : Sg} {V : Nat → Prop} {h h' : MH} {w : World} {v : MV} {sep : List Nat} {id off len cap : Nat} (R : Rel G B W0 σ V h w) (hv : V id) (hs : ∀ b ∈ sep, b < 256) (hcap : len ≤ cap)
    (ho : joinR h sep (readCells h id off len) = some (v, h')) : Calls P f #[.slice (some ⟨(σ id).blk, (σ id).off + off, none⟩) len cap, .string (bytesV sep)] w (EndK G B W0 σ V h h' v) := by
  unfold joinR at ho
  split at ho
  · rename_i l hr
    split at ho
    · rename_i ss hss
      cases hq : (and (Nat.ble (llen ss 0) 65536) (Nat.ble (llen (joinN sep ss) 0) 65536)) with
      | false => rw [hq] at ho; cases ho
      | true =>
        rw [hq] at ho
        cases ho
        obtain ⟨q1, q2⟩ := and2 hq
        have q1 := Nat.le_of_ble_eq_true q1
        have q2 := Nat.le_of_ble_eq_true q2
        rw [llen_eq] at q1 q2
        have hl := strsOf_ok l ss hss
        have hget := hr
        unfold readCells at hget
        split at hget
        · rename_i cs t es o hg
          obtain ⟨r1, r2, r3⟩ := rel_cells R hv hr
          have hlt := R.lt hv hg rfl
          have hmap : (ss.map bytesV).map (·.data.toList) = ss.map (·.map UInt8.ofNat) := by
            rw [List.map_map]; exact List.map_congr_left fun x _ => by simp [bytesV]
          have hsep : (bytesV sep).data.toList = sep.map UInt8.ofNat := by simp [bytesV]
          have hlen : len = (ss.map bytesV).length := by rw [← r1, hl]; simp
          subst hlen
          have := hc (σ id).blk ((σ id).off + off) cap (ss.map bytesV) (bytesV sep) w (fun j x hj => by
            rw [List.getElem?_map] at hj
            cases hs2 : ss[j]? with
            | none => rw [hs2] at hj; cases hj
            | some s =>
              rw [hs2] at hj; cases hj
              exact r3 j (.str s) (by rw [hl, List.getElem?_map, hs2]; rfl)) hlt (by simp; omega) hcap (by rw [hmap, hsep, joinN_map]; simp; omega)
          refine this.mono ?_
          rintro e w' ⟨rfl, hb⟩
          rw [hmap, hsep, joinN_map]
          refine endK_same (v := .str (joinN sep ss)) R hW hb ?_
          simp only [wf]
          intro b hb'
          rcases joinN_mem sep ss b hb' with h1 | ⟨x, hx, h1⟩
          · exact hs b h1
          · have := (wfs_iff _).1 r2 (.str x) (by rw [hl]; exact List.mem_map.2 ⟨x, hx, rfl⟩)
            simp only [wf] at this
            exact this b h1
        · cases hget
    · cases ho
  · cases ho
theorem orcJoin_ok (hW : ∀ k, B k → k < W0.heap.size) {f : Nat} (hc : JoinC P f) : OrcIs G P B W0 (orcJoin f) := by
  intro g args h v h' ho σ V w R hw
  unfold orcJoin at ho
  cases hg : Nat.beq g f with
  | false => rw [hg] at ho; cases ho
  | true =>
    rw [hg] at ho
    obtain rfl := Nat.eq_of_beq_eq_true hg
    simp only [cond_true] at ho
    split at ho
    · rename_i id off len cap sep
      simp only [wfs, wf] at hw
      exact joinR_ok hW hc R hw.1.1 hw.2.1 hw.1.2 ho
    · rename_i id off l len sep
      simp only [wfs, wf] at hw
      exact joinR_ok hW hc (cap := (σ id).cap - l) R hw.1.1 hw.2.1 (by omega) ho
    · cases ho
end
end Go.Mini
/- The oracle of sha.Sum at known bytes, out of runs on a heap of its own. -/
namespace Go.Mini
open Go.RowKit
noncomputable def u32s (l : List Nat) : List MV := List.rec [] (fun n _ ih => .int .u32 (.ofNat n) :: ih) l
theorem u32s_eq (l : List Nat) : u32s l = l.map (fun n => .int .u32 (.ofNat n)) := by
  induction l with
  | nil => rfl
  | cons n l ih => exact congrArg (MV.int .u32 (.ofNat n) :: ·) ih
noncomputable def resB : Option (MV × MH) → Option (List Nat)
  | some (.agg l, _) => bytesOf l
  | _ => none
structure ShaT where
  s0 : Nat
  l0 : List Nat
  t0 : TypeId
  s1 : Nat
  l1 : List Nat
  t1 : TypeId
  u8 : TypeId
noncomputable def ShaT.b0 (T : ShaT) : MB := .cells (u32s T.l0) T.t0 1 false
noncomputable def ShaT.b1 (T : ShaT) : MB := .cells (u32s T.l1) T.t1 1 false
noncomputable def ShaT.tab (T : ShaT) : Tr MB := (Tr.nil.put T.s0 T.b0).put T.s1 T.b1
noncomputable def ShaT.at (T : ShaT) (a : Nat) (bs : List Nat) : Tr MB := T.tab.put a (.cells (ofBytes bs) T.u8 1 false)
def SumFact (E : Env) (T : ShaT) (f n a : Nat) (bs out : List Nat) : Prop := resB (run E n (.call f [.slo a 0 0 bs.length]) (start ⟨a + 1, a⟩ (T.at a bs))) = some out
section
variable [O : Opq]
noncomputable def findSum (tab : List (List Nat × List Nat)) (b : List Nat) : Option (List Nat) := List.rec none (fun p _ ih => Bool.rec ih (some p.2) (eqNs p.1 b)) tab
noncomputable def isB (b : MB) : Option MB → Bool
  | some x => eqB x b
  | none => false
noncomputable def orcSum (T : ShaT) (f a : Nat) (tab : List (List Nat × List Nat)) : Orc := fun g args h =>
  cond (Nat.beq g f) (match args with
    | [.slo id off _ len] => cond (and (Nat.ble a id) (and (isB T.b0 (h.get T.s0)) (isB T.b1 (h.get T.s1)))) (match h.get id with
      | some (.cells cs t _ _) => cond (Nat.beq t T.u8) (match ltake len (ldrop off cs) with
        | some l => match bytesOf l with
          | some bs => match findSum tab bs with | some out => some (.agg (ofBytes out), h) | none => none
          | none => none
        | none => none) none
      | _ => none) none
    | _ => none) none
end
end Go.Mini
/- The oracle of a function at given arguments; a start with the tables of sha. -/
namespace Go.Mini
open Go.RowKit
noncomputable def orcArgs (f : Nat) (ex : List MV) (b : Bool) : Orc := fun g args h => cond (and (Nat.beq g f) (eqvs args ex)) (some (.bool b, h)) none
section
variable [O : Opq] {G : GB} {P : Program} {B : Nat → Prop} {W0 : World}
theorem blk_of_cells {l : List Nat} {id : Nat} {t : TypeId} {w : World} {fz : Nat × Nat} {σ : Sg} {V : Nat → Prop} (h : w.heap[(σ id).blk]? = some (.cells ((l.map fun (n : Nat) => Value.int .u32 n).toArray) t fz)) (h0 : (σ id).off = 0) (hf : fz.1 = fz.2) : Blk σ V id w (.cells (u32s l) t 1 false) := by
  refine ⟨_, fz, h, ?_, ?_, fun i v hv => ?_, fun hf => (by cases hf), .inl hf⟩
  · rw [wfs_iff]; intro v hv; rw [u32s_eq] at hv; obtain ⟨n, -, rfl⟩ := List.mem_map.1 hv; simp only [wf]
  · rw [ones_iff]; intro v hv; rw [u32s_eq] at hv; obtain ⟨n, -, rfl⟩ := List.mem_map.1 hv; rfl
  · rw [u32s_eq, List.getElem?_map] at hv
    rw [h0, Nat.zero_add]
    simp only [List.getElem?_toArray, List.getElem?_map]
    cases hl : l[i]? with
    | none => rw [hl] at hv; cases hv
    | some n => rw [hl] at hv; cases hv; rfl
theorem startOk_sha {G : GB} (T : ShaT) {w : World} (hle : G.g0 ≤ G.ro) (h0 : T.s0 < G.g0) (h1 : T.s1 < G.g0) {f0 f1 : Nat × Nat} (hf0 : f0.1 = f0.2) (hf1 : f1.1 = f1.2)
    (c0 : w.heap[T.s0]? = some (.cells ((T.l0.map fun (n : Nat) => Value.int .u32 n).toArray) T.t0 f0)) (c1 : w.heap[T.s1]? = some (.cells ((T.l1.map fun (n : Nat) => Value.int .u32 n).toArray) T.t1 f1)) :
    StartOk G T.tab (fun id => ⟨id, 0, 0⟩) w := by
  have hget : ∀ k b, T.tab.get k = some b → (k = T.s1 ∧ b = T.b1) ∨ (k = T.s0 ∧ b = T.b0) := fun k b hk => by
    unfold ShaT.tab at hk
    rw [Tr.get_put] at hk
    split at hk
    · rename_i e; cases hk; exact .inl ⟨e, rfl⟩
    · rw [Tr.get_put] at hk
      split at hk
      · rename_i e; cases hk; exact .inr ⟨e, rfl⟩
      · rw [Tr.get_nil] at hk; cases hk
  refine ⟨hle, fun k b hk => ?_, fun _ _ => ⟨rfl, rfl⟩, fun k b hk => ?_, fun k k' b b' _ _ _ _ he => he⟩
  · rcases hget k b hk with ⟨rfl, -⟩ | ⟨rfl, -⟩ <;> omega
  · rcases hget k b hk with ⟨rfl, rfl⟩ | ⟨rfl, rfl⟩
    · exact blk_of_cells c1 rfl hf1
    · exact blk_of_cells c0 rfl hf0
end
end Go.Mini
/- The oracles of maps.Clone, stringslite.Index and of an iterator over nothing. -/
namespace Go.Mini
open Go.RowKit
noncomputable def orcClone (f : Nat) : Orc := fun g args h =>
  cond (Nat.beq g f) (match args with
    | [.mp id] => match h.get id with
      | some (.map es c) => some (.mp h.nx, h.new (.map es c))
      | _ => none
    | _ => none) none
noncomputable def orcIndex (f : Nat) : Orc := fun g args h =>
  cond (Nat.beq g f) (match args with
    | [.str s, .str t] => cond (Nat.ble (llen s 0) 65536) (some (.int .i64 (Lib.index (s.map UInt8.ofNat) (t.map UInt8.ofNat)), h)) none
    | _ => none) none
noncomputable def orcIter (f n : Nat) : Orc := fun g args h =>
  cond (Nat.beq g f) (match args with
    | [.yld _, .ptr p 0, .ptr q 0] => match h.get p, h.get q with
      | some (.cells [.opq k] _ _ _), some (.cells [.nilS] _ _ _) => cond (Nat.beq k n) (some (.tup [], h)) none
      | _, _ => none
    | _ => none) none
section
variable [O : Opq] {G : GB} {P : Program} {B : Nat → Prop} {W0 : World}
theorem orcClone_ok (hW : ∀ k, B k → k < W0.heap.size) {f : Nat} (hc : ∀ (b : Nat) (es : Array MapEntry) (clock : Nat) (w : World), w.heap[b]? = some (.map es clock) →
      Calls P f #[.map (some b)] w (fun e w' => e = .returned (.map (some w.heap.size)) ∧ w' = w.alloc (.map es clock))) : OrcIs G P B W0 (orcClone f) := by
  intro g args h v h' ho σ V w R hw
  unfold orcClone at ho
  cases hg : Nat.beq g f with
  | false => rw [hg] at ho; cases ho
  | true =>
    rw [hg] at ho
    obtain rfl := Nat.eq_of_beq_eq_true hg
    simp only [cond_true] at ho
    split at ho
    · rename_i id
      split at ho
      · rename_i es c hget
        cases ho
        simp only [wfs, wf] at hw
        obtain ⟨b1, b2⟩ := R.blk id _ hw.1 hget
        refine (hc (σ id).blk _ c w b1).mono ?_
        rintro e w' ⟨rfl, rfl⟩
        have hnV : ¬ V h.nx := fun hv => Nat.lt_irrefl _ (R.vx _ hv)
        have ha := agr_upd (V := V) σ ⟨w.heap.size, 0, 0⟩ hnV
        have hblk : Blk (upd σ h.nx ⟨w.heap.size, 0, 0⟩) (addV V h.nx) h.nx (w.alloc (.map ⟨es.map (embE σ)⟩ c)) (.map es c) := by
          refine ⟨?_, fun x hx => (wfE_agr ha (fun _ hv => .inl hv) (b2 x hx)).1⟩
          rw [upd_same, World.alloc_heap_new]
          congr 3
          exact List.map_congr_left fun x hx => ((wfE_agr ha (V' := addV V h.nx) (fun _ hv => .inl hv) (b2 x hx)).2).symm
        refine ⟨_, _, ha, fun _ hv => .inl hv, fun k hk => ?_, Nat.le_succ _, R.alloc (R.size hW) 0 0 hblk, ?_, ?_⟩
        · rcases hk with hk | rfl
          · exact .inl hk
          · exact .inr (Nat.le_refl _)
        · simp only [wf]; exact .inr rfl
        · simp only [emb, upd_same]
      · cases ho
    · cases ho
theorem orcIndex_ok (hW : ∀ k, B k → k < W0.heap.size) {f : Nat} (hc : ∀ (s t : ByteArray) (w : World), Kept B W0 w → s.size < 4294967281 →
      Calls P f #[.string s, .string t] w (fun e w' => e = .returned (.int .i64 (Lib.index s.data.toList t.data.toList)) ∧ w' = w)) : OrcIs G P B W0 (orcIndex f) := by
  intro g args h v h' ho σ V w R hw
  unfold orcIndex at ho
  cases hg : Nat.beq g f with
  | false => rw [hg] at ho; cases ho
  | true =>
    rw [hg] at ho
    obtain rfl := Nat.eq_of_beq_eq_true hg
    simp only [cond_true] at ho
    split at ho
    · rename_i s t
      cases hq : Nat.ble (llen s 0) 65536 with
      | false => rw [hq] at ho; cases ho
      | true =>
        rw [hq] at ho
        cases ho
        have hq := Nat.le_of_ble_eq_true hq
        rw [llen_eq] at hq
        refine (hc (bytesV s) (bytesV t) w R.below (by rw [bytesV_size]; omega)).mono ?_
        rintro e w' ⟨rfl, rfl⟩
        have e : ∀ a : List Nat, (bytesV a).data.toList = a.map UInt8.ofNat := fun a => by simp [bytesV]
        rw [e, e]
        exact endK_same (v := .int .i64 _) R hW (Below.refl _ _) (by simp only [wf])
    · cases ho
end
end Go.Mini
/- A straight list of operations on words: its values, and that each value is what its operation gives. -/
namespace Go.Mini
open Go.RowKit
inductive SO where
  | q (n : Nat)
  | u (n : Nat)
inductive SI where
  | bin (op : Nat) (a b : SO)
  | cv (a : Nat)
  | turn (ps : List Nat) (a : Nat)
  | ch (a b c : Nat)
def binI (op : Nat) (a b : Int) : Int :=
  match op with
  | 0 => IntKind.u32.wrap (a + b)
  | 1 => bits .and .u32 a b
  | 2 => bits .or .u32 a b
  | 3 => bits .xor .u32 a b
  | 4 => IntKind.u32.wrap (a * 2 ^ (min b.toNat 32))
  | _ => a.fdiv (2 ^ (min b.toNat 32))
def chI (x y z : Int) : Int := bits .xor .u32 (bits .and .u32 x y) (bits .and .u32 (bits .xor .u32 IntKind.u32.max x) z)
def SO.val (S : Nat → Int) : SO → Int
  | .q n => S n
  | .u n => n
noncomputable def evalI (I : SI) (S : Nat → Int) : Int :=
  match I with
  | .bin op a b => binI op (a.val S) (b.val S)
  | .cv a => IntKind.u32.wrap (S a)
  | .turn ps a => turnI (S a) ps 0
  | .ch a b c => chI (S a) (S b) (S c)
def SO.lt (n : Nat) : SO → Bool
  | .q k => Nat.blt k n
  | .u _ => true
def SI.lt (n : Nat) : SI → Bool
  | .bin _ a b => and (a.lt n) (b.lt n)
  | .cv a => Nat.blt a n
  | .turn _ a => Nat.blt a n
  | .ch a b c => and (Nat.blt a n) (and (Nat.blt b n) (Nat.blt c n))
theorem SO.congr {n : Nat} {a : SO} {S S' : Nat → Int} (h : ∀ k, k < n → S k = S' k) (ha : a.lt n = true) : a.val S = a.val S' := by
  cases a with
  | q k => exact h k (blt_lt ha)
  | u k => rfl
theorem evalI_congr {n : Nat} {I : SI} {S S' : Nat → Int} (h : ∀ k, k < n → S k = S' k) (hI : I.lt n = true) : evalI I S = evalI I S' := by
  cases I with
  | bin op a b =>
    obtain ⟨h1, h2⟩ := and2 hI
    simp only [evalI, SO.congr h h1, SO.congr h h2]
  | cv a => simp only [evalI, h a (blt_lt hI)]
  | turn ps a => simp only [evalI, h a (blt_lt hI)]
  | ch a b c =>
    obtain ⟨h1, h2⟩ := and2 hI
    obtain ⟨h2, h3⟩ := and2 h2
    simp only [evalI, h a (blt_lt h1), h b (blt_lt h2), h c (blt_lt h3)]
def odi (o : Option Int) : Int := match o with | some n => n | none => 0
noncomputable def look (S : Tr Int) (k : Nat) : Int := odi (S.get k)
noncomputable def ssa (tab : List SI) : Nat → Tr Int → Tr Int :=
  List.rec (fun _ S => S) (fun I _ ih n S => ih (Nat.succ n) (S.put n (evalI I (look S)))) tab
noncomputable def ltAll (tab : List SI) : Nat → Bool := List.rec (fun _ => true) (fun I _ ih n => and (I.lt n) (ih (Nat.succ n))) tab
theorem ssa_cons (I : SI) (tab : List SI) (n : Nat) (S : Tr Int) : ssa (I :: tab) n S = ssa tab (n + 1) (S.put n (evalI I (look S))) := rfl
theorem ssa_old : ∀ (tab : List SI) (n : Nat) (S : Tr Int) (k : Nat), k < n → look (ssa tab n S) k = look S k := by
  intro tab
  induction tab with
  | nil => intro n S k _; rfl
  | cons I tab ih =>
    intro n S k hk
    rw [ssa_cons, ih (n + 1) _ k (by omega)]
    unfold look
    rw [Tr.get_put, if_neg (by omega)]
theorem ssa_at : ∀ (tab : List SI) (n : Nat) (S : Tr Int), ltAll tab n = true → ∀ i I, tab[i]? = some I → look (ssa tab n S) (n + i) = evalI I (look (ssa tab n S)) := by
  intro tab
  induction tab with
  | nil => intro n S _ i I h; cases h
  | cons J tab ih =>
    intro n S hlt i I hi
    have e : ltAll (J :: tab) n = and (J.lt n) (ltAll tab (Nat.succ n)) := rfl
    rw [e] at hlt
    obtain ⟨h1, h2⟩ := and2 hlt
    rw [ssa_cons]
    cases i with
    | zero =>
      simp only [List.getElem?_cons_zero, Option.some.injEq] at hi
      subst hi
      show look (ssa tab (n + 1) (S.put n (evalI J (look S)))) n = _
      rw [ssa_old tab (n + 1) _ n (by omega)]
      have hn : look (S.put n (evalI J (look S))) n = evalI J (look S) := by unfold look; rw [Tr.get_put, if_pos rfl]; rfl
      rw [hn]
      refine evalI_congr (n := n) (fun k hk => ?_) h1
      rw [ssa_old tab (n + 1) _ k (by omega)]
      unfold look
      rw [Tr.get_put, if_neg (by omega)]
    | succ i =>
      have := ih (n + 1) (S.put n (evalI J (look S))) h2 i I (by simpa using hi)
      rw [show n + (i + 1) = n + 1 + i by omega]
      exact this
end Go.Mini
/- Operations on opaque words, looked up in a table. -/
namespace Go.Mini
open Go.RowKit
structure SymT where
  tab : List SI
  ix : Tr SI
  no : Tr (List Nat)
  ixok : ∀ k I, ix.get k = some I → ∃ i, k = 72 + i ∧ tab[i]? = some I
  lts : ltAll tab 72 = true
  lens : Nat.ble (llen tab 0) 90000 = true
theorem SymT.lt (T : SymT) {i : Nat} {I : SI} (h : T.tab[i]? = some I) : 72 + i < 100000 := by
  have h1 := Nat.le_of_ble_eq_true T.lens
  rw [llen_eq] at h1
  have := (List.getElem?_eq_some_iff.1 h).1
  omega
def opc : BinOp → Option Nat
  | .add => some 0
  | .and => some 1
  | .or => some 2
  | .xor => some 3
  | _ => none
def opsh : BinOp → Option Nat
  | .shl => some 4
  | .shr => some 5
  | _ => none
def wordN (n : Nat) : Bool := or (Nat.blt n 8) (and (Nat.ble 72 n) (Nat.blt n 100000))
def soOf : MV → Option SO
  | .opq n => cond (wordN n) (some (.q n)) none
  | .int .u32 (.ofNat n) => some (.u n)
  | _ => none
def encO : SO → Nat
  | .q n => n
  | .u n => n
def eqO : SO → SO → Bool
  | .q a, .q b => Nat.beq a b
  | .u a, .u b => Nat.beq a b
  | _, _ => false
def eqI : SI → SI → Bool
  | .bin c a b, .bin d x y => and (Nat.beq c d) (and (eqO a x) (eqO b y))
  | .cv a, .cv b => Nat.beq a b
  | .turn p a, .turn q b => and (eqNs p q) (Nat.beq a b)
  | .ch a b c, .ch x y z => and (Nat.beq a x) (and (Nat.beq b y) (Nat.beq c z))
  | _, _ => false
theorem eqO_eq : ∀ a b, eqO a b = true → a = b
  | .q a, .q b, h => by rw [Nat.eq_of_beq_eq_true h]
  | .u a, .u b, h => by rw [Nat.eq_of_beq_eq_true h]
  | .q _, .u _, h | .u _, .q _, h => by cases h
theorem eqI_eq : ∀ a b, eqI a b = true → a = b
  | .bin c a b, .bin d x y, h => by
    obtain ⟨h1, h2⟩ := and2 h
    obtain ⟨h2, h3⟩ := and2 h2
    rw [Nat.eq_of_beq_eq_true h1, eqO_eq _ _ h2, eqO_eq _ _ h3]
  | .cv a, .cv b, h => by rw [Nat.eq_of_beq_eq_true h]
  | .turn p a, .turn q b, h => by
    obtain ⟨h1, h2⟩ := and2 h
    rw [eqNs_eq _ _ h1, Nat.eq_of_beq_eq_true h2]
  | .ch a b c, .ch x y z, h => by
    obtain ⟨h1, h2⟩ := and2 h
    obtain ⟨h2, h3⟩ := and2 h2
    rw [Nat.eq_of_beq_eq_true h1, Nat.eq_of_beq_eq_true h2, Nat.eq_of_beq_eq_true h3]
  | .bin .., .cv _, h | .bin .., .turn .., h | .bin .., .ch .., h => by cases h
  | .cv _, .bin .., h | .cv _, .turn .., h | .cv _, .ch .., h => by cases h
  | .turn .., .bin .., h | .turn .., .cv _, h | .turn .., .ch .., h => by cases h
  | .ch .., .bin .., h | .ch .., .cv _, h | .ch .., .turn .., h => by cases h
noncomputable def findL (T : SymT) (I : SI) (l : List Nat) : Option Nat :=
  List.rec none (fun k _ ih => match T.ix.get k with
    | some J => cond (eqI J I) (some k) ih
    | none => ih) l
theorem findL_cons (T : SymT) (I : SI) (k : Nat) (l : List Nat) : findL T I (k :: l) = (match T.ix.get k with
    | some J => cond (eqI J I) (some k) (findL T I l)
    | none => findL T I l) := rfl
theorem findL_ok {T : SymT} {I : SI} {k : Nat} : ∀ l : List Nat, findL T I l = some k → ∃ i, k = 72 + i ∧ T.tab[i]? = some I := by
  intro l
  induction l with
  | nil => intro h; cases h
  | cons j l ih =>
    intro h
    rw [findL_cons] at h
    split at h
    · rename_i J hJ
      cases hq : eqI J I with
      | false => rw [hq] at h; exact ih h
      | true =>
        rw [hq] at h
        cases h
        obtain rfl := eqI_eq _ _ hq
        exact T.ixok _ _ hJ
    · exact ih h
noncomputable def findI (T : SymT) (a : Nat) (I : SI) : Option Nat :=
  match T.no.get a with
  | some l => findL T I l
  | none => none
theorem findI_ok {T : SymT} {a k : Nat} {I : SI} (h : findI T a I = some k) : ∃ i, k = 72 + i ∧ T.tab[i]? = some I := by
  unfold findI at h
  split at h
  · exact findL_ok _ h
  · cases h
def symR : Option Nat → Option MV
  | some k => some (.opq k)
  | none => none
noncomputable def boS (T : SymT) (op : BinOp) (_t : TypeId) (x y : MV) : Option MV :=
  match opc op with
  | some c => match soOf x, soOf y with
    | some a, some b => symR (findI T (encO a) (.bin c a b))
    | _, _ => none
  | none => match opsh op, soOf x, y with
    | some c, some a, .int .u64 (.ofNat n) => symR (findI T (encO a) (.bin c a (.u n)))
    | _, _, _ => none
noncomputable def coS (T : SymT) (s d u8 u32 : TypeId) (x : MV) : Option MV :=
  match x with
  | .opq n => cond (and (and (Nat.ble 8 n) (Nat.blt n 72)) (and (Nat.beq s u8) (Nat.beq d u32))) (symR (findI T n (.cv n))) none
  | _ => none
noncomputable def ins (l : List Int) : Nat → Tr Int → Tr Int := List.rec (fun _ S => S) (fun a _ ih n S => ih (Nat.succ n) (S.put n a)) l
noncomputable def symF (T : SymT) (l : List Int) : Nat → Int := look (ssa T.tab 72 (ins l 0 .nil))
theorem symF_at (T : SymT) (l : List Int) {i : Nat} {I : SI} (h : T.tab[i]? = some I) : symF T l (72 + i) = evalI I (symF T l) := ssa_at T.tab 72 _ T.lts i I h
noncomputable def symV (T : SymT) (l : List Int) (n : Nat) : Value := .int (cond (wordN n) .u32 .u8) (symF T l n)
structure Ext where
  val : Nat → Value
  single : ∀ i, (val i).cells = #[val i]
  one : ∀ i, (val i).oneCell' = true
noncomputable def extV (T : SymT) (l : List Int) (X : Ext) (n : Nat) : Value := cond (Nat.blt n 100000) (symV T l n) (X.val (n - 100000))
noncomputable abbrev symO (T : SymT) (l : List Int) (X : Ext) : Opq where
  val := extV T l X
  single n := by unfold extV; cases Nat.blt n 100000 <;> first | rfl | exact X.single _
  one n := by unfold extV; cases Nat.blt n 100000 <;> first | rfl | exact X.one _
theorem extV_lt {T : SymT} {l : List Int} {X : Ext} {n : Nat} (h : n < 100000) : extV T l X n = symV T l n := by
  unfold extV
  rw [show Nat.blt n 100000 = true from Nat.ble_eq_true_of_le h]; rfl
theorem extV_ge {T : SymT} {l : List Int} {X : Ext} (i : Nat) : extV T l X (100000 + i) = X.val i := by
  unfold extV
  have e : Nat.blt (100000 + i) 100000 = false := by
    cases h : Nat.blt (100000 + i) 100000 with
    | false => rfl
    | true => have := blt_lt h; omega
  rw [e, Nat.add_sub_cancel_left]; rfl
theorem bin_plain (c : Nat) (op : BinOp) (h : opc op = some c) (t : TypeId) (a b : Int) : binOp op t (.int .u32 a) (.int .u32 b) = pure (.int .u32 (binI c a b)) := by
  cases op <;> cases h <;> rfl
theorem bin_shift (c : Nat) (op : BinOp) (h : opsh op = some c) (t : TypeId) (a : Int) (n : Nat) : binOp op t (.int .u32 a) (.int .u64 (n : Int)) = pure (.int .u32 (binI c a n)) := by
  have hn : ¬ ((n : Int) < 0) := by omega
  cases op <;> cases h
  · show Op.shift .shl .u32 a .u64 (n : Int) = _
    unfold Op.shift
    rw [if_neg hn]
    rfl
  · show Op.shift .shr .u32 a .u64 (n : Int) = _
    unfold Op.shift
    rw [if_neg hn]
    rfl
end Go.Mini
/- The table's operations are the model's. -/
namespace Go.Mini
open Go.RowKit
section
variable {T : SymT} {l : List Int} {X : Ext}
theorem wordN_lt {n : Nat} (h : wordN n = true) : n < 100000 := by
  unfold wordN at h
  cases h1 : Nat.blt n 8 with
  | true => have := blt_lt h1; omega
  | false => rw [h1] at h; exact blt_lt (and2 h).2
theorem wordN_new {i : Nat} (h : 72 + i < 100000) : wordN (72 + i) = true := by
  unfold wordN
  rw [Nat.ble_eq_true_of_le (Nat.le_add_right 72 i), show Nat.blt (72 + i) 100000 = true from Nat.ble_eq_true_of_le h]
  cases Nat.blt (72 + i) 8 <;> rfl
theorem symV_word {n : Nat} (h : wordN n = true) : extV T l X n = .int .u32 (symF T l n) := by
  rw [extV_lt (wordN_lt h)]; unfold symV; rw [h]; rfl
theorem symV_new {i : Nat} {I : SI} (h : T.tab[i]? = some I) : extV T l X (72 + i) = .int .u32 (symF T l (72 + i)) := symV_word (wordN_new (T.lt h))
theorem so_val {x : MV} {a : SO} (h : soOf x = some a) (σ : Sg) : @emb (symO T l X) σ x = .int .u32 (a.val (symF T l)) := by
  unfold soOf at h
  split at h
  · rename_i n
    cases hq : wordN n with
    | false => rw [hq] at h; cases h
    | true =>
      rw [hq] at h
      cases h
      exact symV_word hq
  · cases h; rfl
  · cases h
theorem symR_some {o : Option Nat} {v : MV} (h : symR o = some v) : ∃ k, o = some k ∧ v = .opq k := by
  cases o with
  | none => cases h
  | some k => cases h; exact ⟨k, rfl, rfl⟩
theorem boS_ok {P : Program} (op : BinOp) (t : TypeId) (x y v : MV) (h : boS T op t x y = some v) (σ : Sg) (V : Nat → Prop) :
    @wf σ V v ∧ (@emb (symO T l X) σ x ≠ .nilIface ∧ ∀ c, @emb (symO T l X) σ x ≠ .agg c) ∧ ∀ w, (binOp op t (@emb (symO T l X) σ x) (@emb (symO T l X) σ y)).run P w = .ok (@emb (symO T l X) σ v) w := by
  unfold boS at h
  split at h
  · rename_i c hc
    split at h
    · rename_i a b ha hb
      obtain ⟨k, hk, rfl⟩ := symR_some h
      obtain ⟨i, rfl, hi⟩ := findI_ok hk
      rw [so_val ha, so_val hb]
      refine ⟨by simp only [wf], ⟨by simp, fun _ => by simp⟩, fun w => ?_⟩
      rw [bin_plain c op hc]
      show Result.ok _ w = Result.ok (extV T l X (72 + i)) w
      rw [symV_new hi, symF_at T l hi]
      rfl
    · cases h
  · split at h
    · rename_i c a n hc ha
      obtain ⟨k, hk, rfl⟩ := symR_some h
      obtain ⟨i, rfl, hi⟩ := findI_ok hk
      rw [so_val ha]
      refine ⟨by simp only [wf], ⟨by simp, fun _ => by simp⟩, fun w => ?_⟩
      show (binOp op t (.int .u32 (a.val (symF T l))) (.int .u64 (n : Int))).run P w = _
      rw [bin_shift c op hc]
      show Result.ok _ w = Result.ok (extV T l X (72 + i)) w
      rw [symV_new hi, symF_at T l hi]
      rfl
    · cases h
theorem coS_ok {P : Program} {u8 u32 : TypeId} (h8 : P.underlying u8 = some (.int .u8)) (h32 : P.underlying u32 = some (.int .u32)) (s d : TypeId) (x v : MV) (h : coS T s d u8 u32 x = some v) (σ : Sg) (V : Nat → Prop) :
    @wf σ V v ∧ ∀ w, (convert s d (@emb (symO T l X) σ x)).run P w = .ok (@emb (symO T l X) σ v) w := by
  unfold coS at h
  split at h
  · rename_i n
    cases hq : and (and (Nat.ble 8 n) (Nat.blt n 72)) (and (Nat.beq s u8) (Nat.beq d u32)) with
    | false => rw [hq] at h; cases h
    | true =>
      rw [hq] at h
      obtain ⟨q1, q2⟩ := and2 hq
      obtain ⟨q1, q3⟩ := and2 q1
      obtain ⟨q4, q5⟩ := and2 q2
      obtain rfl := Nat.eq_of_beq_eq_true q4
      obtain rfl := Nat.eq_of_beq_eq_true q5
      obtain ⟨k, hk, rfl⟩ := symR_some h
      obtain ⟨i, rfl, hi⟩ := findI_ok hk
      refine ⟨by simp only [wf], fun w => ?_⟩
      have q1 := Nat.le_of_ble_eq_true q1
      have q3 := blt_lt q3
      have hb : extV T l X n = .int .u8 (symF T l n) := by
        rw [extV_lt (by omega)]
        unfold symV wordN
        have e1 : Nat.blt n 8 = false := by
          cases hh : Nat.blt n 8 with
          | false => rfl
          | true => have := blt_lt hh; omega
        have e2 : Nat.ble 72 n = false := by
          cases hh : Nat.ble 72 n with
          | false => rfl
          | true => have := Nat.le_of_ble_eq_true hh; omega
        rw [e1, e2]; rfl
      show (convert s d (extV T l X n)).run P w = Result.ok (extV T l X (72 + i)) w
      rw [hb, symV_new hi, symF_at T l hi]
      unfold convert
      rw [Sem.bind_ok (r_und h8 w), Sem.bind_ok (r_und h32 w)]
      rfl
  · cases h
end
end Go.Mini
/- Functions on opaque words, looked up in a table. -/
namespace Go.Mini
open Go.RowKit
noncomputable def orcTurnS (T : SymT) (f : Nat) : Orc := fun g args h =>
  cond (Nat.beq g f) (match args with
    | [.opq a, .sl id off len _] => cond (and (Nat.ble len 64) (wordN a)) (match readCells h id off len with
      | some l => match placesOf l with
        | some ps => match findI T a (.turn ps a) with
          | some k => some (.opq k, h)
          | none => none
        | none => none
      | none => none) none
    | _ => none) none
noncomputable def orcChS (T : SymT) (f : Nat) : Orc := fun g args h =>
  cond (Nat.beq g f) (match args with
    | [.opq a, .opq b, .opq c] => cond (and (wordN a) (and (wordN b) (wordN c))) (match findI T a (.ch a b c) with
      | some k => some (.opq k, h)
      | none => none) none
    | _ => none) none
section
variable {T : SymT} {l : List Int} {X : Ext} {G : GB} {P : Program} {B : Nat → Prop} {W0 : World}
theorem orcTurnS_ok (hW : ∀ k, B k → k < W0.heap.size) {f : Nat} (hc : ∀ (x : Int) (b o cap : Nat) (ps : List Nat), (∀ p ∈ ps, 1 ≤ p ∧ p ≤ 31) → ps.length ≤ 64 → ∀ w : World, (∀ i (h : i < ps.length), w.cell? ⟨b, o + i, none⟩ = some (.int .i64 (ps[i] : Nat))) →
      Calls P f #[.int .u32 x, .slice (some ⟨b, o, none⟩) ps.length cap] w (fun e w' => e = .returned (.int .u32 (ps.foldl (fun y p => bits .xor .u32 y (rotI x (32 - p))) 0)) ∧ w = w')) : @OrcIs (symO T l X) G P B W0 (orcTurnS T f) := by
  letI O := symO T l X
  intro g args h v h' ho σ V w R hw
  unfold orcTurnS at ho
  cases hg : Nat.beq g f with
  | false => rw [hg] at ho; cases ho
  | true =>
    rw [hg] at ho
    obtain rfl := Nat.eq_of_beq_eq_true hg
    simp only [cond_true] at ho
    split at ho
    · rename_i a id off len cap
      cases hl : (and (Nat.ble len 64) (wordN a)) with
      | false => rw [hl] at ho; cases ho
      | true =>
        rw [hl] at ho
        simp only [cond_true] at ho
        obtain ⟨l1, l2⟩ := and2 hl
        split at ho
        · rename_i cs hr
          split at ho
          · rename_i ps hps
            split at ho
            · rename_i k hk
              cases ho
              obtain ⟨i, rfl, hi⟩ := findI_ok hk
              obtain ⟨p1, p2⟩ := placesOf_ok cs ps hps
              simp only [wfs, wf] at hw
              obtain ⟨r1, -, r3⟩ := rel_cells R hw.2.1.1 hr
              have hlen : len = ps.length := by rw [← r1, p2]; simp
              subst hlen
              have := hc (symF T l a) (σ id).blk ((σ id).off + off) cap ps p1 (Nat.le_of_ble_eq_true l1) w (fun i hi => r3 i (.int .i64 (.ofNat ps[i])) (by rw [p2]; simp [hi]))
              have e : (⟨embs σ [.opq a, .sl id off ps.length cap]⟩ : Array Value) = #[.int .u32 (symF T l a), .slice (some ⟨(σ id).blk, (σ id).off + off, none⟩) ps.length cap] := by
                simp only [embs, emb]
                rw [show O.val a = .int .u32 (symF T l a) from symV_word l2]
              rw [e]
              refine this.mono ?_
              rintro e w' ⟨rfl, rfl⟩
              rw [← turnI_eq]
              have ev : (Value.int .u32 (turnI (symF T l a) ps 0)) = emb σ (.opq (72 + i)) := by
                show _ = extV T l X (72 + i)
                rw [symV_new hi, symF_at T l hi]; rfl
              rw [ev]
              exact endK_same (v := .opq (72 + i)) R hW (Below.refl _ _) (by simp only [wf])
            · cases ho
          · cases ho
        · cases ho
    · cases ho
theorem orcChS_ok (hW : ∀ k, B k → k < W0.heap.size) {f : Nat} (hc : ∀ (x y z : Int) (w : World), Calls P f #[.int .u32 x, .int .u32 y, .int .u32 z] w (fun e w' => e = .returned (.int .u32 (chI x y z)) ∧ w = w')) : @OrcIs (symO T l X) G P B W0 (orcChS T f) := by
  letI O := symO T l X
  intro g args h v h' ho σ V w R hw
  unfold orcChS at ho
  cases hg : Nat.beq g f with
  | false => rw [hg] at ho; cases ho
  | true =>
    rw [hg] at ho
    obtain rfl := Nat.eq_of_beq_eq_true hg
    simp only [cond_true] at ho
    split at ho
    · rename_i a b c
      cases hl : (and (wordN a) (and (wordN b) (wordN c))) with
      | false => rw [hl] at ho; cases ho
      | true =>
        rw [hl] at ho
        simp only [cond_true] at ho
        obtain ⟨l1, l2⟩ := and2 hl
        obtain ⟨l2, l3⟩ := and2 l2
        split at ho
        · rename_i k hk
          cases ho
          obtain ⟨i, rfl, hi⟩ := findI_ok hk
          have e : (⟨embs σ [.opq a, .opq b, .opq c]⟩ : Array Value) = #[.int .u32 (symF T l a), .int .u32 (symF T l b), .int .u32 (symF T l c)] := by
            simp only [embs, emb]
            rw [show O.val a = .int .u32 (symF T l a) from symV_word l1, show O.val b = .int .u32 (symF T l b) from symV_word l2, show O.val c = .int .u32 (symF T l c) from symV_word l3]
          rw [e]
          refine (hc _ _ _ w).mono ?_
          rintro e w' ⟨rfl, rfl⟩
          have ev : (Value.int .u32 (chI (symF T l a) (symF T l b) (symF T l c))) = emb σ (.opq (72 + i)) := by
            show _ = extV T l X (72 + i)
            rw [symV_new hi, symF_at T l hi]; rfl
          rw [ev]
          exact endK_same (v := .opq (72 + i)) R hW (Below.refl _ _) (by simp only [wf])
        · cases ho
    · cases ho
end
end Go.Mini
namespace Go.Mini
noncomputable def mkIx (tab : List SI) : Nat → Tr SI → Tr SI := List.rec (fun _ S => S) (fun I _ ih n S => ih (Nat.succ n) (S.put n I)) tab
theorem mkIx_get : ∀ (tab : List SI) (n : Nat) (S : Tr SI) (k : Nat) (I : SI), (mkIx tab n S).get k = some I → (∃ i, k = n + i ∧ tab[i]? = some I) ∨ S.get k = some I := by
  intro tab
  induction tab with
  | nil => intro n S k I h; exact .inr h
  | cons J tab ih =>
    intro n S k I h
    have e : mkIx (J :: tab) n S = mkIx tab (n + 1) (S.put n J) := rfl
    rw [e] at h
    rcases ih (n + 1) _ k I h with ⟨i, rfl, hi⟩ | h
    · exact .inl ⟨i + 1, by omega, by simpa using hi⟩
    · rw [Tr.get_put] at h
      split at h
      · rename_i e; cases h; exact .inl ⟨0, by omega, rfl⟩
      · exact .inr h
theorem ixok_of {tab : List SI} {ix : Tr SI} (h : ix = mkIx tab 72 .nil) : ∀ k I, ix.get k = some I → ∃ i, k = 72 + i ∧ tab[i]? = some I := by
  intro k I hk
  rw [h] at hk
  rcases mkIx_get tab 72 .nil k I hk with h | h
  · exact h
  · rw [Tr.get_nil] at h; cases h
end Go.Mini
