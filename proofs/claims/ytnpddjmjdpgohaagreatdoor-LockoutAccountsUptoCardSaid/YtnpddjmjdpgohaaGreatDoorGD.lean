/- Part D of the proof about watchword's lockout: texts C8. -/
import Derived.Test.YtnpddjmjdpgohaaGreatDoorGC

namespace Go.WW
def setGt (a b : KeySet) : Bool := decide (b.version < a.version) && decide (b.created ≤ a.created)
def aliasOk (n a : Prin) : Bool := decide (a.realm = n.realm) && !samePrin a n
def attrsOk (a : Int) : Bool := decide (a ≤ 1023)
def entTimes (e : Entry) : Bool := btw e.expires 0 1099511627776 && btw e.pwExpires 0 1099511627776 && btw e.maxLife 0 2147483648 && btw e.maxRenew 0 2147483648 && btw e.fails 0 65535 && btw e.lastFail 0 1099511627776 && btw e.lastSuccess 0 1099511627776
def entSmall (e : Entry) : Bool := attrsOk e.attrs && btw e.master 0 65535 && decide ((e.keys.length : Int) ≤ 16) && decide ((e.policy.size : Int) ≤ 32) && visible e.policy && decide ((e.history.length : Int) ≤ 16)
def entryOk (e : Entry) : Bool := prinOk e.name && different e.aliases && different e.targets && different e.delegates && e.aliases.all (aliasOk e.name) && e.keys.all (setOk e.master) && ordered setGt e.keys && e.history.all (fun h => (h.length : Int) == 16) && entSmall e && entTimes e

theorem or_1023 (n : Nat) : ((n ||| 1023) = 1023) ↔ n ≤ 1023 := by
  constructor
  · intro h
    have h1 : (n ||| 1023) >>> 10 = 0 := by rw [h]; rfl
    rw [Nat.shiftRight_or_distrib] at h1
    have h2 : n >>> 10 = 0 := by
      have := Nat.or_eq_zero_iff.1 h1
      exact this.1
    rw [Nat.shiftRight_eq_div_pow] at h2
    omega
  · intro h
    have h1 : n < 2 ^ 10 := by omega
    apply Nat.eq_of_testBit_eq
    intro i
    rw [Nat.testBit_or]
    have e : (1023 : Nat) = 2 ^ 10 - 1 := rfl
    rw [e, Nat.testBit_two_pow_sub_one]
    by_cases hi : i < 10
    · simp [hi]
    · simp [hi]
      exact Nat.testBit_lt_two_pow (Nat.lt_of_lt_of_le h1 (Nat.pow_le_pow_right (by omega) (by omega)))
theorem entTimes_no1 (e : Entry) (h : ¬ btw e.expires 0 1099511627776 = true) : entTimes e = false := by
  have hb : (btw e.expires 0 1099511627776) = false := by first | exact h | (simpa using h) | (simp; omega)
  simp only [entTimes, hb, Bool.false_and]
theorem entTimes_no2 (e : Entry) (h : ¬ btw e.pwExpires 0 1099511627776 = true) : entTimes e = false := by
  have hb : (btw e.pwExpires 0 1099511627776) = false := by first | exact h | (simpa using h) | (simp; omega)
  simp only [entTimes, hb, Bool.false_and, Bool.and_false]
theorem entTimes_no3 (e : Entry) (h : ¬ btw e.maxLife 0 2147483648 = true) : entTimes e = false := by
  have hb : (btw e.maxLife 0 2147483648) = false := by first | exact h | (simpa using h) | (simp; omega)
  simp only [entTimes, hb, Bool.false_and, Bool.and_false]
theorem entTimes_no4 (e : Entry) (h : ¬ btw e.maxRenew 0 2147483648 = true) : entTimes e = false := by
  have hb : (btw e.maxRenew 0 2147483648) = false := by first | exact h | (simpa using h) | (simp; omega)
  simp only [entTimes, hb, Bool.false_and, Bool.and_false]
theorem entTimes_no5 (e : Entry) (h : ¬ btw e.fails 0 65535 = true) : entTimes e = false := by
  have hb : (btw e.fails 0 65535) = false := by first | exact h | (simpa using h) | (simp; omega)
  simp only [entTimes, hb, Bool.false_and, Bool.and_false]
theorem entTimes_no6 (e : Entry) (h : ¬ btw e.lastFail 0 1099511627776 = true) : entTimes e = false := by
  have hb : (btw e.lastFail 0 1099511627776) = false := by first | exact h | (simpa using h) | (simp; omega)
  simp only [entTimes, hb, Bool.false_and, Bool.and_false]
theorem entTimes_no7 (e : Entry) (h : ¬ btw e.lastSuccess 0 1099511627776 = true) : entTimes e = false := by
  have hb : (btw e.lastSuccess 0 1099511627776) = false := by first | exact h | (simpa using h) | (simp; omega)
  simp only [entTimes, hb, Bool.and_false]
theorem entTimes_end (e : Entry) (h1 : btw e.expires 0 1099511627776 = true) (h2 : btw e.pwExpires 0 1099511627776 = true) (h3 : btw e.maxLife 0 2147483648 = true) (h4 : btw e.maxRenew 0 2147483648 = true) (h5 : btw e.fails 0 65535 = true) (h6 : btw e.lastFail 0 1099511627776 = true) : entTimes e = (btw e.lastSuccess 0 1099511627776) := by
  have e1 : (btw e.expires 0 1099511627776) = true := by first | exact h1 | (simpa using h1) | (simp; omega)
  have e2 : (btw e.pwExpires 0 1099511627776) = true := by first | exact h2 | (simpa using h2) | (simp; omega)
  have e3 : (btw e.maxLife 0 2147483648) = true := by first | exact h3 | (simpa using h3) | (simp; omega)
  have e4 : (btw e.maxRenew 0 2147483648) = true := by first | exact h4 | (simpa using h4) | (simp; omega)
  have e5 : (btw e.fails 0 65535) = true := by first | exact h5 | (simpa using h5) | (simp; omega)
  have e6 : (btw e.lastFail 0 1099511627776) = true := by first | exact h6 | (simpa using h6) | (simp; omega)
  simp only [entTimes, e1, e2, e3, e4, e5, e6, Bool.true_and]
theorem attrs_or (a : Int) (h0 : 0 ≤ a) (h1 : a ≤ 4294967295) : (bits .or .i64 a 1023 = 1023) ↔ a ≤ 1023 := by
  obtain ⟨n, rfl⟩ := Int.eq_ofNat_of_zero_le h0
  have hn : n < 4294967296 := by omega
  have hb : (BitVec.ofInt 64 (n : Int) ||| BitVec.ofInt 64 1023).toNat = n ||| 1023 := by
    rw [BitVec.toNat_or]
    have e1 : (BitVec.ofInt 64 (n : Int)).toNat = n := by simp; omega
    rw [e1]; rfl
  have hlt : n ||| 1023 < 2 ^ 32 := Nat.or_lt_two_pow (by omega) (by omega)
  have : bits .or .i64 (n : Int) 1023 = ((n ||| 1023 : Nat) : Int) := by
    show IntKind.i64.wrap ((BitVec.ofInt 64 (n : Int) ||| BitVec.ofInt 64 1023).toNat : Int) = _
    rw [hb]
    exact IntWalk.i64_in _ (by omega)
  rw [this]
  have := or_1023 n
  omega
theorem small_n1 {e : Entry} (h : (16 < (e.keys.length : Int) ∨ 32 < (e.policy.size : Int)) ∨ 16 < (e.history.length : Int)) : entSmall e = false := by
  have : (decide ((e.keys.length : Int) ≤ 16) && decide ((e.policy.size : Int) ≤ 32) && decide ((e.history.length : Int) ≤ 16)) = false := by simp; omega
  simp only [entSmall]
  revert this
  cases decide ((e.keys.length : Int) ≤ 16) <;> cases decide ((e.policy.size : Int) ≤ 32) <;> cases decide ((e.history.length : Int) ≤ 16) <;> simp
theorem small_n2 {e : Entry} (h : ¬ visible e.policy = true) : entSmall e = false := by
  have : visible e.policy = false := by simpa using h
  simp [entSmall, this]
theorem small_n3 {e : Entry} (h : 32 < (e.policy.size : Int)) : entSmall e = false := small_n1 (.inl (.inr h))
theorem small_n4 {e : Entry} (h : 16 < (e.keys.length : Int)) : entSmall e = false := small_n1 (.inl (.inl h))
theorem small_n5 {e : Entry} (h : ¬ btw e.master 0 65535 = true) : entSmall e = false := by
  have : btw e.master 0 65535 = false := by simpa using h
  simp [entSmall, this]
theorem small_n6 {e : Entry} (h : ¬ e.attrs ≤ 1023) : entSmall e = false := by simp [entSmall, attrsOk, h]
theorem small_y {e : Entry} (h : e.attrs ≤ 1023) (h1 : btw e.master 0 65535 = true) (h2 : visible e.policy = true) (h3 : ((e.keys.length : Int) ≤ 16 ∧ (e.policy.size : Int) ≤ 32) ∧ (e.history.length : Int) ≤ 16) : entSmall e = true := by
  simp [entSmall, attrsOk, h, h1, h2, h3]
theorem ent_n1 {e : Entry} (h : prinOk e.name = false) : entryOk e = false := by simp [entryOk, h]
theorem ent_n2 {e : Entry} (h : different e.aliases = false) : entryOk e = false := by simp [entryOk, h]
theorem ent_n3 {e : Entry} (h : different e.targets = false) : entryOk e = false := by simp [entryOk, h]
theorem ent_n4 {e : Entry} (h : different e.delegates = false) : entryOk e = false := by simp [entryOk, h]
theorem ent_n5 {e : Entry} (k : Nat) (hk : k < e.aliases.length) (h : aliasOk e.name e.aliases[k] = false) : entryOk e = false := by
  have := lall_no e.aliases k hk h; simp [entryOk, this]
theorem ent_n6 {e : Entry} (k : Nat) (hk : k < e.keys.length) (h : setOk e.master e.keys[k] = false) : entryOk e = false := by
  have := lall_no e.keys k hk h; simp [entryOk, this]
theorem ord_no {α : Type} {f : α → α → Bool} {l : List α} (j : Nat) (hk : j + 1 < l.length) (h : f l[j] l[j + 1] = false) : ordered f l = false := by
  have h1 : j < l.length := by omega
  exact rall_no _ (j + 1) hk (by simp [ordAt, hk, h1, h])
theorem ord_go {α : Type} {f : α → α → Bool} {l : List α} (j : Nat) (hk : j + 1 < l.length) (hh : (List.range (j + 1)).all (ordAt f l) = true) (h : f l[j] l[j + 1] = true) : (List.range (j + 1 + 1)).all (ordAt f l) = true := by
  have h1 : j < l.length := by omega
  exact rall_step (j + 1) hh (by simp [ordAt, hk, h1, h])
theorem ord_zero {α : Type} {f : α → α → Bool} (l : List α) : (List.range (0 + 1)).all (ordAt f l) = true := by simp [ordAt]
theorem ent_n7 {e : Entry} (h : ordered setGt e.keys = false) : entryOk e = false := by simp [entryOk, h]
theorem ent_n8 {e : Entry} (k : Nat) (hk : k < e.history.length) (h : ((e.history[k].length : Int) == 16) = false) : entryOk e = false := by
  have := lall_no (p := fun h => (h.length : Int) == 16) e.history k hk h; simp [entryOk, this]
theorem ent_n9 {e : Entry} (h : entSmall e = false) : entryOk e = false := by simp [entryOk, h]
theorem ent_end {e : Entry} (h1 : prinOk e.name = true) (h2 : different e.aliases = true) (h3 : different e.targets = true) (h4 : different e.delegates = true) (h5 : e.aliases.all (aliasOk e.name) = true) (h6 : e.keys.all (setOk e.master) = true) (h7 : ordered setGt e.keys = true) (h8 : e.history.all (fun h => (h.length : Int) == 16) = true) (h9 : entSmall e = true) : entryOk e = entTimes e := by
  simp only [entryOk, h1, h2, h3, h4, h5, h6, h7, h8, h9, Bool.true_and]
end Go.WW
namespace Go.Proofs.YtnpddjmjdpgohaaGreatDoor
open Go.RowKit Go.WW

set_option maxRecDepth 100000 in
set_option maxHeartbeats 4000000 in
theorem valid24_c (r : ERaw) (d : Entry) (w : World) (he : EntAt w r d) : Calls Tryz.prog 32 #[.agg (entC r d)] w fun e w' => e = .returned (.bool (entryOk d)) ∧ Below w.heap.size w w' := by
  have hB : Below w.heap.size w (w.alloc (.cells (entC r d) 31)) := (Below.refl _ _).alloc (Nat.le_refl _) _
  cases h1 : prinOk d.name
  · have HN := Lib.hid (ent_n1 h1)
    go_enter Tryz.func32, Tryz.ntmps32
    go_wp2_with fail
    refine (validPrincipal_c _ _ _ (he.name.later hB)).mono ?_
    rintro e w1 ⟨rfl, hb1⟩
    rw [h1]
    obtain ⟨hc1, hf1, hr1⟩ := bcell hb1
    go_wp2
    go_ret
    exact ⟨by rw [HN.out]; rfl, hB.trans (hb1.mono (by simp))⟩
  cases h2 : different d.aliases
  · have HN := Lib.hid (ent_n2 h2)
    go_enter Tryz.func32, Tryz.ntmps32
    go_wp2_with fail
    refine (validPrincipal_c _ _ _ (he.name.later hB)).mono ?_
    rintro e w1 ⟨rfl, hb1⟩
    rw [h1]
    obtain ⟨hc1, hf1, hr1⟩ := bcell hb1
    go_wp2_with fail
    refine (different_c _ _ _ _ (he.aliases.later (hB.trans (hb1.mono (by simp))))).mono ?_
    rintro e w2 ⟨rfl, hb2⟩
    rw [h2]
    replace hb2 := below_step hb1 hb2
    clear hc1 hf1 hr1
    obtain ⟨hc2, hf2, hr2⟩ := bcell hb2
    go_wp2
    go_ret
    exact ⟨by rw [HN.out]; rfl, hB.trans (hb2.mono (by simp))⟩
  cases h3 : different d.targets
  · have HN := Lib.hid (ent_n3 h3)
    go_enter Tryz.func32, Tryz.ntmps32
    go_wp2_with fail
    refine (validPrincipal_c _ _ _ (he.name.later hB)).mono ?_
    rintro e w1 ⟨rfl, hb1⟩
    rw [h1]
    obtain ⟨hc1, hf1, hr1⟩ := bcell hb1
    go_wp2_with fail
    refine (different_c _ _ _ _ (he.aliases.later (hB.trans (hb1.mono (by simp))))).mono ?_
    rintro e w2 ⟨rfl, hb2⟩
    rw [h2]
    replace hb2 := below_step hb1 hb2
    clear hc1 hf1 hr1
    obtain ⟨hc2, hf2, hr2⟩ := bcell hb2
    go_wp2_with fail
    refine (different_c _ _ _ _ (he.targets.later (hB.trans (hb2.mono (by simp))))).mono ?_
    rintro e w3 ⟨rfl, hb3⟩
    rw [h3]
    replace hb3 := below_step hb2 hb3
    clear hc2 hf2 hr2
    obtain ⟨hc3, hf3, hr3⟩ := bcell hb3
    go_wp2
    go_ret
    exact ⟨by rw [HN.out]; rfl, hB.trans (hb3.mono (by simp))⟩
  cases h4 : different d.delegates
  · have HN := Lib.hid (ent_n4 h4)
    go_enter Tryz.func32, Tryz.ntmps32
    go_wp2_with fail
    refine (validPrincipal_c _ _ _ (he.name.later hB)).mono ?_
    rintro e w1 ⟨rfl, hb1⟩
    rw [h1]
    obtain ⟨hc1, hf1, hr1⟩ := bcell hb1
    go_wp2_with fail
    refine (different_c _ _ _ _ (he.aliases.later (hB.trans (hb1.mono (by simp))))).mono ?_
    rintro e w2 ⟨rfl, hb2⟩
    rw [h2]
    replace hb2 := below_step hb1 hb2
    clear hc1 hf1 hr1
    obtain ⟨hc2, hf2, hr2⟩ := bcell hb2
    go_wp2_with fail
    refine (different_c _ _ _ _ (he.targets.later (hB.trans (hb2.mono (by simp))))).mono ?_
    rintro e w3 ⟨rfl, hb3⟩
    rw [h3]
    replace hb3 := below_step hb2 hb3
    clear hc2 hf2 hr2
    obtain ⟨hc3, hf3, hr3⟩ := bcell hb3
    go_wp2_with fail
    refine (different_c _ _ _ _ (he.delegates.later (hB.trans (hb3.mono (by simp))))).mono ?_
    rintro e w4 ⟨rfl, hb4⟩
    rw [h4]
    replace hb4 := below_step hb3 hb4
    clear hc3 hf3 hr3
    obtain ⟨hc4, hf4, hr4⟩ := bcell hb4
    go_wp2
    go_ret
    exact ⟨by rw [HN.out]; rfl, hB.trans (hb4.mono (by simp))⟩
  go_enter Tryz.func32, Tryz.ntmps32
  go_wp2_with fail
  refine (validPrincipal_c _ _ _ (he.name.later hB)).mono ?_
  rintro e w1 ⟨rfl, hb1⟩
  rw [h1]
  obtain ⟨hc1, hf1, hr1⟩ := bcell hb1
  go_wp2_with fail
  refine (different_c _ _ _ _ (he.aliases.later (hB.trans (hb1.mono (by simp))))).mono ?_
  rintro e w2 ⟨rfl, hb2⟩
  rw [h2]
  replace hb2 := below_step hb1 hb2
  clear hc1 hf1 hr1
  obtain ⟨hc2, hf2, hr2⟩ := bcell hb2
  go_wp2_with fail
  refine (different_c _ _ _ _ (he.targets.later (hB.trans (hb2.mono (by simp))))).mono ?_
  rintro e w3 ⟨rfl, hb3⟩
  rw [h3]
  replace hb3 := below_step hb2 hb3
  clear hc2 hf2 hr2
  obtain ⟨hc3, hf3, hr3⟩ := bcell hb3
  go_wp2_with fail
  refine (different_c _ _ _ _ (he.delegates.later (hB.trans (hb3.mono (by simp))))).mono ?_
  rintro e w4 ⟨rfl, hb4⟩
  rw [h4]
  replace hb4 := below_step hb3 hb4
  clear hc3 hf3 hr3
  obtain ⟨hc4, hf4, hr4⟩ := bcell hb4
  clear hc4 hf4 hr4
  have H1 := Lib.hid h1; clear h1
  have H2 := Lib.hid h2; clear h2
  have H3 := Lib.hid h3; clear h3
  have H4 := Lib.hid h4; clear h4
  go_wp2
  go_loopw [3] (fun i wr => Below (w.alloc (.cells (entC r d) 31)).heap.size (w.alloc (.cells (entC r d) 31)) wr ∧ ∃ k : Nat, k ≤ d.aliases.length ∧ i = .int .i64 k ∧ Hid ((d.aliases.take k).all (aliasOk d.name) = true)) (fun i _ => d.aliases.length - (intOf i).toNat)
  case atStart => exact ⟨hb4, 0, Nat.zero_le _, rfl, by simp [Hid]⟩
  case round =>
    obtain ⟨hbr, k, hk, rfl, hall⟩ := hrel
    have hn1 : d.aliases.length ≤ 4294967000 := he.aliases.1
    obtain ⟨hcc, hff, hrr⟩ := bcell hbr
    have hsz : w.heap.size < wr.heap.size := by have := hbr.size; simp at this; omega
    by_cases hlt : k < d.aliases.length
    · obtain ⟨b, o, t, ha, hc, hp⟩ := he.aliases.get k hlt
      have hb : b < w.heap.size := row?_lt hc
      have hb1 : b < w.heap.size + 1 := by omega
      have hki : (k : Int) < (d.aliases.length : Int) := by omega
      have c1 : w.cell? ⟨b, o + k * 2 + 1, none⟩ = some (.string d.aliases[k].realm) := by simpa [prinC_1] using row?_cell hc 1 (by omega)
      by_cases hr : d.aliases[k].realm = d.name.realm
      · have hr' := str_eq _ _ hr
        cases hs : samePrin d.aliases[k] d.name
        · have HS := Lib.hid (lall_step (p := aliasOk d.name) d.aliases k hlt hall.out (by simp [aliasOk, hr, hs]))
          clear hr
          go_wp2
          refine wp_region_later hbr (by kernel_rfl) (by kernel_rfl) ?_
          repeat (go_big_quiet_step ((go_at_call 21; rename_i xw; exact Calls.later_of (hs ▸ samePrincipal_c _ _ _ _ _ (hp.later (hB.trans (xw.b.mono (by simp)))) (he.name.later (hB.trans (xw.b.mono (by simp))))))))
          refine wpQuiet_nil ?_
          intro w2 hb2
          go_wp2
          go_roundw
          case rel => exact ⟨hb2, k + 1, by omega, by go_num, HS.out⟩
          case measure => simp [intOf]; omega
        · have HS := Lib.hid (ent_n5 k hlt (by simp [aliasOk, hs]))
          clear hr
          go_wp2
          refine wp_region_later hbr (by kernel_rfl) (by kernel_rfl) ?_
          repeat (go_big_quiet_step ((go_at_call 21; rename_i xw; exact Calls.later_of (hs ▸ samePrincipal_c _ _ _ _ _ (hp.later (hB.trans (xw.b.mono (by simp)))) (he.name.later (hB.trans (xw.b.mono (by simp))))))))
          refine wpQuiet_nil ?_
          intro w2 hb2
          go_wp2
          go_ret
          exact ⟨by rw [HS.out]; rfl, hB.trans (hb2.mono (by simp))⟩
      · have hr' := str_ne _ _ hr
        have HS := Lib.hid (ent_n5 k hlt (by simp [aliasOk, hr]))
        clear hr
        go_wp2
        refine wp_region_later hbr (by kernel_rfl) (by kernel_rfl) ?_
        repeat (go_big_quiet_step (fail))
        refine wpQuiet_nil ?_
        intro w2 hb2
        go_wp2
        go_ret
        exact ⟨by rw [HS.out]; rfl, hB.trans (hb2.mono (by simp))⟩
    · have H5 := Lib.hid (lall_end d.aliases k (by omega) hall.out)
      clear hall
      go_wp2
      clear hcc hff hrr hn1
      have hbA := hbr
      clear hbr hk hlt
      obtain ⟨wo, hwo⟩ : ∃ wo : World, wo = wr := ⟨_, rfl⟩
      subst hwo
      go_loopw [4] (fun i wr => Below (w.alloc (.cells (entC r d) 31)).heap.size (w.alloc (.cells (entC r d) 31)) wr ∧ ∃ k : Nat, k ≤ d.keys.length ∧ i = .int .i64 k ∧ Hid ((d.keys.take k).all (setOk d.master) = true) ∧ Hid ((List.range k).all (ordAt setGt d.keys) = true)) (fun i _ => d.keys.length - (intOf i).toNat)
      case atStart => exact ⟨hbA, 0, Nat.zero_le _, rfl, by simp [Hid], by simp [Hid]⟩
      case round =>
        obtain ⟨hbr, k, hk, rfl, hall, hord⟩ := hrel
        have hn1 : d.keys.length ≤ 4294967000 := he.keys.1
        obtain ⟨hcc, hff, hrr⟩ := bcell hbr
        have hsz : w.heap.size < wr.heap.size := by have := hbr.size; simp at this; omega
        by_cases hlt : k < d.keys.length
        · obtain ⟨b, o, t, ha, hc, hp⟩ := he.keys.get k hlt
          have hb : b < w.heap.size := row?_lt hc
          have hb1 : b < w.heap.size + 1 := by omega
          have hki : (k : Int) < (d.keys.length : Int) := by omega
          have c0 : w.cell? ⟨b, o + k * 5, none⟩ = some (.int .i64 d.keys[k].version) := by simpa [setC_0] using row?_cell hc 0 (by omega)
          have c4 : w.cell? ⟨b, o + k * 5 + 4, none⟩ = some (.int .i64 d.keys[k].created) := by simpa [setC_4] using row?_cell hc 4 (by omega)
          cases hs : setOk d.master d.keys[k]
          · have HS := Lib.hid (ent_n6 k hlt hs)
            go_wp2
            refine wp_region_later hbr (by kernel_rfl) (by kernel_rfl) ?_
            repeat (go_big_quiet_step ((go_at_call 60; rename_i xw; exact Calls.later_of (hs ▸ validSet24_c _ _ _ _ (hp.later (hB.trans (xw.b.mono (by simp))))))))
            refine wpQuiet_nil ?_
            intro w2 hb2
            go_wp2
            go_ret
            exact ⟨by rw [HS.out]; rfl, hB.trans (hb2.mono (by simp))⟩
          · have HS := Lib.hid (lall_step (p := setOk d.master) d.keys k hlt hall.out hs)
            by_cases h0 : k = 0
            · subst h0
              simp only [Nat.zero_mul, Nat.add_zero] at hc c0 c4
              have hkz : (0 : Int) < (d.keys.length : Int) := by omega
              clear hki
              rw [show ((0 : Nat) : Int) = 0 from rfl]
              go_wp2
              refine wp_region_later hbr (by kernel_rfl) (by kernel_rfl) ?_
              repeat (go_big_quiet_step ((go_at_call 60; rename_i xw; exact Calls.later_of (hs ▸ validSet24_c _ _ _ _ (hp.later (hB.trans (xw.b.mono (by simp))))))))
              refine wpQuiet_nil ?_
              intro w2 hb2
              go_wp2
              go_roundw
              case rel => exact ⟨hb2, 1, by omega, by go_num, HS.out, ord_zero _⟩
              case measure => simp [intOf]; omega
            · obtain ⟨j, rfl⟩ : ∃ j, k = j + 1 := ⟨k - 1, by omega⟩
              clear h0
              have hj : j < d.keys.length := by omega
              obtain ⟨b', o', t', ha', hc', hp'⟩ := he.keys.get j hj
              rw [ha] at ha'
              obtain ⟨rfl, rfl⟩ : b = b' ∧ o = o' := by cases ha'; exact ⟨rfl, rfl⟩
              clear ha' hp'
              have e0 : w.cell? ⟨b, o + j * 5, none⟩ = some (.int .i64 d.keys[j].version) := by simpa [setC_0] using row?_cell hc' 0 (by omega)
              have e4 : w.cell? ⟨b, o + j * 5 + 4, none⟩ = some (.int .i64 d.keys[j].created) := by simpa [setC_4] using row?_cell hc' 4 (by omega)
              clear hc'
              have hp0 : (0 : Int) < (j : Int) + 1 := by omega
              have hp1 : decide ((0 : Int) < (j : Int) + 1) = true := by simp
              have hp2 : (j : Int) < (d.keys.length : Int) := by omega
              by_cases hv : d.keys[j].version ≤ d.keys[j + 1].version
              · have hv' : decide (d.keys[j].version ≤ d.keys[j + 1].version) = true := by simpa using hv
                have HN := Lib.hid (ent_n7 (ord_no (f := setGt) j hlt (by simp [setGt]; omega)))
                go_wp2
                refine wp_region_later hbr (by kernel_rfl) (by kernel_rfl) ?_
                repeat (go_big_quiet_step ((go_at_call 60; rename_i xw; exact Calls.later_of (hs ▸ validSet24_c _ _ _ _ (hp.later (hB.trans (xw.b.mono (by simp))))))))
                refine wpQuiet_nil ?_
                intro w2 hb2
                go_wp2
                go_ret
                exact ⟨by rw [HN.out]; rfl, hB.trans (hb2.mono (by simp))⟩
              · have hv' : decide (d.keys[j].version ≤ d.keys[j + 1].version) = false := by simpa using hv
                by_cases hx : d.keys[j].created < d.keys[j + 1].created
                · have hx' : decide (d.keys[j].created < d.keys[j + 1].created) = true := by simpa using hx
                  have HN := Lib.hid (ent_n7 (ord_no (f := setGt) j hlt (by simp [setGt]; omega)))
                  go_wp2
                  refine wp_region_later hbr (by kernel_rfl) (by kernel_rfl) ?_
                  repeat (go_big_quiet_step ((go_at_call 60; rename_i xw; exact Calls.later_of (hs ▸ validSet24_c _ _ _ _ (hp.later (hB.trans (xw.b.mono (by simp))))))))
                  refine wpQuiet_nil ?_
                  intro w2 hb2
                  go_wp2
                  go_ret
                  exact ⟨by rw [HN.out]; rfl, hB.trans (hb2.mono (by simp))⟩
                · have hx' : decide (d.keys[j].created < d.keys[j + 1].created) = false := by simpa using hx
                  have HN := Lib.hid (ord_go (f := setGt) j hlt hord.out (by simp [setGt]; omega))
                  go_wp2
                  refine wp_region_later hbr (by kernel_rfl) (by kernel_rfl) ?_
                  repeat (go_big_quiet_step ((go_at_call 60; rename_i xw; exact Calls.later_of (hs ▸ validSet24_c _ _ _ _ (hp.later (hB.trans (xw.b.mono (by simp))))))))
                  refine wpQuiet_nil ?_
                  intro w2 hb2
                  go_wp2
                  go_roundw
                  case rel => exact ⟨hb2, j + 1 + 1, by omega, by go_num, HS.out, HN.out⟩
                  case measure => simp [intOf]; omega
        · have H6 := Lib.hid (lall_end d.keys k (by omega) hall.out)
          have H7 := Lib.hid (rall_end d.keys.length k (by omega) hord.out)
          clear hall hord
          go_wp2
          clear hn1
          have hn2 : d.history.length ≤ 4294967000 := he.history.1
          go_loop [5] (fun i => ∃ k : Nat, k ≤ d.history.length ∧ i = .int .i64 k ∧ Hid ((d.history.take k).all (fun h => (h.length : Int) == 16) = true)) (fun i => d.history.length - (intOf i).toNat)
          case atStart => exact ⟨0, Nat.zero_le _, rfl, by simp [Hid]⟩
          case round =>
            obtain ⟨j, hj, rfl, hall⟩ := hrel
            by_cases hjl : j < d.history.length
            · obtain ⟨b, o, t, ha, hc, hp⟩ := he.history.get j hjl
              have hb : b < w.heap.size := World.block_lt_of_cell? w _ hc
              have hb1 : b < w.heap.size + 1 := by omega
              have hki : (j : Int) < (d.history.length : Int) := by omega
              cases hs : ((d.history[j].length : Int) == 16)
              · have HS := Lib.hid (ent_n8 j hjl hs)
                have hs' : ((d.history[j].length : Int) != 16) = true := by simp [bne, hs]
                go_wp2
                go_ret
                exact ⟨by rw [HS.out]; rfl, hB.trans (hbr.mono (by simp))⟩
              · have HS := Lib.hid (lall_step (p := fun h => (h.length : Int) == 16) d.history j hjl hall.out hs)
                have hs' : ((d.history[j].length : Int) != 16) = false := by simp [bne, hs]
                go_wp2
                go_round
                case rel => exact ⟨j + 1, by omega, by go_num, HS.out⟩
                case measure => simp [intOf]; omega
            · have H8 := Lib.hid (lall_end d.history j (by omega) hall.out)
              clear hall
              have hpo := he.policy
              have ha0 := he.attrs.1
              have ha1 := he.attrs.2
              by_cases hat : d.attrs ≤ 1023
              · have hbit : (bits BinOp.or IntKind.i64 d.attrs 1023 != 1023) = false := by simpa using (attrs_or d.attrs ha0 ha1).2 hat
                go_wp2_with (first | (go_at_call 61; refine (in16_c _ _ _ _).mono ?_; rintro e w' ⟨rfl, rfl⟩) | (go_at_call 62; refine (visible_c _ _ (le_max hpo)).mono ?_; rintro e w' ⟨rfl, rfl⟩))
                all_goals go_ret
                all_goals
                  refine ⟨?_, hB.trans (hbr.mono (by simp))⟩
                  first
                    | (rw [ent_n9 (small_n1 ‹_›)]; rfl)
                    | (rw [ent_n9 (small_n2 ‹_›)]; rfl)
                    | (rw [ent_n9 (small_n3 ‹_›)]; rfl)
                    | (rw [ent_n9 (small_n4 ‹_›)]; rfl)
                    | (rw [ent_n9 (small_n5 ‹_›)]; rfl)
                    | (rw [ent_end H1.out H2.out H3.out H4.out H5.out H6.out H7.out H8.out (small_y hat ‹_› ‹_› ‹_›)]; first | (rw [entTimes_no1 d ‹_›]; rfl) | (rw [entTimes_no2 d ‹_›]; rfl) | (rw [entTimes_no3 d ‹_›]; rfl) | (rw [entTimes_no4 d ‹_›]; rfl) | (rw [entTimes_no5 d ‹_›]; rfl) | (rw [entTimes_no6 d ‹_›]; rfl) | (rw [entTimes_no7 d ‹_›]; rfl) | (rw [entTimes_end d ‹_› ‹_› ‹_› ‹_› ‹_› ‹_›]; rfl))
              · have hbit : (bits BinOp.or IntKind.i64 d.attrs 1023 != 1023) = true := by simpa using mt (attrs_or d.attrs ha0 ha1).1 hat
                have HN := Lib.hid (ent_n9 (small_n6 hat))
                clear hat
                go_wp2_with (first | (go_at_call 61; refine (in16_c _ _ _ _).mono ?_; rintro e w' ⟨rfl, rfl⟩) | (go_at_call 62; refine (visible_c _ _ (le_max hpo)).mono ?_; rintro e w' ⟨rfl, rfl⟩))
                go_ret
                exact ⟨by rw [HN.out]; rfl, hB.trans (hbr.mono (by simp))⟩
end Go.Proofs.YtnpddjmjdpgohaaGreatDoor
