/- Contract of the reference's different. -/
import Derived.Test.YtpibcnchkndejaaGreatDoorXB
import Derived.Test.YtpibcnchkndejaaGreatDoorXD
import Derived.Carry
import Derived.WideMake
import Derived.RangeFuncOwn
import Derived.Test.YtpibcnchkndejaaGreatDoorXA
import Derived.Maps.AppendAt
import Derived.Deep.AppendLies
namespace Go.WW
/-- The principal with number i is valid and differs from those before it. -/
def diffAt (l : List Prin) (i : Nat) : Bool :=
  match l[i]? with
  | none => true
  | some p => prinOk p && (l.take i).all (fun q => !samePrin q p)
def diffAll (l : List Prin) : Bool := (List.range l.length).all (diffAt l)
def different (l : List Prin) : Bool := diffAll l && decide ((l.length : Int) ≤ 16)
theorem diff_no1 {l : List Prin} (i : Nat) (hi : i < l.length) (h : prinOk l[i] = false) : different l = false := by
  have : diffAt l i = false := by simp [diffAt, hi, h]
  rw [different, diffAll, rall_no _ i hi this]; rfl
theorem diff_no2 {l : List Prin} (i k : Nat) (hi : i < l.length) (hk : k < i) (h : samePrin l[k] l[i] = true) : different l = false := by
  have h2 : (l.take i).all (fun q => !samePrin q l[i]) = false := by
    rw [List.all_eq_false]
    exact ⟨l[k], by rw [List.mem_iff_getElem]; exact ⟨k, by simp; omega, by simp⟩, by simp [h]⟩
  have : diffAt l i = false := by simp [diffAt, hi, h2]
  rw [different, diffAll, rall_no _ i hi this]; rfl
theorem diff_step {l : List Prin} (i : Nat) (hi : i < l.length) (h : (List.range i).all (diffAt l) = true) (h1 : prinOk l[i] = true) (h2 : (l.take i).all (fun q => !samePrin q l[i]) = true) : (List.range (i + 1)).all (diffAt l) = true :=
  rall_step i h (by simp [diffAt, hi, h1, h2])
theorem diff_end {l : List Prin} (i : Nat) (hi : i = l.length) (h : (List.range i).all (diffAt l) = true) : different l = decide ((l.length : Int) ≤ 16) := by
  subst hi; rw [different, diffAll, h]; rfl
end Go.WW
namespace Go.Proofs.YtpibcnchkndejaaGreatDoor
open Go.RowKit Go.WW

theorem different_nil (a : Option Addr) (cap : Nat) (w : World) : Calls Tryz.prog 90 #[.slice a 0 cap] w fun e w' => e = .returned (.bool (different [])) ∧ Below w.heap.size w w' := by
  go_enter Tryz.func90, Tryz.ntmps90
  go_wp2
  refine wp_loop_rounds 1 ?_
  rw [rounds_succ]
  go_wp2
  go_ret
  exact ⟨rfl, Below.refl _ _⟩

set_option maxHeartbeats 1000000 in
theorem different_c (a : Option Addr) (cap : Nat) (l : List Prin) (w : World) (hl : PrinsAt w a l) : Calls Tryz.prog 90 #[.slice a l.length cap] w fun e w' => e = .returned (.bool (different l)) ∧ Below w.heap.size w w' := by
  have hn : l.length ≤ 4294967000 := hl.1
  rcases RowsAt.addr hl with h0 | ⟨b, o, rfl, hb⟩
  · obtain rfl : l = [] := List.eq_nil_of_length_eq_zero h0
    exact different_nil a cap w
  go_enter Tryz.func90, Tryz.ntmps90
  go_wp2
  go_loopw [3] (fun i wr => Below w.heap.size w wr ∧ ∃ k : Nat, k ≤ l.length ∧ i = .int .i64 k ∧ Hid ((List.range k).all (diffAt l) = true)) (fun i _ => l.length - (intOf i).toNat)
  case atStart => exact ⟨Below.refl _ _, 0, Nat.zero_le _, rfl, by simp [Hid]⟩
  case round =>
    obtain ⟨hbr, i, hi, rfl, hall⟩ := hrel
    by_cases hlt : i < l.length
    · obtain ⟨t, hc, hp⟩ := hl.at i hlt
      have hii : (i : Int) < (l.length : Int) := by omega
      obtain ⟨hcc, hff, hrr⟩ := bcell hbr
      go_wp2_with fail
      refine (validPrincipal_c _ _ _ (hp.later hbr)).mono ?_
      rintro e w1 ⟨rfl, hb1⟩
      replace hb1 := below_step hbr hb1
      clear hcc hff hrr
      cases hv : prinOk l[i]
      · have HN := Lib.hid (diff_no1 i hlt hv)
        go_wp2
        go_ret
        exact ⟨by rw [HN.out]; rfl, hb1⟩
      · have HV := Lib.hid hv; clear hv
        obtain ⟨wo, rfl⟩ : ∃ wo : World, wo = wr := ⟨_, rfl⟩
        go_wp2
        go_loopw [4] (fun j wr => Below w.heap.size w wr ∧ ∃ k : Nat, k ≤ i ∧ j = .int .i64 k ∧ Hid ((l.take k).all (fun q => !samePrin q l[i]) = true)) (fun j _ => i - (intOf j).toNat)
        case atStart => exact ⟨hb1, 0, Nat.zero_le _, rfl, by simp [Hid]⟩
        case round =>
          obtain ⟨hbr2, k, hk, rfl, hall2⟩ := hrel
          by_cases hk2 : k < i
          · have hkl : k < l.length := by omega
            have hkk : (k : Int) < (l.length : Int) := by omega
            obtain ⟨t', hc', hp'⟩ := hl.at k hkl
            cases hs : samePrin l[k] l[i]
            · have HS := Lib.hid (lall_step (p := fun q => !samePrin q l[i]) l k hkl hall2.out (by simp [hs]))
              go_wp2
              refine wp_region_later hbr2 (by kernel_rfl) (by kernel_rfl) ?_
              repeat (go_big_quiet_step ((go_at_call 91; rename_i xw; exact Calls.later_of (hs ▸ samePrincipal_c _ _ _ _ _ (hp'.later xw.b) (hp.later xw.b)))))
              refine wpQuiet_nil ?_
              intro w2 hb2
              go_wp2
              go_roundw
              case rel => exact ⟨hb2, k + 1, by omega, by go_num, HS.out⟩
              case measure => simp [intOf]; omega
            · have HS := Lib.hid (diff_no2 i k hlt hk2 hs)
              go_wp2
              refine wp_region_later hbr2 (by kernel_rfl) (by kernel_rfl) ?_
              repeat (go_big_quiet_step ((go_at_call 91; rename_i xw; exact Calls.later_of (hs ▸ samePrincipal_c _ _ _ _ _ (hp'.later xw.b) (hp.later xw.b)))))
              refine wpQuiet_nil ?_
              intro w2 hb2
              go_wp2
              go_ret
              exact ⟨by rw [HS.out]; rfl, hb2⟩
          · have hall3 := hall2.out
            have e : k = i := by omega
            rw [e] at hall3
            have HS := Lib.hid (diff_step i hlt hall.out HV.out hall3)
            clear hall3 e
            go_wp2
            go_roundw
            case rel => first | exact ⟨hbr2, i + 1, by omega, by go_num, HS.out⟩ | ((repeat apply Exists.intro); exact ⟨⟨hbr2, i + 1, by omega, by go_num, HS.out⟩, rfl⟩)
            case measure => simp [intOf]; omega
    · have HE := Lib.hid (diff_end i (by omega) hall.out)
      go_wp2
      go_ret
      exact ⟨by rw [HE.out]; rfl, hbr⟩
end Go.Proofs.YtpibcnchkndejaaGreatDoor
/- Contract of the reference's Valid for entries. -/
namespace Go.WW
def setGt (a b : KeySet) : Bool := decide (b.version < a.version) && decide (b.created ≤ a.created)
def aliasOk (n a : Prin) : Bool := decide (a.realm = n.realm) && !samePrin a n
def attrsOk (a : Int) : Bool := decide (a ≤ 1023)
def entTimes (e : Entry) : Bool := btw e.expires 0 1099511627776 && btw e.pwExpires 0 1099511627776 && btw e.maxLife 0 2147483648 && btw e.maxRenew 0 2147483648 && btw e.fails 0 65535 && btw e.lastFail 0 1099511627776 && btw e.lastSuccess 0 1099511627776
def entSmall (e : Entry) : Bool := attrsOk e.attrs && btw e.master 0 65535 && decide ((e.keys.length : Int) ≤ 16) && decide ((e.policy.size : Int) ≤ 32) && visible e.policy && decide ((e.history.length : Int) ≤ 16)
def entryOk (e : Entry) : Bool := prinOk e.name && different e.aliases && different e.targets && different e.delegates && e.aliases.all (aliasOk e.name) && e.keys.all (setOk e.master) && ordered setGt e.keys && e.history.all (fun h => (h.length : Int) == 16) && entSmall e && entTimes e

theorem or_1023 (n : Nat) : ((n ||| 1023) = 1023) ↔ n ≤ 1023 := by
  constructor
  · intro h
    have h1 : (n ||| 1023) >>> 10 = 0 := by rw [h]; rfl
    rw [Nat.shiftRight_or_distrib] at h1
    have h2 : n >>> 10 = 0 := by
      have := Nat.or_eq_zero_iff.1 h1
      exact this.1
    rw [Nat.shiftRight_eq_div_pow] at h2
    omega
  · intro h
    have h1 : n < 2 ^ 10 := by omega
    apply Nat.eq_of_testBit_eq
    intro i
    rw [Nat.testBit_or]
    have e : (1023 : Nat) = 2 ^ 10 - 1 := rfl
    rw [e, Nat.testBit_two_pow_sub_one]
    by_cases hi : i < 10
    · simp [hi]
    · simp [hi]
      exact Nat.testBit_lt_two_pow (Nat.lt_of_lt_of_le h1 (Nat.pow_le_pow_right (by omega) (by omega)))
theorem entTimes_no1 (e : Entry) (h : ¬ btw e.expires 0 1099511627776 = true) : entTimes e = false := by
  have hb : (btw e.expires 0 1099511627776) = false := by first | exact h | (simpa using h) | (simp; omega)
  simp only [entTimes, hb, Bool.false_and]
theorem entTimes_no2 (e : Entry) (h : ¬ btw e.pwExpires 0 1099511627776 = true) : entTimes e = false := by
  have hb : (btw e.pwExpires 0 1099511627776) = false := by first | exact h | (simpa using h) | (simp; omega)
  simp only [entTimes, hb, Bool.false_and, Bool.and_false]
theorem entTimes_no3 (e : Entry) (h : ¬ btw e.maxLife 0 2147483648 = true) : entTimes e = false := by
  have hb : (btw e.maxLife 0 2147483648) = false := by first | exact h | (simpa using h) | (simp; omega)
  simp only [entTimes, hb, Bool.false_and, Bool.and_false]
theorem entTimes_no4 (e : Entry) (h : ¬ btw e.maxRenew 0 2147483648 = true) : entTimes e = false := by
  have hb : (btw e.maxRenew 0 2147483648) = false := by first | exact h | (simpa using h) | (simp; omega)
  simp only [entTimes, hb, Bool.false_and, Bool.and_false]
theorem entTimes_no5 (e : Entry) (h : ¬ btw e.fails 0 65535 = true) : entTimes e = false := by
  have hb : (btw e.fails 0 65535) = false := by first | exact h | (simpa using h) | (simp; omega)
  simp only [entTimes, hb, Bool.false_and, Bool.and_false]
theorem entTimes_no6 (e : Entry) (h : ¬ btw e.lastFail 0 1099511627776 = true) : entTimes e = false := by
  have hb : (btw e.lastFail 0 1099511627776) = false := by first | exact h | (simpa using h) | (simp; omega)
  simp only [entTimes, hb, Bool.false_and, Bool.and_false]
theorem entTimes_no7 (e : Entry) (h : ¬ btw e.lastSuccess 0 1099511627776 = true) : entTimes e = false := by
  have hb : (btw e.lastSuccess 0 1099511627776) = false := by first | exact h | (simpa using h) | (simp; omega)
  simp only [entTimes, hb, Bool.and_false]
theorem entTimes_end (e : Entry) (h1 : btw e.expires 0 1099511627776 = true) (h2 : btw e.pwExpires 0 1099511627776 = true) (h3 : btw e.maxLife 0 2147483648 = true) (h4 : btw e.maxRenew 0 2147483648 = true) (h5 : btw e.fails 0 65535 = true) (h6 : btw e.lastFail 0 1099511627776 = true) : entTimes e = (btw e.lastSuccess 0 1099511627776) := by
  have e1 : (btw e.expires 0 1099511627776) = true := by first | exact h1 | (simpa using h1) | (simp; omega)
  have e2 : (btw e.pwExpires 0 1099511627776) = true := by first | exact h2 | (simpa using h2) | (simp; omega)
  have e3 : (btw e.maxLife 0 2147483648) = true := by first | exact h3 | (simpa using h3) | (simp; omega)
  have e4 : (btw e.maxRenew 0 2147483648) = true := by first | exact h4 | (simpa using h4) | (simp; omega)
  have e5 : (btw e.fails 0 65535) = true := by first | exact h5 | (simpa using h5) | (simp; omega)
  have e6 : (btw e.lastFail 0 1099511627776) = true := by first | exact h6 | (simpa using h6) | (simp; omega)
  simp only [entTimes, e1, e2, e3, e4, e5, e6, Bool.true_and]
theorem attrs_or (a : Int) (h0 : 0 ≤ a) (h1 : a ≤ 4294967295) : (bits .or .i64 a 1023 = 1023) ↔ a ≤ 1023 := by
  obtain ⟨n, rfl⟩ := Int.eq_ofNat_of_zero_le h0
  have hn : n < 4294967296 := by omega
  have hb : (BitVec.ofInt 64 (n : Int) ||| BitVec.ofInt 64 1023).toNat = n ||| 1023 := by
    rw [BitVec.toNat_or]
    have e1 : (BitVec.ofInt 64 (n : Int)).toNat = n := by simp; omega
    rw [e1]; rfl
  have hlt : n ||| 1023 < 2 ^ 32 := Nat.or_lt_two_pow (by omega) (by omega)
  have : bits .or .i64 (n : Int) 1023 = ((n ||| 1023 : Nat) : Int) := by
    show IntKind.i64.wrap ((BitVec.ofInt 64 (n : Int) ||| BitVec.ofInt 64 1023).toNat : Int) = _
    rw [hb]
    exact IntWalk.i64_in _ (by omega)
  rw [this]
  have := or_1023 n
  omega
theorem small_n1 {e : Entry} (h : (16 < (e.keys.length : Int) ∨ 32 < (e.policy.size : Int)) ∨ 16 < (e.history.length : Int)) : entSmall e = false := by
  have : (decide ((e.keys.length : Int) ≤ 16) && decide ((e.policy.size : Int) ≤ 32) && decide ((e.history.length : Int) ≤ 16)) = false := by simp; omega
  simp only [entSmall]
  revert this
  cases decide ((e.keys.length : Int) ≤ 16) <;> cases decide ((e.policy.size : Int) ≤ 32) <;> cases decide ((e.history.length : Int) ≤ 16) <;> simp
theorem small_n2 {e : Entry} (h : ¬ visible e.policy = true) : entSmall e = false := by
  have : visible e.policy = false := by simpa using h
  simp [entSmall, this]
theorem small_n3 {e : Entry} (h : 32 < (e.policy.size : Int)) : entSmall e = false := small_n1 (.inl (.inr h))
theorem small_n4 {e : Entry} (h : 16 < (e.keys.length : Int)) : entSmall e = false := small_n1 (.inl (.inl h))
theorem small_n5 {e : Entry} (h : ¬ btw e.master 0 65535 = true) : entSmall e = false := by
  have : btw e.master 0 65535 = false := by simpa using h
  simp [entSmall, this]
theorem small_n6 {e : Entry} (h : ¬ e.attrs ≤ 1023) : entSmall e = false := by simp [entSmall, attrsOk, h]
theorem small_y {e : Entry} (h : e.attrs ≤ 1023) (h1 : btw e.master 0 65535 = true) (h2 : visible e.policy = true) (h3 : ((e.keys.length : Int) ≤ 16 ∧ (e.policy.size : Int) ≤ 32) ∧ (e.history.length : Int) ≤ 16) : entSmall e = true := by
  simp [entSmall, attrsOk, h, h1, h2, h3]
theorem ent_n1 {e : Entry} (h : prinOk e.name = false) : entryOk e = false := by simp [entryOk, h]
theorem ent_n2 {e : Entry} (h : different e.aliases = false) : entryOk e = false := by simp [entryOk, h]
theorem ent_n3 {e : Entry} (h : different e.targets = false) : entryOk e = false := by simp [entryOk, h]
theorem ent_n4 {e : Entry} (h : different e.delegates = false) : entryOk e = false := by simp [entryOk, h]
theorem ent_n5 {e : Entry} (k : Nat) (hk : k < e.aliases.length) (h : aliasOk e.name e.aliases[k] = false) : entryOk e = false := by
  have := lall_no e.aliases k hk h; simp [entryOk, this]
theorem ent_n6 {e : Entry} (k : Nat) (hk : k < e.keys.length) (h : setOk e.master e.keys[k] = false) : entryOk e = false := by
  have := lall_no e.keys k hk h; simp [entryOk, this]
theorem ord_no {α : Type} {f : α → α → Bool} {l : List α} (j : Nat) (hk : j + 1 < l.length) (h : f l[j] l[j + 1] = false) : ordered f l = false := by
  have h1 : j < l.length := by omega
  exact rall_no _ (j + 1) hk (by simp [ordAt, hk, h1, h])
theorem ord_go {α : Type} {f : α → α → Bool} {l : List α} (j : Nat) (hk : j + 1 < l.length) (hh : (List.range (j + 1)).all (ordAt f l) = true) (h : f l[j] l[j + 1] = true) : (List.range (j + 1 + 1)).all (ordAt f l) = true := by
  have h1 : j < l.length := by omega
  exact rall_step (j + 1) hh (by simp [ordAt, hk, h1, h])
theorem ord_zero {α : Type} {f : α → α → Bool} (l : List α) : (List.range (0 + 1)).all (ordAt f l) = true := by simp [ordAt]
theorem ent_n7 {e : Entry} (h : ordered setGt e.keys = false) : entryOk e = false := by simp [entryOk, h]
theorem ent_n8 {e : Entry} (k : Nat) (hk : k < e.history.length) (h : ((e.history[k].length : Int) == 16) = false) : entryOk e = false := by
  have := lall_no (p := fun h => (h.length : Int) == 16) e.history k hk h; simp [entryOk, this]
theorem ent_n9 {e : Entry} (h : entSmall e = false) : entryOk e = false := by simp [entryOk, h]
theorem ent_end {e : Entry} (h1 : prinOk e.name = true) (h2 : different e.aliases = true) (h3 : different e.targets = true) (h4 : different e.delegates = true) (h5 : e.aliases.all (aliasOk e.name) = true) (h6 : e.keys.all (setOk e.master) = true) (h7 : ordered setGt e.keys = true) (h8 : e.history.all (fun h => (h.length : Int) == 16) = true) (h9 : entSmall e = true) : entryOk e = entTimes e := by
  simp only [entryOk, h1, h2, h3, h4, h5, h6, h7, h8, h9, Bool.true_and]
end Go.WW
namespace Go.Proofs.YtpibcnchkndejaaGreatDoor
open Go.RowKit Go.WW

set_option maxRecDepth 100000 in
set_option maxHeartbeats 4000000 in
theorem valid24_c (r : ERaw) (d : Entry) (w : World) (he : EntAt w r d) : Calls Tryz.prog 30 #[.agg (entC r d)] w fun e w' => e = .returned (.bool (entryOk d)) ∧ Below w.heap.size w w' := by
  have hB : Below w.heap.size w (w.alloc (.cells (entC r d) 31)) := (Below.refl _ _).alloc (Nat.le_refl _) _
  cases h1 : prinOk d.name
  · have HN := Lib.hid (ent_n1 h1)
    go_enter Tryz.func30, Tryz.ntmps30
    go_wp2_with fail
    refine (validPrincipal_c _ _ _ (he.name.later hB)).mono ?_
    rintro e w1 ⟨rfl, hb1⟩
    rw [h1]
    obtain ⟨hc1, hf1, hr1⟩ := bcell hb1
    go_wp2
    go_ret
    exact ⟨by rw [HN.out]; rfl, hB.trans (hb1.mono (by simp))⟩
  cases h2 : different d.aliases
  · have HN := Lib.hid (ent_n2 h2)
    go_enter Tryz.func30, Tryz.ntmps30
    go_wp2_with fail
    refine (validPrincipal_c _ _ _ (he.name.later hB)).mono ?_
    rintro e w1 ⟨rfl, hb1⟩
    rw [h1]
    obtain ⟨hc1, hf1, hr1⟩ := bcell hb1
    go_wp2_with fail
    refine (different_c _ _ _ _ (he.aliases.later (hB.trans (hb1.mono (by simp))))).mono ?_
    rintro e w2 ⟨rfl, hb2⟩
    rw [h2]
    replace hb2 := below_step hb1 hb2
    clear hc1 hf1 hr1
    obtain ⟨hc2, hf2, hr2⟩ := bcell hb2
    go_wp2
    go_ret
    exact ⟨by rw [HN.out]; rfl, hB.trans (hb2.mono (by simp))⟩
  cases h3 : different d.targets
  · have HN := Lib.hid (ent_n3 h3)
    go_enter Tryz.func30, Tryz.ntmps30
    go_wp2_with fail
    refine (validPrincipal_c _ _ _ (he.name.later hB)).mono ?_
    rintro e w1 ⟨rfl, hb1⟩
    rw [h1]
    obtain ⟨hc1, hf1, hr1⟩ := bcell hb1
    go_wp2_with fail
    refine (different_c _ _ _ _ (he.aliases.later (hB.trans (hb1.mono (by simp))))).mono ?_
    rintro e w2 ⟨rfl, hb2⟩
    rw [h2]
    replace hb2 := below_step hb1 hb2
    clear hc1 hf1 hr1
    obtain ⟨hc2, hf2, hr2⟩ := bcell hb2
    go_wp2_with fail
    refine (different_c _ _ _ _ (he.targets.later (hB.trans (hb2.mono (by simp))))).mono ?_
    rintro e w3 ⟨rfl, hb3⟩
    rw [h3]
    replace hb3 := below_step hb2 hb3
    clear hc2 hf2 hr2
    obtain ⟨hc3, hf3, hr3⟩ := bcell hb3
    go_wp2
    go_ret
    exact ⟨by rw [HN.out]; rfl, hB.trans (hb3.mono (by simp))⟩
  cases h4 : different d.delegates
  · have HN := Lib.hid (ent_n4 h4)
    go_enter Tryz.func30, Tryz.ntmps30
    go_wp2_with fail
    refine (validPrincipal_c _ _ _ (he.name.later hB)).mono ?_
    rintro e w1 ⟨rfl, hb1⟩
    rw [h1]
    obtain ⟨hc1, hf1, hr1⟩ := bcell hb1
    go_wp2_with fail
    refine (different_c _ _ _ _ (he.aliases.later (hB.trans (hb1.mono (by simp))))).mono ?_
    rintro e w2 ⟨rfl, hb2⟩
    rw [h2]
    replace hb2 := below_step hb1 hb2
    clear hc1 hf1 hr1
    obtain ⟨hc2, hf2, hr2⟩ := bcell hb2
    go_wp2_with fail
    refine (different_c _ _ _ _ (he.targets.later (hB.trans (hb2.mono (by simp))))).mono ?_
    rintro e w3 ⟨rfl, hb3⟩
    rw [h3]
    replace hb3 := below_step hb2 hb3
    clear hc2 hf2 hr2
    obtain ⟨hc3, hf3, hr3⟩ := bcell hb3
    go_wp2_with fail
    refine (different_c _ _ _ _ (he.delegates.later (hB.trans (hb3.mono (by simp))))).mono ?_
    rintro e w4 ⟨rfl, hb4⟩
    rw [h4]
    replace hb4 := below_step hb3 hb4
    clear hc3 hf3 hr3
    obtain ⟨hc4, hf4, hr4⟩ := bcell hb4
    go_wp2
    go_ret
    exact ⟨by rw [HN.out]; rfl, hB.trans (hb4.mono (by simp))⟩
  go_enter Tryz.func30, Tryz.ntmps30
  go_wp2_with fail
  refine (validPrincipal_c _ _ _ (he.name.later hB)).mono ?_
  rintro e w1 ⟨rfl, hb1⟩
  rw [h1]
  obtain ⟨hc1, hf1, hr1⟩ := bcell hb1
  go_wp2_with fail
  refine (different_c _ _ _ _ (he.aliases.later (hB.trans (hb1.mono (by simp))))).mono ?_
  rintro e w2 ⟨rfl, hb2⟩
  rw [h2]
  replace hb2 := below_step hb1 hb2
  clear hc1 hf1 hr1
  obtain ⟨hc2, hf2, hr2⟩ := bcell hb2
  go_wp2_with fail
  refine (different_c _ _ _ _ (he.targets.later (hB.trans (hb2.mono (by simp))))).mono ?_
  rintro e w3 ⟨rfl, hb3⟩
  rw [h3]
  replace hb3 := below_step hb2 hb3
  clear hc2 hf2 hr2
  obtain ⟨hc3, hf3, hr3⟩ := bcell hb3
  go_wp2_with fail
  refine (different_c _ _ _ _ (he.delegates.later (hB.trans (hb3.mono (by simp))))).mono ?_
  rintro e w4 ⟨rfl, hb4⟩
  rw [h4]
  replace hb4 := below_step hb3 hb4
  clear hc3 hf3 hr3
  obtain ⟨hc4, hf4, hr4⟩ := bcell hb4
  clear hc4 hf4 hr4
  have H1 := Lib.hid h1; clear h1
  have H2 := Lib.hid h2; clear h2
  have H3 := Lib.hid h3; clear h3
  have H4 := Lib.hid h4; clear h4
  go_wp2
  go_loopw [3] (fun i wr => Below (w.alloc (.cells (entC r d) 31)).heap.size (w.alloc (.cells (entC r d) 31)) wr ∧ ∃ k : Nat, k ≤ d.aliases.length ∧ i = .int .i64 k ∧ Hid ((d.aliases.take k).all (aliasOk d.name) = true)) (fun i _ => d.aliases.length - (intOf i).toNat)
  case atStart => exact ⟨hb4, 0, Nat.zero_le _, rfl, by simp [Hid]⟩
  case round =>
    obtain ⟨hbr, k, hk, rfl, hall⟩ := hrel
    have hn1 : d.aliases.length ≤ 4294967000 := he.aliases.1
    obtain ⟨hcc, hff, hrr⟩ := bcell hbr
    have hsz : w.heap.size < wr.heap.size := by have := hbr.size; simp at this; omega
    by_cases hlt : k < d.aliases.length
    · obtain ⟨b, o, t, ha, hc, hp⟩ := he.aliases.get k hlt
      have hb : b < w.heap.size := row?_lt hc
      have hb1 : b < w.heap.size + 1 := by omega
      have hki : (k : Int) < (d.aliases.length : Int) := by omega
      have c1 : w.cell? ⟨b, o + k * 2 + 1, none⟩ = some (.string d.aliases[k].realm) := by simpa [prinC_1] using row?_cell hc 1 (by omega)
      by_cases hr : d.aliases[k].realm = d.name.realm
      · have hr' := str_eq _ _ hr
        cases hs : samePrin d.aliases[k] d.name
        · have HS := Lib.hid (lall_step (p := aliasOk d.name) d.aliases k hlt hall.out (by simp [aliasOk, hr, hs]))
          clear hr
          go_wp2
          refine wp_region_later hbr (by kernel_rfl) (by kernel_rfl) ?_
          repeat (go_big_quiet_step ((go_at_call 91; rename_i xw; exact Calls.later_of (hs ▸ samePrincipal_c _ _ _ _ _ (hp.later (hB.trans (xw.b.mono (by simp)))) (he.name.later (hB.trans (xw.b.mono (by simp))))))))
          refine wpQuiet_nil ?_
          intro w2 hb2
          go_wp2
          go_roundw
          case rel => exact ⟨hb2, k + 1, by omega, by go_num, HS.out⟩
          case measure => simp [intOf]; omega
        · have HS := Lib.hid (ent_n5 k hlt (by simp [aliasOk, hs]))
          clear hr
          go_wp2
          refine wp_region_later hbr (by kernel_rfl) (by kernel_rfl) ?_
          repeat (go_big_quiet_step ((go_at_call 91; rename_i xw; exact Calls.later_of (hs ▸ samePrincipal_c _ _ _ _ _ (hp.later (hB.trans (xw.b.mono (by simp)))) (he.name.later (hB.trans (xw.b.mono (by simp))))))))
          refine wpQuiet_nil ?_
          intro w2 hb2
          go_wp2
          go_ret
          exact ⟨by rw [HS.out]; rfl, hB.trans (hb2.mono (by simp))⟩
      · have hr' := str_ne _ _ hr
        have HS := Lib.hid (ent_n5 k hlt (by simp [aliasOk, hr]))
        clear hr
        go_wp2
        refine wp_region_later hbr (by kernel_rfl) (by kernel_rfl) ?_
        repeat (go_big_quiet_step (fail))
        refine wpQuiet_nil ?_
        intro w2 hb2
        go_wp2
        go_ret
        exact ⟨by rw [HS.out]; rfl, hB.trans (hb2.mono (by simp))⟩
    · have H5 := Lib.hid (lall_end d.aliases k (by omega) hall.out)
      clear hall
      go_wp2
      clear hcc hff hrr hn1
      have hbA := hbr
      clear hbr hk hlt
      obtain ⟨wo, hwo⟩ : ∃ wo : World, wo = wr := ⟨_, rfl⟩
      subst hwo
      go_loopw [4] (fun i wr => Below (w.alloc (.cells (entC r d) 31)).heap.size (w.alloc (.cells (entC r d) 31)) wr ∧ ∃ k : Nat, k ≤ d.keys.length ∧ i = .int .i64 k ∧ Hid ((d.keys.take k).all (setOk d.master) = true) ∧ Hid ((List.range k).all (ordAt setGt d.keys) = true)) (fun i _ => d.keys.length - (intOf i).toNat)
      case atStart => exact ⟨hbA, 0, Nat.zero_le _, rfl, by simp [Hid], by simp [Hid]⟩
      case round =>
        obtain ⟨hbr, k, hk, rfl, hall, hord⟩ := hrel
        have hn1 : d.keys.length ≤ 4294967000 := he.keys.1
        obtain ⟨hcc, hff, hrr⟩ := bcell hbr
        have hsz : w.heap.size < wr.heap.size := by have := hbr.size; simp at this; omega
        by_cases hlt : k < d.keys.length
        · obtain ⟨b, o, t, ha, hc, hp⟩ := he.keys.get k hlt
          have hb : b < w.heap.size := row?_lt hc
          have hb1 : b < w.heap.size + 1 := by omega
          have hki : (k : Int) < (d.keys.length : Int) := by omega
          have c0 : w.cell? ⟨b, o + k * 5, none⟩ = some (.int .i64 d.keys[k].version) := by simpa [setC_0] using row?_cell hc 0 (by omega)
          have c4 : w.cell? ⟨b, o + k * 5 + 4, none⟩ = some (.int .i64 d.keys[k].created) := by simpa [setC_4] using row?_cell hc 4 (by omega)
          cases hs : setOk d.master d.keys[k]
          · have HS := Lib.hid (ent_n6 k hlt hs)
            go_wp2
            refine wp_region_later hbr (by kernel_rfl) (by kernel_rfl) ?_
            repeat (go_big_quiet_step ((go_at_call 92; rename_i xw; exact Calls.later_of (hs ▸ validSet24_c _ _ _ _ (hp.later (hB.trans (xw.b.mono (by simp))))))))
            refine wpQuiet_nil ?_
            intro w2 hb2
            go_wp2
            go_ret
            exact ⟨by rw [HS.out]; rfl, hB.trans (hb2.mono (by simp))⟩
          · have HS := Lib.hid (lall_step (p := setOk d.master) d.keys k hlt hall.out hs)
            by_cases h0 : k = 0
            · subst h0
              simp only [Nat.zero_mul, Nat.add_zero] at hc c0 c4
              have hkz : (0 : Int) < (d.keys.length : Int) := by omega
              clear hki
              rw [show ((0 : Nat) : Int) = 0 from rfl]
              go_wp2
              refine wp_region_later hbr (by kernel_rfl) (by kernel_rfl) ?_
              repeat (go_big_quiet_step ((go_at_call 92; rename_i xw; exact Calls.later_of (hs ▸ validSet24_c _ _ _ _ (hp.later (hB.trans (xw.b.mono (by simp))))))))
              refine wpQuiet_nil ?_
              intro w2 hb2
              go_wp2
              go_roundw
              case rel => exact ⟨hb2, 1, by omega, by go_num, HS.out, ord_zero _⟩
              case measure => simp [intOf]; omega
            · obtain ⟨j, rfl⟩ : ∃ j, k = j + 1 := ⟨k - 1, by omega⟩
              clear h0
              have hj : j < d.keys.length := by omega
              obtain ⟨b', o', t', ha', hc', hp'⟩ := he.keys.get j hj
              rw [ha] at ha'
              obtain ⟨rfl, rfl⟩ : b = b' ∧ o = o' := by cases ha'; exact ⟨rfl, rfl⟩
              clear ha' hp'
              have e0 : w.cell? ⟨b, o + j * 5, none⟩ = some (.int .i64 d.keys[j].version) := by simpa [setC_0] using row?_cell hc' 0 (by omega)
              have e4 : w.cell? ⟨b, o + j * 5 + 4, none⟩ = some (.int .i64 d.keys[j].created) := by simpa [setC_4] using row?_cell hc' 4 (by omega)
              clear hc'
              have hp0 : (0 : Int) < (j : Int) + 1 := by omega
              have hp1 : decide ((0 : Int) < (j : Int) + 1) = true := by simp
              have hp2 : (j : Int) < (d.keys.length : Int) := by omega
              by_cases hv : d.keys[j].version ≤ d.keys[j + 1].version
              · have hv' : decide (d.keys[j].version ≤ d.keys[j + 1].version) = true := by simpa using hv
                have HN := Lib.hid (ent_n7 (ord_no (f := setGt) j hlt (by simp [setGt]; omega)))
                go_wp2
                refine wp_region_later hbr (by kernel_rfl) (by kernel_rfl) ?_
                repeat (go_big_quiet_step ((go_at_call 92; rename_i xw; exact Calls.later_of (hs ▸ validSet24_c _ _ _ _ (hp.later (hB.trans (xw.b.mono (by simp))))))))
                refine wpQuiet_nil ?_
                intro w2 hb2
                go_wp2
                go_ret
                exact ⟨by rw [HN.out]; rfl, hB.trans (hb2.mono (by simp))⟩
              · have hv' : decide (d.keys[j].version ≤ d.keys[j + 1].version) = false := by simpa using hv
                by_cases hx : d.keys[j].created < d.keys[j + 1].created
                · have hx' : decide (d.keys[j].created < d.keys[j + 1].created) = true := by simpa using hx
                  have HN := Lib.hid (ent_n7 (ord_no (f := setGt) j hlt (by simp [setGt]; omega)))
                  go_wp2
                  refine wp_region_later hbr (by kernel_rfl) (by kernel_rfl) ?_
                  repeat (go_big_quiet_step ((go_at_call 92; rename_i xw; exact Calls.later_of (hs ▸ validSet24_c _ _ _ _ (hp.later (hB.trans (xw.b.mono (by simp))))))))
                  refine wpQuiet_nil ?_
                  intro w2 hb2
                  go_wp2
                  go_ret
                  exact ⟨by rw [HN.out]; rfl, hB.trans (hb2.mono (by simp))⟩
                · have hx' : decide (d.keys[j].created < d.keys[j + 1].created) = false := by simpa using hx
                  have HN := Lib.hid (ord_go (f := setGt) j hlt hord.out (by simp [setGt]; omega))
                  go_wp2
                  refine wp_region_later hbr (by kernel_rfl) (by kernel_rfl) ?_
                  repeat (go_big_quiet_step ((go_at_call 92; rename_i xw; exact Calls.later_of (hs ▸ validSet24_c _ _ _ _ (hp.later (hB.trans (xw.b.mono (by simp))))))))
                  refine wpQuiet_nil ?_
                  intro w2 hb2
                  go_wp2
                  go_roundw
                  case rel => exact ⟨hb2, j + 1 + 1, by omega, by go_num, HS.out, HN.out⟩
                  case measure => simp [intOf]; omega
        · have H6 := Lib.hid (lall_end d.keys k (by omega) hall.out)
          have H7 := Lib.hid (rall_end d.keys.length k (by omega) hord.out)
          clear hall hord
          go_wp2
          clear hn1
          have hn2 : d.history.length ≤ 4294967000 := he.history.1
          go_loop [5] (fun i => ∃ k : Nat, k ≤ d.history.length ∧ i = .int .i64 k ∧ Hid ((d.history.take k).all (fun h => (h.length : Int) == 16) = true)) (fun i => d.history.length - (intOf i).toNat)
          case atStart => exact ⟨0, Nat.zero_le _, rfl, by simp [Hid]⟩
          case round =>
            obtain ⟨j, hj, rfl, hall⟩ := hrel
            by_cases hjl : j < d.history.length
            · obtain ⟨b, o, t, ha, hc, hp⟩ := he.history.get j hjl
              have hb : b < w.heap.size := World.block_lt_of_cell? w _ hc
              have hb1 : b < w.heap.size + 1 := by omega
              have hki : (j : Int) < (d.history.length : Int) := by omega
              cases hs : ((d.history[j].length : Int) == 16)
              · have HS := Lib.hid (ent_n8 j hjl hs)
                have hs' : ((d.history[j].length : Int) != 16) = true := by simp [bne, hs]
                go_wp2
                go_ret
                exact ⟨by rw [HS.out]; rfl, hB.trans (hbr.mono (by simp))⟩
              · have HS := Lib.hid (lall_step (p := fun h => (h.length : Int) == 16) d.history j hjl hall.out hs)
                have hs' : ((d.history[j].length : Int) != 16) = false := by simp [bne, hs]
                go_wp2
                go_round
                case rel => exact ⟨j + 1, by omega, by go_num, HS.out⟩
                case measure => simp [intOf]; omega
            · have H8 := Lib.hid (lall_end d.history j (by omega) hall.out)
              clear hall
              have hpo := he.policy
              have ha0 := he.attrs.1
              have ha1 := he.attrs.2
              by_cases hat : d.attrs ≤ 1023
              · have hbit : (bits BinOp.or IntKind.i64 d.attrs 1023 != 1023) = false := by simpa using (attrs_or d.attrs ha0 ha1).2 hat
                go_wp2_with (first | (go_at_call 31; refine (in16_c _ _ _ _).mono ?_; rintro e w' ⟨rfl, rfl⟩) | (go_at_call 93; refine (visible_c _ _ (le_max hpo)).mono ?_; rintro e w' ⟨rfl, rfl⟩))
                all_goals go_ret
                all_goals
                  refine ⟨?_, hB.trans (hbr.mono (by simp))⟩
                  first
                    | (rw [ent_n9 (small_n1 ‹_›)]; rfl)
                    | (rw [ent_n9 (small_n2 ‹_›)]; rfl)
                    | (rw [ent_n9 (small_n3 ‹_›)]; rfl)
                    | (rw [ent_n9 (small_n4 ‹_›)]; rfl)
                    | (rw [ent_n9 (small_n5 ‹_›)]; rfl)
                    | (rw [ent_end H1.out H2.out H3.out H4.out H5.out H6.out H7.out H8.out (small_y hat ‹_› ‹_› ‹_›)]; first | (rw [entTimes_no1 d ‹_›]; rfl) | (rw [entTimes_no2 d ‹_›]; rfl) | (rw [entTimes_no3 d ‹_›]; rfl) | (rw [entTimes_no4 d ‹_›]; rfl) | (rw [entTimes_no5 d ‹_›]; rfl) | (rw [entTimes_no6 d ‹_›]; rfl) | (rw [entTimes_no7 d ‹_›]; rfl) | (rw [entTimes_end d ‹_› ‹_› ‹_› ‹_› ‹_› ‹_›]; rfl))
              · have hbit : (bits BinOp.or IntKind.i64 d.attrs 1023 != 1023) = true := by simpa using mt (attrs_or d.attrs ha0 ha1).1 hat
                have HN := Lib.hid (ent_n9 (small_n6 hat))
                clear hat
                go_wp2_with (first | (go_at_call 31; refine (in16_c _ _ _ _).mono ?_; rintro e w' ⟨rfl, rfl⟩) | (go_at_call 93; refine (visible_c _ _ (le_max hpo)).mono ?_; rintro e w' ⟨rfl, rfl⟩))
                go_ret
                exact ⟨by rw [HN.out]; rfl, hB.trans (hbr.mono (by simp))⟩
end Go.Proofs.YtpibcnchkndejaaGreatDoor
/- The reference's IsLocked, Until and Valid. -/
namespace Go.WW
def okAll (d : Entry) (p : Policy) (now : Int) : Bool := entryOk d && polOk p && isTime now
theorem okAll_no1 {d : Entry} {p : Policy} {now : Int} (h : entryOk d = false) : okAll d p now = false := by rw [okAll, h]; rfl
theorem okAll_no2 {d : Entry} {p : Policy} {now : Int} (h : polOk p = false) : okAll d p now = false := by rw [okAll, h]; simp
theorem okAll_end {d : Entry} {p : Policy} {now : Int} (h : entryOk d = true) (h' : polOk p = true) : okAll d p now = isTime now := by rw [okAll, h, h']; rfl
end Go.WW
namespace Go.Proofs.YtpibcnchkndejaaGreatDoor
open Go.RowKit Go.WW
end Go.Proofs.YtpibcnchkndejaaGreatDoor
/- Small maps, entry by entry. -/
namespace Go.WW
open Go.RowKit
theorem run_mapAdd {P : Program} {w : World} {mty kt et : TypeId} {d : TypeDesc} {r clock : Nat} {es : Array MapEntry} {k : Value} (v : Value) (hm : P.underlying mty = some (.map kt et)) (hd : P.underlying kt = some d) (hk : MapKept.IsKey d k)
    (hf : Instr.findNow d k es.toList 0 = some none) (hb : w.heap[r]? = some (.map es clock)) :
    (Instr.mapUpdate mty (.map (some r)) k v).run P w = .ok () (w.putObj r (.map (es.push { key := k, val := v, born := clock }) (clock + 1))) := by
  have hc : (Instr.checkKey false 10000 kt k).run P w = .ok () w := MapKept.run_checkKey hd hk false 9999
  simp [Instr.mapUpdate, run_underlying hm, MapKept.run_getObj_map hb, hc, MapKept.run_findKey hd hf, MapKept.run_setObj_map _ hb, Result.andThen, World.putObj]
theorem run_mapLook {P : Program} {w : World} {mty kt et : TypeId} {d : TypeDesc} {r clock i : Nat} {es : Array MapEntry} {k v : Value} (hm : P.underlying mty = some (.map kt et)) (hd : P.underlying kt = some d) (hk : MapKept.IsKey d k)
    (hf : Instr.findNow d k es.toList 0 = some (some (i, v))) (hb : w.heap[r]? = some (.map es clock)) :
    (Instr.lookup mty (.map (some r)) k false).run P w = .ok v w := by
  have hc : (Instr.checkKey es.isEmpty 10000 kt k).run P w = .ok () w := MapKept.run_checkKey hd hk _ 9999
  simp [Instr.lookup, run_underlying hm, MapKept.run_getObj_map hb, hc, MapKept.run_findKey hd hf, Result.andThen]
end Go.WW
/- account.count. -/
namespace Go.WW
theorem countOf_win {d : Entry} {p : Policy} (now : Int) (h : ¬ (0 < p.fails ∧ p.fails ≤ d.fails)) : countOf d p now = if (decide (0 < p.window) && decide (d.lastFail + p.window < now)) = true then 0 else d.fails := by
  rw [countOf, if_neg h]; simp
theorem countOf_lock {d : Entry} {p : Policy} (now : Int) (h : 0 < p.fails ∧ p.fails ≤ d.fails) : countOf d p now = if (decide (0 < p.lock) && decide (d.lastFail + p.lock ≤ now)) = true then 0 else d.fails := by
  rw [countOf, if_pos h]; simp
end Go.WW
namespace Go.Proofs.YtpibcnchkndejaaGreatDoor
open Go.RowKit Go.WW
end Go.Proofs.YtpibcnchkndejaaGreatDoor
/- entry.Valid$1 (within), with every[int]. -/
namespace Go.Proofs.YtpibcnchkndejaaGreatDoor
open Go.RowKit Go.WW
theorem within1_c (v most : Int) (B : Nat) (w : World) (h : w.cell? ⟨B, 0, none⟩ = some (.int .i64 most)) : Calls Tryz.prog 79 #[.int .i64 v, .pointer (some ⟨B, 0, none⟩)] w fun e w' => e = .returned (.bool (btw v 0 most)) ∧ w = w' := by
  go_enter Tryz.func79, Tryz.ntmps79
  go_wp2_with (go_at_call 80; refine (between_c _ _ _ _).mono ?_; rintro e w' ⟨rfl, rfl⟩)
  go_ret
  exact ⟨rfl, rfl⟩
set_option maxHeartbeats 1000000 in
theorem everyInt_c (b o cap B : Nat) (most : Int) (l : List Int) (w : World) (hl : IntsAt w (some ⟨b, o, none⟩) l) (hB : w.cell? ⟨B, 0, none⟩ = some (.int .i64 most)) :
    Calls Tryz.prog 78 #[.slice (some ⟨b, o, none⟩) l.length cap, .int .i64 l.length, .func (.func 79) #[] #[.pointer (some ⟨B, 0, none⟩)]] w fun e w' => e = .returned (.bool (l.all (fun v => btw v 0 most))) ∧ w = w' := by
  have hn' : l.length ≤ 4294967000 := hl.1
  go_enter Tryz.func78, Tryz.ntmps78
  go_wp2_with fail
  go_loop [15] (fun i => ∃ k : Nat, k ≤ l.length ∧ i = .int .i64 k ∧ Hid ((l.take k).all (fun v => btw v 0 most) = true)) (fun i => l.length - (intOf i).toNat)
  case atStart => exact ⟨0, Nat.zero_le _, rfl, by simp [Hid]⟩
  case round =>
    obtain ⟨k, hk, rfl, hall⟩ := hrel
    by_cases hlt : k < l.length
    · have hc := hl.at k hlt
      have hb : b < w.heap.size := World.block_lt_of_cell? w _ hc
      cases hv : btw l[k] 0 most
      · have HN := Lib.hid (lall_no (p := fun v => btw v 0 most) l k hlt hv)
        go_wp2_with (go_at_call 79; refine (within1_c _ _ _ _ hB).mono ?_; rintro e w' ⟨rfl, rfl⟩; rw [hv])
        go_ret
        exact ⟨by rw [HN.out]; rfl, rfl⟩
      · have HN := Lib.hid (lall_step (p := fun v => btw v 0 most) l k hlt hall.out hv)
        go_wp2_with (go_at_call 79; refine (within1_c _ _ _ _ hB).mono ?_; rintro e w' ⟨rfl, rfl⟩; rw [hv])
        go_round
        case rel => exact ⟨k + 1, by omega, by go_num, HN.out⟩
        case measure => simp [intOf]; omega
    · have HN := Lib.hid (lall_end (p := fun v => btw v 0 most) l k (by omega) hall.out)
      go_wp2_with fail
      go_ret
      exact ⟨by rw [HN.out]; rfl, rfl⟩
theorem within_c (b o cap : Nat) (most : Int) (l : List Int) (w : World) (hl : IntsAt w (some ⟨b, o, none⟩) l) :
    Calls Tryz.prog 77 #[.int .i64 most, .slice (some ⟨b, o, none⟩) l.length cap] w fun e w' => e = .returned (.bool (l.all (fun v => btw v 0 most))) ∧ Below w.heap.size w w' := by
  have hB : Below w.heap.size w (w.alloc (.cells #[.int .i64 most] 3)) := (Below.refl _ _).alloc (Nat.le_refl _) _
  have hl' := hl.later hB
  go_enter Tryz.func77, Tryz.ntmps77
  go_wp2_with (go_at_call 78; refine (everyInt_c _ _ _ _ most _ _ hl' (by simp [go_sem])).mono ?_; rintro e w' ⟨rfl, rfl⟩)
  go_ret
  exact ⟨rfl, hB⟩
end Go.Proofs.YtpibcnchkndejaaGreatDoor
/- The text of a principal leads back to it; lists without repetition. -/
namespace Go.WW

def specialB (c : UInt8) : Bool := (c.toNat : Int) == 47 || (c.toNat : Int) == 64 || (c.toNat : Int) == 92
/-- A byte of a component as it is written. -/
def escOne (c : UInt8) : List UInt8 := if specialB c then [92, c] else [c]
def esc (l : List UInt8) : List UInt8 := l.flatMap escOne
def partsTail (l : List ByteArray) : List UInt8 := l.flatMap fun q => 47 :: esc q.data.toList
def partsText : List ByteArray → List UInt8
  | [] => []
  | p :: ps => esc p.data.toList ++ partsTail ps
def textL (p : Prin) : List UInt8 := partsText p.parts ++ 64 :: p.realm.data.toList
/-- The text of a principal. -/
def textOf (p : Prin) : ByteArray := ⟨(textL p).toArray⟩

theorem esc_nil : esc [] = [] := rfl
theorem esc_cons (c : UInt8) (l : List UInt8) : esc (c :: l) = escOne c ++ esc l := rfl
theorem esc_snoc (l : List UInt8) (c : UInt8) : esc (l ++ [c]) = esc l ++ escOne c := by simp [esc]
theorem partsText_snoc (l : List ByteArray) (q : ByteArray) : partsText (l ++ [q]) = (if l.length = 0 then [] else partsText l ++ [47]) ++ esc q.data.toList := by
  cases l with
  | nil => simp [partsText, partsTail]
  | cons p ps => simp [partsText, partsTail]

def sepStart : List UInt8 → Prop
  | [] => False
  | c :: _ => c = 47 ∨ c = 64

theorem sp47 : specialB 47 = true := by decide
theorem sp64 : specialB 64 = true := by decide
theorem sp92 : specialB 92 = true := by decide

theorem esc_inj : ∀ (p q x y : List UInt8), sepStart x → sepStart y → esc p ++ x = esc q ++ y → p = q ∧ x = y
  | [], [], x, y, _, _, h => ⟨rfl, by simpa [esc] using h⟩
  | [], d :: q, x, y, hx, _, h => by
    exfalso
    rw [esc_nil, List.nil_append, esc_cons] at h
    cases x with
    | nil => exact hx
    | cons a x =>
      unfold escOne at h
      split at h
      · simp only [List.cons_append, List.cons.injEq] at h
        rcases hx with e | e <;> rw [e] at h <;> simp at h
      · rename_i hs
        simp only [List.cons_append, List.cons.injEq] at h
        rcases hx with e | e <;> rw [← h.1, e] at hs
        · exact hs sp47
        · exact hs sp64
  | c :: p, [], x, y, hx, hy, h => by
    exfalso
    rw [esc_nil, List.nil_append, esc_cons] at h
    cases y with
    | nil => exact hy
    | cons a y =>
      unfold escOne at h
      split at h
      · simp only [List.cons_append, List.cons.injEq] at h
        rcases hy with e | e <;> rw [e] at h <;> simp at h
      · rename_i hs
        simp only [List.cons_append, List.cons.injEq] at h
        rcases hy with e | e <;> rw [h.1, e] at hs
        · exact hs sp47
        · exact hs sp64
  | c :: p, d :: q, x, y, hx, hy, h => by
    rw [esc_cons, esc_cons] at h
    unfold escOne at h
    split at h <;> split at h
    · simp only [List.cons_append, List.cons.injEq, List.nil_append, true_and] at h
      obtain ⟨rfl, h⟩ := h
      obtain ⟨rfl, rfl⟩ := esc_inj p q x y hx hy h
      exact ⟨rfl, rfl⟩
    · rename_i h1 h2
      simp only [List.cons_append, List.cons.injEq] at h
      rw [← h.1] at h2
      exact absurd sp92 h2
    · rename_i h1 h2
      simp only [List.cons_append, List.cons.injEq] at h
      rw [h.1] at h1
      exact absurd sp92 h1
    · simp only [List.cons_append, List.cons.injEq, List.nil_append] at h
      obtain ⟨rfl, h⟩ := h
      obtain ⟨rfl, rfl⟩ := esc_inj p q x y hx hy h
      exact ⟨rfl, rfl⟩

theorem tail_sep (ps : List ByteArray) (r : List UInt8) : sepStart (partsTail ps ++ 64 :: r) := by
  cases ps <;> simp [partsTail, sepStart]

theorem ba_ext {a b : ByteArray} (h : a.data.toList = b.data.toList) : a = b := by
  cases a; cases b; congr; exact Array.ext' h

theorem tail_inj : ∀ (ps qs : List ByteArray) (r s : List UInt8), partsTail ps ++ 64 :: r = partsTail qs ++ 64 :: s → ps = qs ∧ r = s
  | [], [], r, s, h => ⟨rfl, by simpa [partsTail] using h⟩
  | [], q :: qs, r, s, h => by exfalso; simp [partsTail] at h
  | p :: ps, [], r, s, h => by exfalso; simp [partsTail] at h
  | p :: ps, q :: qs, r, s, h => by
    have e : ∀ (p : ByteArray) ps r, partsTail (p :: ps) ++ 64 :: r = 47 :: (esc p.data.toList ++ (partsTail ps ++ 64 :: r)) := fun p ps r => by simp [partsTail]
    rw [e, e] at h
    simp only [List.cons.injEq, true_and] at h
    obtain ⟨h1, h2⟩ := esc_inj _ _ _ _ (tail_sep ps r) (tail_sep qs s) h
    obtain ⟨rfl, rfl⟩ := tail_inj ps qs r s h2
    exact ⟨by rw [ba_ext h1], rfl⟩

theorem textL_inj {p q : Prin} (hp : p.parts ≠ []) (hq : q.parts ≠ []) (h : textL p = textL q) : p.parts = q.parts ∧ p.realm = q.realm := by
  obtain ⟨pp, pr⟩ := p
  obtain ⟨qp, qr⟩ := q
  cases pp with
  | nil => exact absurd rfl hp
  | cons a ps =>
    cases qp with
    | nil => exact absurd rfl hq
    | cons b qs =>
      simp only [textL, partsText, List.append_assoc] at h
      obtain ⟨h1, h2⟩ := esc_inj _ _ _ _ (tail_sep ps _) (tail_sep qs _) h
      obtain ⟨rfl, h3⟩ := tail_inj _ _ _ _ h2
      exact ⟨by rw [ba_ext h1], ba_ext h3⟩

theorem textOf_eq {p q : Prin} (hp : p.parts ≠ []) (hq : q.parts ≠ []) : textOf p = textOf q ↔ samePrin p q = true := by
  simp only [samePrin, Bool.and_eq_true, decide_eq_true_eq]
  constructor
  · intro h
    have : textL p = textL q := by
      have := congrArg (fun b : ByteArray => b.data.toList) h
      simpa [textOf] using this
    exact (textL_inj hp hq this).symm
  · rintro ⟨h1, h2⟩
    unfold textOf textL; rw [h1, h2]

theorem prinOk_ne {p : Prin} (h : prinOk p = true) : p.parts ≠ [] := by
  rintro e
  simp [prinOk, e] at h

/-! ### Lists without repetition -/

def hasKey (acc : List ByteArray) (s : ByteArray) : Bool := acc.any fun x => decide (x = s)
theorem hasKey_iff (acc : List ByteArray) (s : ByteArray) : hasKey acc s = true ↔ s ∈ acc := by simp [hasKey]
def addKey (acc : List ByteArray) (s : ByteArray) : List ByteArray := if hasKey acc s then acc else acc ++ [s]
/-- The keys, each once, in the order in which they come first. -/
def keysOf (l : List ByteArray) : List ByteArray := l.foldl addKey []
theorem keysOf_snoc (l : List ByteArray) (s : ByteArray) : keysOf (l ++ [s]) = addKey (keysOf l) s := by simp [keysOf]
theorem addKey_len (acc : List ByteArray) (s : ByteArray) : (addKey acc s).length ≤ acc.length + 1 := by unfold addKey; split <;> simp
theorem fold_len : ∀ (l acc : List ByteArray), (l.foldl addKey acc).length ≤ acc.length + l.length
  | [], acc => by simp
  | s :: l, acc => by
    rw [List.foldl_cons, List.length_cons]
    have := fold_len l (addKey acc s)
    have := addKey_len acc s
    omega
theorem fold_nodup : ∀ (l acc : List ByteArray), acc.Nodup → ((l.foldl addKey acc).length = acc.length + l.length ↔ (acc ++ l).Nodup)
  | [], acc, h => by simp [h]
  | s :: l, acc, h => by
    rw [List.foldl_cons, List.length_cons]
    by_cases hs : s ∈ acc
    · have e : addKey acc s = acc := by rw [addKey, (hasKey_iff acc s).2 hs]; rfl
      rw [e]
      have := fold_len l acc
      constructor
      · intro h'; omega
      · intro h'
        exfalso
        rw [List.nodup_append] at h'
        exact h'.2.2 s hs s (by simp) rfl
    · have e : addKey acc s = acc ++ [s] := by rw [addKey, if_neg (fun h' => hs ((hasKey_iff acc s).1 h'))]
      rw [e]
      have hn : (acc ++ [s]).Nodup := by
        rw [List.nodup_append]
        refine ⟨h, by simp, ?_⟩
        intro a ha b hb
        simp at hb; subst hb
        rintro rfl; exact hs ha
      have ih := fold_nodup l (acc ++ [s]) hn
      rw [List.length_append, List.length_singleton, List.append_assoc, List.singleton_append] at ih
      rw [← ih]
      omega
theorem keysOf_len (l : List ByteArray) : (keysOf l).length ≤ l.length := by have := fold_len l []; simpa [keysOf] using this
/-- The principals differ from each other, told by their texts. -/
def distinctP (l : List Prin) : Bool := decide (((keysOf (l.map textOf)).length : Int) = (l.length : Int))
theorem distinctP_iff (l : List Prin) : distinctP l = true ↔ (l.map textOf).Nodup := by
  have := fold_nodup (l.map textOf) [] List.nodup_nil
  simp only [List.length_nil, List.length_map, Nat.zero_add, List.nil_append] at this
  rw [← this, distinctP, decide_eq_true_eq, keysOf]
  omega

theorem samePrin_eq {p q : Prin} : samePrin p q = true ↔ p = q := by
  obtain ⟨a, b⟩ := p; obtain ⟨c, d⟩ := q
  simp only [samePrin, Bool.and_eq_true, decide_eq_true_eq, Prin.mk.injEq]
  exact And.comm

theorem nodup_texts {l : List Prin} (h : l.all prinOk = true) : (l.map textOf).Nodup ↔ l.Nodup := by
  induction l with
  | nil => simp
  | cons p l ih =>
    simp only [List.all_cons, Bool.and_eq_true] at h
    rw [List.map_cons, List.nodup_cons, List.nodup_cons, ih h.2]
    have : textOf p ∈ l.map textOf ↔ p ∈ l := by
      rw [List.mem_map]
      constructor
      · rintro ⟨q, hq, e⟩
        have hq' : prinOk q = true := List.all_eq_true.1 h.2 q hq
        rw [← samePrin_eq.1 ((textOf_eq (prinOk_ne hq') (prinOk_ne h.1)).1 e)]; exact hq
      · intro hp; exact ⟨p, hp, rfl⟩
    rw [this]

theorem diffAll_iff (l : List Prin) : diffAll l = true ↔ l.all prinOk = true ∧ l.Nodup := by
  simp only [diffAll, List.all_eq_true, List.mem_range]
  constructor
  · intro h
    refine ⟨fun p hp => ?_, ?_⟩
    · obtain ⟨i, hi, rfl⟩ := List.mem_iff_getElem.1 hp
      have := h i hi
      simp only [diffAt, List.getElem?_eq_getElem hi, Bool.and_eq_true] at this
      exact this.1
    · rw [List.nodup_iff_pairwise_ne, List.pairwise_iff_getElem]
      intro i j hi hj hij e
      have := h j hj
      simp only [diffAt, List.getElem?_eq_getElem hj, Bool.and_eq_true, List.all_eq_true] at this
      have h2 := this.2 l[i] (by rw [List.mem_iff_getElem]; exact ⟨i, by simp; omega, by simp⟩)
      rw [samePrin_eq.2 e] at h2
      simp at h2
  · rintro ⟨h1, h2⟩ i hi
    simp only [diffAt, List.getElem?_eq_getElem hi, Bool.and_eq_true, List.all_eq_true]
    refine ⟨h1 _ (List.getElem_mem hi), fun q hq => ?_⟩
    obtain ⟨k, hk, rfl⟩ := List.mem_iff_getElem.1 hq
    rw [List.nodup_iff_pairwise_ne, List.pairwise_iff_getElem] at h2
    simp only [List.length_take] at hk
    have hne := h2 k i (by omega) hi (by omega)
    rw [List.getElem_take]
    cases hs : samePrin l[k] l[i] with
    | false => rfl
    | true => exact absurd (samePrin_eq.1 hs) hne

theorem principals_eq (l : List Prin) : (decide ((l.length : Int) ≤ 16) && l.all prinOk && distinctP l) = different l := by
  rw [Bool.eq_iff_iff]
  simp only [different, Bool.and_eq_true]
  rw [diffAll_iff]
  constructor
  · rintro ⟨⟨h1, h2⟩, h3⟩
    exact ⟨⟨h2, (nodup_texts h2).1 ((distinctP_iff l).1 h3)⟩, h1⟩
  · rintro ⟨⟨h2, h3⟩, h1⟩
    exact ⟨⟨h1, h2⟩, (distinctP_iff l).2 ((nodup_texts h2).2 h3)⟩

def aliasFits (n a : Prin) : Bool := prinOk a && decide (a.realm = n.realm)
def namesOk (d : Entry) : Bool := prinOk d.name && (decide ((d.aliases.length : Int) ≤ 16) && d.aliases.all (aliasFits d.name)) && distinctP (d.name :: d.aliases)
theorem names_eq (d : Entry) : namesOk d = (prinOk d.name && different d.aliases && d.aliases.all (aliasOk d.name)) := by
  rw [Bool.eq_iff_iff]
  simp only [namesOk, different, Bool.and_eq_true]
  rw [diffAll_iff, distinctP_iff]
  have hfit : d.aliases.all (aliasFits d.name) = true ↔ d.aliases.all prinOk = true ∧ ∀ a ∈ d.aliases, a.realm = d.name.realm := by
    simp only [List.all_eq_true, aliasFits, Bool.and_eq_true, decide_eq_true_eq]
    exact ⟨fun h => ⟨fun a ha => (h a ha).1, fun a ha => (h a ha).2⟩, fun h a ha => ⟨h.1 a ha, h.2 a ha⟩⟩
  have hal : d.aliases.all (aliasOk d.name) = true ↔ (∀ a ∈ d.aliases, a.realm = d.name.realm) ∧ d.name ∉ d.aliases := by
    simp only [List.all_eq_true, aliasOk, Bool.and_eq_true, decide_eq_true_eq, Bool.not_eq_true']
    constructor
    · intro h
      refine ⟨fun a ha => (h a ha).1, fun hm => ?_⟩
      have := (h _ hm).2
      rw [samePrin_eq.2 rfl] at this; cases this
    · rintro ⟨h1, h2⟩ a ha
      refine ⟨h1 a ha, ?_⟩
      cases hs : samePrin a d.name with
      | false => rfl
      | true => rw [samePrin_eq.1 hs] at ha; exact absurd ha h2
  rw [hfit, hal]
  constructor
  · rintro ⟨⟨h1, h2, h3, h4⟩, h5⟩
    have h6 := (nodup_texts (l := d.name :: d.aliases) (by simp only [List.all_cons, h1, h3, Bool.and_true])).1 h5
    rw [List.nodup_cons] at h6
    exact ⟨⟨h1, ⟨h3, h6.2⟩, h2⟩, h4, h6.1⟩
  · rintro ⟨⟨h1, ⟨h3, h7⟩, h2⟩, h4, h6⟩
    exact ⟨⟨h1, h2, h3, h4⟩, (nodup_texts (l := d.name :: d.aliases) (by simp only [List.all_cons, h1, h3, Bool.and_true])).2 (List.nodup_cons.2 ⟨h6, h7⟩)⟩
end Go.WW
/- Slices that a call makes itself, row by row; what depends on some blocks alone. -/
namespace Go.WW
open Go.RowKit

/-! ### Rows of k cells, one behind the other -/

def flat (rows : List (Array Value)) : List Value := rows.flatMap (·.toList)
theorem flat_nil : flat [] = [] := rfl
theorem flat_cons (r : Array Value) (rows : List (Array Value)) : flat (r :: rows) = r.toList ++ flat rows := rfl
theorem flat_append (a b : List (Array Value)) : flat (a ++ b) = flat a ++ flat b := by simp [flat]
theorem flat_length {k : Nat} : ∀ {rows : List (Array Value)}, (∀ r ∈ rows, r.size = k) → (flat rows).length = rows.length * k
  | [], _ => by simp [flat]
  | r :: rows, h => by
    rw [flat_cons, List.length_append, flat_length (fun x hx => h x (by simp [hx])), List.length_cons, Nat.succ_mul]
    have := h r (by simp)
    simp [this]; omega
theorem flat_get {k : Nat} : ∀ {rows : List (Array Value)} (_ : ∀ r ∈ rows, r.size = k) (i j : Nat) (hi : i < rows.length) (_ : j < k), (flat rows)[i * k + j]? = rows[i][j]?
  | [], _, i, j, hi, _ => by simp at hi
  | r :: rows, h, 0, j, _, hj => by
    have := h r (by simp)
    rw [flat_cons, Nat.zero_mul, Nat.zero_add, List.getElem?_append_left (by simp; omega)]
    simp
  | r :: rows, h, i + 1, j, hi, hj => by
    have hr := h r (by simp)
    rw [flat_cons, List.getElem?_append_right (by simp [Nat.succ_mul]; omega)]
    have e : (i + 1) * k + j - r.toList.length = i * k + j := by simp [Nat.succ_mul]; omega
    rw [e, flat_get (fun x hx => h x (by simp [hx])) i j (by simpa using hi) hj]
    simp

/-- The slice s of the call's own holds the rows, each of k cells. -/
structure Own (w : World) (base : Nat) (e : TypeId) (k : Nat) (s : Sl) (rows : List (Array Value)) : Prop where
  own : w.ownsRow base e k (.slice s.a rows.length s.cap) rows.length (flat rows)
  size : ∀ r ∈ rows, r.size = k

def Sl.blk (s : Sl) : Option Nat := s.a.map (·.block)
theorem ownBlock_slice (s : Sl) (n : Nat) : Value.ownBlock (.slice s.a n s.cap) = s.blk := by
  unfold Sl.blk Value.ownBlock; cases s.a <;> rfl

theorem Own.nil (w : World) (base : Nat) (e : TypeId) (k : Nat) : Own w base e k ⟨none, 0⟩ [] := ⟨World.ownsRow_nil w base e k, by simp⟩
theorem Own.base {w : World} {base : Nat} {e : TypeId} {k : Nat} {s : Sl} {rows : List (Array Value)} (h : Own w base e k s rows) {g : Nat} (hg : s.blk = some g) : base ≤ g ∧ g < w.heap.size :=
  h.own.lt g (by rw [ownBlock_slice]; exact hg)
theorem Own.kept {w w' : World} {base : Nat} {e : TypeId} {k : Nat} {s : Sl} {rows : List (Array Value)} (h : Own w base e k s rows) (hb : ∀ g, s.blk = some g → w'.heap[g]? = w.heap[g]?) : Own w' base e k s rows := by
  refine ⟨⟨h.own.1, ?_⟩, h.size⟩
  rcases h.own.2 with hn | ⟨g, cap, cur, hv, h1, hg, rest⟩
  · exact .inl hn
  · refine .inr ⟨g, cap, cur, hv, h1, ?_, rest⟩
    have ha : s.a = some ⟨g, 0, none⟩ := by injection hv
    rw [hb g (by simp [Sl.blk, ha])]; exact hg
theorem Own.row {w : World} {base : Nat} {e : TypeId} {k : Nat} {s : Sl} {rows : List (Array Value)} (h : Own w base e k s rows) (i : Nat) (hi : i < rows.length) :
    ∃ g, s.a = some ⟨g, 0, none⟩ ∧ s.blk = some g ∧ row? w g (0 + i * k) k = some rows[i] := by
  rcases h.own.2 with ⟨_, hn⟩ | ⟨g, cap, cur, hv, h1, hg, hle, _, hsz, htake⟩
  · omega
  · have ha : s.a = some ⟨g, 0, none⟩ := by injection hv
    refine ⟨g, ha, by simp [Sl.blk, ha], ?_⟩
    unfold row?
    rw [hg, Nat.zero_add]
    have h2 : i * k + k ≤ rows.length * k := by rw [← Nat.succ_mul]; exact Nat.mul_le_mul_right _ hi
    have h3 : rows.length * k ≤ cur.size := by rw [hsz]; exact Nat.mul_le_mul_right _ hle
    show (if i * k + k ≤ cur.size then _ else _) = _
    rw [if_pos (by omega)]
    congr 1
    have hrs := h.size rows[i] (List.getElem_mem hi)
    apply Array.ext_getElem?
    intro j
    by_cases hj : j < k
    · rw [Array.getElem?_extract]
      have e1 : j < min (i * k + k) cur.size - i * k := by omega
      rw [if_pos e1, ← flat_get h.size i j hi hj, ← htake, List.getElem?_take, if_pos (by omega)]
      simp
    · rw [Array.getElem?_eq_none (by simp; omega), Array.getElem?_eq_none (by omega)]

/-! ### The source of an append -/

/-- The slice x of m rows. -/
structure SrcRows (w : World) (k : Nat) (A : Option Addr) (rows : List (Array Value)) : Prop where
  size : ∀ r ∈ rows, r.size = k
  one : ∀ r ∈ rows, allOne r = true
  at_ : ∀ i (hi : i < rows.length), ∃ b o, A = some ⟨b, o, none⟩ ∧ row? w b (o + i * k) k = some rows[i]

theorem SrcRows.cells {w : World} {k : Nat} {A : Option Addr} {rows : List (Array Value)} (h : SrcRows w k A rows) (hk : 0 < k) (hn : 0 < rows.length) :
    ∃ b o, A = some ⟨b, o, none⟩ ∧ ∀ j u, (flat rows)[j]? = some u → w.cell? ((⟨b, o, none⟩ : Addr).add j) = some u := by
  obtain ⟨b, o, ha, _⟩ := h.at_ 0 hn
  refine ⟨b, o, ha, fun j u hu => ?_⟩
  have hj : j < rows.length * k := by have := (List.getElem?_eq_some_iff.1 hu).1; rwa [flat_length h.size] at this
  have hi : j / k < rows.length := by rw [Nat.div_lt_iff_lt_mul hk]; exact hj
  have hr : j % k < k := Nat.mod_lt _ hk
  have e : j / k * k + j % k = j := Nat.div_add_mod' j k
  obtain ⟨b', o', ha', hrow⟩ := h.at_ (j / k) hi
  rw [ha] at ha'; cases ha'
  have hg := flat_get h.size (j / k) (j % k) hi hr
  rw [e, hu] at hg
  have hc := row?_cell hrow (j % k) hr
  rw [Nat.add_assoc, e] at hc
  have hadd : (⟨b, o, none⟩ : Addr).add j = ⟨b, o + j, none⟩ := by unfold Addr.add; split <;> simp_all
  rw [hadd, hc, ← hg]

theorem SrcRows.vals {w : World} {k : Nat} {A : Option Addr} {rows : List (Array Value)} (h : SrcRows w k A rows) : ∀ u ∈ flat rows, u.oneCell' = true := by
  intro u hu
  obtain ⟨r, hr, hur⟩ := List.mem_flatMap.1 hu
  have := h.one r hr
  unfold allOne at this
  rw [Array.all_eq_true'] at this
  exact this u (by simpa using hur)

/-- A new block with one row. -/
theorem SrcRows.new (w : World) (cs : Array Value) (t : TypeId) (k : Nat) (hs : cs.size = k) (h1 : allOne cs = true) : SrcRows (w.alloc (.cells cs t)) k (some ⟨w.heap.size, 0, none⟩) [cs] :=
  ⟨by simpa using hs, by simpa using h1, fun i hi => ⟨_, _, rfl, by
    obtain rfl : i = 0 := by simp at hi; exact hi
    rw [row?_alloc_at rfl, Nat.zero_add, Nat.zero_mul, subRow_whole hs]; rfl⟩⟩

/-- What is asked of an element's type. -/
structure ElemOk (P : Program) (t e : TypeId) (k bytes : Nat) : Prop where
  und : P.underlying t = some (.slice e)
  info : ∃ i z, P.info? e = some i ∧ i.zero = some z ∧ i.size = k ∧ i.bytes = bytes ∧ z.cells.size = k
  pos : 0 < k

def elemB (x : Option (Option Nat × Nat × Nat)) (k bytes : Nat) : Bool := match x with | some (some a, b, c) => a == k && b == k && c == bytes && decide (0 < k) | _ => false
theorem ElemOk.of {P : Program} {t e : TypeId} {k bytes : Nat} (hu : P.underlying t = some (.slice e)) (h : elemB ((P.info? e).map fun i => (i.zero.map (·.cells.size), i.size, i.bytes)) k bytes = true) : ElemOk P t e k bytes := by
  unfold elemB at h
  cases hi : P.info? e with
  | none => rw [hi] at h; cases h
  | some i =>
    rw [hi] at h
    simp only [Option.map_some] at h
    cases hz : i.zero with
    | none => rw [hz] at h; cases h
    | some z =>
      rw [hz] at h
      simp only [Option.map_some, Bool.and_eq_true, beq_iff_eq, decide_eq_true_eq] at h
      exact ⟨hu, ⟨i, z, hi, hz, h.1.1.2, h.1.2, h.1.1.1⟩, h.2⟩

theorem run_append_nil {P : Program} {t ty e : TypeId} {k bytes : Nat} (he : ElemOk P t e k bytes) (w : World) {base : Nat} {s : Sl} {rows : List (Array Value)} (h : Own w base e k s rows) (c : Nat) :
    (Builtin.append_ #[t, t] ty #[.slice s.a rows.length s.cap, .slice none 0 c]).run P w = .ok (.slice s.a rows.length s.cap) w := by
  obtain ⟨i, z, hi, hz, h1, h2, h3⟩ := he.info
  rcases h.own.2 with ⟨hv, hn⟩ | ⟨g, cap, cur, hv, _, _, hnc, _⟩
  · rw [hv]; simp [Builtin.append_, run_underlying he.und, sizeOf, typeInfo, hi, Builtin.lenOf, Builtin.firstCells]
  · rw [hv]; simp [Builtin.append_, run_underlying he.und, sizeOf, typeInfo, hi, Builtin.lenOf, Builtin.firstCells, hnc, storeCells]

theorem run_append_rows {P : Program} {t ty e : TypeId} {k bytes : Nat} (he : ElemOk P t e k bytes) (w : World) {base : Nat} {s : Sl} {rows : List (Array Value)} (h : Own w base e k s rows) {A : Option Addr} {news : List (Array Value)} (c : Nat)
    (hs : SrcRows w k A news) (hlen : (rows.length + news.length) * (bytes + 1) ≤ 140737488355328) (hbase : base ≤ w.heap.size) :
    ∃ s' w', (Builtin.append_ #[t, t] ty #[.slice s.a rows.length s.cap, .slice A news.length c]).run P w = .ok (.slice s'.a (rows.length + news.length) s'.cap) w' ∧ Own w' base e k s' (rows ++ news) ∧ w.grownBy w' s.blk ∧ (s'.blk = s.blk ∨ s'.blk = some w.heap.size) := by
  have hl1 : rows.length + news.length ≤ maxLen := by
    have : rows.length + news.length ≤ (rows.length + news.length) * (bytes + 1) := Nat.le_mul_of_pos_right _ (by omega)
    unfold maxLen; omega
  have hl2 : (rows.length + news.length) * bytes ≤ 140737488355328 := Nat.le_trans (Nat.mul_le_mul_left _ (by omega)) hlen
  have main : ∀ b o, A = some ⟨b, o, none⟩ → (∀ j u, (flat news)[j]? = some u → w.cell? ((⟨b, o, none⟩ : Addr).add j) = some u) →
      ∃ s' w', (Builtin.append_ #[t, t] ty #[.slice s.a rows.length s.cap, .slice A news.length c]).run P w = .ok (.slice s'.a (rows.length + news.length) s'.cap) w' ∧ Own w' base e k s' (rows ++ news) ∧ w.grownBy w' s.blk ∧ (s'.blk = s.blk ∨ s'.blk = some w.heap.size) := by
    intro b o hA hcells
    obtain ⟨i, z, hi, hz, h1, h2, h3⟩ := he.info
    obtain ⟨v', w', hrun, hown, hg, _, hb⟩ := run_append_own_at (P := P) w base t ty e i z k bytes he.und hi hz h1 h2 h3 he.pos (.slice s.a rows.length s.cap) rows.length (flat rows) h.own ⟨b, o, none⟩ news.length c (flat news) (flat_length hs.size) hcells hs.vals hl1 hl2 hbase
    rw [ownBlock_slice] at hg hb
    have hform : ∃ s' : Sl, v' = .slice s'.a (rows.length + news.length) s'.cap := by
      rcases hown.2 with ⟨hv, hn⟩ | ⟨g, cap, cur, hv, _⟩
      · exact ⟨⟨none, 0⟩, by rw [hv, hn]⟩
      · exact ⟨⟨some ⟨g, 0, none⟩, cap⟩, hv⟩
    obtain ⟨s', rfl⟩ := hform
    rw [ownBlock_slice] at hb
    refine ⟨s', w', by rw [hA]; exact hrun, ⟨by rw [List.length_append, flat_append]; exact hown, fun r hr => ?_⟩, hg, hb⟩
    rcases List.mem_append.1 hr with hr | hr
    · exact h.size r hr
    · exact hs.size r hr
  rcases Nat.eq_zero_or_pos news.length with hn | hn
  · obtain rfl : news = [] := List.eq_nil_of_length_eq_zero hn
    cases A with
    | none =>
      refine ⟨s, w, ?_, by simpa using h, World.grownBy.refl w _, .inl rfl⟩
      exact run_append_nil he w h c
    | some a =>
      obtain ⟨i, z, hi, hz, h1, h2, h3⟩ := he.info
      obtain ⟨v', w', hrun, hown, hg, _, hb⟩ := run_append_own_at (P := P) w base t ty e i z k bytes he.und hi hz h1 h2 h3 he.pos (.slice s.a rows.length s.cap) rows.length (flat rows) h.own a 0 c [] (by simp) (by simp) (by simp) hl1 hl2 hbase
      rw [ownBlock_slice] at hg hb
      have hform : ∃ s' : Sl, v' = .slice s'.a (rows.length + 0) s'.cap := by
        rcases hown.2 with ⟨hv, hn⟩ | ⟨g, cap, cur, hv, _⟩
        · exact ⟨⟨none, 0⟩, by rw [hv, hn]⟩
        · exact ⟨⟨some ⟨g, 0, none⟩, cap⟩, hv⟩
      obtain ⟨s', rfl⟩ := hform
      rw [ownBlock_slice] at hb
      exact ⟨s', w', hrun, ⟨by simpa using hown, by simpa using h.size⟩, hg, hb⟩
  · obtain ⟨b, o, hA, hc⟩ := hs.cells he.pos hn
    exact main b o hA hc

theorem wp_append_rows {P : Program} {o : Oper} {a : Act} {w : World} {K : Act → World → Prop} {Q : Exit → Act → World → Prop} (x y : Operand) (t : TypeId) (ho : o.op = .call { callee := .builtin .append, args := #[x, y], argTypes := #[t, t] })
    {e : TypeId} {k bytes : Nat} (he : ElemOk P t e k bytes) {base : Nat} {s : Sl} {rows : List (Array Value)} (hx : a.eval x = .slice s.a rows.length s.cap) (h : Own w base e k s rows) {A : Option Addr} {news : List (Array Value)} {m c : Nat}
    (hy : a.eval y = .slice A m c) (hm : m = news.length) (hs : SrcRows w k A news) (hlen : (rows.length + news.length) * (bytes + 1) ≤ 140737488355328) (hbase : base ≤ w.heap.size)
    (hK : ∀ (s' : Sl) w', Own w' base e k s' (rows ++ news) → w.grownBy w' s.blk → (s'.blk = s.blk ∨ s'.blk = some w.heap.size) → K (a.put o.dst (.slice s'.a (rows.length + news.length) s'.cap)) w') : o.wp P a w K Q := by
  subst hm
  obtain ⟨s', w', hrun, h2, h3, h4⟩ := run_append_rows (ty := o.type) he w h c hs hlen hbase
  unfold Oper.wp execOp
  simp only [ho, resolve, invoke, builtin, Sem.run_bind, Sem.run_pure, Result.andThen_ok, List.map_toArray, List.map_cons, List.map_nil, hx, hy, hrun]
  exact hK s' w' h2 h3 h4

theorem wpList_append_rows {P : Program} {ops : Array Oper} {rest : List Oper} {o : Oper} {a : Act} {w : World} {Q : Exit → Act → World → Prop} (hgd : o.guard = none) (x y : Operand) (t : TypeId) (ho : o.op = .call { callee := .builtin .append, args := #[x, y], argTypes := #[t, t] })
    {e : TypeId} {k bytes : Nat} (he : ElemOk P t e k bytes) {base : Nat} {s : Sl} {rows : List (Array Value)} (hx : a.eval x = .slice s.a rows.length s.cap) (h : Own w base e k s rows) {A : Option Addr} {news : List (Array Value)} {m c : Nat}
    (hy : a.eval y = .slice A m c) (hm : m = news.length) (hs : SrcRows w k A news) (hlen : (rows.length + news.length) * (bytes + 1) ≤ 140737488355328) (hbase : base ≤ w.heap.size)
    (hK : ∀ (s' : Sl) w', Own w' base e k s' (rows ++ news) → w.grownBy w' s.blk → (s'.blk = s.blk ∨ s'.blk = some w.heap.size) → wpList P ops Q rest (a.put o.dst (.slice s'.a (rows.length + news.length) s'.cap)) w') : wpList P ops Q (o :: rest) a w :=
  wpList_plain hgd fun _ hK' => wp_append_rows x y t ho he hx h hy hm hs hlen hbase fun s' w' h2 h3 h4 => hK' _ _ (hK s' w' h2 h3 h4)

/-! ### What depends on some blocks alone -/

/-- Φ holds in every world that agrees with w at the blocks S. -/
def Dep (w : World) (S : Nat → Prop) (Φ : World → Prop) : Prop := ∀ w' : World, (∀ k, S k → w'.heap[k]? = w.heap[k]?) → Φ w'
theorem Dep.out {w : World} {S : Nat → Prop} {Φ : World → Prop} (h : Dep w S Φ) : Φ w := h w fun _ _ => rfl
theorem Dep.to {w w1 : World} {S S1 : Nat → Prop} {Φ : World → Prop} (h : Dep w S Φ) (hw : ∀ k, S k → w1.heap[k]? = w.heap[k]?) (hS : ∀ k, S k → S1 k) : Dep w1 S1 Φ :=
  fun w' hw' => h w' fun k hk => (hw' k (hS k hk)).trans (hw k hk)
/-- The blocks made since. -/
def fresh (base : Nat) (w : World) : Nat → Prop := fun k => base ≤ k ∧ k < w.heap.size
/-- .. but one. -/
def freshBut (base : Nat) (w : World) (g : Option Nat) : Nat → Prop := fun k => base ≤ k ∧ k < w.heap.size ∧ some k ≠ g
end Go.WW
