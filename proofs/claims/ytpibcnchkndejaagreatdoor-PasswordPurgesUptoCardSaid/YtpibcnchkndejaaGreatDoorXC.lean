/- Contracts: policies. -/
import Derived.Test.YtpibcnchkndejaaGreatDoorXB
namespace Go.WW
def letterC (c : Int) : Int := if 97 ≤ c ∧ c ≤ 122 then 1 else if 65 ≤ c ∧ c ≤ 90 then 2 else if 48 ≤ c ∧ c ≤ 57 then 3 else 0
def classC (c : Int) : Int := if 97 ≤ c ∧ c ≤ 122 then 1 else if 65 ≤ c ∧ c ≤ 90 then 2 else if 48 ≤ c ∧ c ≤ 57 then 3 else if 32 ≤ c ∧ c ≤ 126 then 4 else 5
theorem class_letter (c : Int) : 3 < classC c ↔ letterC c = 0 := by
  unfold classC letterC
  (repeat' split) <;> omega
def polB (c : UInt8) : Bool := !(letterC c.toNat == 0) || (c.toNat : Int) == 45 || (c.toNat : Int) == 95 || (c.toNat : Int) == 46
def polName (s : ByteArray) : Bool := s.data.toList.all polB && btw s.size 1 32
def polOk (p : Policy) : Bool := polName p.name && btw p.length 1 64 && btw p.classes 1 5 && btw p.distinct 0 p.length && btw p.history 0 16 && btw p.minAge 0 1099511627776 && btw p.maxAge 0 1099511627776 && (p.maxAge == 0 || decide (p.minAge ≤ p.maxAge)) && btw p.fails 0 1000 && btw p.window 0 1099511627776 && btw p.lock 0 1099511627776
theorem polOk_no1 (p : Policy) (h : ¬ polName p.name = true) : polOk p = false := by
  have hb : (polName p.name) = false := by first | exact h | (simpa using h) | (simp; omega)
  simp only [polOk, hb, Bool.false_and]
theorem polOk_no2 (p : Policy) (h : ¬ btw p.length 1 64 = true) : polOk p = false := by
  have hb : (btw p.length 1 64) = false := by first | exact h | (simpa using h) | (simp; omega)
  simp only [polOk, hb, Bool.false_and, Bool.and_false]
theorem polOk_no3 (p : Policy) (h : ¬ btw p.classes 1 5 = true) : polOk p = false := by
  have hb : (btw p.classes 1 5) = false := by first | exact h | (simpa using h) | (simp; omega)
  simp only [polOk, hb, Bool.false_and, Bool.and_false]
theorem polOk_no4 (p : Policy) (h : ¬ btw p.distinct 0 p.length = true) : polOk p = false := by
  have hb : (btw p.distinct 0 p.length) = false := by first | exact h | (simpa using h) | (simp; omega)
  simp only [polOk, hb, Bool.false_and, Bool.and_false]
theorem polOk_no5 (p : Policy) (h : ¬ btw p.history 0 16 = true) : polOk p = false := by
  have hb : (btw p.history 0 16) = false := by first | exact h | (simpa using h) | (simp; omega)
  simp only [polOk, hb, Bool.false_and, Bool.and_false]
theorem polOk_no6 (p : Policy) (h : ¬ btw p.minAge 0 1099511627776 = true) : polOk p = false := by
  have hb : (btw p.minAge 0 1099511627776) = false := by first | exact h | (simpa using h) | (simp; omega)
  simp only [polOk, hb, Bool.false_and, Bool.and_false]
theorem polOk_no7 (p : Policy) (h : ¬ btw p.maxAge 0 1099511627776 = true) : polOk p = false := by
  have hb : (btw p.maxAge 0 1099511627776) = false := by first | exact h | (simpa using h) | (simp; omega)
  simp only [polOk, hb, Bool.false_and, Bool.and_false]
theorem polOk_no8 (p : Policy) (h : ¬ ((p.maxAge == 0) = true ∨ p.minAge ≤ p.maxAge)) : polOk p = false := by
  have hb : (p.maxAge == 0 || decide (p.minAge ≤ p.maxAge)) = false := by first | exact h | (simpa using h) | (simp; omega)
  simp only [polOk, hb, Bool.false_and, Bool.and_false]
theorem polOk_no9 (p : Policy) (h : ¬ btw p.fails 0 1000 = true) : polOk p = false := by
  have hb : (btw p.fails 0 1000) = false := by first | exact h | (simpa using h) | (simp; omega)
  simp only [polOk, hb, Bool.false_and, Bool.and_false]
theorem polOk_no10 (p : Policy) (h : ¬ btw p.window 0 1099511627776 = true) : polOk p = false := by
  have hb : (btw p.window 0 1099511627776) = false := by first | exact h | (simpa using h) | (simp; omega)
  simp only [polOk, hb, Bool.false_and, Bool.and_false]
theorem polOk_no11 (p : Policy) (h : ¬ btw p.lock 0 1099511627776 = true) : polOk p = false := by
  have hb : (btw p.lock 0 1099511627776) = false := by first | exact h | (simpa using h) | (simp; omega)
  simp only [polOk, hb, Bool.and_false]
theorem polOk_end (p : Policy) (h1 : polName p.name = true) (h2 : btw p.length 1 64 = true) (h3 : btw p.classes 1 5 = true) (h4 : btw p.distinct 0 p.length = true) (h5 : btw p.history 0 16 = true) (h6 : btw p.minAge 0 1099511627776 = true) (h7 : btw p.maxAge 0 1099511627776 = true) (h8 : (p.maxAge == 0) = true ∨ p.minAge ≤ p.maxAge) (h9 : btw p.fails 0 1000 = true) (h10 : btw p.window 0 1099511627776 = true) : polOk p = (btw p.lock 0 1099511627776) := by
  have e1 : (polName p.name) = true := by first | exact h1 | (simpa using h1) | (simp; omega)
  have e2 : (btw p.length 1 64) = true := by first | exact h2 | (simpa using h2) | (simp; omega)
  have e3 : (btw p.classes 1 5) = true := by first | exact h3 | (simpa using h3) | (simp; omega)
  have e4 : (btw p.distinct 0 p.length) = true := by first | exact h4 | (simpa using h4) | (simp; omega)
  have e5 : (btw p.history 0 16) = true := by first | exact h5 | (simpa using h5) | (simp; omega)
  have e6 : (btw p.minAge 0 1099511627776) = true := by first | exact h6 | (simpa using h6) | (simp; omega)
  have e7 : (btw p.maxAge 0 1099511627776) = true := by first | exact h7 | (simpa using h7) | (simp; omega)
  have e8 : (p.maxAge == 0 || decide (p.minAge ≤ p.maxAge)) = true := by first | exact h8 | (simpa using h8) | (simp; omega)
  have e9 : (btw p.fails 0 1000) = true := by first | exact h9 | (simpa using h9) | (simp; omega)
  have e10 : (btw p.window 0 1099511627776) = true := by first | exact h10 | (simpa using h10) | (simp; omega)
  simp only [polOk, e1, e2, e3, e4, e5, e6, e7, e8, e9, e10, Bool.true_and]
theorem polOk_end7 (p : Policy) (h1 : polName p.name = true) (h2 : btw p.length 1 64 = true) (h3 : btw p.classes 1 5 = true) (h4 : btw p.distinct 0 p.length = true) (h5 : btw p.history 0 16 = true) (h6 : btw p.minAge 0 1099511627776 = true) (h7 : btw p.maxAge 0 1099511627776 = true) (h8 : p.maxAge = 0 ∨ p.minAge ≤ p.maxAge) (h9 : btw p.fails 0 1000 = true) (h10 : btw p.window 0 1099511627776 = true) : polOk p = btw p.lock 0 1099511627776 :=
  polOk_end p h1 h2 h3 h4 h5 h6 h7 (h8.imp (fun h => by simpa using h) id) h9 h10
theorem polOk_no8' (p : Policy) (h : ¬ p.maxAge = 0) (h' : p.maxAge < p.minAge) : polOk p = false := polOk_no8 p (by simp only [beq_iff_eq]; omega)
theorem polB_no {c : UInt8} (h : letterC c.toNat = 0) (h1 : ¬ (c.toNat : Int) = 45) (h2 : ¬ (c.toNat : Int) = 95) (h3 : ¬ (c.toNat : Int) = 46) : polB c = false := by simp [polB, h]; omega
theorem polB_l {c : UInt8} (h : ¬ letterC c.toNat = 0) : polB c = true := by simp [polB, h]
theorem polB_y {c : UInt8} (h : (c.toNat : Int) = 45 ∨ (c.toNat : Int) = 95 ∨ (c.toNat : Int) = 46) : polB c = true := by simp [polB]; omega
theorem polName_no {s : ByteArray} (k : Nat) (hk : k < s.size) (h : polB s[k] = false) : polName s = false := by rw [polName, all_no s k hk h]; rfl
theorem polName_end {s : ByteArray} (k : Nat) (hk : s.size ≤ k) (h : (s.data.toList.take k).all polB = true) : polName s = btw s.size 1 32 := by rw [polName, all_end s k hk h]; rfl
end Go.WW
namespace Go.Proofs.YtpibcnchkndejaaGreatDoor
open Go.RowKit Go.WW

theorem class_c (c : Int) (w : World) : Calls Tryz.prog 150 #[.int .u8 c] w fun e w' => e = .returned (.int .i64 (classC c)) ∧ w = w' := by
  rcases (show (97 ≤ c ∧ c ≤ 122) ∨ (65 ≤ c ∧ c ≤ 90) ∨ (48 ≤ c ∧ c ≤ 57) ∨ c < 32 ∨ (32 ≤ c ∧ c < 48) ∨ (57 < c ∧ c < 65) ∨ (90 < c ∧ c < 97) ∨ (122 < c ∧ c ≤ 126) ∨ 126 < c by omega) with ⟨h1, h2⟩ | ⟨h1, h2⟩ | ⟨h1, h2⟩ | h1 | ⟨h1, h2⟩ | ⟨h1, h2⟩ | ⟨h1, h2⟩ | ⟨h1, h2⟩ | h1
  all_goals
    obtain ⟨n, hn⟩ : ∃ n, classC c = n := ⟨_, rfl⟩
    have hn' := hn
    unfold classC at hn'
    repeat (first | rw [if_pos (by omega)] at hn' | rw [if_neg (by omega)] at hn')
    subst hn'
    have HN := Lib.hid hn
    clear hn
    go_enter Tryz.func150, Tryz.ntmps150
    go_wp2
    go_ret
    exact ⟨by rw [HN.out]; rfl, rfl⟩

set_option maxHeartbeats 1000000 in
theorem validName_c (s : ByteArray) (w : World) (hs : s.size ≤ lim) : Calls Tryz.prog 113 #[.string s] w fun e w' => e = .returned (.bool (polName s)) ∧ w = w' := by
  have hs' : s.size ≤ 4294967000 := hs
  go_enter Tryz.func113, Tryz.ntmps113
  go_wp2
  go_loop [7] (fun i => ∃ k : Nat, k ≤ s.size ∧ i = .int .i64 k ∧ Hid ((s.data.toList.take k).all polB = true)) (fun i => s.size - (intOf i).toNat)
  case atStart => exact ⟨0, Nat.zero_le _, rfl, by simp [Hid]⟩
  case round =>
    obtain ⟨k, hk, rfl, hall⟩ := hrel
    by_cases hlt : k < s.size
    · by_cases hz : letterC s[k].toNat = 0
      · have hz' : decide (3 < classC s[k].toNat) = true := by simpa using (class_letter _).2 hz
        by_cases c1 : (s[k].toNat : Int) = 45
        · have b1 : ((s[k].toNat : Int) != 45) = false := by simp [c1]
          have HS := Lib.hid (all_step s k hlt hall.out (polB_y (.inl c1)))
          clear c1 hz
          go_wp2_with (go_at_call 150; refine (class_c _ _).mono ?_; rintro e w' ⟨rfl, rfl⟩)
          go_round
          case rel => exact ⟨k + 1, by omega, by go_num, HS.out⟩
          case measure => simp [intOf]; omega
        · have b1 : ((s[k].toNat : Int) != 45) = true := by simp [c1]
          by_cases c2 : (s[k].toNat : Int) = 95
          · have b2 : ((s[k].toNat : Int) != 95) = false := by simp [c2]
            have HS := Lib.hid (all_step s k hlt hall.out (polB_y (.inr (.inl c2))))
            clear c1 c2 hz
            go_wp2_with (go_at_call 150; refine (class_c _ _).mono ?_; rintro e w' ⟨rfl, rfl⟩)
            go_round
            case rel => exact ⟨k + 1, by omega, by go_num, HS.out⟩
            case measure => simp [intOf]; omega
          · have b2 : ((s[k].toNat : Int) != 95) = true := by simp [c2]
            by_cases c3 : (s[k].toNat : Int) = 46
            · have b3 : ((s[k].toNat : Int) != 46) = false := by simp [c3]
              have HS := Lib.hid (all_step s k hlt hall.out (polB_y (.inr (.inr c3))))
              clear c1 c2 c3 hz
              go_wp2_with (go_at_call 150; refine (class_c _ _).mono ?_; rintro e w' ⟨rfl, rfl⟩)
              go_round
              case rel => exact ⟨k + 1, by omega, by go_num, HS.out⟩
              case measure => simp [intOf]; omega
            · have b3 : ((s[k].toNat : Int) != 46) = true := by simp [c3]
              have HS := Lib.hid (polName_no k hlt (polB_no hz c1 c2 c3))
              clear c1 c2 c3 hz
              go_wp2_with (go_at_call 150; refine (class_c _ _).mono ?_; rintro e w' ⟨rfl, rfl⟩)
              go_ret
              exact ⟨by rw [HS.out]; rfl, rfl⟩
      · have HS := Lib.hid (all_step s k hlt hall.out (polB_l hz))
        have hz' : decide (3 < classC s[k].toNat) = false := by simpa using mt (class_letter _).1 hz
        clear hz
        go_wp2_with (go_at_call 150; refine (class_c _ _).mono ?_; rintro e w' ⟨rfl, rfl⟩)
        go_round
        case rel => exact ⟨k + 1, by omega, by go_num, HS.out⟩
        case measure => simp [intOf]; omega
    · have HE := Lib.hid (polName_end k (by omega) hall.out)
      go_wp2_with (go_at_call 112; refine (pbetween_c _ _ _ _).mono ?_; rintro e w' ⟨rfl, rfl⟩)
      go_ret
      exact ⟨by rw [HE.out]; rfl, rfl⟩

theorem time147_c (v : Int) (w : World) : Calls Tryz.prog 111 #[.int .i64 v] w fun e w' => e = .returned (.bool (btw v 0 1099511627776)) ∧ w = w' := by
  go_enter Tryz.func111, Tryz.ntmps111
  go_wp2_with (go_at_call 112; refine (pbetween_c _ _ _ _).mono ?_; rintro e w' ⟨rfl, rfl⟩)
  go_ret
  exact ⟨rfl, rfl⟩

end Go.Proofs.YtpibcnchkndejaaGreatDoor
/- Contract of policy.Valid. -/
namespace Go.Proofs.YtpibcnchkndejaaGreatDoor
open Go.RowKit Go.WW
set_option maxRecDepth 100000 in
set_option maxHeartbeats 8000000 in
theorem pvalid_c (p : Policy) (w : World) (hs : p.name.size ≤ lim) : Calls Tryz.prog 70 #[.agg (polC p)] w fun e w' => e = .returned (.bool (polOk p)) ∧ Below w.heap.size w w' := by
  go_enter Tryz.func70, Tryz.ntmps70
  go_wp2_with fail
  refine (validName_c _ _ hs).mono ?_
  rintro e w' ⟨rfl, rfl⟩
  cases h1 : polName p.name
  · have HN := Lib.hid (polOk_no1 p (by simp [h1]))
    go_wp2_with fail
    all_goals go_ret
    all_goals exact ⟨by rw [HN.out]; rfl, (Below.refl _ _).alloc (Nat.le_refl _) _⟩
  go_wp2_with fail
  refine (pbetween_c _ _ _ _).mono ?_
  rintro e w' ⟨rfl, rfl⟩
  cases h2 : btw p.length 1 64
  · have HN := Lib.hid (polOk_no2 p (by simp [h2]))
    go_wp2_with fail
    all_goals go_ret
    all_goals exact ⟨by rw [HN.out]; rfl, (Below.refl _ _).alloc (Nat.le_refl _) _⟩
  go_wp2_with fail
  refine (pbetween_c _ _ _ _).mono ?_
  rintro e w' ⟨rfl, rfl⟩
  cases h3 : btw p.classes 1 5
  · have HN := Lib.hid (polOk_no3 p (by simp [h3]))
    go_wp2_with fail
    all_goals go_ret
    all_goals exact ⟨by rw [HN.out]; rfl, (Below.refl _ _).alloc (Nat.le_refl _) _⟩
  go_wp2_with fail
  refine (pbetween_c _ _ _ _).mono ?_
  rintro e w' ⟨rfl, rfl⟩
  cases h4 : btw p.distinct 0 p.length
  · have HN := Lib.hid (polOk_no4 p (by simp [h4]))
    go_wp2_with fail
    all_goals go_ret
    all_goals exact ⟨by rw [HN.out]; rfl, (Below.refl _ _).alloc (Nat.le_refl _) _⟩
  go_wp2_with fail
  refine (pbetween_c _ _ _ _).mono ?_
  rintro e w' ⟨rfl, rfl⟩
  cases h5 : btw p.history 0 16
  · have HN := Lib.hid (polOk_no5 p (by simp [h5]))
    go_wp2_with fail
    all_goals go_ret
    all_goals exact ⟨by rw [HN.out]; rfl, (Below.refl _ _).alloc (Nat.le_refl _) _⟩
  go_wp2_with fail
  refine (time147_c _ _).mono ?_
  rintro e w' ⟨rfl, rfl⟩
  cases h6 : btw p.minAge 0 1099511627776
  · have HN := Lib.hid (polOk_no6 p (by simp [h6]))
    go_wp2_with fail
    all_goals go_ret
    all_goals exact ⟨by rw [HN.out]; rfl, (Below.refl _ _).alloc (Nat.le_refl _) _⟩
  go_wp2_with fail
  refine (time147_c _ _).mono ?_
  rintro e w' ⟨rfl, rfl⟩
  cases h7 : btw p.maxAge 0 1099511627776
  · have HN := Lib.hid (polOk_no7 p (by simp [h7]))
    go_wp2_with fail
    all_goals go_ret
    all_goals exact ⟨by rw [HN.out]; rfl, (Below.refl _ _).alloc (Nat.le_refl _) _⟩
  by_cases hz : p.maxAge = 0
  · have hz' : (p.maxAge == 0) = true := by simp [hz]
    have h8 : (p.maxAge == 0) = true ∨ p.minAge ≤ p.maxAge := .inl hz'
    clear hz
    go_wp2_with fail
    refine (pbetween_c _ _ _ _).mono ?_
    rintro e w' ⟨rfl, rfl⟩
    cases h9 : btw p.fails 0 1000
    · have HN := Lib.hid (polOk_no9 p (by simp [h9]))
      go_wp2_with fail
      all_goals go_ret
      all_goals exact ⟨by rw [HN.out]; rfl, (Below.refl _ _).alloc (Nat.le_refl _) _⟩
    go_wp2_with fail
    refine (time147_c _ _).mono ?_
    rintro e w' ⟨rfl, rfl⟩
    cases h10 : btw p.window 0 1099511627776
    · have HN := Lib.hid (polOk_no10 p (by simp [h10]))
      go_wp2_with fail
      all_goals go_ret
      all_goals exact ⟨by rw [HN.out]; rfl, (Below.refl _ _).alloc (Nat.le_refl _) _⟩
    go_wp2_with fail
    refine (time147_c _ _).mono ?_
    rintro e w' ⟨rfl, rfl⟩
    have HN := Lib.hid (polOk_end p h1 h2 h3 h4 h5 h6 h7 h8 h9 h10)
    go_wp2_with fail
    all_goals go_ret
    all_goals exact ⟨by rw [HN.out]; rfl, (Below.refl _ _).alloc (Nat.le_refl _) _⟩
  have hz' : (p.maxAge == 0) = false := by simp [hz]
  by_cases hm : p.minAge ≤ p.maxAge
  · have h8 : (p.maxAge == 0) = true ∨ p.minAge ≤ p.maxAge := .inr hm
    clear hz
    go_wp2_with fail
    refine (pbetween_c _ _ _ _).mono ?_
    rintro e w' ⟨rfl, rfl⟩
    cases h9 : btw p.fails 0 1000
    · have HN := Lib.hid (polOk_no9 p (by simp [h9]))
      go_wp2_with fail
      all_goals go_ret
      all_goals exact ⟨by rw [HN.out]; rfl, (Below.refl _ _).alloc (Nat.le_refl _) _⟩
    go_wp2_with fail
    refine (time147_c _ _).mono ?_
    rintro e w' ⟨rfl, rfl⟩
    cases h10 : btw p.window 0 1099511627776
    · have HN := Lib.hid (polOk_no10 p (by simp [h10]))
      go_wp2_with fail
      all_goals go_ret
      all_goals exact ⟨by rw [HN.out]; rfl, (Below.refl _ _).alloc (Nat.le_refl _) _⟩
    go_wp2_with fail
    refine (time147_c _ _).mono ?_
    rintro e w' ⟨rfl, rfl⟩
    have HN := Lib.hid (polOk_end p h1 h2 h3 h4 h5 h6 h7 h8 h9 h10)
    go_wp2_with fail
    all_goals go_ret
    all_goals exact ⟨by rw [HN.out]; rfl, (Below.refl _ _).alloc (Nat.le_refl _) _⟩
  have HN := Lib.hid (polOk_no8' p hz (by omega))
  clear hz
  go_wp2_with fail
  all_goals go_ret
  all_goals exact ⟨by rw [HN.out]; rfl, (Below.refl _ _).alloc (Nat.le_refl _) _⟩
end Go.Proofs.YtpibcnchkndejaaGreatDoor
