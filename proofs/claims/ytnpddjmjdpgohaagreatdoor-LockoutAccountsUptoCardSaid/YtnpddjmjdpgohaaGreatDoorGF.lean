/- Part F of the proof about watchword's lockout: texts C10. -/
import Derived.Test.YtnpddjmjdpgohaaGreatDoorGE

namespace Go.Proofs.YtnpddjmjdpgohaaGreatDoor
open Go.RowKit Go.WW
set_option maxRecDepth 100000 in
set_option maxHeartbeats 8000000 in
theorem pvalid_c (p : Policy) (w : World) (hs : p.name.size ≤ lim) : Calls Tryz.prog 53 #[.agg (polC p)] w fun e w' => e = .returned (.bool (polOk p)) ∧ Below w.heap.size w w' := by
  go_enter Tryz.func53, Tryz.ntmps53
  go_wp2_with fail
  refine (validName_c _ _ hs).mono ?_
  rintro e w' ⟨rfl, rfl⟩
  cases h1 : polName p.name
  · have HN := Lib.hid (polOk_no1 p (by simp [h1]))
    go_wp2_with fail
    all_goals go_ret
    all_goals exact ⟨by rw [HN.out]; rfl, (Below.refl _ _).alloc (Nat.le_refl _) _⟩
  go_wp2_with fail
  refine (pbetween_c _ _ _ _).mono ?_
  rintro e w' ⟨rfl, rfl⟩
  cases h2 : btw p.length 1 64
  · have HN := Lib.hid (polOk_no2 p (by simp [h2]))
    go_wp2_with fail
    all_goals go_ret
    all_goals exact ⟨by rw [HN.out]; rfl, (Below.refl _ _).alloc (Nat.le_refl _) _⟩
  go_wp2_with fail
  refine (pbetween_c _ _ _ _).mono ?_
  rintro e w' ⟨rfl, rfl⟩
  cases h3 : btw p.classes 1 5
  · have HN := Lib.hid (polOk_no3 p (by simp [h3]))
    go_wp2_with fail
    all_goals go_ret
    all_goals exact ⟨by rw [HN.out]; rfl, (Below.refl _ _).alloc (Nat.le_refl _) _⟩
  go_wp2_with fail
  refine (pbetween_c _ _ _ _).mono ?_
  rintro e w' ⟨rfl, rfl⟩
  cases h4 : btw p.distinct 0 p.length
  · have HN := Lib.hid (polOk_no4 p (by simp [h4]))
    go_wp2_with fail
    all_goals go_ret
    all_goals exact ⟨by rw [HN.out]; rfl, (Below.refl _ _).alloc (Nat.le_refl _) _⟩
  go_wp2_with fail
  refine (pbetween_c _ _ _ _).mono ?_
  rintro e w' ⟨rfl, rfl⟩
  cases h5 : btw p.history 0 16
  · have HN := Lib.hid (polOk_no5 p (by simp [h5]))
    go_wp2_with fail
    all_goals go_ret
    all_goals exact ⟨by rw [HN.out]; rfl, (Below.refl _ _).alloc (Nat.le_refl _) _⟩
  go_wp2_with fail
  refine (time147_c _ _).mono ?_
  rintro e w' ⟨rfl, rfl⟩
  cases h6 : btw p.minAge 0 1099511627776
  · have HN := Lib.hid (polOk_no6 p (by simp [h6]))
    go_wp2_with fail
    all_goals go_ret
    all_goals exact ⟨by rw [HN.out]; rfl, (Below.refl _ _).alloc (Nat.le_refl _) _⟩
  go_wp2_with fail
  refine (time147_c _ _).mono ?_
  rintro e w' ⟨rfl, rfl⟩
  cases h7 : btw p.maxAge 0 1099511627776
  · have HN := Lib.hid (polOk_no7 p (by simp [h7]))
    go_wp2_with fail
    all_goals go_ret
    all_goals exact ⟨by rw [HN.out]; rfl, (Below.refl _ _).alloc (Nat.le_refl _) _⟩
  by_cases hz : p.maxAge = 0
  · have hz' : (p.maxAge == 0) = true := by simp [hz]
    have h8 : (p.maxAge == 0) = true ∨ p.minAge ≤ p.maxAge := .inl hz'
    clear hz
    go_wp2_with fail
    refine (pbetween_c _ _ _ _).mono ?_
    rintro e w' ⟨rfl, rfl⟩
    cases h9 : btw p.fails 0 1000
    · have HN := Lib.hid (polOk_no9 p (by simp [h9]))
      go_wp2_with fail
      all_goals go_ret
      all_goals exact ⟨by rw [HN.out]; rfl, (Below.refl _ _).alloc (Nat.le_refl _) _⟩
    go_wp2_with fail
    refine (time147_c _ _).mono ?_
    rintro e w' ⟨rfl, rfl⟩
    cases h10 : btw p.window 0 1099511627776
    · have HN := Lib.hid (polOk_no10 p (by simp [h10]))
      go_wp2_with fail
      all_goals go_ret
      all_goals exact ⟨by rw [HN.out]; rfl, (Below.refl _ _).alloc (Nat.le_refl _) _⟩
    go_wp2_with fail
    refine (time147_c _ _).mono ?_
    rintro e w' ⟨rfl, rfl⟩
    have HN := Lib.hid (polOk_end p h1 h2 h3 h4 h5 h6 h7 h8 h9 h10)
    go_wp2_with fail
    all_goals go_ret
    all_goals exact ⟨by rw [HN.out]; rfl, (Below.refl _ _).alloc (Nat.le_refl _) _⟩
  have hz' : (p.maxAge == 0) = false := by simp [hz]
  by_cases hm : p.minAge ≤ p.maxAge
  · have h8 : (p.maxAge == 0) = true ∨ p.minAge ≤ p.maxAge := .inr hm
    clear hz
    go_wp2_with fail
    refine (pbetween_c _ _ _ _).mono ?_
    rintro e w' ⟨rfl, rfl⟩
    cases h9 : btw p.fails 0 1000
    · have HN := Lib.hid (polOk_no9 p (by simp [h9]))
      go_wp2_with fail
      all_goals go_ret
      all_goals exact ⟨by rw [HN.out]; rfl, (Below.refl _ _).alloc (Nat.le_refl _) _⟩
    go_wp2_with fail
    refine (time147_c _ _).mono ?_
    rintro e w' ⟨rfl, rfl⟩
    cases h10 : btw p.window 0 1099511627776
    · have HN := Lib.hid (polOk_no10 p (by simp [h10]))
      go_wp2_with fail
      all_goals go_ret
      all_goals exact ⟨by rw [HN.out]; rfl, (Below.refl _ _).alloc (Nat.le_refl _) _⟩
    go_wp2_with fail
    refine (time147_c _ _).mono ?_
    rintro e w' ⟨rfl, rfl⟩
    have HN := Lib.hid (polOk_end p h1 h2 h3 h4 h5 h6 h7 h8 h9 h10)
    go_wp2_with fail
    all_goals go_ret
    all_goals exact ⟨by rw [HN.out]; rfl, (Below.refl _ _).alloc (Nat.le_refl _) _⟩
  have HN := Lib.hid (polOk_no8' p hz (by omega))
  clear hz
  go_wp2_with fail
  all_goals go_ret
  all_goals exact ⟨by rw [HN.out]; rfl, (Below.refl _ _).alloc (Nat.le_refl _) _⟩
end Go.Proofs.YtnpddjmjdpgohaaGreatDoor
