/- Part C of the proof about watchword's lockout: texts C6 C7. -/
import Derived.Test.YtnpddjmjdpgohaaGreatDoorGB

namespace Go.WW
def lastP (l : List Key) : Nat → Int
  | 0 => 0
  | j + 1 => ((l[j]?).map (·.profile)).getD 0
theorem setEnd_no1 (x : KeySet) (h : ¬ btw x.version 1 65535 = true) : setEnd x = false := by
  have hb : (btw x.version 1 65535) = false := by first | exact h | (simpa using h) | (simp; omega)
  simp only [setEnd, hb, Bool.false_and]
theorem setEnd_no2 (x : KeySet) (h : ¬ btw x.keys.length 1 4 = true) : setEnd x = false := by
  have hb : (btw x.keys.length 1 4) = false := by first | exact h | (simpa using h) | (simp; omega)
  simp only [setEnd, hb, Bool.false_and, Bool.and_false]
theorem setEnd_no3 (x : KeySet) (h : 256 < (x.salt.size : Int)) : setEnd x = false := by
  have hb : (decide ((x.salt.size : Int) ≤ 256)) = false := by first | exact h | (simpa using h) | (simp; omega)
  simp only [setEnd, hb, Bool.false_and, Bool.and_false]
theorem setEnd_no4 (x : KeySet) (h : ¬ btw x.iterations 0 65536 = true) : setEnd x = false := by
  have hb : (btw x.iterations 0 65536) = false := by first | exact h | (simpa using h) | (simp; omega)
  simp only [setEnd, hb, Bool.false_and, Bool.and_false]
theorem setEnd_no5 (x : KeySet) (h : ¬ (0 < x.iterations ∨ x.salt.toList = [])) : setEnd x = false := by
  have hb : (decide (0 < x.iterations) || x.salt.toList.isEmpty) = false := by first | exact h | (simpa using h) | (simp; omega)
  simp only [setEnd, hb, Bool.false_and, Bool.and_false]
theorem setEnd_no6 (x : KeySet) (h : ¬ btw x.created 0 1099511627776 = true) : setEnd x = false := by
  have hb : (btw x.created 0 1099511627776) = false := by first | exact h | (simpa using h) | (simp; omega)
  simp only [setEnd, hb, Bool.and_false]
theorem setEnd_end (x : KeySet) (h1 : btw x.version 1 65535 = true) (h2 : btw x.keys.length 1 4 = true) (h3 : (x.salt.size : Int) ≤ 256) (h4 : btw x.iterations 0 65536 = true) (h5 : 0 < x.iterations ∨ x.salt.toList = []) : setEnd x = (btw x.created 0 1099511627776) := by
  have e1 : (btw x.version 1 65535) = true := by first | exact h1 | (simpa using h1) | (simp; omega)
  have e2 : (btw x.keys.length 1 4) = true := by first | exact h2 | (simpa using h2) | (simp; omega)
  have e3 : (decide ((x.salt.size : Int) ≤ 256)) = true := by first | exact h3 | (simpa using h3) | (simp; omega)
  have e4 : (btw x.iterations 0 65536) = true := by first | exact h4 | (simpa using h4) | (simp; omega)
  have e5 : (decide (0 < x.iterations) || x.salt.toList.isEmpty) = true := by first | exact h5 | (simpa using h5) | (simp; omega)
  simp only [setEnd, e1, e2, e3, e4, e5, Bool.true_and]
theorem setEnd_end' (x : KeySet) (h1 : btw x.version 1 65535 = true) (h2 : btw x.keys.length 1 4 = true) (h3 : (x.salt.size : Int) ≤ 256) (h4 : btw x.iterations 0 65536 = true) (h5 : 0 < x.iterations) : setEnd x = btw x.created 0 1099511627776 := setEnd_end x h1 h2 h3 h4 (.inl h5)
theorem setEnd_end4 (x : KeySet) (h1 : btw x.version 1 65535 = true) (h2 : btw x.keys.length 1 4 = true) (h3 : (x.salt.size : Int) ≤ 256) (h4 : btw x.iterations 0 65536 = true) : setEnd x = ((decide (0 < x.iterations) || x.salt.toList.isEmpty) && btw x.created 0 1099511627776) := by
  have e3 : decide ((x.salt.size : Int) ≤ 256) = true := by simpa using h3
  simp only [setEnd, h1, h2, e3, h4, Bool.true_and]
theorem setOk_end {m : Int} {x : KeySet} (k : Nat) (hk : k = x.keys.length) (h1 : (x.keys.take k).all (keyFits m x.version) = true) (h2 : (List.range k).all (ordAt profLt x.keys) = true) : setOk m x = setEnd x := by
  subst hk; rw [List.take_of_length_le (Nat.le_refl _)] at h1; simp [setOk, ordered, h1, h2]
theorem setOk_fit {m : Int} {x : KeySet} (k : Nat) (hk : k < x.keys.length) (h : keyFits m x.version x.keys[k] = false) : setOk m x = false := by
  rw [setOk, lall_no x.keys k hk h]; rfl
theorem lastP_zero (l : List Key) : lastP l 0 = 0 := rfl
theorem lastP_succ (l : List Key) (j : Nat) (h : j < l.length) : lastP l (j + 1) = l[j].profile := by simp [lastP, h]
theorem keyLen_pos {p : Int} (h : p ≤ 0) : keyLen p = 0 := by
  have h1 : (p == 1) = false := by simp; omega
  have h2 : (p == 2) = false := by simp; omega
  simp [keyLen, h1, h2]
theorem setOk_last {m : Int} {x : KeySet} (k : Nat) (hk : k < x.keys.length) (h : x.keys[k].profile ≤ lastP x.keys k) : setOk m x = false := by
  cases k with
  | zero => exact setOk_fit 0 hk (by rw [keyFits, keyLen_pos (by simpa [lastP_zero] using h)]; rfl)
  | succ j =>
    rw [lastP_succ x.keys j (by omega)] at h
    have : ordAt profLt x.keys (j + 1) = false := by
      have h1 : j < x.keys.length := by omega
      simp [ordAt, hk, h1, profLt]; exact h
    have : ordered profLt x.keys = false := rall_no _ _ hk this
    simp [setOk, this]
theorem ord_step {x : KeySet} (k : Nat) (hk : k < x.keys.length) (h : lastP x.keys k < x.keys[k].profile) (h2 : (List.range k).all (ordAt profLt x.keys) = true) : (List.range (k + 1)).all (ordAt profLt x.keys) = true := by
  refine rall_step k h2 ?_
  cases k with
  | zero => rfl
  | succ j =>
    have h1 : j < x.keys.length := by omega
    rw [lastP_succ x.keys j h1] at h
    simp [ordAt, hk, h1, profLt]; exact h
end Go.WW
namespace Go.Proofs.YtnpddjmjdpgohaaGreatDoor
open Go.RowKit Go.WW

set_option maxRecDepth 100000 in
set_option maxHeartbeats 2000000 in
theorem validSet24_c (s : Sl) (x : KeySet) (m : Int) (w : World) (hx : SetAt w s x) : Calls Tryz.prog 60 #[.agg (setC s x), .int .i64 m] w fun e w' => e = .returned (.bool (setOk m x)) ∧ Below w.heap.size w w' := by
  have hl : x.keys.length ≤ 4294967000 := hx.1.1
  have hB : Below w.heap.size w (w.alloc (.cells (setC s x) 63)) := (Below.refl _ _).alloc (Nat.le_refl _) _
  go_enter Tryz.func60, Tryz.ntmps60
  go_wp2
  go_loopw [5, 6] (fun t i wr => Below (w.alloc (.cells (setC s x) 63)).heap.size (w.alloc (.cells (setC s x) 63)) wr ∧ ∃ k : Nat, k ≤ x.keys.length ∧ i = .int .i64 k ∧ t = .int .i64 (lastP x.keys k) ∧ Hid ((x.keys.take k).all (keyFits m x.version) = true) ∧ Hid ((List.range k).all (ordAt profLt x.keys) = true)) (fun _ i _ => x.keys.length - (intOf i).toNat)
  case atStart => exact ⟨Below.refl _ _, 0, Nat.zero_le _, rfl, rfl, by simp [Hid], by simp [Hid]⟩
  case round =>
    obtain ⟨hbr, k, hk, rfl, rfl, hall, hord⟩ := hrel
    obtain ⟨hcc, hff, hrr⟩ := bcell hbr
    have hsz : w.heap.size < wr.heap.size := by have := hbr.size; simp at this; omega
    by_cases hlt : k < x.keys.length
    · obtain ⟨b, o, t, ha, hc, hkey⟩ := hx.1.get k hlt
      have hb : b < w.heap.size := row?_lt hc
      have hb1 : b < w.heap.size + 1 := by omega
      have hki : (k : Int) < (x.keys.length : Int) := by omega
      by_cases hA : x.keys[k].profile ≤ lastP x.keys k
      · have HN := Lib.hid (setOk_last (m := m) k hlt hA)
        go_wp2_with (first | (go_at_call 98; refine (keyLen16_c _ _).mono ?_; rintro e w' ⟨rfl, rfl⟩) | (go_at_call 61; refine (in16_c _ _ _ _).mono ?_; rintro e w' ⟨rfl, rfl⟩) | (go_at_call 99; refine (validKey16_c _ _ _).mono ?_; rintro e w2 ⟨rfl, hb2⟩; obtain ⟨hc2, hf2, hr2⟩ := bcell hb2))
        go_ret
        exact ⟨by rw [HN.out]; rfl, hB.trans ((below_new hbr _).mono (by simp))⟩
      · have hA' : lastP x.keys k < x.keys[k].profile := by omega
        have HO := Lib.hid (ord_step k hlt hA' hord.out)
        clear hA
        by_cases hK : keyLen x.keys[k].profile = 0
        · have hK' : (keyLen x.keys[k].profile == 0) = true := by simp [hK]
          have HN := Lib.hid (setOk_fit (m := m) k hlt (by simp [keyFits, hK']))
          clear hK
          go_wp2_with (first | (go_at_call 98; refine (keyLen16_c _ _).mono ?_; rintro e w' ⟨rfl, rfl⟩) | (go_at_call 61; refine (in16_c _ _ _ _).mono ?_; rintro e w' ⟨rfl, rfl⟩) | (go_at_call 99; refine (validKey16_c _ _ _).mono ?_; rintro e w2 ⟨rfl, hb2⟩; obtain ⟨hc2, hf2, hr2⟩ := bcell hb2))
          go_ret
          exact ⟨by rw [HN.out]; rfl, hB.trans ((below_new hbr _).mono (by simp))⟩
        · have hK' : (keyLen x.keys[k].profile == 0) = false := by simp [hK]
          clear hK
          cases hC : (x.keys[k].version != x.version)
          · by_cases hm : m = 0
            · subst hm
              cases hD : keyOk x.keys[k]
              · have HN := Lib.hid (setOk_fit (m := 0) k hlt (by simp [keyFits, hD]))
                go_wp2_with (first | (go_at_call 98; refine (keyLen16_c _ _).mono ?_; rintro e w' ⟨rfl, rfl⟩) | (go_at_call 61; refine (in16_c _ _ _ _).mono ?_; rintro e w' ⟨rfl, rfl⟩) | (go_at_call 99; refine (validKey16_c _ _ _).mono ?_; rintro e w2 ⟨rfl, hb2⟩; obtain ⟨hc2, hf2, hr2⟩ := bcell hb2))
                go_ret
                exact ⟨by rw [HN.out]; rfl, hB.trans ((below_step (below_new hbr _) hb2).mono (by simp))⟩
              · have HN := Lib.hid (lall_step (p := keyFits 0 x.version) x.keys k hlt hall.out (by simp [keyFits, hK', hC, hD]))
                go_wp2_with (first | (go_at_call 98; refine (keyLen16_c _ _).mono ?_; rintro e w' ⟨rfl, rfl⟩) | (go_at_call 61; refine (in16_c _ _ _ _).mono ?_; rintro e w' ⟨rfl, rfl⟩) | (go_at_call 99; refine (validKey16_c _ _ _).mono ?_; rintro e w2 ⟨rfl, hb2⟩; obtain ⟨hc2, hf2, hr2⟩ := bcell hb2))
                go_roundw
                case rel => exact ⟨below_step (below_new hbr _) hb2, k + 1, by omega, by go_num, by rw [lastP_succ _ _ hlt], HN.out, HO.out⟩
                case measure => simp [intOf]; omega
            · have hm1 : (m == 0) = false := by simp [hm]
              have hm2 : (m != 0) = true := by simp [hm]
              clear hm
              cases hD : btw x.keys[k].bytes.length 1 256
              · have HN := Lib.hid (setOk_fit (m := m) k hlt (by simp [keyFits, hD, hm1]))
                go_wp2_with (first | (go_at_call 98; refine (keyLen16_c _ _).mono ?_; rintro e w' ⟨rfl, rfl⟩) | (go_at_call 61; refine (in16_c _ _ _ _).mono ?_; rintro e w' ⟨rfl, rfl⟩) | (go_at_call 99; refine (validKey16_c _ _ _).mono ?_; rintro e w2 ⟨rfl, hb2⟩; obtain ⟨hc2, hf2, hr2⟩ := bcell hb2))
                go_ret
                exact ⟨by rw [HN.out]; rfl, hB.trans ((below_new hbr _).mono (by simp))⟩
              · have HN := Lib.hid (lall_step (p := keyFits m x.version) x.keys k hlt hall.out (by simp [keyFits, hK', hC, hD, hm1]))
                go_wp2_with (first | (go_at_call 98; refine (keyLen16_c _ _).mono ?_; rintro e w' ⟨rfl, rfl⟩) | (go_at_call 61; refine (in16_c _ _ _ _).mono ?_; rintro e w' ⟨rfl, rfl⟩) | (go_at_call 99; refine (validKey16_c _ _ _).mono ?_; rintro e w2 ⟨rfl, hb2⟩; obtain ⟨hc2, hf2, hr2⟩ := bcell hb2))
                go_roundw
                case rel => exact ⟨below_new hbr _, k + 1, by omega, by go_num, by rw [lastP_succ _ _ hlt], HN.out, HO.out⟩
                case measure => simp [intOf]; omega
          · have HN := Lib.hid (setOk_fit (m := m) k hlt (by simp [keyFits, hC]))
            go_wp2_with (first | (go_at_call 98; refine (keyLen16_c _ _).mono ?_; rintro e w' ⟨rfl, rfl⟩) | (go_at_call 61; refine (in16_c _ _ _ _).mono ?_; rintro e w' ⟨rfl, rfl⟩) | (go_at_call 99; refine (validKey16_c _ _ _).mono ?_; rintro e w2 ⟨rfl, hb2⟩; obtain ⟨hc2, hf2, hr2⟩ := bcell hb2))
            go_ret
            exact ⟨by rw [HN.out]; rfl, hB.trans ((below_new hbr _).mono (by simp))⟩
    · have HE := Lib.hid (setOk_end (m := m) k (by omega) hall.out hord.out)
      go_wp2_with (first | (go_at_call 61; refine (in16_c _ _ _ _).mono ?_; rintro e w' ⟨rfl, rfl⟩))
      all_goals go_ret
      all_goals exact ⟨by rw [HE.out]; first | (rw [setEnd_no1 x ‹_›]; rfl) | (rw [setEnd_no2 x ‹_›]; rfl) | (rw [setEnd_no3 x ‹_›]; rfl) | (rw [setEnd_no4 x ‹_›]; rfl) | (rw [setEnd_no5 x ‹_›]; rfl) | (rw [setEnd_no6 x ‹_›]; rfl) | (rw [setEnd_end x ‹_› ‹_› ‹_› ‹_› ‹_›]; rfl) | (rw [setEnd_end' x ‹_› ‹_› ‹_› ‹_› ‹_›]; rfl) | (rw [setEnd_end4 x ‹_› ‹_› ‹_› ‹_›]; rfl), hB.trans (hbr.mono (by simp))⟩
end Go.Proofs.YtnpddjmjdpgohaaGreatDoor

namespace Go.WW
def diffAt (l : List Prin) (i : Nat) : Bool :=
  match l[i]? with
  | none => true
  | some p => prinOk p && (l.take i).all (fun q => !samePrin q p)
def diffAll (l : List Prin) : Bool := (List.range l.length).all (diffAt l)
def different (l : List Prin) : Bool := diffAll l && decide ((l.length : Int) ≤ 16)
theorem diff_no1 {l : List Prin} (i : Nat) (hi : i < l.length) (h : prinOk l[i] = false) : different l = false := by
  have : diffAt l i = false := by simp [diffAt, hi, h]
  rw [different, diffAll, rall_no _ i hi this]; rfl
theorem diff_no2 {l : List Prin} (i k : Nat) (hi : i < l.length) (hk : k < i) (h : samePrin l[k] l[i] = true) : different l = false := by
  have h2 : (l.take i).all (fun q => !samePrin q l[i]) = false := by
    rw [List.all_eq_false]
    exact ⟨l[k], by rw [List.mem_iff_getElem]; exact ⟨k, by simp; omega, by simp⟩, by simp [h]⟩
  have : diffAt l i = false := by simp [diffAt, hi, h2]
  rw [different, diffAll, rall_no _ i hi this]; rfl
theorem diff_step {l : List Prin} (i : Nat) (hi : i < l.length) (h : (List.range i).all (diffAt l) = true) (h1 : prinOk l[i] = true) (h2 : (l.take i).all (fun q => !samePrin q l[i]) = true) : (List.range (i + 1)).all (diffAt l) = true :=
  rall_step i h (by simp [diffAt, hi, h1, h2])
theorem diff_end {l : List Prin} (i : Nat) (hi : i = l.length) (h : (List.range i).all (diffAt l) = true) : different l = decide ((l.length : Int) ≤ 16) := by
  subst hi; rw [different, diffAll, h]; rfl
end Go.WW
namespace Go.Proofs.YtnpddjmjdpgohaaGreatDoor
open Go.RowKit Go.WW

theorem different_nil (a : Option Addr) (cap : Nat) (w : World) : Calls Tryz.prog 59 #[.slice a 0 cap] w fun e w' => e = .returned (.bool (different [])) ∧ Below w.heap.size w w' := by
  go_enter Tryz.func59, Tryz.ntmps59
  go_wp2
  refine wp_loop_rounds 1 ?_
  rw [rounds_succ]
  go_wp2
  go_ret
  exact ⟨rfl, Below.refl _ _⟩

set_option maxHeartbeats 1000000 in
theorem different_c (a : Option Addr) (cap : Nat) (l : List Prin) (w : World) (hl : PrinsAt w a l) : Calls Tryz.prog 59 #[.slice a l.length cap] w fun e w' => e = .returned (.bool (different l)) ∧ Below w.heap.size w w' := by
  have hn : l.length ≤ 4294967000 := hl.1
  rcases RowsAt.addr hl with h0 | ⟨b, o, rfl, hb⟩
  · obtain rfl : l = [] := List.eq_nil_of_length_eq_zero h0
    exact different_nil a cap w
  go_enter Tryz.func59, Tryz.ntmps59
  go_wp2
  go_loopw [3] (fun i wr => Below w.heap.size w wr ∧ ∃ k : Nat, k ≤ l.length ∧ i = .int .i64 k ∧ Hid ((List.range k).all (diffAt l) = true)) (fun i _ => l.length - (intOf i).toNat)
  case atStart => exact ⟨Below.refl _ _, 0, Nat.zero_le _, rfl, by simp [Hid]⟩
  case round =>
    obtain ⟨hbr, i, hi, rfl, hall⟩ := hrel
    by_cases hlt : i < l.length
    · obtain ⟨t, hc, hp⟩ := hl.at i hlt
      have hii : (i : Int) < (l.length : Int) := by omega
      obtain ⟨hcc, hff, hrr⟩ := bcell hbr
      go_wp2_with fail
      refine (validPrincipal_c _ _ _ (hp.later hbr)).mono ?_
      rintro e w1 ⟨rfl, hb1⟩
      replace hb1 := below_step hbr hb1
      clear hcc hff hrr
      cases hv : prinOk l[i]
      · have HN := Lib.hid (diff_no1 i hlt hv)
        go_wp2
        go_ret
        exact ⟨by rw [HN.out]; rfl, hb1⟩
      · have HV := Lib.hid hv; clear hv
        obtain ⟨wo, rfl⟩ : ∃ wo : World, wo = wr := ⟨_, rfl⟩
        go_wp2
        go_loopw [4] (fun j wr => Below w.heap.size w wr ∧ ∃ k : Nat, k ≤ i ∧ j = .int .i64 k ∧ Hid ((l.take k).all (fun q => !samePrin q l[i]) = true)) (fun j _ => i - (intOf j).toNat)
        case atStart => exact ⟨hb1, 0, Nat.zero_le _, rfl, by simp [Hid]⟩
        case round =>
          obtain ⟨hbr2, k, hk, rfl, hall2⟩ := hrel
          by_cases hk2 : k < i
          · have hkl : k < l.length := by omega
            have hkk : (k : Int) < (l.length : Int) := by omega
            obtain ⟨t', hc', hp'⟩ := hl.at k hkl
            cases hs : samePrin l[k] l[i]
            · have HS := Lib.hid (lall_step (p := fun q => !samePrin q l[i]) l k hkl hall2.out (by simp [hs]))
              go_wp2
              refine wp_region_later hbr2 (by kernel_rfl) (by kernel_rfl) ?_
              repeat (go_big_quiet_step ((go_at_call 21; rename_i xw; exact Calls.later_of (hs ▸ samePrincipal_c _ _ _ _ _ (hp'.later xw.b) (hp.later xw.b)))))
              refine wpQuiet_nil ?_
              intro w2 hb2
              go_wp2
              go_roundw
              case rel => exact ⟨hb2, k + 1, by omega, by go_num, HS.out⟩
              case measure => simp [intOf]; omega
            · have HS := Lib.hid (diff_no2 i k hlt hk2 hs)
              go_wp2
              refine wp_region_later hbr2 (by kernel_rfl) (by kernel_rfl) ?_
              repeat (go_big_quiet_step ((go_at_call 21; rename_i xw; exact Calls.later_of (hs ▸ samePrincipal_c _ _ _ _ _ (hp'.later xw.b) (hp.later xw.b)))))
              refine wpQuiet_nil ?_
              intro w2 hb2
              go_wp2
              go_ret
              exact ⟨by rw [HS.out]; rfl, hb2⟩
          · have hall3 := hall2.out
            have e : k = i := by omega
            rw [e] at hall3
            have HS := Lib.hid (diff_step i hlt hall.out HV.out hall3)
            clear hall3 e
            go_wp2
            go_roundw
            case rel => first | exact ⟨hbr2, i + 1, by omega, by go_num, HS.out⟩ | ((repeat apply Exists.intro); exact ⟨⟨hbr2, i + 1, by omega, by go_num, HS.out⟩, rfl⟩)
            case measure => simp [intOf]; omega
    · have HE := Lib.hid (diff_end i (by omega) hall.out)
      go_wp2
      go_ret
      exact ⟨by rw [HE.out]; rfl, hbr⟩
end Go.Proofs.YtnpddjmjdpgohaaGreatDoor
