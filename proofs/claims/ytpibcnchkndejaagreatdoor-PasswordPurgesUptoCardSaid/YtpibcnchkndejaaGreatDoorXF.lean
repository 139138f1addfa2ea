/- entry.every[T] and entry.ordered[T], for whatever function is handed in. Printed by wip/src/genevery.py. -/
import Derived.Test.YtpibcnchkndejaaGreatDoorXE
namespace Go.WW
open Go.RowKit
theorem every_no {α : Type} {q : α → Bool} {l : List α} {most : Int} (h : decide (most < (l.length : Int)) = true) : (decide ((l.length : Int) ≤ most) && l.all q) = false := by
  rw [decide_eq_true_eq] at h
  rw [decide_eq_false (by omega)]; rfl
theorem every_yes {α : Type} {q : α → Bool} {l : List α} {most : Int} (h : decide (most < (l.length : Int)) = false) : (decide ((l.length : Int) ≤ most) && l.all q) = l.all q := by
  rw [decide_eq_false_iff_not] at h
  rw [decide_eq_true (p := (l.length : Int) ≤ most) (by omega)]; rfl
end Go.WW
namespace Go.Proofs.YtpibcnchkndejaaGreatDoor
open Go.RowKit Go.WW
/-- The function has a body that is entered. -/
structure Enters (f : FuncId) : Prop where
  run : ∀ (args : Array Value) (w : World), (callFunc f args).run Tryz.prog w = .ok (.enter f args) w


set_option maxHeartbeats 1000000 in
theorem everyPrin0_nil (a : Option Addr) (cap f : Nat) (most : Int) (w : World) : Calls Tryz.prog 128 #[.slice a 0 cap, .int .i64 most, .func (.func f) #[] #[]] w fun e w' => e = .returned (.bool (decide ((0 : Int) ≤ most))) ∧ Below w.heap.size w w' := by
  go_enter Tryz.func128, Tryz.ntmps128
  cases hm : decide (most < (0 : Int))
  · have HN := Lib.hid (show decide ((0 : Int) ≤ most) = true by simp at hm ⊢; omega)
    go_wp2_with fail
    refine wp_loop_rounds 1 ?_
    rw [rounds_succ]
    go_wp2_with fail
    go_ret
    exact ⟨by rw [HN.out]; rfl, Below.refl _ _⟩
  · have HN := Lib.hid (show decide ((0 : Int) ≤ most) = false by simp at hm ⊢; omega)
    go_wp2_with fail
    go_ret
    exact ⟨by rw [HN.out]; rfl, Below.refl _ _⟩

set_option maxRecDepth 100000 in
set_option maxHeartbeats 1000000 in
theorem everyPrin0_c (a : Option Addr) (cap f : Nat) (most : Int) (l : List Prin) (q : Prin → Bool) (w : World) (hcf : Enters f) (hl : PrinsAt w a l)
    (hf : ∀ (x : Later w) (s : Sl) (p : Prin), p ∈ l → PrinAt x.w s p → Calls Tryz.prog f #[.agg (prinC s p)] x.w fun e w' => e = .returned (.bool (q p)) ∧ Below x.w.heap.size x.w w') :
    Calls Tryz.prog 128 #[.slice a l.length cap, .int .i64 most, .func (.func f) #[] #[]] w fun e w' => e = .returned (.bool (decide ((l.length : Int) ≤ most) && l.all q)) ∧ Below w.heap.size w w' := by
  have hn : l.length ≤ 4294967000 := hl.1
  rcases RowsAt.addr hl with h0 | ⟨b, o, rfl, hb⟩
  · obtain rfl : l = [] := List.eq_nil_of_length_eq_zero h0
    have := everyPrin0_nil a cap f most w
    simpa using this
  have HF := Lib.hid hf
  have hcf' := hcf.run
  clear hf hcf
  go_enter Tryz.func128, Tryz.ntmps128
  cases hm : decide (most < (l.length : Int))
  · have HM := Lib.hid (every_yes (q := q) hm)
    go_wp2_with fail
    go_loopw [15] (fun i wr => Below w.heap.size w wr ∧ ∃ k : Nat, k ≤ l.length ∧ i = .int .i64 k ∧ Hid ((l.take k).all q = true)) (fun i _ => l.length - (intOf i).toNat)
    case atStart => exact ⟨Below.refl _ _, 0, Nat.zero_le _, rfl, by simp [Hid]⟩
    case round =>
      obtain ⟨hbr, k, hk, rfl, hall⟩ := hrel
      by_cases hlt : k < l.length
      · obtain ⟨t, hc, hp⟩ := hl.at k hlt
        obtain ⟨hcc, hff, hrr⟩ := bcell hbr
        go_wp2_with fail
        have hb1 := below_new hbr (.cells (prinC t l[k]) 24)
        have HB := Lib.hid hb1
        clear hb1
        refine (HF.out ⟨_, HB.out⟩ t l[k] (List.getElem_mem hlt) (hp.later HB.out)).mono ?_
        rintro e w1 ⟨rfl, hb2⟩
        have hb3 := below_step HB.out hb2
        clear hcc hff hrr
        cases hv : q l[k]
        · have HN := Lib.hid (lall_no l k hlt hv)
          go_wp2_with fail
          go_ret
          exact ⟨by rw [HM.out, HN.out]; rfl, hb3⟩
        · have HN := Lib.hid (lall_step l k hlt hall.out hv)
          go_wp2_with fail
          go_roundw
          case rel => exact ⟨hb3, k + 1, by omega, by go_num, HN.out⟩
          case measure => simp [intOf]; omega
      · have HN := Lib.hid (lall_end l k (by omega) hall.out)
        go_wp2_with fail
        go_ret
        exact ⟨by rw [HM.out, HN.out]; rfl, hbr⟩
  · have HM := Lib.hid (every_no (q := q) hm)
    go_wp2_with fail
    go_ret
    exact ⟨by rw [HM.out]; rfl, Below.refl _ _⟩


set_option maxHeartbeats 1000000 in
theorem everyPrin1_nil (a : Option Addr) (cap f : Nat) (most : Int) (B0 : Nat) (w : World) : Calls Tryz.prog 128 #[.slice a 0 cap, .int .i64 most, .func (.func f) #[] #[.pointer (some ⟨B0, 0, none⟩)]] w fun e w' => e = .returned (.bool (decide ((0 : Int) ≤ most))) ∧ Below w.heap.size w w' := by
  go_enter Tryz.func128, Tryz.ntmps128
  cases hm : decide (most < (0 : Int))
  · have HN := Lib.hid (show decide ((0 : Int) ≤ most) = true by simp at hm ⊢; omega)
    go_wp2_with fail
    refine wp_loop_rounds 1 ?_
    rw [rounds_succ]
    go_wp2_with fail
    go_ret
    exact ⟨by rw [HN.out]; rfl, Below.refl _ _⟩
  · have HN := Lib.hid (show decide ((0 : Int) ≤ most) = false by simp at hm ⊢; omega)
    go_wp2_with fail
    go_ret
    exact ⟨by rw [HN.out]; rfl, Below.refl _ _⟩

set_option maxRecDepth 100000 in
set_option maxHeartbeats 1000000 in
theorem everyPrin1_c (a : Option Addr) (cap f : Nat) (most : Int) (l : List Prin) (B0 : Nat) (q : Prin → Bool) (w : World) (hcf : Enters f) (hl : PrinsAt w a l)
    (hf : ∀ (x : Later w) (s : Sl) (p : Prin), p ∈ l → PrinAt x.w s p → Calls Tryz.prog f #[.agg (prinC s p), .pointer (some ⟨B0, 0, none⟩)] x.w fun e w' => e = .returned (.bool (q p)) ∧ Below x.w.heap.size x.w w') :
    Calls Tryz.prog 128 #[.slice a l.length cap, .int .i64 most, .func (.func f) #[] #[.pointer (some ⟨B0, 0, none⟩)]] w fun e w' => e = .returned (.bool (decide ((l.length : Int) ≤ most) && l.all q)) ∧ Below w.heap.size w w' := by
  have hn : l.length ≤ 4294967000 := hl.1
  rcases RowsAt.addr hl with h0 | ⟨b, o, rfl, hb⟩
  · obtain rfl : l = [] := List.eq_nil_of_length_eq_zero h0
    have := everyPrin1_nil a cap f most B0 w
    simpa using this
  have HF := Lib.hid hf
  have hcf' := hcf.run
  clear hf hcf
  go_enter Tryz.func128, Tryz.ntmps128
  cases hm : decide (most < (l.length : Int))
  · have HM := Lib.hid (every_yes (q := q) hm)
    go_wp2_with fail
    go_loopw [15] (fun i wr => Below w.heap.size w wr ∧ ∃ k : Nat, k ≤ l.length ∧ i = .int .i64 k ∧ Hid ((l.take k).all q = true)) (fun i _ => l.length - (intOf i).toNat)
    case atStart => exact ⟨Below.refl _ _, 0, Nat.zero_le _, rfl, by simp [Hid]⟩
    case round =>
      obtain ⟨hbr, k, hk, rfl, hall⟩ := hrel
      by_cases hlt : k < l.length
      · obtain ⟨t, hc, hp⟩ := hl.at k hlt
        obtain ⟨hcc, hff, hrr⟩ := bcell hbr
        go_wp2_with fail
        have hb1 := below_new hbr (.cells (prinC t l[k]) 24)
        have HB := Lib.hid hb1
        clear hb1
        refine (HF.out ⟨_, HB.out⟩ t l[k] (List.getElem_mem hlt) (hp.later HB.out)).mono ?_
        rintro e w1 ⟨rfl, hb2⟩
        have hb3 := below_step HB.out hb2
        clear hcc hff hrr
        cases hv : q l[k]
        · have HN := Lib.hid (lall_no l k hlt hv)
          go_wp2_with fail
          go_ret
          exact ⟨by rw [HM.out, HN.out]; rfl, hb3⟩
        · have HN := Lib.hid (lall_step l k hlt hall.out hv)
          go_wp2_with fail
          go_roundw
          case rel => exact ⟨hb3, k + 1, by omega, by go_num, HN.out⟩
          case measure => simp [intOf]; omega
      · have HN := Lib.hid (lall_end l k (by omega) hall.out)
        go_wp2_with fail
        go_ret
        exact ⟨by rw [HM.out, HN.out]; rfl, hbr⟩
  · have HM := Lib.hid (every_no (q := q) hm)
    go_wp2_with fail
    go_ret
    exact ⟨by rw [HM.out]; rfl, Below.refl _ _⟩


set_option maxHeartbeats 1000000 in
theorem everySet1_nil (a : Option Addr) (cap f : Nat) (most : Int) (B0 : Nat) (w : World) : Calls Tryz.prog 130 #[.slice a 0 cap, .int .i64 most, .func (.func f) #[] #[.pointer (some ⟨B0, 0, none⟩)]] w fun e w' => e = .returned (.bool (decide ((0 : Int) ≤ most))) ∧ Below w.heap.size w w' := by
  go_enter Tryz.func130, Tryz.ntmps130
  cases hm : decide (most < (0 : Int))
  · have HN := Lib.hid (show decide ((0 : Int) ≤ most) = true by simp at hm ⊢; omega)
    go_wp2_with fail
    refine wp_loop_rounds 1 ?_
    rw [rounds_succ]
    go_wp2_with fail
    go_ret
    exact ⟨by rw [HN.out]; rfl, Below.refl _ _⟩
  · have HN := Lib.hid (show decide ((0 : Int) ≤ most) = false by simp at hm ⊢; omega)
    go_wp2_with fail
    go_ret
    exact ⟨by rw [HN.out]; rfl, Below.refl _ _⟩

set_option maxRecDepth 100000 in
set_option maxHeartbeats 1000000 in
theorem everySet1_c (a : Option Addr) (cap f : Nat) (most : Int) (l : List KeySet) (B0 : Nat) (q : KeySet → Bool) (w : World) (hcf : Enters f) (hl : SetsAt w a l)
    (hf : ∀ (x : Later w) (s : Sl) (p : KeySet), p ∈ l → SetAt x.w s p → Calls Tryz.prog f #[.agg (setC s p), .pointer (some ⟨B0, 0, none⟩)] x.w fun e w' => e = .returned (.bool (q p)) ∧ Below x.w.heap.size x.w w') :
    Calls Tryz.prog 130 #[.slice a l.length cap, .int .i64 most, .func (.func f) #[] #[.pointer (some ⟨B0, 0, none⟩)]] w fun e w' => e = .returned (.bool (decide ((l.length : Int) ≤ most) && l.all q)) ∧ Below w.heap.size w w' := by
  have hn : l.length ≤ 4294967000 := hl.1
  rcases RowsAt.addr hl with h0 | ⟨b, o, rfl, hb⟩
  · obtain rfl : l = [] := List.eq_nil_of_length_eq_zero h0
    have := everySet1_nil a cap f most B0 w
    simpa using this
  have HF := Lib.hid hf
  have hcf' := hcf.run
  clear hf hcf
  go_enter Tryz.func130, Tryz.ntmps130
  cases hm : decide (most < (l.length : Int))
  · have HM := Lib.hid (every_yes (q := q) hm)
    go_wp2_with fail
    go_loopw [15] (fun i wr => Below w.heap.size w wr ∧ ∃ k : Nat, k ≤ l.length ∧ i = .int .i64 k ∧ Hid ((l.take k).all q = true)) (fun i _ => l.length - (intOf i).toNat)
    case atStart => exact ⟨Below.refl _ _, 0, Nat.zero_le _, rfl, by simp [Hid]⟩
    case round =>
      obtain ⟨hbr, k, hk, rfl, hall⟩ := hrel
      by_cases hlt : k < l.length
      · obtain ⟨t, hc, hp⟩ := hl.at k hlt
        obtain ⟨hcc, hff, hrr⟩ := bcell hbr
        go_wp2_with fail
        have hb1 := below_new hbr (.cells (setC t l[k]) 39)
        have HB := Lib.hid hb1
        clear hb1
        refine (HF.out ⟨_, HB.out⟩ t l[k] (List.getElem_mem hlt) (hp.later HB.out)).mono ?_
        rintro e w1 ⟨rfl, hb2⟩
        have hb3 := below_step HB.out hb2
        clear hcc hff hrr
        cases hv : q l[k]
        · have HN := Lib.hid (lall_no l k hlt hv)
          go_wp2_with fail
          go_ret
          exact ⟨by rw [HM.out, HN.out]; rfl, hb3⟩
        · have HN := Lib.hid (lall_step l k hlt hall.out hv)
          go_wp2_with fail
          go_roundw
          case rel => exact ⟨hb3, k + 1, by omega, by go_num, HN.out⟩
          case measure => simp [intOf]; omega
      · have HN := Lib.hid (lall_end l k (by omega) hall.out)
        go_wp2_with fail
        go_ret
        exact ⟨by rw [HM.out, HN.out]; rfl, hbr⟩
  · have HM := Lib.hid (every_no (q := q) hm)
    go_wp2_with fail
    go_ret
    exact ⟨by rw [HM.out]; rfl, Below.refl _ _⟩


set_option maxHeartbeats 1000000 in
theorem everyKey2_nil (a : Option Addr) (cap f : Nat) (most : Int) (B0 : Nat) (B1 : Nat) (w : World) : Calls Tryz.prog 158 #[.slice a 0 cap, .int .i64 most, .func (.func f) #[] #[.pointer (some ⟨B0, 0, none⟩), .pointer (some ⟨B1, 0, none⟩)]] w fun e w' => e = .returned (.bool (decide ((0 : Int) ≤ most))) ∧ Below w.heap.size w w' := by
  go_enter Tryz.func158, Tryz.ntmps158
  cases hm : decide (most < (0 : Int))
  · have HN := Lib.hid (show decide ((0 : Int) ≤ most) = true by simp at hm ⊢; omega)
    go_wp2_with fail
    refine wp_loop_rounds 1 ?_
    rw [rounds_succ]
    go_wp2_with fail
    go_ret
    exact ⟨by rw [HN.out]; rfl, Below.refl _ _⟩
  · have HN := Lib.hid (show decide ((0 : Int) ≤ most) = false by simp at hm ⊢; omega)
    go_wp2_with fail
    go_ret
    exact ⟨by rw [HN.out]; rfl, Below.refl _ _⟩

set_option maxRecDepth 100000 in
set_option maxHeartbeats 1000000 in
theorem everyKey2_c (a : Option Addr) (cap f : Nat) (most : Int) (l : List Key) (B0 : Nat) (B1 : Nat) (q : Key → Bool) (w : World) (hcf : Enters f) (hl : KeysAt w a l)
    (hf : ∀ (x : Later w) (s : Sl) (p : Key), p ∈ l → KeyAt x.w s p → Calls Tryz.prog f #[.agg (keyC s p), .pointer (some ⟨B0, 0, none⟩), .pointer (some ⟨B1, 0, none⟩)] x.w fun e w' => e = .returned (.bool (q p)) ∧ Below x.w.heap.size x.w w') :
    Calls Tryz.prog 158 #[.slice a l.length cap, .int .i64 most, .func (.func f) #[] #[.pointer (some ⟨B0, 0, none⟩), .pointer (some ⟨B1, 0, none⟩)]] w fun e w' => e = .returned (.bool (decide ((l.length : Int) ≤ most) && l.all q)) ∧ Below w.heap.size w w' := by
  have hn : l.length ≤ 4294967000 := hl.1
  rcases RowsAt.addr hl with h0 | ⟨b, o, rfl, hb⟩
  · obtain rfl : l = [] := List.eq_nil_of_length_eq_zero h0
    have := everyKey2_nil a cap f most B0 B1 w
    simpa using this
  have HF := Lib.hid hf
  have hcf' := hcf.run
  clear hf hcf
  go_enter Tryz.func158, Tryz.ntmps158
  cases hm : decide (most < (l.length : Int))
  · have HM := Lib.hid (every_yes (q := q) hm)
    go_wp2_with fail
    go_loopw [15] (fun i wr => Below w.heap.size w wr ∧ ∃ k : Nat, k ≤ l.length ∧ i = .int .i64 k ∧ Hid ((l.take k).all q = true)) (fun i _ => l.length - (intOf i).toNat)
    case atStart => exact ⟨Below.refl _ _, 0, Nat.zero_le _, rfl, by simp [Hid]⟩
    case round =>
      obtain ⟨hbr, k, hk, rfl, hall⟩ := hrel
      by_cases hlt : k < l.length
      · obtain ⟨t, hc, hp⟩ := hl.at k hlt
        obtain ⟨hcc, hff, hrr⟩ := bcell hbr
        go_wp2_with fail
        have hb1 := below_new hbr (.cells (keyC t l[k]) 69)
        have HB := Lib.hid hb1
        clear hb1
        refine (HF.out ⟨_, HB.out⟩ t l[k] (List.getElem_mem hlt) (hp.later HB.out)).mono ?_
        rintro e w1 ⟨rfl, hb2⟩
        have hb3 := below_step HB.out hb2
        clear hcc hff hrr
        cases hv : q l[k]
        · have HN := Lib.hid (lall_no l k hlt hv)
          go_wp2_with fail
          go_ret
          exact ⟨by rw [HM.out, HN.out]; rfl, hb3⟩
        · have HN := Lib.hid (lall_step l k hlt hall.out hv)
          go_wp2_with fail
          go_roundw
          case rel => exact ⟨hb3, k + 1, by omega, by go_num, HN.out⟩
          case measure => simp [intOf]; omega
      · have HN := Lib.hid (lall_end l k (by omega) hall.out)
        go_wp2_with fail
        go_ret
        exact ⟨by rw [HM.out, HN.out]; rfl, hbr⟩
  · have HM := Lib.hid (every_no (q := q) hm)
    go_wp2_with fail
    go_ret
    exact ⟨by rw [HM.out]; rfl, Below.refl _ _⟩


set_option maxHeartbeats 1000000 in
theorem everyHist_nil (a : Option Addr) (cap f : Nat) (most : Int) (w : World) : Calls Tryz.prog 85 #[.slice a 0 cap, .int .i64 most, .func (.func f) #[] #[]] w fun e w' => e = .returned (.bool (decide ((0 : Int) ≤ most))) ∧ Below w.heap.size w w' := by
  go_enter Tryz.func85, Tryz.ntmps85
  cases hm : decide (most < (0 : Int))
  · have HN := Lib.hid (show decide ((0 : Int) ≤ most) = true by simp at hm ⊢; omega)
    go_wp2_with fail
    refine wp_loop_rounds 1 ?_
    rw [rounds_succ]
    go_wp2_with fail
    go_ret
    exact ⟨by rw [HN.out]; rfl, Below.refl _ _⟩
  · have HN := Lib.hid (show decide ((0 : Int) ≤ most) = false by simp at hm ⊢; omega)
    go_wp2_with fail
    go_ret
    exact ⟨by rw [HN.out]; rfl, Below.refl _ _⟩

set_option maxRecDepth 100000 in
set_option maxHeartbeats 1000000 in
theorem everyHist_c (a : Option Addr) (cap f : Nat) (most : Int) (l : List (List UInt8)) (q : (List UInt8) → Bool) (w : World) (hcf : Enters f) (hl : HistAt w a l)
    (hf : ∀ (x : Later w) (s : Sl) (p : (List UInt8)), p ∈ l → (fun w (s : Sl) p => BytesAt w s.a p) x.w s p → Calls Tryz.prog f #[.slice s.a p.length s.cap] x.w fun e w' => e = .returned (.bool (q p)) ∧ Below x.w.heap.size x.w w') :
    Calls Tryz.prog 85 #[.slice a l.length cap, .int .i64 most, .func (.func f) #[] #[]] w fun e w' => e = .returned (.bool (decide ((l.length : Int) ≤ most) && l.all q)) ∧ Below w.heap.size w w' := by
  have hn : l.length ≤ 4294967000 := hl.1
  rcases CellsAt.addr hl with h0 | ⟨b, o, rfl, hb⟩
  · obtain rfl : l = [] := List.eq_nil_of_length_eq_zero h0
    have := everyHist_nil a cap f most w
    simpa using this
  have HF := Lib.hid hf
  have hcf' := hcf.run
  clear hf hcf
  go_enter Tryz.func85, Tryz.ntmps85
  cases hm : decide (most < (l.length : Int))
  · have HM := Lib.hid (every_yes (q := q) hm)
    go_wp2_with fail
    go_loopw [15] (fun i wr => Below w.heap.size w wr ∧ ∃ k : Nat, k ≤ l.length ∧ i = .int .i64 k ∧ Hid ((l.take k).all q = true)) (fun i _ => l.length - (intOf i).toNat)
    case atStart => exact ⟨Below.refl _ _, 0, Nat.zero_le _, rfl, by simp [Hid]⟩
    case round =>
      obtain ⟨hbr, k, hk, rfl, hall⟩ := hrel
      by_cases hlt : k < l.length
      · obtain ⟨t, hc, hp⟩ := hl.at k hlt
        obtain ⟨hcc, hff, hrr⟩ := bcell hbr
        go_wp2_with fail
        have hb1 := hbr
        have HB := Lib.hid hb1
        clear hb1
        refine (HF.out ⟨_, HB.out⟩ t l[k] (List.getElem_mem hlt) (hp.later HB.out)).mono ?_
        rintro e w1 ⟨rfl, hb2⟩
        have hb3 := below_step HB.out hb2
        clear hcc hff hrr
        cases hv : q l[k]
        · have HN := Lib.hid (lall_no l k hlt hv)
          go_wp2_with fail
          go_ret
          exact ⟨by rw [HM.out, HN.out]; rfl, hb3⟩
        · have HN := Lib.hid (lall_step l k hlt hall.out hv)
          go_wp2_with fail
          go_roundw
          case rel => exact ⟨hb3, k + 1, by omega, by go_num, HN.out⟩
          case measure => simp [intOf]; omega
      · have HN := Lib.hid (lall_end l k (by omega) hall.out)
        go_wp2_with fail
        go_ret
        exact ⟨by rw [HM.out, HN.out]; rfl, hbr⟩
  · have HM := Lib.hid (every_no (q := q) hm)
    go_wp2_with fail
    go_ret
    exact ⟨by rw [HM.out]; rfl, Below.refl _ _⟩

end Go.Proofs.YtpibcnchkndejaaGreatDoor
/- entry.ordered[T], with validSet$2 and validKeys$2. Printed by wip/src/genord.py. -/
namespace Go.WW
theorem ordd_no {α : Type} {r : α → α → Bool} {l : List α} (j : Nat) (h : j + 1 < l.length) (hr : r l[j] l[j + 1] = false) : ordered r l = false := by
  refine rall_no _ (j + 1) h ?_
  simp [ordAt, h, show j < l.length by omega, hr]
theorem ordd_go {α : Type} {r : α → α → Bool} {l : List α} (j : Nat) (h : j + 1 < l.length) (hall : (List.range (j + 1)).all (ordAt r l) = true) (hr : r l[j] l[j + 1] = true) : (List.range (j + 1 + 1)).all (ordAt r l) = true := by
  refine rall_step (j + 1) hall ?_
  simp [ordAt, h, show j < l.length by omega, hr]
theorem ordd_end {α : Type} {r : α → α → Bool} {l : List α} (j : Nat) (h : ¬ j + 1 < l.length) (hall : (List.range (j + 1)).all (ordAt r l) = true) : ordered r l = true := by
  rw [ordered, List.all_eq_true]
  rw [List.all_eq_true] at hall
  intro i hi
  exact hall i (by simp at hi ⊢; omega)
theorem ordd_one {α : Type} (r : α → α → Bool) (l : List α) : (List.range (0 + 1)).all (ordAt r l) = true := by simp [ordAt]
theorem setGt_1 {a b : KeySet} (h : decide (b.version < a.version) = false) : setGt a b = false := by rw [setGt, h]; rfl
theorem setGt_2 {a b : KeySet} (h : decide (b.version < a.version) = true) : setGt a b = decide (b.created ≤ a.created) := by rw [setGt, h]; rfl
end Go.WW
namespace Go.Proofs.YtpibcnchkndejaaGreatDoor
open Go.RowKit Go.WW
theorem profLt_c (s t : Sl) (a b : Key) (w : World) : Calls Tryz.prog 160 #[.agg (keyC s a), .agg (keyC t b)] w fun e w' => e = .returned (.bool (profLt a b)) ∧ Below w.heap.size w w' := by
  go_enter Tryz.func160, Tryz.ntmps160
  go_wp2_with fail
  go_ret
  exact ⟨by rfl, ((Below.refl _ _).alloc (Nat.le_refl _) _).alloc (by simp) _⟩
theorem setGt_c (s t : Sl) (a b : KeySet) (w : World) : Calls Tryz.prog 134 #[.agg (setC s a), .agg (setC t b)] w fun e w' => e = .returned (.bool (setGt a b)) ∧ Below w.heap.size w w' := by
  go_enter Tryz.func134, Tryz.ntmps134
  cases h : decide (b.version < a.version)
  · have HN := Lib.hid (setGt_1 h)
    go_wp2_with fail
    go_ret
    exact ⟨by rw [HN.out]; rfl, ((Below.refl _ _).alloc (Nat.le_refl _) _).alloc (by simp) _⟩
  · have HN := Lib.hid (setGt_2 h)
    go_wp2_with fail
    go_ret
    exact ⟨by rw [HN.out]; rfl, ((Below.refl _ _).alloc (Nat.le_refl _) _).alloc (by simp) _⟩


set_option maxHeartbeats 1000000 in
theorem ordKey_nil (a : Option Addr) (cap : Nat) (w : World) : Calls Tryz.prog 159 #[.slice a 0 cap, .func (.func 160) #[] #[]] w fun e w' => e = .returned (.bool true) ∧ Below w.heap.size w w' := by
  go_enter Tryz.func159, Tryz.ntmps159
  go_wp2_with fail
  refine wp_loop_rounds 1 ?_
  rw [rounds_succ]
  go_wp2_with fail
  go_ret
  exact ⟨rfl, Below.refl _ _⟩
set_option maxRecDepth 100000 in
set_option maxHeartbeats 1000000 in
theorem ordKey_c (a : Option Addr) (cap : Nat) (l : List Key) (w : World) (hl : KeysAt w a l) :
    Calls Tryz.prog 159 #[.slice a l.length cap, .func (.func 160) #[] #[]] w fun e w' => e = .returned (.bool (ordered profLt l)) ∧ Below w.heap.size w w' := by
  have hn : l.length ≤ 4294967000 := hl.1
  rcases RowsAt.addr hl with h0 | ⟨b, o, rfl, hb⟩
  · obtain rfl : l = [] := List.eq_nil_of_length_eq_zero h0
    exact ordKey_nil a cap w
  go_enter Tryz.func159, Tryz.ntmps159
  go_wp2_with fail
  go_loopw [5] (fun i wr => Below w.heap.size w wr ∧ ∃ j : Nat, j ≤ l.length ∧ i = .int .i64 ((j : Int) + 1) ∧ Hid ((List.range (j + 1)).all (ordAt profLt l) = true)) (fun i _ => l.length + 1 - (intOf i).toNat)
  case atStart => exact ⟨Below.refl _ _, 0, Nat.zero_le _, rfl, ordd_one _ _⟩
  case round =>
    obtain ⟨hbr, j, hj, rfl, hall⟩ := hrel
    by_cases hlt : j + 1 < l.length
    · obtain ⟨s, hc, hp⟩ := hl.at j (by omega)
      obtain ⟨t, hc', hp'⟩ := hl.at (j + 1) hlt
      have hlt' : ((j : Int) + 1 < (l.length : Int)) := by omega
      have hjj : (j : Int) + 1 - 1 = (j : Int) := by omega
      have ht1 : ((j : Int) + 1).toNat = j + 1 := by omega
      have h00 : (0 : Int) ≤ (j : Int) + 1 := by omega
      have hw1 : IntKind.i64.wrap ((j : Int) + 1 - 1) = (j : Int) := by rw [hjj]; exact IntWalk.i64_in _ (by omega)
      have hjl : j < l.length := by omega
      cases hv : profLt l[j] l[j + 1]
      · have HN := Lib.hid (ordd_no j hlt hv)
        go_wp2_with fail
        refine wp_region_later hbr (by kernel_rfl) (by kernel_rfl) ?_
        repeat (go_big_quiet_step ((go_at_call 160; exact Calls.later_of (profLt_c _ _ _ _ _))))
        refine wpQuiet_nil ?_
        intro w2 hb2
        rw [hv]
        go_wp2_with fail
        go_ret
        exact ⟨by rw [HN.out]; rfl, hb2⟩
      · have HN := Lib.hid (ordd_go j hlt hall.out hv)
        go_wp2_with fail
        refine wp_region_later hbr (by kernel_rfl) (by kernel_rfl) ?_
        repeat (go_big_quiet_step ((go_at_call 160; exact Calls.later_of (profLt_c _ _ _ _ _))))
        refine wpQuiet_nil ?_
        intro w2 hb2
        rw [hv]
        go_wp2_with fail
        clear hjj ht1 h00 hw1
        go_roundw
        case rel => exact ⟨hb2, j + 1, by omega, by go_num, HN.out⟩
        case measure => simp [intOf]; omega
    · have HN := Lib.hid (ordd_end j hlt hall.out)
      have hlt' : ¬ ((j : Int) + 1 < (l.length : Int)) := by omega
      go_wp2_with fail
      go_ret
      exact ⟨by rw [HN.out]; rfl, hbr⟩


set_option maxHeartbeats 1000000 in
theorem ordSet_nil (a : Option Addr) (cap : Nat) (w : World) : Calls Tryz.prog 133 #[.slice a 0 cap, .func (.func 134) #[] #[]] w fun e w' => e = .returned (.bool true) ∧ Below w.heap.size w w' := by
  go_enter Tryz.func133, Tryz.ntmps133
  go_wp2_with fail
  refine wp_loop_rounds 1 ?_
  rw [rounds_succ]
  go_wp2_with fail
  go_ret
  exact ⟨rfl, Below.refl _ _⟩
set_option maxRecDepth 100000 in
set_option maxHeartbeats 1000000 in
theorem ordSet_c (a : Option Addr) (cap : Nat) (l : List KeySet) (w : World) (hl : SetsAt w a l) :
    Calls Tryz.prog 133 #[.slice a l.length cap, .func (.func 134) #[] #[]] w fun e w' => e = .returned (.bool (ordered setGt l)) ∧ Below w.heap.size w w' := by
  have hn : l.length ≤ 4294967000 := hl.1
  rcases RowsAt.addr hl with h0 | ⟨b, o, rfl, hb⟩
  · obtain rfl : l = [] := List.eq_nil_of_length_eq_zero h0
    exact ordSet_nil a cap w
  go_enter Tryz.func133, Tryz.ntmps133
  go_wp2_with fail
  go_loopw [5] (fun i wr => Below w.heap.size w wr ∧ ∃ j : Nat, j ≤ l.length ∧ i = .int .i64 ((j : Int) + 1) ∧ Hid ((List.range (j + 1)).all (ordAt setGt l) = true)) (fun i _ => l.length + 1 - (intOf i).toNat)
  case atStart => exact ⟨Below.refl _ _, 0, Nat.zero_le _, rfl, ordd_one _ _⟩
  case round =>
    obtain ⟨hbr, j, hj, rfl, hall⟩ := hrel
    by_cases hlt : j + 1 < l.length
    · obtain ⟨s, hc, hp⟩ := hl.at j (by omega)
      obtain ⟨t, hc', hp'⟩ := hl.at (j + 1) hlt
      have hlt' : ((j : Int) + 1 < (l.length : Int)) := by omega
      have hjj : (j : Int) + 1 - 1 = (j : Int) := by omega
      have ht1 : ((j : Int) + 1).toNat = j + 1 := by omega
      have h00 : (0 : Int) ≤ (j : Int) + 1 := by omega
      have hw1 : IntKind.i64.wrap ((j : Int) + 1 - 1) = (j : Int) := by rw [hjj]; exact IntWalk.i64_in _ (by omega)
      have hjl : j < l.length := by omega
      cases hv : setGt l[j] l[j + 1]
      · have HN := Lib.hid (ordd_no j hlt hv)
        go_wp2_with fail
        refine wp_region_later hbr (by kernel_rfl) (by kernel_rfl) ?_
        repeat (go_big_quiet_step ((go_at_call 134; exact Calls.later_of (setGt_c _ _ _ _ _))))
        refine wpQuiet_nil ?_
        intro w2 hb2
        rw [hv]
        go_wp2_with fail
        go_ret
        exact ⟨by rw [HN.out]; rfl, hb2⟩
      · have HN := Lib.hid (ordd_go j hlt hall.out hv)
        go_wp2_with fail
        refine wp_region_later hbr (by kernel_rfl) (by kernel_rfl) ?_
        repeat (go_big_quiet_step ((go_at_call 134; exact Calls.later_of (setGt_c _ _ _ _ _))))
        refine wpQuiet_nil ?_
        intro w2 hb2
        rw [hv]
        go_wp2_with fail
        clear hjj ht1 h00 hw1
        go_roundw
        case rel => exact ⟨hb2, j + 1, by omega, by go_num, HN.out⟩
        case measure => simp [intOf]; omega
    · have HN := Lib.hid (ordd_end j hlt hall.out)
      have hlt' : ¬ ((j : Int) + 1 < (l.length : Int)) := by omega
      go_wp2_with fail
      go_ret
      exact ⟨by rw [HN.out]; rfl, hbr⟩

end Go.Proofs.YtpibcnchkndejaaGreatDoor
