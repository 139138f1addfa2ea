/- strings.splitSeq$1: the parts of a string at the dots. -/
import Derived.Test.YtpibcnchkndejaaGreatDoorXB
import Derived.Test.YtpibcnchkndejaaGreatDoorXC
namespace Go.WW
open Go.RowKit
/-- The parts of a string at the dots. -/
inductive Split : ByteArray → List ByteArray → Prop
  | last (s : ByteArray) (h : Lib.indexByte s.data.toList 46 < 0) : Split s [s]
  | more (s : ByteArray) (k : Nat) (ys : List ByteArray) (h : Lib.indexByte s.data.toList 46 = (k : Int)) (hk : k < s.size) (t : Split (s.extract (k + 1) s.size) ys) : Split s (s.extract 0 k :: ys)
def strIn (w : World) (b : Nat) : Nat := match w.cell? ⟨b, 0, none⟩ with | some (.string s) => s.size | _ => 0
theorem strIn_eq {w : World} {b : Nat} {s : ByteArray} (h : w.cell? ⟨b, 0, none⟩ = some (.string s)) : strIn w b = s.size := by unfold strIn; rw [h]
theorem index_ways (s : ByteArray) : Lib.indexByte s.data.toList 46 = -1 ∨ ∃ k : Nat, Lib.indexByte s.data.toList 46 = (k : Int) ∧ k < s.size := by
  have : ∀ l : List UInt8, Lib.indexByte l 46 = -1 ∨ ∃ k : Nat, Lib.indexByte l 46 = (k : Int) ∧ k < l.length := by
    intro l
    induction l with
    | nil => left; rfl
    | cons b l ih =>
      unfold Lib.indexByte
      by_cases hb : (b == 46) = true
      · right; exact ⟨0, by simp [hb], by simp⟩
      · rcases ih with h | ⟨k, h, hk⟩
        · left; simp [hb, h]
        · right; refine ⟨k + 1, ?_, by simp; omega⟩
          have : ¬ ((k : Int) = -1) := by omega
          simp [hb, h, this]
  simpa using this s.data.toList
theorem split_total (n : Nat) : ∀ s : ByteArray, s.size ≤ n → ∃ ys, Split s ys := by
  induction n with
  | zero =>
    intro s h
    rcases index_ways s with hi | ⟨k, hi, hk⟩
    · exact ⟨_, .last s (by rw [hi]; decide)⟩
    · omega
  | succ n ih =>
    intro s h
    rcases index_ways s with hi | ⟨k, hi, hk⟩
    · exact ⟨_, .last s (by rw [hi]; decide)⟩
    · obtain ⟨ys, hys⟩ := ih (s.extract (k + 1) s.size) (by simp; omega)
      exact ⟨_, .more s k ys hi hk hys⟩
end Go.WW
namespace Go.Proofs.YtpibcnchkndejaaGreatDoor
open Go.RowKit Go.WW
attribute [local go_sem] Oper.semAt_some
set_option maxRecDepth 100000 in
set_option maxHeartbeats 400000 in
theorem splitSeq1_c (n : Nat) (hn : 1 ≤ n) (m B : Nat) (s : ByteArray) (hs : s.size ≤ lim) (w : World) (hB : m + 2 < B)
  (hc0 : w.cell? ⟨m, 0, none⟩ = some (.string s)) (hc1 : w.cell? ⟨m + 1, 0, none⟩ = some (.string ⟨#[46]⟩)) (hc2 : w.cell? ⟨m + 2, 0, none⟩ = some (.int .i64 0)) (hf : w.frozen? ⟨m, 0, none⟩ = false) :
  SeqCell Fence.wide n Tryz.prog 183 #[.pointer (some ⟨m + 1, 0, none⟩), .pointer (some ⟨m, 0, none⟩), .pointer (some ⟨m + 2, 0, none⟩)] (fun x : ByteArray => #[.string x]) m B (fun x => x.size ≤ lim) (Split s) (fun pre => ∃ ys, Split s (pre ++ ys)) w := by
  intro l J Jx W hW hJs hY h0
  have hs' : s.size ≤ 4294967000 := hs
  refine callsIn_of_wp Tryz.func183 rfl trivial ?_ rfl
  simp only [Tryz.ntmps183, List.size_toArray, List.length_cons, List.length_nil, Nat.reduceAdd, Nat.reduceSub, Array.replicate_succ, Array.replicate_zero, List.push_toArray, List.append_toArray, List.nil_append, List.cons_append]
  have hd1 : W.cell? ⟨m + 1, 0, none⟩ = some (.string ⟨#[46]⟩) := (hW.cell (p := ⟨m + 1, 0, none⟩) (by simp; omega)).trans hc1
  gi_wp2
  have hfW : W.frozen? ⟨m, 0, none⟩ = false := (hW.frozen (p := ⟨m, 0, none⟩) (by simp; omega)).trans hf
  gi_loopw [] (fun wr => ∃ (pre : List ByteArray) (r : ByteArray), wr.cell? ⟨m, 0, none⟩ = some (.string r) ∧ wr.frozen? ⟨m, 0, none⟩ = false ∧ wr.cell? ⟨m + 1, 0, none⟩ = some (.string ⟨#[46]⟩) ∧ wr.cell? ⟨m + 2, 0, none⟩ = some (.int .i64 0) ∧ J pre wr ∧ r.size ≤ s.size ∧ ∀ ys, Split r ys → Split s (pre ++ ys)) (fun wr => strIn wr m)
  case atStart => exact ⟨[], s, (hW.cell (p := ⟨m, 0, none⟩) (by simp; omega)).trans hc0, hfW, hd1, (hW.cell (p := ⟨m + 2, 0, none⟩) (by simp; omega)).trans hc2, h0, Nat.le_refl _, fun ys h => h⟩
  case round =>
    obtain ⟨pre, r, h1, hf1, h2, h3, hJ, hrs, hsp⟩ := hrel
    rcases index_ways r with hi | ⟨k, hi, hk⟩
    · obtain ⟨fn, tmps, assign, body, hy, hR⟩ := hY pre r wr (by unfold lim; omega) hJ
      gi_wp2_with (refine ⟨trivial, ?_⟩; gi_at_call 185; refine (callsIn_wide.2 (Tryz.strings_Index_one _ _ _)).mono ?_; rintro e w' ⟨rfl, rfl⟩; rw [hi])
      refine hR.mono ?_
      have hS : Split s (pre ++ [r]) := hsp _ (.last r (by rw [hi]; decide))
      rintro e W3 (⟨rfl, hJ3, hk3⟩ | ⟨rfl, hJx3⟩)
      · gi_wp2
        go_end0
        exact ⟨⟨_, rfl⟩, .inl ⟨_, hS, hJ3⟩⟩
      · gi_wp2
        go_end0
        exact ⟨⟨_, rfl⟩, .inr ⟨_, ⟨[], by simpa using hS⟩, hJx3⟩⟩
    · have hk' : k ≤ r.size := by omega
      have hr' : r.size ≤ 4294967000 := by omega
      obtain ⟨fn, tmps, assign, body, hy, hR⟩ := hY pre (r.extract 0 k) wr (by unfold lim; simp; omega) hJ
      gi_wp2_with (refine ⟨trivial, ?_⟩; gi_at_call 185; refine (callsIn_wide.2 (Tryz.strings_Index_one _ _ _)).mono ?_; rintro e w' ⟨rfl, rfl⟩; rw [hi])
      refine hR.mono ?_
      rintro e W3 (⟨rfl, hJ3, hk3⟩ | ⟨rfl, hJx3⟩)
      · have g1 := (hk3.cell (p := ⟨m, 0, none⟩) (by simp; omega)).trans h1
        have g2 := (hk3.cell (p := ⟨m + 1, 0, none⟩) (by simp; omega)).trans h2
        have g3 := (hk3.cell (p := ⟨m + 2, 0, none⟩) (by simp; omega)).trans h3
        have gf := (hk3.frozen (p := ⟨m, 0, none⟩) (by simp; omega)).trans hf1
        gi_wp2
        go_roundw
        case rel =>
          refine ⟨pre ++ [r.extract 0 k], r.extract (k + 1) r.size, World.cell?_setCell_same' _ _ _ (by rw [g1]; rfl), by rw [World.frozen?_setCell]; exact gf, ?_, ?_, hJs _ _ _ hJ3, ?_, ?_⟩
          · rw [World.cell?_setCell_other _ _ _ _ (by simp)]; exact g2
          · rw [World.cell?_setCell_other _ _ _ _ (by simp)]; exact g3
          · simp; omega
          · intro ys hy; rw [List.append_assoc]; exact hsp _ (.more r k ys hi hk hy)
        case measure =>
          rw [strIn_eq (World.cell?_setCell_same' _ _ _ (by rw [g1]; rfl)), strIn_eq h1]
          simp; omega
      · gi_wp2
        refine bodyPost_ret (results_none rfl _ _ _) rfl ?_
        obtain ⟨ys, hys⟩ := split_total (r.extract (k + 1) r.size).size _ (Nat.le_refl _)
        exact ⟨⟨_, rfl⟩, .inr ⟨_, ⟨ys, by rw [List.append_assoc]; exact hsp _ (.more r k ys hi hk hys)⟩, hJx3⟩⟩
end Go.Proofs.YtpibcnchkndejaaGreatDoor
/- name.Realm: the parts at the dots are labels just where the reference says so. -/
namespace Go.WW
open Go.RowKit
/-- A byte of a label. -/
def labelB (c : UInt8) : Bool := (decide (65 ≤ (c.toNat : Int)) && decide ((c.toNat : Int) ≤ 90)) || (decide (48 ≤ (c.toNat : Int)) && decide ((c.toNat : Int) ≤ 57)) || (c.toNat : Int) == 45
def labelOk (s : ByteArray) : Bool := !s.data.toList.isEmpty && s.data.toList.all labelB
def good : Bool → List UInt8 → Bool
  | p, [] => !p
  | p, c :: l => if dotB c then !p && good true l else labelB c && good false l
theorem dotB_iff (c : UInt8) : dotB c = true ↔ c = 46 := by
  unfold dotB
  constructor
  · intro h; apply UInt8.toNat_inj.1; have : (c.toNat : Int) = 46 := by simpa using h
    simp; omega
  · rintro rfl; rfl
theorem good_plain : ∀ (l : List UInt8) (p : Bool), (∀ c ∈ l, dotB c = false) → good p l = (!(p && l.isEmpty) && l.all labelB) := by
  intro l
  induction l with
  | nil => intro p _; cases p <;> rfl
  | cons c l ih =>
    intro p h
    have h1 : dotB c = false := h c (by simp)
    unfold good
    rw [h1, ih false (fun c hc => h c (by simp [hc]))]
    simp
theorem good_more : ∀ (a b : List UInt8) (p : Bool), (∀ c ∈ a, dotB c = false) → good p (a ++ 46 :: b) = (!(p && a.isEmpty) && a.all labelB && good true b) := by
  intro a b
  induction a with
  | nil => intro p _; cases p <;> simp [good, dotB]
  | cons c l ih =>
    intro p h
    have h1 : dotB c = false := h c (by simp)
    rw [List.cons_append, good, h1, ih false (fun c hc => h c (by simp [hc]))]
    simp [Bool.and_assoc]
theorem index_none : ∀ l : List UInt8, Lib.indexByte l 46 < 0 → ∀ c ∈ l, dotB c = false := by
  intro l
  induction l with
  | nil => intro _ c h; simp at h
  | cons b l ih =>
    intro h c hc
    unfold Lib.indexByte at h
    by_cases hb : (b == 46) = true
    · simp [hb] at h
    · by_cases hm : Lib.indexByte l 46 = -1
      · rcases List.mem_cons.1 hc with rfl | hc
        · cases hd : dotB c
          · rfl
          · exact absurd (by simpa using (dotB_iff c).1 hd) hb
        · exact ih (by omega) c hc
      · have := Lib.indexByte_ge l 46
        simp [hb, hm] at h <;> omega
theorem index_some : ∀ (l : List UInt8) (k : Nat), Lib.indexByte l 46 = (k : Int) → (∀ c ∈ l.take k, dotB c = false) ∧ l = l.take k ++ 46 :: l.drop (k + 1) := by
  intro l
  induction l with
  | nil => intro k h; simp [Lib.indexByte] at h <;> omega
  | cons b l ih =>
    intro k h
    unfold Lib.indexByte at h
    by_cases hb : (b == 46) = true
    · simp [hb] at h
      have : k = 0 := by omega
      subst this
      have : b = 46 := by simpa using hb
      subst this; simp
    · by_cases hm : Lib.indexByte l 46 = -1
      · simp [hb, hm] at h <;> omega
      · have h' : Lib.indexByte l 46 + 1 = (k : Int) := by simpa [hb, hm] using h
        have := Lib.indexByte_ge l 46
        obtain ⟨j, rfl⟩ : ∃ j, k = j + 1 := ⟨k - 1, by omega⟩
        obtain ⟨h1, h2⟩ := ih j (by omega)
        have hbd : dotB b = false := by
          cases hd : dotB b
          · rfl
          · exact absurd (by simpa using (dotB_iff b).1 hd) hb
        refine ⟨?_, ?_⟩
        · intro c hc; simp at hc; rcases hc with rfl | hc
          · exact hbd
          · exact h1 c hc
        · simp only [List.take_succ_cons, List.drop_succ_cons, List.cons_append]; rw [← h2]
theorem split_good {s : ByteArray} {ys : List ByteArray} (h : Split s ys) : ys.all labelOk = good true s.data.toList := by
  induction h with
  | last s h =>
    rw [good_plain _ _ (index_none _ h)]; simp [labelOk]
  | more s k ys h hk t ih =>
    obtain ⟨h1, h2⟩ := index_some _ _ h
    have e1 : (s.extract 0 k).data.toList = s.data.toList.take k := by simp [ByteArray.data_extract]
    have e2 : (s.extract (k + 1) s.size).data.toList = s.data.toList.drop (k + 1) := by
      simp [ByteArray.data_extract]
      exact List.take_of_length_le (by simp)
    rw [e2] at ih
    rw [h2, good_more _ _ _ h1, List.all_cons, ih]
    simp only [labelOk, e1]
    simp
theorem realm_good (s : ByteArray) : ∀ (k i : Nat), i + k = s.size → good (i == 0 || (s.data.toList[i - 1]?).any dotB) (s.data.toList.drop i) = ((List.range' i k).all (realmAt s) && !(k == 0 && (i == 0 || (s.data.toList[i - 1]?).any dotB))) := by
  intro k
  induction k with
  | zero =>
    intro i h
    have : s.data.toList.drop i = [] := List.drop_of_length_le (by have : s.data.toList.length = s.size := by simp
                                                                   omega)
    rw [this]; simp [good]
  | succ k ih =>
    intro i h
    have hl : s.data.toList.length = s.size := by simp
    have hi : i < s.data.toList.length := by omega
    rw [List.drop_eq_getElem_cons hi, List.range'_succ, List.all_cons]
    have ih' := ih (i + 1) (by omega)
    have e0 : (i + 1 == 0 || (s.data.toList[i + 1 - 1]?).any dotB) = dotB (s.data.toList[i]) := by
      rw [Nat.add_sub_cancel, List.getElem?_eq_getElem hi]; simp
    rw [e0] at ih'
    rw [good]
    have er : realmAt s i = (realmB s.data.toList[i] && !(dotB s.data.toList[i] && (i == 0 || i + 1 == s.size || (s.data.toList[i - 1]?).any dotB))) := by
      unfold realmAt; rw [List.getElem?_eq_getElem hi]
    have e3 : (i + 1 == s.size) = (k == 0) := by
      rw [Bool.eq_iff_iff]; simp; omega
    rw [er, e3]
    cases hd : dotB s.data.toList[i]
    · rw [hd] at ih'
      have e4 : labelB s.data.toList[i] = realmB s.data.toList[i] := by
        unfold dotB at hd
        unfold labelB realmB
        rw [hd]
        generalize ((s.data.toList[i]).toNat : Int) = z
        rw [Bool.eq_iff_iff]; simp; omega
      simp only [Bool.false_eq_true, if_false, e4, ih']
      simp
    · rw [hd] at ih'
      have e4 : realmB s.data.toList[i] = true := realmB_yes (.inl (by unfold dotB at hd; simpa using hd))
      simp only [if_true, ih', e4]
      cases k <;> simp [Bool.and_comm]
theorem realmOk_good (s : ByteArray) (hz : sized s = true) : realmOk s = good true s.data.toList := by
  have h1 : 1 ≤ (s.size : Int) := by unfold sized at hz; simp at hz; exact hz.1
  have := realm_good s s.size 0 (by simp)
  simp only [List.drop_zero, BEq.rfl, Bool.true_or] at this
  have hk : (s.size == 0) = false := by simp; intro e; rw [e] at h1; simp at h1
  rw [hk] at this
  rw [this, realmOk, hz, List.range_eq_range']
  simp
theorem realm_split {s : ByteArray} {ys : List ByteArray} (hz : sized s = true) (h : Split s ys) : realmOk s = ys.all labelOk := by
  rw [split_good h, realmOk_good s hz]
theorem realmOk_sized {s : ByteArray} (hz : sized s = false) : realmOk s = false := by rw [realmOk, hz]; simp
end Go.WW
namespace Go.Proofs.YtpibcnchkndejaaGreatDoor
open Go.RowKit Go.WW
theorem splitSeq_c (s t : ByteArray) (k : Int) (w : World) : Calls Tryz.prog 149 #[.string s, .string t, .int .i64 k] w fun e w' => e = .returned (.func (.func 183) #[] #[.pointer (some ⟨w.heap.size + 1, 0, none⟩), .pointer (some ⟨w.heap.size, 0, none⟩), .pointer (some ⟨w.heap.size + 2, 0, none⟩)]) ∧
   w' = ((w.alloc (.cells #[.string s] 9)).alloc (.cells #[.string t] 9)).alloc (.cells #[.int .i64 k] 3) := by
  go_enter Tryz.func149, Tryz.ntmps149
  go_wp2
  go_ret
  exact ⟨rfl, rfl⟩
theorem SplitSeq_c (s t : ByteArray) (w : World) : Calls Tryz.prog 110 #[.string s, .string t] w fun e w' => e = .returned (.func (.func 183) #[] #[.pointer (some ⟨w.heap.size + 1, 0, none⟩), .pointer (some ⟨w.heap.size, 0, none⟩), .pointer (some ⟨w.heap.size + 2, 0, none⟩)]) ∧
   w' = ((w.alloc (.cells #[.string s] 9)).alloc (.cells #[.string t] 9)).alloc (.cells #[.int .i64 0] 3) := by
  go_enter Tryz.func110, Tryz.ntmps110
  go_wp2_with (go_at_call 149; refine (splitSeq_c _ _ _ _).mono ?_; rintro e w' ⟨rfl, rfl⟩)
  go_ret
  exact ⟨rfl, rfl⟩
def RealmI (w : World) (pre : List ByteArray) (W : World) : Prop := (W.cell? ⟨w.heap.size, 0, none⟩ = some (.bool false) ∧ W.frozen? ⟨w.heap.size, 0, none⟩ = false) ∧ Below w.heap.size w W ∧ Hid (pre.all labelOk = true)
def RealmX (w : World) (pre : List ByteArray) (W : World) : Prop := (W.cell? ⟨w.heap.size, 0, none⟩ = some (.bool false)) ∧ Below w.heap.size w W ∧ Hid (pre.all labelOk = false)
attribute [local go_sem] Oper.semAt_some
set_option maxRecDepth 100000 in
set_option maxHeartbeats 400000 in
theorem nameRealm_c (s : ByteArray) (w : World) (hs : s.size ≤ lim) : Calls Tryz.prog 68 #[.string s] w fun e w' => e = .returned (.bool (realmOk s)) ∧ Below w.heap.size w w' := by
  refine (callsIn_wide (n := 5)).1 ?_
  have h1 : 1 ≤ 5 := by omega
  refine callsIn_of_wp_marks Tryz.func68 rfl trivial ?_ rfl
  simp only [Tryz.ntmps68, List.size_toArray, List.length_cons, List.length_nil, Nat.reduceAdd, Nat.reduceSub, Array.replicate_succ, Array.replicate_zero, List.push_toArray, List.append_toArray, List.nil_append, List.cons_append]
  cases hz : sized s
  · have HN := Lib.hid (realmOk_sized hz)
    gi_wp2_with (refine ⟨trivial, ?_⟩; gi_at_call 109; refine (callsIn_wide.2 (sized_c _ _ (le_max hs))).mono ?_; rintro e w' ⟨rfl, rfl⟩; rw [hz])
    refine ⟨.bool false, ?_, by rw [HN.out], (Below.refl _ w).alloc (Nat.le_refl _) _⟩
    simp [results, Tryz.f68, go_sem]
  gi_wp2_with (first
    | (refine ⟨trivial, ?_⟩; gi_at_call 109; refine (callsIn_wide.2 (sized_c _ _ (le_max hs))).mono ?_; rintro e w' ⟨rfl, rfl⟩; rw [hz])
    | (refine ⟨trivial, ?_⟩; gi_at_call 110; refine (callsIn_wide.2 (SplitSeq_c _ _ _)).mono ?_; rintro e w' ⟨rfl, rfl⟩))
  obtain ⟨W0, hW0⟩ : ∃ W0, (((w.alloc (.cells #[.bool false] 4)).alloc (.cells #[.string s] 9)).alloc (.cells #[.string ⟨#[46]⟩] 9)).alloc (.cells #[.int .i64 0] 3) = W0 := ⟨_, rfl⟩
  have hsz : W0.heap.size = w.heap.size + 4 := by rw [← hW0]; simp
  have hB0 : Below w.heap.size w W0 := by rw [← hW0]; exact ((((Below.refl _ w).alloc (Nat.le_refl _) _).alloc (by simp) _).alloc (by simp; omega) _).alloc (by simp; omega) _
  have g0 : W0.cell? ⟨w.heap.size, 0, none⟩ = some (.bool false) := by rw [← hW0]; simp [go_sem]
  have f0 : W0.frozen? ⟨w.heap.size, 0, none⟩ = false := by rw [← hW0]; simp [go_sem]
  have g1 : W0.cell? ⟨w.heap.size + 1, 0, none⟩ = some (.string s) := by rw [← hW0]; simp [go_sem]
  have f1 : W0.frozen? ⟨w.heap.size + 1, 0, none⟩ = false := by rw [← hW0]; simp [go_sem]
  have g2 : W0.cell? ⟨w.heap.size + 1 + 1, 0, none⟩ = some (.string ⟨#[46]⟩) := by rw [← hW0]; simp [go_sem]
  have g3 : W0.cell? ⟨w.heap.size + 1 + 2, 0, none⟩ = some (.int .i64 0) := by rw [← hW0]; simp [go_sem]
  rw [hW0]
  refine wpIn_range_cell (α := ByteArray) rfl h1 (gf := 183) (lb := #[.pointer (some ⟨w.heap.size + 1 + 1, 0, none⟩), .pointer (some ⟨w.heap.size + 1, 0, none⟩), .pointer (some ⟨w.heap.size + 1 + 2, 0, none⟩)]) (by simp [go_sem]) trivial (enters_of Tryz.func183 (by kernel_rfl) rfl)
    (splitSeq1_c 4 (by omega) (w.heap.size + 1) W0.heap.size s hs W0 (by omega) g1 g2 g3 f1) (by omega) (fun _ => rfl)
    (RealmI w)
    (RealmX w)
    ?_ ?_ ?_ ⟨⟨g0, f0⟩, hB0, by simp [Hid]⟩
    (fun x => { tmps := #[.string s, undef, .pointer (some ⟨w.heap.size, 0, none⟩), .string x, undef, undef, .string s, .bool true, .bool false, .string s, .func (.func 183) #[] #[.pointer (some ⟨w.heap.size + 1 + 1, 0, none⟩), .pointer (some ⟨w.heap.size + 1, 0, none⟩), .pointer (some ⟨w.heap.size + 1 + 2, 0, none⟩)], .string x, undef, undef, undef, undef, undef, undef, undef, undef, undef, undef, undef, undef, undef, undef, undef, undef, undef, undef, undef, undef, undef, undef, undef, undef, undef, undef, undef, undef, undef], defers := [] }) ?assign ?body ?done ?stop
  · unfold RealmI
    refine OwnFrom.and (Own.from (fun s A B row hs hg hr => ⟨cell_kept hs.1 hg hr, (frozen_kept hs.1 hg hr).trans hs.2⟩) _) (OwnFrom.and (ownFrom_below (Nat.le_refl _) (by omega)) ?_)
    exact fun s A B row hs hg hr => hs
  · rintro pre W v ⟨⟨hc, hf⟩, hB, hall⟩
    exact ⟨⟨by rw [World.cell?_setCell_other _ _ _ _ (by simp)]; exact hc, by rw [World.frozen?_setCell]; exact hf⟩, hB.setCell (p := ⟨w.heap.size + 1, 0, none⟩) (by simp) _, hall⟩
  · unfold RealmX
    refine OwnFrom.and (Own.from (fun s A B row hs hg hr => cell_kept hs hg hr) _) (OwnFrom.and (ownFrom_below (Nat.le_refl _) (by omega)) ?_)
    exact fun s A B row hs hg hr => hs
  all_goals clear hsz
  case assign =>
    intro l x W K hK
    gi_wp2
    exact hK
  case body =>
    rintro l pre x W hx ⟨⟨hc, hf⟩, hB, hall⟩
    have hx' : x.size ≤ 4294967000 := hx
    have hno : labelOk x = false → cellPost W0.heap.size
      (RealmI w)
      (RealmX w) (pre ++ [x]) W Exit.ret { tmps := #[], defers := [] } (W.setCell ⟨w.heap.size, 0, none⟩ (.bool false)) := fun h =>
      ⟨KeepsOthers.setCell _ _ _, World.cell?_setCell_same' _ _ _ (by rw [hc]; rfl), hB.setCell (p := ⟨w.heap.size, 0, none⟩) (Nat.le_refl _) _, by simp [Hid, h]⟩
    cases he : x.toList.isEmpty
    · gi_wp2
      gi_loop [16] (fun i => ∃ k : Nat, k ≤ x.size ∧ i = .int .i64 k ∧ Hid ((x.data.toList.take k).all labelB = true)) (fun i => x.size - (intOf i).toNat)
      case atStart => exact ⟨0, Nat.zero_le _, rfl, by simp [Hid]⟩
      case round =>
        obtain ⟨k, hk, rfl, hall2⟩ := hrel
        by_cases hlt : k < x.size
        · by_cases h45 : (x[k].toNat : Int) = 45
          · have h45' : ((x[k].toNat : Int) != 45) = false := by simp [h45]
            gi_wp2
            all_goals
              go_round
              case rel => exact ⟨k + 1, by omega, by go_num, all_step x k hlt hall2.out (by simp [labelB, h45])⟩
              case measure => simp [intOf]; omega
          · have h45' : ((x[k].toNat : Int) != 45) = true := by simp [h45]
            gi_wp2
            all_goals first
              | (go_round
                 case rel => exact ⟨k + 1, by omega, by go_num, all_step x k hlt hall2.out (by simp [labelB]; omega)⟩
                 case measure => simp [intOf]; omega)
              | exact hno (by rw [labelOk, all_no x k hlt (by simp [labelB]; omega)]; simp)
        · gi_wp2
          refine ⟨KeepsOthers.refl _, Below.refl _ _, ⟨hc, hf⟩, hB, ?_⟩
          have : labelOk x = true := by rw [labelOk, all_end x k (by omega) hall2.out, ← Lib.toList_data, he]; rfl
          have h2 := hall.out
          simp [Hid, this]; simpa using h2
    · gi_wp2
      exact hno (by rw [labelOk, ← Lib.toList_data, he]; rfl)
  case done =>
    rintro D ys W hD hS ⟨⟨hc, hf⟩, hB, hall⟩ hK
    have hok : realmOk s = true := by rw [realm_split hz hS]; exact hall.out
    have hD' : w.heap.size ≤ D := Nat.le_trans hB0.size hD
    gi_wp2
    have hK' := (KeepsOthers.setCell W ⟨w.heap.size, 0, none⟩ (.bool true)).same D _ hK rfl
    refine ⟨by simp, .inl ⟨_, _, rfl, run_takeDeferred hK', ?_⟩⟩
    have hc5 := cell_kept (World.cell?_setCell_same' W ⟨w.heap.size, 0, none⟩ (.bool true) (by rw [hc]; rfl)) (grownBy_putObj' _ D (.deferred none)) (fun r e => by cases e; exact ⟨_, hK', rfl⟩)
    refine ⟨.bool true, ?_, by rw [hok], (hB.setCell (p := ⟨w.heap.size, 0, none⟩) (Nat.le_refl _) _).trans (belowK_b (w := w) (Nat.le_refl _) _ D _ _ hD' hK' rfl rfl)⟩
    simp [results, Tryz.f68, go_sem, hc5]
  case stop =>
    rintro D pre W hD ⟨ys, hS⟩ ⟨hc, hB, hall⟩ hK
    have hok : realmOk s = false := by rw [realm_split hz hS, List.all_append, hall.out]; rfl
    have hD' : w.heap.size ≤ D := Nat.le_trans hB0.size hD
    gi_wp2
    refine ⟨by simp, .inl ⟨_, _, rfl, run_takeDeferred hK, ?_⟩⟩
    have hc5 := cell_kept hc (grownBy_putObj' _ D (.deferred none)) (fun r e => by cases e; exact ⟨_, hK, rfl⟩)
    refine ⟨.bool false, ?_, by rw [hok], hB.trans (belowK_b (w := w) (Nat.le_refl _) _ D _ _ hD' hK rfl rfl)⟩
    simp [results, Tryz.f68, go_sem, hc5]
end Go.Proofs.YtpibcnchkndejaaGreatDoor
/- name.all and name.Valid. -/
namespace Go.WW
/-- The number of the first false. -/
def idxF (l : List Bool) : Int := if l.all (fun b => b) = true then -1 else (l.findIdx (fun b => !b) : Int)
theorem idxF_no {l : List Bool} (k : Nat) (h : k < l.length) (h1 : (l.take k).all (fun b => b) = true) (h2 : l[k] = false) : idxF l = (k : Int) := by
  have hn : l.all (fun b => b) = false := by rw [List.all_eq_false]; exact ⟨l[k], List.getElem_mem h, by simp [h2]⟩
  rw [idxF, hn]
  have : l.findIdx (fun b => !b) = k := by
    rw [List.findIdx_eq h]
    refine ⟨by simp [h2], fun j hj => ?_⟩
    have := List.all_eq_true.1 h1 (l[j]'(by omega)) (by rw [List.mem_take_iff_getElem]; exact ⟨j, by omega, rfl⟩)
    simpa using this
  simp [this]
theorem idxF_end {l : List Bool} (k : Nat) (h : l.length ≤ k) (h1 : (l.take k).all (fun b => b) = true) : idxF l = -1 := by
  rw [List.take_of_length_le h] at h1; rw [idxF, h1]; rfl
theorem idxF_ge (l : List Bool) : decide (0 ≤ idxF l) = !l.all (fun b => b) := by
  unfold idxF
  cases h : l.all (fun b => b)
  · simp
  · simp
end Go.WW
namespace Go.Proofs.YtpibcnchkndejaaGreatDoor
open Go.RowKit Go.WW
set_option maxHeartbeats 1000000 in
theorem indexBool_c (b o cap : Nat) (l : List Bool) (w : World) (hl : BoolsAt w (some ⟨b, o, none⟩) l) (hn : l.length ≤ lim) : Calls Tryz.prog 161 #[.slice (some ⟨b, o, none⟩) l.length cap, .bool false] w fun e w' => e = .returned (.int .i64 (idxF l)) ∧ w = w' := by
  have hn' : l.length ≤ 4294967000 := hn
  go_enter Tryz.func161, Tryz.ntmps161
  go_wp2
  go_loop [8] (fun i => ∃ k : Nat, k ≤ l.length ∧ i = .int .i64 k ∧ Hid ((l.take k).all (fun b => b) = true)) (fun i => l.length - (intOf i).toNat)
  case atStart => exact ⟨0, Nat.zero_le _, rfl, by simp [Hid]⟩
  case round =>
    obtain ⟨k, hk, rfl, hall⟩ := hrel
    by_cases hlt : k < l.length
    · have hc := hl.at k hlt
      have hb : b < w.heap.size := World.block_lt_of_cell? w _ hc
      cases hv : l[k]
      · rw [hv] at hc
        have HN := Lib.hid (idxF_no k hlt hall.out hv)
        go_wp2
        go_ret
        exact ⟨by rw [HN.out]; rfl, rfl⟩
      · rw [hv] at hc
        have HN := Lib.hid (lall_step l k hlt hall.out hv)
        go_wp2
        go_round
        case rel => exact ⟨k + 1, by omega, by go_num, HN.out⟩
        case measure => simp [intOf]; omega
    · have HN := Lib.hid (idxF_end k (by omega) hall.out)
      go_wp2
      go_ret
      exact ⟨by rw [HN.out]; rfl, rfl⟩
theorem containsBool_c (b o cap : Nat) (l : List Bool) (w : World) (hl : BoolsAt w (some ⟨b, o, none⟩) l) (hn : l.length ≤ lim) : Calls Tryz.prog 138 #[.slice (some ⟨b, o, none⟩) l.length cap, .bool false] w fun e w' => e = .returned (.bool (!l.all (fun b => b))) ∧ w = w' := by
  go_enter Tryz.func138, Tryz.ntmps138
  have HN := Lib.hid (idxF_ge l)
  go_wp2_with (go_at_call 161; refine (indexBool_c _ _ _ _ _ hl hn).mono ?_; rintro e w' ⟨rfl, rfl⟩)
  all_goals go_ret
  all_goals exact ⟨by rw [← HN.out]; rfl, rfl⟩
theorem nameAll_c (b o cap : Nat) (l : List Bool) (w : World) (hl : BoolsAt w (some ⟨b, o, none⟩) l) (hn : l.length ≤ lim) : Calls Tryz.prog 95 #[.slice (some ⟨b, o, none⟩) l.length cap] w fun e w' => e = .returned (.bool (l.all (fun b => b))) ∧ w = w' := by
  go_enter Tryz.func95, Tryz.ntmps95
  cases h : l.all (fun b => b)
  · go_wp2_with (go_at_call 138; refine (containsBool_c _ _ _ _ _ hl hn).mono ?_; rintro e w' ⟨rfl, rfl⟩; rw [h])
    go_ret
    exact ⟨rfl, rfl⟩
  · go_wp2_with (go_at_call 138; refine (containsBool_c _ _ _ _ _ hl hn).mono ?_; rintro e w' ⟨rfl, rfl⟩; rw [h])
    go_ret
    exact ⟨rfl, rfl⟩
end Go.Proofs.YtpibcnchkndejaaGreatDoor
/- name.Valid. -/
namespace Go.WW
open Go.RowKit
theorem bools3 {w : World} {b : Nat} (x y z : Bool) (h : w.cell? ⟨b, 0, none⟩ = some (.bool x)) (h1 : w.cell? ⟨b, 1, none⟩ = some (.bool y)) (h2 : w.cell? ⟨b, 2, none⟩ = some (.bool z)) : BoolsAt w (some ⟨b, 0, none⟩) [x, y, z] := by
  refine ⟨by simp [lim], fun i hi => ?_⟩
  match i, hi with
  | 0, _ => exact ⟨_, _, _, rfl, h, x, rfl, rfl⟩
  | 1, _ => exact ⟨_, _, _, rfl, h1, y, rfl, rfl⟩
  | 2, _ => exact ⟨_, _, _, rfl, h2, z, rfl, rfl⟩
theorem prin_head_no {p : Prin} (h : ([decide (1 ≤ (p.parts.length : Int)), decide ((p.parts.length : Int) ≤ 4), realmOk p.realm].all fun b => b) = false) : prinOk p = false := by
  simp only [List.all_cons, List.all_nil, Bool.and_true] at h
  rw [prinOk, Bool.and_assoc, Bool.and_assoc, h]; simp
theorem prin_head {p : Prin} (h : ([decide (1 ≤ (p.parts.length : Int)), decide ((p.parts.length : Int) ≤ 4), realmOk p.realm].all fun b => b) = true) : p.parts.all isPart = true → prinOk p = true := by
  intro h2
  simp only [List.all_cons, List.all_nil, Bool.and_true] at h
  rw [prinOk, Bool.and_assoc, Bool.and_assoc, h, h2]; rfl
theorem prin_head_one {p : Prin} (h : ([decide (1 ≤ (p.parts.length : Int)), decide ((p.parts.length : Int) ≤ 4), realmOk p.realm].all fun b => b) = true) : 0 < p.parts.length := by
  simp at h; omega
end Go.WW
namespace Go.Proofs.YtpibcnchkndejaaGreatDoor
open Go.RowKit Go.WW
set_option maxRecDepth 100000 in
set_option maxHeartbeats 2000000 in
theorem nameValid_c (s : Sl) (p : Prin) (w : World) (hp : PrinAt w s p) : Calls Tryz.prog 34 #[.agg (prinC s p)] w fun e w' => e = .returned (.bool (prinOk p)) ∧ Below w.heap.size w w' := by
  have hl : p.parts.length ≤ 4294967000 := hp.1.1
  go_enter Tryz.func34, Tryz.ntmps34
  go_wp2_with fail
  refine wp_region_since (Below.refl _ (w.alloc (.cells (prinC s p) 24))) (by kernel_rfl) (by kernel_rfl) ?_
  intro w1 hb1
  obtain ⟨hc, hf, hr⟩ := bcell hb1
  have hsz : w.heap.size < w1.heap.size := by have := hb1.size; simp at this; omega
  repeat (first | (refine text_skip (by rfl) ?_) | (refine text_look (by rfl) (by rfl) (fun K hK => ?_); go_big_quiet_op; refine hK _ ?_; clear hK K))
  refine text_act (by rfl) (by rfl) (fun K hK => ?_)
  go_wp2_with fail
  refine (nameRealm_c _ _ hp.2).mono ?_
  rintro e w2 ⟨rfl, hb2⟩
  have hb3 := below_step hb1 hb2
  go_wp2_with fail
  refine hK _ _ (since_of hb3) ?_
  clear hK K
  clear hc hf hr hsz
  obtain ⟨hc, hf, hr⟩ := bcell hb3
  have hsz : w.heap.size < w2.heap.size := by have := hb3.size; simp at this; omega
  repeat (first | (refine text_skip (by rfl) ?_) | (refine text_look (by rfl) (by rfl) (fun K hK => ?_); go_big_quiet_op; refine hK _ ?_; clear hK K))
  refine text_act (by rfl) (by rfl) (fun K hK => ?_)
  go_wp2_with fail
  have hb4 := below_new hb3 (.cells #[.bool (decide (1 ≤ (p.parts.length : Int))), .bool (decide ((p.parts.length : Int) ≤ 4)), .bool (realmOk p.realm)] 4)
  refine hK _ _ (since_of hb4) ?_
  clear hK K
  repeat (first | (refine text_skip (by rfl) ?_) | (refine text_look (by rfl) (by rfl) (fun K hK => ?_); go_big_quiet_op; refine hK _ ?_; clear hK K))
  refine text_act (by rfl) (by rfl) (fun K hK => ?_)
  go_wp2_with fail
  refine (nameAll_c _ _ _ [decide (1 ≤ (p.parts.length : Int)), decide ((p.parts.length : Int) ≤ 4), realmOk p.realm] _ (bools3 _ _ _ (by simp [go_sem]) (by simp [go_sem]) (by simp [go_sem])) (by simp [lim])).mono ?_
  rintro e w5 ⟨rfl, rfl⟩
  obtain ⟨c, h3⟩ : ∃ c, ([decide (1 ≤ (p.parts.length : Int)), decide ((p.parts.length : Int) ≤ 4), realmOk p.realm].all fun b => b) = c := ⟨_, rfl⟩
  rw [h3]
  go_wp2_with fail
  refine hK _ _ (since_of hb4) ?_
  clear hK K
  repeat (first | (refine text_skip (by rfl) ?_) | (refine text_look (by rfl) (by rfl) (fun K hK => ?_); go_big_quiet_op; refine hK _ ?_; clear hK K))
  refine text_nil ?_
  have hb5 : Below w.heap.size w (w2.alloc (.cells #[.bool (decide (1 ≤ (p.parts.length : Int))), .bool (decide ((p.parts.length : Int) ≤ 4)), .bool (realmOk p.realm)] 4)) := ((Below.refl _ w).alloc (Nat.le_refl _) _).trans (hb4.mono (by simp))
  cases c
  · have HN := Lib.hid (prin_head_no h3)
    go_wp2_with fail
    go_ret
    exact ⟨by rw [HN.out]; rfl, hb5⟩
  simp only [Bool.not_true]
  have HH := Lib.hid (prin_head h3)
  obtain ⟨sa, scap⟩ := s
  obtain ⟨b, o, ha, -, -⟩ := hp.1.get 0 (prin_head_one h3)
  dsimp only at ha
  subst ha
  clear h3 hc hf hr hsz
  obtain ⟨hc, hf, hr⟩ := bcell hb4
  have hsz : w.heap.size < (w2.alloc (.cells #[.bool (decide (1 ≤ (p.parts.length : Int))), .bool (decide ((p.parts.length : Int) ≤ 4)), .bool (realmOk p.realm)] 4)).heap.size := by have := hb4.size; simp at this ⊢; omega
  have hp5 := hp.later hb5
  generalize w2.alloc (.cells #[.bool (decide (1 ≤ (p.parts.length : Int))), .bool (decide ((p.parts.length : Int) ≤ 4)), .bool (realmOk p.realm)] 4) = w6 at *
  clear hb1 hb2 hb3 hb4
  go_wp2_with fail
  go_loop [22] (fun i => ∃ k : Nat, k ≤ p.parts.length ∧ i = .int .i64 k ∧ Hid ((p.parts.take k).all isPart = true)) (fun i => p.parts.length - (intOf i).toNat)
  case atStart => exact ⟨0, Nat.zero_le _, rfl, by simp [Hid]⟩
  case round =>
    obtain ⟨k, hk, rfl, hall⟩ := hrel
    by_cases hlt : k < p.parts.length
    · obtain ⟨hcc, hss⟩ := hp5.1.at k hlt
      have hbb : b < w6.heap.size := World.block_lt_of_cell? w6 _ hcc
      cases hpart : isPart p.parts[k]
      · have HN := Lib.hid (prin_no k hlt hpart)
        go_wp2_with (go_at_call 96; refine (part_c _ _ (le_max hss)).mono ?_; rintro e w' ⟨rfl, rfl⟩; rw [hpart])
        go_ret
        exact ⟨by rw [HN.out]; rfl, hb5⟩
      · have HN := Lib.hid (lall_step p.parts k hlt hall.out hpart)
        go_wp2_with (go_at_call 96; refine (part_c _ _ (le_max hss)).mono ?_; rintro e w' ⟨rfl, rfl⟩; rw [hpart])
        go_round
        case rel => exact ⟨k + 1, by omega, by go_num, HN.out⟩
        case measure => simp [intOf]; omega
    · have HN := Lib.hid (HH.out (lall_end p.parts k (by omega) hall.out))
      go_wp2_with fail
      go_ret
      exact ⟨by rw [HN.out]; rfl, hb5⟩
end Go.Proofs.YtpibcnchkndejaaGreatDoor
/- The arithmetic of lockouts: lockout.sum, reached, passed; the reference's Valid, Count, IsLocked, Until. -/
namespace Go.WW
/-- The failures that count. -/
def countOf (d : Entry) (p : Policy) (now : Int) : Int :=
  if 0 < p.fails ∧ p.fails ≤ d.fails then (if 0 < p.lock ∧ d.lastFail + p.lock ≤ now then 0 else d.fails)
  else if 0 < p.window ∧ d.lastFail + p.window < now then 0 else d.fails
def lockedAt (d : Entry) (p : Policy) (now : Int) : Bool := decide (0 < p.fails) && decide (p.fails ≤ countOf d p now)
def untilOf (d : Entry) (p : Policy) : Int := if p.lock = 0 then 0 else min (d.lastFail + p.lock) 1099511627776
/-- The numbers with which the clock works are small. -/
structure Small (d : Entry) (p : Policy) : Prop where
  l0 : 0 ≤ d.lastFail
  l1 : d.lastFail ≤ 1099511627776
  f0 : 0 ≤ d.fails
  f1 : d.fails ≤ 65535
  w0 : 0 ≤ p.window
  w1 : p.window ≤ 1099511627776
  k0 : 0 ≤ p.lock
  k1 : p.lock ≤ 1099511627776
  m0 : 0 ≤ p.fails
end Go.WW
namespace Go.Proofs.YtpibcnchkndejaaGreatDoor
open Go.RowKit Go.WW
end Go.Proofs.YtpibcnchkndejaaGreatDoor
/- Contract of the reference's ValidSet. -/
namespace Go.WW
/-- The profile of the key before number k, or 0. -/
def lastP (l : List Key) : Nat → Int
  | 0 => 0
  | j + 1 => ((l[j]?).map (·.profile)).getD 0
theorem setEnd_no1 (x : KeySet) (h : ¬ btw x.version 1 65535 = true) : setEnd x = false := by
  have hb : (btw x.version 1 65535) = false := by first | exact h | (simpa using h) | (simp; omega)
  simp only [setEnd, hb, Bool.false_and]
theorem setEnd_no2 (x : KeySet) (h : ¬ btw x.keys.length 1 4 = true) : setEnd x = false := by
  have hb : (btw x.keys.length 1 4) = false := by first | exact h | (simpa using h) | (simp; omega)
  simp only [setEnd, hb, Bool.false_and, Bool.and_false]
theorem setEnd_no3 (x : KeySet) (h : 256 < (x.salt.size : Int)) : setEnd x = false := by
  have hb : (decide ((x.salt.size : Int) ≤ 256)) = false := by first | exact h | (simpa using h) | (simp; omega)
  simp only [setEnd, hb, Bool.false_and, Bool.and_false]
theorem setEnd_no4 (x : KeySet) (h : ¬ btw x.iterations 0 65536 = true) : setEnd x = false := by
  have hb : (btw x.iterations 0 65536) = false := by first | exact h | (simpa using h) | (simp; omega)
  simp only [setEnd, hb, Bool.false_and, Bool.and_false]
theorem setEnd_no5 (x : KeySet) (h : ¬ (0 < x.iterations ∨ x.salt.toList = [])) : setEnd x = false := by
  have hb : (decide (0 < x.iterations) || x.salt.toList.isEmpty) = false := by first | exact h | (simpa using h) | (simp; omega)
  simp only [setEnd, hb, Bool.false_and, Bool.and_false]
theorem setEnd_no6 (x : KeySet) (h : ¬ btw x.created 0 1099511627776 = true) : setEnd x = false := by
  have hb : (btw x.created 0 1099511627776) = false := by first | exact h | (simpa using h) | (simp; omega)
  simp only [setEnd, hb, Bool.and_false]
theorem setEnd_end (x : KeySet) (h1 : btw x.version 1 65535 = true) (h2 : btw x.keys.length 1 4 = true) (h3 : (x.salt.size : Int) ≤ 256) (h4 : btw x.iterations 0 65536 = true) (h5 : 0 < x.iterations ∨ x.salt.toList = []) : setEnd x = (btw x.created 0 1099511627776) := by
  have e1 : (btw x.version 1 65535) = true := by first | exact h1 | (simpa using h1) | (simp; omega)
  have e2 : (btw x.keys.length 1 4) = true := by first | exact h2 | (simpa using h2) | (simp; omega)
  have e3 : (decide ((x.salt.size : Int) ≤ 256)) = true := by first | exact h3 | (simpa using h3) | (simp; omega)
  have e4 : (btw x.iterations 0 65536) = true := by first | exact h4 | (simpa using h4) | (simp; omega)
  have e5 : (decide (0 < x.iterations) || x.salt.toList.isEmpty) = true := by first | exact h5 | (simpa using h5) | (simp; omega)
  simp only [setEnd, e1, e2, e3, e4, e5, Bool.true_and]
theorem setEnd_end' (x : KeySet) (h1 : btw x.version 1 65535 = true) (h2 : btw x.keys.length 1 4 = true) (h3 : (x.salt.size : Int) ≤ 256) (h4 : btw x.iterations 0 65536 = true) (h5 : 0 < x.iterations) : setEnd x = btw x.created 0 1099511627776 := setEnd_end x h1 h2 h3 h4 (.inl h5)
theorem setEnd_end4 (x : KeySet) (h1 : btw x.version 1 65535 = true) (h2 : btw x.keys.length 1 4 = true) (h3 : (x.salt.size : Int) ≤ 256) (h4 : btw x.iterations 0 65536 = true) : setEnd x = ((decide (0 < x.iterations) || x.salt.toList.isEmpty) && btw x.created 0 1099511627776) := by
  have e3 : decide ((x.salt.size : Int) ≤ 256) = true := by simpa using h3
  simp only [setEnd, h1, h2, e3, h4, Bool.true_and]
theorem setOk_end {m : Int} {x : KeySet} (k : Nat) (hk : k = x.keys.length) (h1 : (x.keys.take k).all (keyFits m x.version) = true) (h2 : (List.range k).all (ordAt profLt x.keys) = true) : setOk m x = setEnd x := by
  subst hk; rw [List.take_of_length_le (Nat.le_refl _)] at h1; simp [setOk, ordered, h1, h2]
theorem setOk_fit {m : Int} {x : KeySet} (k : Nat) (hk : k < x.keys.length) (h : keyFits m x.version x.keys[k] = false) : setOk m x = false := by
  rw [setOk, lall_no x.keys k hk h]; rfl
theorem lastP_zero (l : List Key) : lastP l 0 = 0 := rfl
theorem lastP_succ (l : List Key) (j : Nat) (h : j < l.length) : lastP l (j + 1) = l[j].profile := by simp [lastP, h]
theorem keyLen_pos {p : Int} (h : p ≤ 0) : keyLen p = 0 := by
  have h1 : (p == 1) = false := by simp; omega
  have h2 : (p == 2) = false := by simp; omega
  simp [keyLen, h1, h2]
theorem setOk_last {m : Int} {x : KeySet} (k : Nat) (hk : k < x.keys.length) (h : x.keys[k].profile ≤ lastP x.keys k) : setOk m x = false := by
  cases k with
  | zero => exact setOk_fit 0 hk (by rw [keyFits, keyLen_pos (by simpa [lastP_zero] using h)]; rfl)
  | succ j =>
    rw [lastP_succ x.keys j (by omega)] at h
    have : ordAt profLt x.keys (j + 1) = false := by
      have h1 : j < x.keys.length := by omega
      simp [ordAt, hk, h1, profLt]; exact h
    have : ordered profLt x.keys = false := rall_no _ _ hk this
    simp [setOk, this]
theorem ord_step {x : KeySet} (k : Nat) (hk : k < x.keys.length) (h : lastP x.keys k < x.keys[k].profile) (h2 : (List.range k).all (ordAt profLt x.keys) = true) : (List.range (k + 1)).all (ordAt profLt x.keys) = true := by
  refine rall_step k h2 ?_
  cases k with
  | zero => rfl
  | succ j =>
    have h1 : j < x.keys.length := by omega
    rw [lastP_succ x.keys j h1] at h
    simp [ordAt, hk, h1, profLt]; exact h
end Go.WW
namespace Go.Proofs.YtpibcnchkndejaaGreatDoor
open Go.RowKit Go.WW

set_option maxRecDepth 100000 in
set_option maxHeartbeats 2000000 in
theorem validSet24_c (s : Sl) (x : KeySet) (m : Int) (w : World) (hx : SetAt w s x) : Calls Tryz.prog 92 #[.agg (setC s x), .int .i64 m] w fun e w' => e = .returned (.bool (setOk m x)) ∧ Below w.heap.size w w' := by
  have hl : x.keys.length ≤ 4294967000 := hx.1.1
  have hB : Below w.heap.size w (w.alloc (.cells (setC s x) 39)) := (Below.refl _ _).alloc (Nat.le_refl _) _
  go_enter Tryz.func92, Tryz.ntmps92
  go_wp2
  go_loopw [5, 6] (fun t i wr => Below (w.alloc (.cells (setC s x) 39)).heap.size (w.alloc (.cells (setC s x) 39)) wr ∧ ∃ k : Nat, k ≤ x.keys.length ∧ i = .int .i64 k ∧ t = .int .i64 (lastP x.keys k) ∧ Hid ((x.keys.take k).all (keyFits m x.version) = true) ∧ Hid ((List.range k).all (ordAt profLt x.keys) = true)) (fun _ i _ => x.keys.length - (intOf i).toNat)
  case atStart => exact ⟨Below.refl _ _, 0, Nat.zero_le _, rfl, rfl, by simp [Hid], by simp [Hid]⟩
  case round =>
    obtain ⟨hbr, k, hk, rfl, rfl, hall, hord⟩ := hrel
    obtain ⟨hcc, hff, hrr⟩ := bcell hbr
    have hsz : w.heap.size < wr.heap.size := by have := hbr.size; simp at this; omega
    by_cases hlt : k < x.keys.length
    · obtain ⟨b, o, t, ha, hc, hkey⟩ := hx.1.get k hlt
      have hb : b < w.heap.size := row?_lt hc
      have hb1 : b < w.heap.size + 1 := by omega
      have hki : (k : Int) < (x.keys.length : Int) := by omega
      by_cases hA : x.keys[k].profile ≤ lastP x.keys k
      · have HN := Lib.hid (setOk_last (m := m) k hlt hA)
        go_wp2_with (first | (go_at_call 136; refine (keyLen16_c _ _).mono ?_; rintro e w' ⟨rfl, rfl⟩) | (go_at_call 31; refine (in16_c _ _ _ _).mono ?_; rintro e w' ⟨rfl, rfl⟩) | (go_at_call 137; refine (validKey16_c _ _ _).mono ?_; rintro e w2 ⟨rfl, hb2⟩; obtain ⟨hc2, hf2, hr2⟩ := bcell hb2))
        go_ret
        exact ⟨by rw [HN.out]; rfl, hB.trans ((below_new hbr _).mono (by simp))⟩
      · have hA' : lastP x.keys k < x.keys[k].profile := by omega
        have HO := Lib.hid (ord_step k hlt hA' hord.out)
        clear hA
        by_cases hK : keyLen x.keys[k].profile = 0
        · have hK' : (keyLen x.keys[k].profile == 0) = true := by simp [hK]
          have HN := Lib.hid (setOk_fit (m := m) k hlt (by simp [keyFits, hK']))
          clear hK
          go_wp2_with (first | (go_at_call 136; refine (keyLen16_c _ _).mono ?_; rintro e w' ⟨rfl, rfl⟩) | (go_at_call 31; refine (in16_c _ _ _ _).mono ?_; rintro e w' ⟨rfl, rfl⟩) | (go_at_call 137; refine (validKey16_c _ _ _).mono ?_; rintro e w2 ⟨rfl, hb2⟩; obtain ⟨hc2, hf2, hr2⟩ := bcell hb2))
          go_ret
          exact ⟨by rw [HN.out]; rfl, hB.trans ((below_new hbr _).mono (by simp))⟩
        · have hK' : (keyLen x.keys[k].profile == 0) = false := by simp [hK]
          clear hK
          cases hC : (x.keys[k].version != x.version)
          · by_cases hm : m = 0
            · subst hm
              cases hD : keyOk x.keys[k]
              · have HN := Lib.hid (setOk_fit (m := 0) k hlt (by simp [keyFits, hD]))
                go_wp2_with (first | (go_at_call 136; refine (keyLen16_c _ _).mono ?_; rintro e w' ⟨rfl, rfl⟩) | (go_at_call 31; refine (in16_c _ _ _ _).mono ?_; rintro e w' ⟨rfl, rfl⟩) | (go_at_call 137; refine (validKey16_c _ _ _).mono ?_; rintro e w2 ⟨rfl, hb2⟩; obtain ⟨hc2, hf2, hr2⟩ := bcell hb2))
                go_ret
                exact ⟨by rw [HN.out]; rfl, hB.trans ((below_step (below_new hbr _) hb2).mono (by simp))⟩
              · have HN := Lib.hid (lall_step (p := keyFits 0 x.version) x.keys k hlt hall.out (by simp [keyFits, hK', hC, hD]))
                go_wp2_with (first | (go_at_call 136; refine (keyLen16_c _ _).mono ?_; rintro e w' ⟨rfl, rfl⟩) | (go_at_call 31; refine (in16_c _ _ _ _).mono ?_; rintro e w' ⟨rfl, rfl⟩) | (go_at_call 137; refine (validKey16_c _ _ _).mono ?_; rintro e w2 ⟨rfl, hb2⟩; obtain ⟨hc2, hf2, hr2⟩ := bcell hb2))
                go_roundw
                case rel => exact ⟨below_step (below_new hbr _) hb2, k + 1, by omega, by go_num, by rw [lastP_succ _ _ hlt], HN.out, HO.out⟩
                case measure => simp [intOf]; omega
            · have hm1 : (m == 0) = false := by simp [hm]
              have hm2 : (m != 0) = true := by simp [hm]
              clear hm
              cases hD : btw x.keys[k].bytes.length 1 256
              · have HN := Lib.hid (setOk_fit (m := m) k hlt (by simp [keyFits, hD, hm1]))
                go_wp2_with (first | (go_at_call 136; refine (keyLen16_c _ _).mono ?_; rintro e w' ⟨rfl, rfl⟩) | (go_at_call 31; refine (in16_c _ _ _ _).mono ?_; rintro e w' ⟨rfl, rfl⟩) | (go_at_call 137; refine (validKey16_c _ _ _).mono ?_; rintro e w2 ⟨rfl, hb2⟩; obtain ⟨hc2, hf2, hr2⟩ := bcell hb2))
                go_ret
                exact ⟨by rw [HN.out]; rfl, hB.trans ((below_new hbr _).mono (by simp))⟩
              · have HN := Lib.hid (lall_step (p := keyFits m x.version) x.keys k hlt hall.out (by simp [keyFits, hK', hC, hD, hm1]))
                go_wp2_with (first | (go_at_call 136; refine (keyLen16_c _ _).mono ?_; rintro e w' ⟨rfl, rfl⟩) | (go_at_call 31; refine (in16_c _ _ _ _).mono ?_; rintro e w' ⟨rfl, rfl⟩) | (go_at_call 137; refine (validKey16_c _ _ _).mono ?_; rintro e w2 ⟨rfl, hb2⟩; obtain ⟨hc2, hf2, hr2⟩ := bcell hb2))
                go_roundw
                case rel => exact ⟨below_new hbr _, k + 1, by omega, by go_num, by rw [lastP_succ _ _ hlt], HN.out, HO.out⟩
                case measure => simp [intOf]; omega
          · have HN := Lib.hid (setOk_fit (m := m) k hlt (by simp [keyFits, hC]))
            go_wp2_with (first | (go_at_call 136; refine (keyLen16_c _ _).mono ?_; rintro e w' ⟨rfl, rfl⟩) | (go_at_call 31; refine (in16_c _ _ _ _).mono ?_; rintro e w' ⟨rfl, rfl⟩) | (go_at_call 137; refine (validKey16_c _ _ _).mono ?_; rintro e w2 ⟨rfl, hb2⟩; obtain ⟨hc2, hf2, hr2⟩ := bcell hb2))
            go_ret
            exact ⟨by rw [HN.out]; rfl, hB.trans ((below_new hbr _).mono (by simp))⟩
    · have HE := Lib.hid (setOk_end (m := m) k (by omega) hall.out hord.out)
      go_wp2_with (first | (go_at_call 31; refine (in16_c _ _ _ _).mono ?_; rintro e w' ⟨rfl, rfl⟩))
      all_goals go_ret
      all_goals exact ⟨by rw [HE.out]; first | (rw [setEnd_no1 x ‹_›]; rfl) | (rw [setEnd_no2 x ‹_›]; rfl) | (rw [setEnd_no3 x ‹_›]; rfl) | (rw [setEnd_no4 x ‹_›]; rfl) | (rw [setEnd_no5 x ‹_›]; rfl) | (rw [setEnd_no6 x ‹_›]; rfl) | (rw [setEnd_end x ‹_› ‹_› ‹_› ‹_› ‹_›]; rfl) | (rw [setEnd_end' x ‹_› ‹_› ‹_› ‹_› ‹_›]; rfl) | (rw [setEnd_end4 x ‹_› ‹_› ‹_› ‹_›]; rfl), hB.trans (hbr.mono (by simp))⟩
end Go.Proofs.YtpibcnchkndejaaGreatDoor
