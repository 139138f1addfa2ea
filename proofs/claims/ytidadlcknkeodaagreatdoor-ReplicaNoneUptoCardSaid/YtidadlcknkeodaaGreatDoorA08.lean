/- A part of the proof. -/
import Derived.Test.YtidadlcknkeodaaGreatDoorA07
import Derived.Carry
import Derived.WideMake
import Derived.RangeFuncOwn
import Derived.OwnWalk
import Derived.Test.YtidadlcknkeodaaGreatDoorA04
import Derived.Test.YtidadlcknkeodaaGreatDoorProg
import Derived.Test.YtidadlcknkeodaaGreatDoorA05
import Derived.Test.YtidadlcknkeodaaGreatDoorA06
import Derived.Lib.Strings
import Derived.Lib.Slices
import Derived.Lib.Walk
import Derived.Deep.RegionWith
import Derived.BigRegion
set_option maxRecDepth 1000000
set_option maxHeartbeats 4000000
/- name.Realm: the parts at the dots are labels just where the reference says so. -/
namespace Go.WW
open Go.RowKit
def labelB (c : UInt8) : Bool := (decide (65 ≤ (c.toNat : Int)) && decide ((c.toNat : Int) ≤ 90)) || (decide (48 ≤ (c.toNat : Int)) && decide ((c.toNat : Int) ≤ 57)) || (c.toNat : Int) == 45
def labelOk (s : ByteArray) : Bool := !s.data.toList.isEmpty && s.data.toList.all labelB
def good : Bool → List UInt8 → Bool
  | p, [] => !p
  | p, c :: l => if dotB c then !p && good true l else labelB c && good false l
theorem dotB_iff (c : UInt8) : dotB c = true ↔ c = 46 := by
  unfold dotB
  constructor
  · intro h; apply UInt8.toNat_inj.1; have : (c.toNat : Int) = 46 := by simpa using h
    simp; omega
  · rintro rfl; rfl
theorem good_plain : ∀ (l : List UInt8) (p : Bool), (∀ c ∈ l, dotB c = false) → good p l = (!(p && l.isEmpty) && l.all labelB) := by
  intro l
  induction l with
  | nil => intro p _; cases p <;> rfl
  | cons c l ih =>
    intro p h
    have h1 : dotB c = false := h c (by simp)
    unfold good
    rw [h1, ih false (fun c hc => h c (by simp [hc]))]
    simp
theorem good_more : ∀ (a b : List UInt8) (p : Bool), (∀ c ∈ a, dotB c = false) → good p (a ++ 46 :: b) = (!(p && a.isEmpty) && a.all labelB && good true b) := by
  intro a b
  induction a with
  | nil => intro p _; cases p <;> simp [good, dotB]
  | cons c l ih =>
    intro p h
    have h1 : dotB c = false := h c (by simp)
    rw [List.cons_append, good, h1, ih false (fun c hc => h c (by simp [hc]))]
    simp [Bool.and_assoc]
theorem index_none : ∀ l : List UInt8, Lib.indexByte l 46 < 0 → ∀ c ∈ l, dotB c = false := by
  intro l
  induction l with
  | nil => intro _ c h; simp at h
  | cons b l ih =>
    intro h c hc
    unfold Lib.indexByte at h
    by_cases hb : (b == 46) = true
    · simp [hb] at h
    · by_cases hm : Lib.indexByte l 46 = -1
      · rcases List.mem_cons.1 hc with rfl | hc
        · cases hd : dotB c
          · rfl
          · exact absurd (by simpa using (dotB_iff c).1 hd) hb
        · exact ih (by omega) c hc
      · have := Lib.indexByte_ge l 46
        simp [hb, hm] at h <;> omega
theorem index_some : ∀ (l : List UInt8) (k : Nat), Lib.indexByte l 46 = (k : Int) → (∀ c ∈ l.take k, dotB c = false) ∧ l = l.take k ++ 46 :: l.drop (k + 1) := by
  intro l
  induction l with
  | nil => intro k h; simp [Lib.indexByte] at h <;> omega
  | cons b l ih =>
    intro k h
    unfold Lib.indexByte at h
    by_cases hb : (b == 46) = true
    · simp [hb] at h
      have : k = 0 := by omega
      subst this
      have : b = 46 := by simpa using hb
      subst this; simp
    · by_cases hm : Lib.indexByte l 46 = -1
      · simp [hb, hm] at h <;> omega
      · have h' : Lib.indexByte l 46 + 1 = (k : Int) := by simpa [hb, hm] using h
        have := Lib.indexByte_ge l 46
        obtain ⟨j, rfl⟩ : ∃ j, k = j + 1 := ⟨k - 1, by omega⟩
        obtain ⟨h1, h2⟩ := ih j (by omega)
        have hbd : dotB b = false := by
          cases hd : dotB b
          · rfl
          · exact absurd (by simpa using (dotB_iff b).1 hd) hb
        refine ⟨?_, ?_⟩
        · intro c hc; simp at hc; rcases hc with rfl | hc
          · exact hbd
          · exact h1 c hc
        · simp only [List.take_succ_cons, List.drop_succ_cons, List.cons_append]; rw [← h2]
theorem split_good {s : ByteArray} {ys : List ByteArray} (h : Split s ys) : ys.all labelOk = good true s.data.toList := by
  induction h with
  | last s h =>
    rw [good_plain _ _ (index_none _ h)]; simp [labelOk]
  | more s k ys h hk t ih =>
    obtain ⟨h1, h2⟩ := index_some _ _ h
    have e1 : (s.extract 0 k).data.toList = s.data.toList.take k := by simp [ByteArray.data_extract]
    have e2 : (s.extract (k + 1) s.size).data.toList = s.data.toList.drop (k + 1) := by
      simp [ByteArray.data_extract]
      exact List.take_of_length_le (by simp)
    rw [e2] at ih
    rw [h2, good_more _ _ _ h1, List.all_cons, ih]
    simp only [labelOk, e1]
    simp
theorem realm_good (s : ByteArray) : ∀ (k i : Nat), i + k = s.size → good (i == 0 || (s.data.toList[i - 1]?).any dotB) (s.data.toList.drop i) = ((List.range' i k).all (realmAt s) && !(k == 0 && (i == 0 || (s.data.toList[i - 1]?).any dotB))) := by
  intro k
  induction k with
  | zero =>
    intro i h
    have : s.data.toList.drop i = [] := List.drop_of_length_le (by have : s.data.toList.length = s.size := by simp
                                                                   omega)
    rw [this]; simp [good]
  | succ k ih =>
    intro i h
    have hl : s.data.toList.length = s.size := by simp
    have hi : i < s.data.toList.length := by omega
    rw [List.drop_eq_getElem_cons hi, List.range'_succ, List.all_cons]
    have ih' := ih (i + 1) (by omega)
    have e0 : (i + 1 == 0 || (s.data.toList[i + 1 - 1]?).any dotB) = dotB (s.data.toList[i]) := by
      rw [Nat.add_sub_cancel, List.getElem?_eq_getElem hi]; simp
    rw [e0] at ih'
    rw [good]
    have er : realmAt s i = (realmB s.data.toList[i] && !(dotB s.data.toList[i] && (i == 0 || i + 1 == s.size || (s.data.toList[i - 1]?).any dotB))) := by
      unfold realmAt; rw [List.getElem?_eq_getElem hi]
    have e3 : (i + 1 == s.size) = (k == 0) := by
      rw [Bool.eq_iff_iff]; simp; omega
    rw [er, e3]
    cases hd : dotB s.data.toList[i]
    · rw [hd] at ih'
      have e4 : labelB s.data.toList[i] = realmB s.data.toList[i] := by
        unfold dotB at hd
        unfold labelB realmB
        rw [hd]
        generalize ((s.data.toList[i]).toNat : Int) = z
        rw [Bool.eq_iff_iff]; simp; omega
      simp only [Bool.false_eq_true, if_false, e4, ih']
      simp
    · rw [hd] at ih'
      have e4 : realmB s.data.toList[i] = true := realmB_yes (.inl (by unfold dotB at hd; simpa using hd))
      simp only [if_true, ih', e4]
      cases k <;> simp [Bool.and_comm]
theorem realmOk_good (s : ByteArray) (hz : sized s = true) : realmOk s = good true s.data.toList := by
  have h1 : 1 ≤ (s.size : Int) := by unfold sized at hz; simp at hz; exact hz.1
  have := realm_good s s.size 0 (by simp)
  simp only [List.drop_zero, BEq.rfl, Bool.true_or] at this
  have hk : (s.size == 0) = false := by simp; intro e; rw [e] at h1; simp at h1
  rw [hk] at this
  rw [this, realmOk, hz, List.range_eq_range']
  simp
theorem realm_split {s : ByteArray} {ys : List ByteArray} (hz : sized s = true) (h : Split s ys) : realmOk s = ys.all labelOk := by
  rw [split_good h, realmOk_good s hz]
theorem realmOk_sized {s : ByteArray} (hz : sized s = false) : realmOk s = false := by rw [realmOk, hz]; simp
end Go.WW
namespace Go.Proofs.YtidadlcknkeodaaGreatDoor
open Go.RowKit Go.WW
theorem splitSeq_c (s t : ByteArray) (k : Int) (w : World) : Calls Tryz.prog 112 #[.string s, .string t, .int .i64 k] w fun e w' => e = .returned (.func (.func 178) #[] #[.pointer (some ⟨w.heap.size + 1, 0, none⟩), .pointer (some ⟨w.heap.size, 0, none⟩), .pointer (some ⟨w.heap.size + 2, 0, none⟩)]) ∧
   w' = ((w.alloc (.cells #[.string s] 9)).alloc (.cells #[.string t] 9)).alloc (.cells #[.int .i64 k] 3) := by
  go_enter Tryz.func112, Tryz.ntmps112
  go_wp2
  go_ret
  exact ⟨rfl, rfl⟩
theorem SplitSeq_c (s t : ByteArray) (w : World) : Calls Tryz.prog 65 #[.string s, .string t] w fun e w' => e = .returned (.func (.func 178) #[] #[.pointer (some ⟨w.heap.size + 1, 0, none⟩), .pointer (some ⟨w.heap.size, 0, none⟩), .pointer (some ⟨w.heap.size + 2, 0, none⟩)]) ∧
   w' = ((w.alloc (.cells #[.string s] 9)).alloc (.cells #[.string t] 9)).alloc (.cells #[.int .i64 0] 3) := by
  go_enter Tryz.func65, Tryz.ntmps65
  go_wp2_with (go_at_call 112; refine (splitSeq_c _ _ _ _).mono ?_; rintro e w' ⟨rfl, rfl⟩)
  go_ret
  exact ⟨rfl, rfl⟩
def RealmI (w : World) (pre : List ByteArray) (W : World) : Prop := (W.cell? ⟨w.heap.size, 0, none⟩ = some (.bool false) ∧ W.frozen? ⟨w.heap.size, 0, none⟩ = false) ∧ Below w.heap.size w W ∧ Hid (pre.all labelOk = true)
def RealmX (w : World) (pre : List ByteArray) (W : World) : Prop := (W.cell? ⟨w.heap.size, 0, none⟩ = some (.bool false)) ∧ Below w.heap.size w W ∧ Hid (pre.all labelOk = false)
attribute [local go_sem] Oper.semAt_some
theorem nameRealm_c (s : ByteArray) (w : World) (hs : s.size ≤ lim) : Calls Tryz.prog 29 #[.string s] w fun e w' => e = .returned (.bool (realmOk s)) ∧ Below w.heap.size w w' := by
  refine (callsIn_wide (n := 5)).1 ?_
  have h1 : 1 ≤ 5 := by omega
  refine callsIn_of_wp_marks Tryz.func29 rfl trivial ?_ rfl
  simp only [Tryz.ntmps29, List.size_toArray, List.length_cons, List.length_nil, Nat.reduceAdd, Nat.reduceSub, Array.replicate_succ, Array.replicate_zero, List.push_toArray, List.append_toArray, List.nil_append, List.cons_append]
  cases hz : sized s
  · have HN := Lib.hid (realmOk_sized hz)
    gi_wp2_with (refine ⟨trivial, ?_⟩; gi_at_call 64; refine (callsIn_wide.2 (sized_c _ _ (le_max hs))).mono ?_; rintro e w' ⟨rfl, rfl⟩; rw [hz])
    refine ⟨.bool false, ?_, by rw [HN.out], (Below.refl _ w).alloc (Nat.le_refl _) _⟩
    simp [results, Tryz.f29, go_sem]
  gi_wp2_with (first
    | (refine ⟨trivial, ?_⟩; gi_at_call 64; refine (callsIn_wide.2 (sized_c _ _ (le_max hs))).mono ?_; rintro e w' ⟨rfl, rfl⟩; rw [hz])
    | (refine ⟨trivial, ?_⟩; gi_at_call 65; refine (callsIn_wide.2 (SplitSeq_c _ _ _)).mono ?_; rintro e w' ⟨rfl, rfl⟩))
  obtain ⟨W0, hW0⟩ : ∃ W0, (((w.alloc (.cells #[.bool false] 4)).alloc (.cells #[.string s] 9)).alloc (.cells #[.string ⟨#[46]⟩] 9)).alloc (.cells #[.int .i64 0] 3) = W0 := ⟨_, rfl⟩
  have hsz : W0.heap.size = w.heap.size + 4 := by rw [← hW0]; simp
  have hB0 : Below w.heap.size w W0 := by rw [← hW0]; exact ((((Below.refl _ w).alloc (Nat.le_refl _) _).alloc (by simp) _).alloc (by simp; omega) _).alloc (by simp; omega) _
  have g0 : W0.cell? ⟨w.heap.size, 0, none⟩ = some (.bool false) := by rw [← hW0]; simp [go_sem]
  have f0 : W0.frozen? ⟨w.heap.size, 0, none⟩ = false := by rw [← hW0]; simp [go_sem]
  have g1 : W0.cell? ⟨w.heap.size + 1, 0, none⟩ = some (.string s) := by rw [← hW0]; simp [go_sem]
  have f1 : W0.frozen? ⟨w.heap.size + 1, 0, none⟩ = false := by rw [← hW0]; simp [go_sem]
  have g2 : W0.cell? ⟨w.heap.size + 1 + 1, 0, none⟩ = some (.string ⟨#[46]⟩) := by rw [← hW0]; simp [go_sem]
  have g3 : W0.cell? ⟨w.heap.size + 1 + 2, 0, none⟩ = some (.int .i64 0) := by rw [← hW0]; simp [go_sem]
  rw [hW0]
  refine wpIn_range_cell (α := ByteArray) rfl h1 (gf := 178) (lb := #[.pointer (some ⟨w.heap.size + 1 + 1, 0, none⟩), .pointer (some ⟨w.heap.size + 1, 0, none⟩), .pointer (some ⟨w.heap.size + 1 + 2, 0, none⟩)]) (by simp [go_sem]) trivial (enters_of Tryz.func178 (by kernel_rfl) rfl)
    (splitSeq1_c 4 (by omega) (w.heap.size + 1) W0.heap.size s hs W0 (by omega) g1 g2 g3 f1) (by omega) (fun _ => rfl)
    (RealmI w)
    (RealmX w)
    ?_ ?_ ?_ ⟨⟨g0, f0⟩, hB0, by simp [Hid]⟩
    (fun x => { tmps := #[.string s, undef, .pointer (some ⟨w.heap.size, 0, none⟩), .string x, undef, undef, .string s, .bool true, .bool false, .string s, .func (.func 178) #[] #[.pointer (some ⟨w.heap.size + 1 + 1, 0, none⟩), .pointer (some ⟨w.heap.size + 1, 0, none⟩), .pointer (some ⟨w.heap.size + 1 + 2, 0, none⟩)], .string x, undef, undef, undef, undef, undef, undef, undef, undef, undef, undef, undef, undef, undef, undef, undef, undef, undef, undef, undef, undef, undef, undef, undef, undef, undef, undef, undef, undef, undef], defers := [] }) ?assign ?body ?done ?stop
  · unfold RealmI
    refine OwnFrom.and (Own.from (fun s A B row hs hg hr => ⟨cell_kept hs.1 hg hr, (frozen_kept hs.1 hg hr).trans hs.2⟩) _) (OwnFrom.and (ownFrom_below (Nat.le_refl _) (by omega)) ?_)
    exact fun s A B row hs hg hr => hs
  · rintro pre W v ⟨⟨hc, hf⟩, hB, hall⟩
    exact ⟨⟨by rw [World.cell?_setCell_other _ _ _ _ (by simp)]; exact hc, by rw [World.frozen?_setCell]; exact hf⟩, hB.setCell (p := ⟨w.heap.size + 1, 0, none⟩) (by simp) _, hall⟩
  · unfold RealmX
    refine OwnFrom.and (Own.from (fun s A B row hs hg hr => cell_kept hs hg hr) _) (OwnFrom.and (ownFrom_below (Nat.le_refl _) (by omega)) ?_)
    exact fun s A B row hs hg hr => hs
  all_goals clear hsz
  case assign =>
    intro l x W K hK
    gi_wp2
    exact hK
  case body =>
    rintro l pre x W hx ⟨⟨hc, hf⟩, hB, hall⟩
    have hx' : x.size ≤ 4294967000 := hx
    have hno : labelOk x = false → cellPost W0.heap.size
      (RealmI w)
      (RealmX w) (pre ++ [x]) W Exit.ret { tmps := #[], defers := [] } (W.setCell ⟨w.heap.size, 0, none⟩ (.bool false)) := fun h =>
      ⟨KeepsOthers.setCell _ _ _, World.cell?_setCell_same' _ _ _ (by rw [hc]; rfl), hB.setCell (p := ⟨w.heap.size, 0, none⟩) (Nat.le_refl _) _, by simp [Hid, h]⟩
    cases he : x.toList.isEmpty
    · gi_wp2
      gi_loop [16] (fun i => ∃ k : Nat, k ≤ x.size ∧ i = .int .i64 k ∧ Hid ((x.data.toList.take k).all labelB = true)) (fun i => x.size - (intOf i).toNat)
      case atStart => exact ⟨0, Nat.zero_le _, rfl, by simp [Hid]⟩
      case round =>
        obtain ⟨k, hk, rfl, hall2⟩ := hrel
        by_cases hlt : k < x.size
        · by_cases h45 : (x[k].toNat : Int) = 45
          · have h45' : ((x[k].toNat : Int) != 45) = false := by simp [h45]
            gi_wp2
            all_goals
              go_round
              case rel => exact ⟨k + 1, by omega, by go_num, all_step x k hlt hall2.out (by simp [labelB, h45])⟩
              case measure => simp [intOf]; omega
          · have h45' : ((x[k].toNat : Int) != 45) = true := by simp [h45]
            gi_wp2
            all_goals first
              | (go_round
                 case rel => exact ⟨k + 1, by omega, by go_num, all_step x k hlt hall2.out (by simp [labelB]; omega)⟩
                 case measure => simp [intOf]; omega)
              | exact hno (by rw [labelOk, all_no x k hlt (by simp [labelB]; omega)]; simp)
        · gi_wp2
          refine ⟨KeepsOthers.refl _, Below.refl _ _, ⟨hc, hf⟩, hB, ?_⟩
          have : labelOk x = true := by rw [labelOk, all_end x k (by omega) hall2.out, ← Lib.toList_data, he]; rfl
          have h2 := hall.out
          simp [Hid, this]; simpa using h2
    · gi_wp2
      exact hno (by rw [labelOk, ← Lib.toList_data, he]; rfl)
  case done =>
    rintro D ys W hD hS ⟨⟨hc, hf⟩, hB, hall⟩ hK
    have hok : realmOk s = true := by rw [realm_split hz hS]; exact hall.out
    have hD' : w.heap.size ≤ D := Nat.le_trans hB0.size hD
    gi_wp2
    have hK' := (KeepsOthers.setCell W ⟨w.heap.size, 0, none⟩ (.bool true)).same D _ hK rfl
    refine ⟨by simp, .inl ⟨_, _, rfl, run_takeDeferred hK', ?_⟩⟩
    have hc5 := cell_kept (World.cell?_setCell_same' W ⟨w.heap.size, 0, none⟩ (.bool true) (by rw [hc]; rfl)) (grownBy_putObj' _ D (.deferred none)) (fun r e => by cases e; exact ⟨_, hK', rfl⟩)
    refine ⟨.bool true, ?_, by rw [hok], (hB.setCell (p := ⟨w.heap.size, 0, none⟩) (Nat.le_refl _) _).trans (belowK_b (w := w) (Nat.le_refl _) _ D _ _ hD' hK' rfl rfl)⟩
    simp [results, Tryz.f29, go_sem, hc5]
  case stop =>
    rintro D pre W hD ⟨ys, hS⟩ ⟨hc, hB, hall⟩ hK
    have hok : realmOk s = false := by rw [realm_split hz hS, List.all_append, hall.out]; rfl
    have hD' : w.heap.size ≤ D := Nat.le_trans hB0.size hD
    gi_wp2
    refine ⟨by simp, .inl ⟨_, _, rfl, run_takeDeferred hK, ?_⟩⟩
    have hc5 := cell_kept hc (grownBy_putObj' _ D (.deferred none)) (fun r e => by cases e; exact ⟨_, hK, rfl⟩)
    refine ⟨.bool false, ?_, by rw [hok], hB.trans (belowK_b (w := w) (Nat.le_refl _) _ D _ _ hD' hK rfl rfl)⟩
    simp [results, Tryz.f29, go_sem, hc5]
end Go.Proofs.YtidadlcknkeodaaGreatDoor
/- name.all and name.Valid. -/
namespace Go.WW
def idxF (l : List Bool) : Int := if l.all (fun b => b) = true then -1 else (l.findIdx (fun b => !b) : Int)
end Go.WW
namespace Go.Proofs.YtidadlcknkeodaaGreatDoor
open Go.RowKit Go.WW
end Go.Proofs.YtidadlcknkeodaaGreatDoor
/- name.Valid. -/
namespace Go.WW
open Go.RowKit
end Go.WW
namespace Go.Proofs.YtidadlcknkeodaaGreatDoor
open Go.RowKit Go.WW
end Go.Proofs.YtidadlcknkeodaaGreatDoor
/- The arithmetic of lockouts: lockout.sum, reached, passed; the reference's Valid, Count, IsLocked, Until. -/
namespace Go.WW
def countOf (d : Entry) (p : Policy) (now : Int) : Int :=
  if 0 < p.fails ∧ p.fails ≤ d.fails then (if 0 < p.lock ∧ d.lastFail + p.lock ≤ now then 0 else d.fails)
  else if 0 < p.window ∧ d.lastFail + p.window < now then 0 else d.fails
def lockedAt (d : Entry) (p : Policy) (now : Int) : Bool := decide (0 < p.fails) && decide (p.fails ≤ countOf d p now)
def untilOf (d : Entry) (p : Policy) : Int := if p.lock = 0 then 0 else min (d.lastFail + p.lock) 1099511627776
structure Small (d : Entry) (p : Policy) : Prop where
  l0 : 0 ≤ d.lastFail
  l1 : d.lastFail ≤ 1099511627776
  f0 : 0 ≤ d.fails
  f1 : d.fails ≤ 65535
  w0 : 0 ≤ p.window
  w1 : p.window ≤ 1099511627776
  k0 : 0 ≤ p.lock
  k1 : p.lock ≤ 1099511627776
  m0 : 0 ≤ p.fails
end Go.WW
namespace Go.Proofs.YtidadlcknkeodaaGreatDoor
open Go.RowKit Go.WW
end Go.Proofs.YtidadlcknkeodaaGreatDoor
/- Contract of the reference's ValidSet. -/
namespace Go.WW
def lastP (l : List Key) : Nat → Int
  | 0 => 0
  | j + 1 => ((l[j]?).map (·.profile)).getD 0
end Go.WW
namespace Go.Proofs.YtidadlcknkeodaaGreatDoor
open Go.RowKit Go.WW
end Go.Proofs.YtidadlcknkeodaaGreatDoor
/- Contract of the reference's different. -/
namespace Go.WW
def diffAt (l : List Prin) (i : Nat) : Bool :=
  match l[i]? with
  | none => true
  | some p => prinOk p && (l.take i).all (fun q => !samePrin q p)
def diffAll (l : List Prin) : Bool := (List.range l.length).all (diffAt l)
def different (l : List Prin) : Bool := diffAll l && decide ((l.length : Int) ≤ 16)
end Go.WW
namespace Go.Proofs.YtidadlcknkeodaaGreatDoor
open Go.RowKit Go.WW
end Go.Proofs.YtidadlcknkeodaaGreatDoor
/- Contract of the reference's Valid for entries. -/
namespace Go.WW
def setGt (a b : KeySet) : Bool := decide (b.version < a.version) && decide (b.created ≤ a.created)
def aliasOk (n a : Prin) : Bool := decide (a.realm = n.realm) && !samePrin a n
def attrsOk (a : Int) : Bool := decide (a ≤ 1023)
def entTimes (e : Entry) : Bool := btw e.expires 0 1099511627776 && btw e.pwExpires 0 1099511627776 && btw e.maxLife 0 2147483648 && btw e.maxRenew 0 2147483648 && btw e.fails 0 65535 && btw e.lastFail 0 1099511627776 && btw e.lastSuccess 0 1099511627776
def entSmall (e : Entry) : Bool := attrsOk e.attrs && btw e.master 0 65535 && decide ((e.keys.length : Int) ≤ 16) && decide ((e.policy.size : Int) ≤ 32) && visible e.policy && decide ((e.history.length : Int) ≤ 16)
def entryOk (e : Entry) : Bool := prinOk e.name && different e.aliases && different e.targets && different e.delegates && e.aliases.all (aliasOk e.name) && e.keys.all (setOk e.master) && ordered setGt e.keys && e.history.all (fun h => (h.length : Int) == 16) && entSmall e && entTimes e
end Go.WW
namespace Go.Proofs.YtidadlcknkeodaaGreatDoor
open Go.RowKit Go.WW
end Go.Proofs.YtidadlcknkeodaaGreatDoor
/- The reference's IsLocked, Until and Valid. -/
namespace Go.WW
def okAll (d : Entry) (p : Policy) (now : Int) : Bool := entryOk d && polOk p && isTime now
end Go.WW
namespace Go.Proofs.YtidadlcknkeodaaGreatDoor
open Go.RowKit Go.WW
end Go.Proofs.YtidadlcknkeodaaGreatDoor
/- Small maps, entry by entry. -/
namespace Go.WW
open Go.RowKit
theorem run_mapAdd {P : Program} {w : World} {mty kt et : TypeId} {d : TypeDesc} {r clock : Nat} {es : Array MapEntry} {k : Value} (v : Value) (hm : P.underlying mty = some (.map kt et)) (hd : P.underlying kt = some d) (hk : MapKept.IsKey d k)
    (hf : Instr.findNow d k es.toList 0 = some none) (hb : w.heap[r]? = some (.map es clock)) :
    (Instr.mapUpdate mty (.map (some r)) k v).run P w = .ok () (w.putObj r (.map (es.push { key := k, val := v, born := clock }) (clock + 1))) := by
  have hc : (Instr.checkKey false 10000 kt k).run P w = .ok () w := MapKept.run_checkKey hd hk false 9999
  simp [Instr.mapUpdate, run_underlying hm, MapKept.run_getObj_map hb, hc, MapKept.run_findKey hd hf, MapKept.run_setObj_map _ hb, Result.andThen, World.putObj]
end Go.WW
/- account.count. -/
namespace Go.WW
end Go.WW
namespace Go.Proofs.YtidadlcknkeodaaGreatDoor
open Go.RowKit Go.WW
end Go.Proofs.YtidadlcknkeodaaGreatDoor
/- entry.Valid$1 (within), with every[int]. -/
namespace Go.Proofs.YtidadlcknkeodaaGreatDoor
open Go.RowKit Go.WW
end Go.Proofs.YtidadlcknkeodaaGreatDoor
/- The text of a principal leads back to it; lists without repetition. -/
namespace Go.WW
def specialB (c : UInt8) : Bool := (c.toNat : Int) == 47 || (c.toNat : Int) == 64 || (c.toNat : Int) == 92
def escOne (c : UInt8) : List UInt8 := if specialB c then [92, c] else [c]
def esc (l : List UInt8) : List UInt8 := l.flatMap escOne
def partsTail (l : List ByteArray) : List UInt8 := l.flatMap fun q => 47 :: esc q.data.toList
def partsText : List ByteArray → List UInt8
  | [] => []
  | p :: ps => esc p.data.toList ++ partsTail ps
def textL (p : Prin) : List UInt8 := partsText p.parts ++ 64 :: p.realm.data.toList
def textOf (p : Prin) : ByteArray := ⟨(textL p).toArray⟩
def sepStart : List UInt8 → Prop
  | [] => False
  | c :: _ => c = 47 ∨ c = 64
/-! ### Lists without repetition -/
def hasKey (acc : List ByteArray) (s : ByteArray) : Bool := acc.any fun x => decide (x = s)
theorem hasKey_iff (acc : List ByteArray) (s : ByteArray) : hasKey acc s = true ↔ s ∈ acc := by simp [hasKey]
def addKey (acc : List ByteArray) (s : ByteArray) : List ByteArray := if hasKey acc s then acc else acc ++ [s]
def keysOf (l : List ByteArray) : List ByteArray := l.foldl addKey []
def distinctP (l : List Prin) : Bool := decide (((keysOf (l.map textOf)).length : Int) = (l.length : Int))
def aliasFits (n a : Prin) : Bool := prinOk a && decide (a.realm = n.realm)
def namesOk (d : Entry) : Bool := prinOk d.name && (decide ((d.aliases.length : Int) ≤ 16) && d.aliases.all (aliasFits d.name)) && distinctP (d.name :: d.aliases)
end Go.WW
/- name.special, name.Text. -/
namespace Go.WW
open Go.RowKit
def bytesRows (l : List UInt8) : List (Array Value) := l.map fun c => #[.int .u8 c.toNat]
end Go.WW
namespace Go.Proofs.YtidadlcknkeodaaGreatDoor
open Go.RowKit Go.WW
theorem elemByte : ElemOk Tryz.prog 56 5 1 1 := ElemOk.of Tryz.underlying56 (by kernel_rfl)
end Go.Proofs.YtidadlcknkeodaaGreatDoor
/- slices.Clone, bytes.Clone, copyBytes. -/
namespace Go.WW
open Go.RowKit
theorem Own.empty (w : World) (e : TypeId) (k : Nat) : Own (w.alloc (.cells #[] e)) w.heap.size e k ⟨some ⟨w.heap.size, 0, none⟩, 0⟩ [] :=
  ⟨World.ownsRow_made w #[] 0 (Nat.le_refl _) (by unfold maxLen; omega) (by simp), by simp⟩
theorem Own.fresh {w w' : World} {base : Nat} {e : TypeId} {k : Nat} {s : Sl} {rows : List (Array Value)} (h : Own w base e k s rows) (hw : ∀ j, fresh base w j → w'.heap[j]? = w.heap[j]?) : Own w' base e k s rows :=
  h.kept fun _ hg => hw _ (h.base hg)
def ClonedStrs (w : World) (l : List ByteArray) (e : Ending) (w' : World) : Prop :=
  ∃ s : Sl, e = .returned (.slice s.a l.length s.cap) ∧ Below w.heap.size w w' ∧ Dep w' (fresh w.heap.size w') (fun x => StrsAt x s.a l)
def ClonedBytes (w : World) (l : List UInt8) (e : Ending) (w' : World) : Prop :=
  ∃ s : Sl, e = .returned (.slice s.a l.length s.cap) ∧ Below w.heap.size w w' ∧ Dep w' (fresh w.heap.size w') (fun x => BytesAt x s.a l)
theorem byteR_one {l : List UInt8} (i : Nat) (v : Value) (h : ∃ c, l[i]? = some c ∧ v = .int .u8 c.toNat) : v.oneCell' = true := by obtain ⟨s, _, rfl⟩ := h; rfl
theorem CellsAt.none {w : World} {n : Nat} {R : Nat → Value → Prop} (h : CellsAt w none n R) : n = 0 := by
  rcases h.addr with h | ⟨b, o, h, _⟩
  · exact h
  · cases h
theorem SrcRows.later {w w' : World} {k : Nat} {A : Option Addr} {rows : List (Array Value)} (h : SrcRows w k A rows) (hb : Below w.heap.size w w') : SrcRows w' k A rows :=
  ⟨h.size, h.one, fun i hi => by obtain ⟨b, o, h1, h2⟩ := h.at_ i hi; exact ⟨b, o, h1, by rw [row?_of_block (hb.block b (row?_lt h2))]; exact h2⟩⟩
end Go.WW
namespace Go.Proofs.YtidadlcknkeodaaGreatDoor
open Go.RowKit Go.WW
theorem nilEq22 (cap : Nat) (w : World) : (binOp .eql 23 (.slice none 0 cap) (.slice none 0 0)).run Tryz.prog w = .ok (.bool true) w := by kernel_rfl
theorem nilNe22 (ad : Addr) (n cap : Nat) (w : World) : (binOp .eql 23 (.slice (some ad) n cap) (.slice none 0 0)).run Tryz.prog w = .ok (.bool false) w := by kernel_rfl
theorem nilEq74 (cap : Nat) (w : World) : (binOp .eql 56 (.slice none 0 cap) (.slice none 0 0)).run Tryz.prog w = .ok (.bool true) w := by kernel_rfl
theorem nilNe74 (ad : Addr) (n cap : Nat) (w : World) : (binOp .eql 56 (.slice (some ad) n cap) (.slice none 0 0)).run Tryz.prog w = .ok (.bool false) w := by kernel_rfl
attribute [go_sem] nilEq22 nilNe22 nilEq74 nilNe74
end Go.Proofs.YtidadlcknkeodaaGreatDoor
/- name.Copy, profile.Copy. -/
namespace Go.WW
open Go.RowKit
def CopiedPrin (w : World) (p : Prin) (e : Ending) (w' : World) : Prop :=
  ∃ s : Sl, e = .returned (.agg (prinC s p)) ∧ Below w.heap.size w w' ∧ Dep w' (fresh w.heap.size w') (fun x => PrinAt x s p)
theorem second_blk (w : World) (a b : Obj) : ((w.alloc a).alloc b).heap[w.heap.size]? = some a := by
  rw [Below.heap_alloc _ _ _ (by simp)]; exact World.alloc_heap_new w a
end Go.WW
namespace Go.Proofs.YtidadlcknkeodaaGreatDoor
open Go.RowKit Go.WW
end Go.Proofs.YtidadlcknkeodaaGreatDoor
/- entry.copies[T], entry.copySet. Printed by wip/src/gencopies.py. -/
namespace Go.WW
open Go.RowKit
structure CopR (E : TypeId) (kk : Nat) (R : World → Nat → Array Value → Prop) (wr : World) (base : Nat) (so : Sl) (rows : List (Array Value)) : Prop where
  own : Own wr base E kk so rows
  each : ∀ i (hi : i < rows.length), Dep wr (freshBut base wr so.blk) (fun x => R x i rows[i])
theorem CopR.nil (E : TypeId) (kk : Nat) (R : World → Nat → Array Value → Prop) (w : World) (base : Nat) : CopR E kk R w base ⟨none, 0⟩ [] := ⟨Own.nil w base E kk, fun i hi => by simp at hi⟩
theorem CopR.step {E : TypeId} {kk : Nat} {R : World → Nat → Array Value → Prop} {wr w1 w2 w3 : World} {base : Nat} {so s3 : Sl} {rows : List (Array Value)} {cs : Array Value} {o : Obj} (h : CopR E kk R wr base so rows) (hb1 : Below wr.heap.size wr w1) (hb : Below w1.heap.size w1 w2)
    (hnew : Dep w2 (fresh w1.heap.size w2) (fun x => R x rows.length cs)) (hown : Own w3 base E kk s3 (rows ++ [cs])) (hg : (w2.alloc o).grownBy w3 so.blk) (hat : s3.blk = so.blk ∨ s3.blk = some (w2.alloc o).heap.size) (hbase : base ≤ wr.heap.size) : CopR E kk R w3 base s3 (rows ++ [cs]) := by
  have hs1 := hb1.size
  have hs2 := hb.size
  have hs3 := hg.size
  have hsa : (w2.alloc o).heap.size = w2.heap.size + 1 := by simp
  have hso : ∀ g, so.blk = some g → g < wr.heap.size := fun g hg => (h.own.base hg).2
  refine ⟨hown, fun i hi => ?_⟩
  by_cases hlt : i < rows.length
  · rw [List.getElem_append_left hlt]
    refine (h.each i hlt).to (fun k hk => ?_) (fun k hk => ⟨hk.1, by have := hk.2.1; omega, ?_⟩)
    · have hk1 := hk.2.1
      rw [hg.block k (by omega) hk.2.2, Below.heap_alloc _ _ _ (by omega), hb.block k (by omega), hb1.block k hk1]
    · have hk1 := hk.2.1
      rcases hat with e | e
      · rw [e]; exact hk.2.2
      · rw [e]; intro h'; cases h'; omega
  · obtain rfl : i = rows.length := by simp at hi; omega
    rw [List.getElem_append_right (by omega)]
    simp only [Nat.sub_self, List.getElem_cons_zero]
    refine hnew.to (fun k hk => ?_) (fun k hk => ⟨by have := hk.1; omega, by have := hk.2; omega, ?_⟩)
    · have hk1 := hk.1
      have hk2 := hk.2
      rw [hg.block k (by omega) (fun e => by have := hso k e.symm; omega), Below.heap_alloc _ _ _ hk2]
    · have hk1 := hk.1
      have hk2 := hk.2
      rcases hat with e | e
      · intro h'; have := hso k (e ▸ h'.symm); omega
      · rw [e]; intro h'; cases h'; omega
theorem CopR.done {E : TypeId} {kk n : Nat} {R : World → Nat → Array Value → Prop} {w' : World} {base : Nat} {so : Sl} {rows : List (Array Value)} (h : CopR E kk R w' base so rows) (hn : rows.length = n) (hl : n ≤ lim) : Dep w' (fresh base w') (fun x => RowsAt x kk so.a n (R x)) := fun x hx =>
  RowsAt.of_own (h.own.fresh hx) hn hl (fun i hi => h.each i hi x (fun k hk => hx k ⟨hk.1, hk.2.1⟩))
def Copied (Φ : World → Sl → Prop) (n : Nat) (w : World) (e : Ending) (w' : World) : Prop := ∃ s : Sl, e = .returned (.slice s.a n s.cap) ∧ Below w.heap.size w w' ∧ Dep w' (fresh w.heap.size w') (fun x => Φ x s)
end Go.WW
namespace Go.Proofs.YtidadlcknkeodaaGreatDoor
open Go.RowKit Go.WW
def RHist (l : List (List UInt8)) (x : World) (i : Nat) (cs : Array Value) : Prop := ∃ v, cs = #[v] ∧ ∃ p, ∃ s : Sl, l[i]? = some p ∧ v = .slice s.a p.length s.cap ∧ BytesAt x s.a p
end Go.Proofs.YtidadlcknkeodaaGreatDoor
/- entry.Copy. Printed by wip/src/gencopy.py. -/
namespace Go.WW
open Go.RowKit
def CopiedEnt (w : World) (d : Entry) (e : Ending) (w' : World) : Prop := ∃ r : ERaw, e = .returned (.agg (entC r d)) ∧ Below w.heap.size w w' ∧ Dep w' (fresh w.heap.size w') (fun x => EntAt x r d)
theorem run_loadVar_row {P : Program} {T : TypeId} {d : TypeDesc} {n : Nat} (hu : P.underlying T = some d) (hd : d.isRow = true) (hi : (P.info? T).map (·.size) = some n) {w : World} {b o : Nat} {cs : Array Value} (h : row? w b o n = some cs) :
    (loadVar T ⟨b, o, none⟩).run P w = .ok (.agg cs) w := by
  have hs := row?_size h
  have := run_loadVar_mid (P := P) w b o T cs.toList d (row?_rangeAt h) hu hd (by rw [hi]; simp [hs])
  simpa using this
theorem results_row {P : Program} {fn : Func} {a : Tmp} {T : TypeId} {d : TypeDesc} {n : Nat} (hf : fn.results = #[.cell a T]) (hu : P.underlying T = some d) (hd : d.isRow = true) (hi : (P.info? T).map (·.size) = some n) {tmps : Array Value} {w : World} {b o : Nat} {cs : Array Value} (ha : tmps.getD a undef = .pointer (some ⟨b, o, none⟩)) (h : row? w b o n = some cs) :
    (results fn tmps).run P w = .ok (.agg cs) w := by
  have hl := run_loadVar_row hu hd hi h
  have ha' : (asAddr (tmps.getD a undef)).run P w = .ok ⟨b, o, none⟩ w := by rw [ha]; rfl
  rw [Array.getD_eq_getD_getElem?] at ha'
  unfold results
  rw [hf]
  simp [Sem.run_bind, ha', hl, Result.andThen]
theorem results_row2 {P : Program} {fn : Func} {a t : Tmp} {T : TypeId} {d : TypeDesc} {n : Nat} (hf : fn.results = #[.cell a T, .tmp t]) (hu : P.underlying T = some d) (hd : d.isRow = true) (hi : (P.info? T).map (·.size) = some n) {tmps : Array Value} {w : World} {b o : Nat} {cs : Array Value} (ha : tmps.getD a undef = .pointer (some ⟨b, o, none⟩)) (h : row? w b o n = some cs) :
    (results fn tmps).run P w = .ok (.tuple #[.agg cs, tmps.getD t undef]) w := by
  have hl := run_loadVar_row hu hd hi h
  have ha' : (asAddr (tmps.getD a undef)).run P w = .ok ⟨b, o, none⟩ w := by rw [ha]; rfl
  rw [Array.getD_eq_getD_getElem?] at ha'
  unfold results
  rw [hf]
  simp [Sem.run_bind, ha', hl, Result.andThen]
theorem box_facts {w : World} {b : Nat} {c : Array Value} {t : TypeId} (h : w.heap[b]? = some (.cells c t)) : (∀ o, w.cell? ⟨b, o, none⟩ = c[o]?) ∧ (∀ o, w.frozen? ⟨b, o, none⟩ = false) ∧ (∀ o n, row? w b o n = subRow c o n) ∧ (b < w.heap.size) :=
  ⟨fun o => cell_of_row w b o c t _ h, fun o => frozen_of_row w b o c t h, fun _ _ => row?_of_cells h, (Array.getElem?_eq_some_iff.1 h).1⟩
end Go.WW
namespace Go.Proofs.YtidadlcknkeodaaGreatDoor
open Go.RowKit Go.WW
end Go.Proofs.YtidadlcknkeodaaGreatDoor
/- sha.padded, (sha.state).bytes: what they return. -/
namespace Go.WW
open Go.RowKit
def outL (st : List Int) : Nat → List Int
  | 0 => List.replicate 32 0
  | k + 1 => ((((outL st k).set (4 * k) ((st.getD k 0) / 16777216 % 256)).set (4 * k + 1) ((st.getD k 0) / 65536 % 256)).set (4 * k + 2) ((st.getD k 0) / 256 % 256)).set (4 * k + 3) ((st.getD k 0) % 256)
theorem outL_length (st : List Int) : ∀ k, (outL st k).length = 32
  | 0 => by simp [outL]
  | k + 1 => by simp [outL, outL_length st k]
def wordsA (L : List Int) : Array Value := (L.map (Value.int .u32)).toArray
end Go.WW
namespace Go.Proofs.YtidadlcknkeodaaGreatDoor
open Go.RowKit Go.WW
theorem padded_c (a : Option Addr) (n cap : Nat) (tot : Int) (w : World) : Calls Tryz.prog 80 #[.slice a n cap, .int .i64 tot] w fun e w' => e = .returned (.func (.func 128) #[] #[.pointer (some ⟨w.heap.size, 0, none⟩), .pointer (some ⟨w.heap.size + 1, 0, none⟩)]) ∧ w' = (w.alloc (.cells #[.slice a n cap] 56)).alloc (.cells #[.int .i64 tot] 3) := by
  go_enter Tryz.func80, Tryz.ntmps80
  go_wp2
  go_ret
  exact ⟨by simp, rfl⟩
theorem loadHash32 (w : World) (b o : Nat) : (structLoad 75 (.pointer (some ⟨b, o, none⟩))).run Tryz.prog w = rowOut Tryz.prog 75 w b o (row? w b o 32) := run_structLoad Tryz.underlying75 rfl (by kernel_rfl) w b o
theorem execOp_loadHash32 (ρ : Operand → Value) (dst : Option Tmp) (x : Operand) (ty : TypeId) (pos : String) (after : Array Edge) (guard : Option (Nat × Bool)) : execOp ρ { dst, op := .load 75 x, type := ty, pos, after, guard } = structLoad 75 (ρ x) := rfl
attribute [go_sem] loadHash32
attribute [go_sem ↓] execOp_loadHash32
theorem storeHash32 (w : World) (b o : Nat) (cs : Array Value) (hn : cs.size = 32) (h1 : allOne cs = true) : (structStore 75 (.pointer (some ⟨b, o, none⟩)) (.agg cs)).run Tryz.prog w = storeOut Tryz.prog 75 w b o cs (canPut w b o 32) := run_structStore (by kernel_rfl) w b o cs hn h1
theorem execOp_storeHash32 (ρ : Operand → Value) (dst : Option Tmp) (x y : Operand) (ty : TypeId) (pos : String) (after : Array Edge) (guard : Option (Nat × Bool)) : execOp ρ { dst, op := .store 75 x y, type := ty, pos, after, guard } = structStore 75 (ρ x) (ρ y) := rfl
attribute [go_sem] storeHash32
attribute [go_sem ↓] execOp_storeHash32
theorem loadShaState (w : World) (b o : Nat) : (structLoad 157 (.pointer (some ⟨b, o, none⟩))).run Tryz.prog w = rowOut Tryz.prog 157 w b o (row? w b o 8) := run_structLoad Tryz.underlying157 rfl (by kernel_rfl) w b o
theorem execOp_loadShaState (ρ : Operand → Value) (dst : Option Tmp) (x : Operand) (ty : TypeId) (pos : String) (after : Array Edge) (guard : Option (Nat × Bool)) : execOp ρ { dst, op := .load 157 x, type := ty, pos, after, guard } = structLoad 157 (ρ x) := rfl
attribute [go_sem] loadShaState
attribute [go_sem ↓] execOp_loadShaState
theorem storeShaState (w : World) (b o : Nat) (cs : Array Value) (hn : cs.size = 8) (h1 : allOne cs = true) : (structStore 157 (.pointer (some ⟨b, o, none⟩)) (.agg cs)).run Tryz.prog w = storeOut Tryz.prog 157 w b o cs (canPut w b o 8) := run_structStore (by kernel_rfl) w b o cs hn h1
theorem execOp_storeShaState (ρ : Operand → Value) (dst : Option Tmp) (x y : Operand) (ty : TypeId) (pos : String) (after : Array Edge) (guard : Option (Nat × Bool)) : execOp ρ { dst, op := .store 157 x y, type := ty, pos, after, guard } = structStore 157 (ρ x) (ρ y) := rfl
attribute [go_sem] storeShaState
attribute [go_sem ↓] execOp_storeShaState
theorem bytesA_one (L : List Int) : allOne (bytesA L) = true := by simp [allOne, bytesA, Value.oneCell']
theorem wordsA_one (L : List Int) : allOne (wordsA L) = true := by simp [allOne, wordsA, Value.oneCell']
theorem wordsA_size (L : List Int) : (wordsA L).size = L.length := by simp [wordsA]
theorem zeros32 (w : World) : w.alloc (.cells #[.int .u8 0, .int .u8 0, .int .u8 0, .int .u8 0, .int .u8 0, .int .u8 0, .int .u8 0, .int .u8 0, .int .u8 0, .int .u8 0, .int .u8 0, .int .u8 0, .int .u8 0, .int .u8 0, .int .u8 0, .int .u8 0, .int .u8 0, .int .u8 0, .int .u8 0, .int .u8 0, .int .u8 0, .int .u8 0, .int .u8 0, .int .u8 0, .int .u8 0, .int .u8 0, .int .u8 0, .int .u8 0, .int .u8 0, .int .u8 0, .int .u8 0, .int .u8 0] 75) = w.alloc (.cells (bytesA (List.replicate 32 0)) 75) := by kernel_rfl
theorem idx8' (a0 a1 a2 a3 a4 a5 a6 a7 : Int) (k : Nat) (h : k < 8) (w : World) : (Instr.index 157 (.agg #[.int .u32 a0, .int .u32 a1, .int .u32 a2, .int .u32 a3, .int .u32 a4, .int .u32 a5, .int .u32 a6, .int .u32 a7]) (.int .i64 k)).run Tryz.prog w = .ok (.int .u32 ([a0, a1, a2, a3, a4, a5, a6, a7].getD k 0)) w := by
  rcases (by omega : k = 0 ∨ k = 1 ∨ k = 2 ∨ k = 3 ∨ k = 4 ∨ k = 5 ∨ k = 6 ∨ k = 7) with rfl | rfl | rfl | rfl | rfl | rfl | rfl | rfl <;> kernel_rfl
theorem idx8 (st : List Int) (hst : st.length = 8) (k : Nat) (h : k < 8) (w : World) : (Instr.index 157 (.agg (wordsA st)) (.int .i64 k)).run Tryz.prog w = .ok (.int .u32 (st.getD k 0)) w := by
  obtain ⟨a0, a1, a2, a3, a4, a5, a6, a7, rfl⟩ : ∃ a0 a1 a2 a3 a4 a5 a6 a7, st = [a0, a1, a2, a3, a4, a5, a6, a7] := by
    match st, hst with
    | [a0, a1, a2, a3, a4, a5, a6, a7], _ => exact ⟨_, _, _, _, _, _, _, _, rfl⟩
  exact idx8' a0 a1 a2 a3 a4 a5 a6 a7 k h w
theorem shaBytes_c (st : List Int) (hst : st.length = 8) (w : World) : Calls Tryz.prog 82 #[.agg (wordsA st)] w fun e w' => e = .returned (.agg (bytesA (outL st 8))) ∧ Below w.heap.size w w' := by
  obtain ⟨V, hV⟩ : ∃ V, V = (w.alloc (.cells (wordsA st) 157)).alloc (.cells (bytesA (List.replicate 32 0)) 75) := ⟨_, rfl⟩
  have hB : Below w.heap.size w V := by rw [hV]; exact below_new (below_new (Below.refl _ _) _) _
  have hx : V.heap[w.heap.size + 1]? = some (.cells (bytesA (List.replicate 32 0)) 75) := by rw [hV]; have := World.alloc_heap_new (w.alloc (.cells (wordsA st) 157)) (.cells (bytesA (List.replicate 32 0)) 75); simpa using this
  have hsub : subRow (wordsA st) 0 8 = some (wordsA st) := subRow_whole (by rw [wordsA_size, hst])
  rw [← zeros32] at hV
  go_enter Tryz.func82, Tryz.ntmps82
  go_wp2
  rw [← hV]
  clear hV hsub
  go_loopw [6] (fun iv wr => ∃ k : Nat, k ≤ 8 ∧ iv = .int .i64 k ∧ Below w.heap.size w wr ∧ Hid (wr.heap[w.heap.size + 1]? = some (.cells (bytesA (outL st k)) 75))) (fun iv _ => 8 - (intOf iv).toNat)
  case atStart => exact ⟨0, by omega, rfl, hB, hx⟩
  case round =>
    obtain ⟨k, hk, rfl, hb, hx⟩ := hrel
    obtain ⟨f1, f2, hlt⟩ := boxF hx.out
    have hol := outL_length st k
    have hle : w.heap.size ≤ w.heap.size + 1 := by omega
    by_cases hk8 : k < 8
    · have hki : (k : Int) < 8 := by omega
      obtain ⟨v0, g0⟩ : ∃ v, wr.cell? ⟨w.heap.size + 1, 4 * k, none⟩ = some v := ⟨_, (f1 (4 * k)).trans (bytesA_get _ (4 * k) (by omega))⟩
      obtain ⟨v1, g1⟩ : ∃ v, wr.cell? ⟨w.heap.size + 1, 4 * k + 1, none⟩ = some v := ⟨_, (f1 (4 * k + 1)).trans (bytesA_get _ (4 * k + 1) (by omega))⟩
      obtain ⟨v2, g2⟩ : ∃ v, wr.cell? ⟨w.heap.size + 1, 4 * k + 2, none⟩ = some v := ⟨_, (f1 (4 * k + 2)).trans (bytesA_get _ (4 * k + 2) (by omega))⟩
      obtain ⟨v3, g3⟩ : ∃ v, wr.cell? ⟨w.heap.size + 1, 4 * k + 3, none⟩ = some v := ⟨_, (f1 (4 * k + 3)).trans (bytesA_get _ (4 * k + 3) (by omega))⟩
      have hix := idx8 st hst k hk8 wr
      obtain ⟨x9, hx9⟩ : ∃ x, x = st.getD k 0 := ⟨_, rfl⟩
      rw [← hx9] at hix
      have HX9 := Lib.hid hx9
      clear f1 hx9
      go_wp2
      have h4 := setCell_blk (o := 4 * k + 3) (.int .u8 (x9 % 256)) (setCell_blk (o := 4 * k + 2) (.int .u8 (x9 / 256 % 256)) (setCell_blk (o := 4 * k + 1) (.int .u8 (x9 / 65536 % 256)) (setCell_blk (o := 4 * k) (.int .u8 (x9 / 16777216 % 256)) hx.out)))
      rw [bytesA_set, bytesA_set, bytesA_set, bytesA_set] at h4
      refine ⟨⟨k + 1, by omega, by simp, (((hb.setCell hle _).setCell hle _).setCell hle _).setCell hle _, ?_⟩, by simp [intOf]; omega⟩
      refine Lib.hid (h4.trans ?_)
      rw [HX9.out]
      rfl
    · obtain rfl : k = 8 := by omega
      have hr32 : row? wr (w.heap.size + 1) 0 32 = some (bytesA (outL st 8)) := by rw [row?_of_cells hx.out]; exact subRow_whole (by rw [bytesA_size, hol])
      have hcp : canPut wr (w.heap.size + 1) 0 32 = true := canPut_of_cells hx.out (by rw [bytesA_size, hol]; omega)
      have hsz : (bytesA (outL st 8)).size = 32 := by rw [bytesA_size, hol]
      have hone := bytesA_one (outL st 8)
      go_wp2
      have hrow := row?_putRow_whole (w := wr) hsz hcp
      exact bodyPost_ret (results_row (by rfl) Tryz.underlying75 rfl (by kernel_rfl) rfl hrow) rfl ⟨rfl, Go.WW.Below.putRow hb (by omega)⟩
end Go.Proofs.YtidadlcknkeodaaGreatDoor
open Go Go.Mini Go.Proofs
noncomputable def Go.Mini.Tr.ofL {α : Type} (l : List (Nat × α)) : Tr α := List.rec .nil (fun x _ ih => ih.put x.1 x.2) l
noncomputable def Go.Mini.Tr.ofN {α : Type} (k : Nat) (l : List α) : Tr α := List.rec (fun _ => .nil) (fun x _ ih k => (ih (Nat.succ k)).put k x) l k
namespace Go.MiniT
noncomputable def d (x : TypeInfo) : MT := ⟨x.desc, x⟩
open Tryz in
noncomputable def tyT : Tr MT := .ofN 0 [d t0,d t1,d t2,d t3,d t4,d t5,⟨t5.desc, t6⟩,d t7,⟨t7.desc, t8⟩,d t9,⟨t9.desc, t10⟩,⟨t9.desc, t11⟩,d t12,d t13,⟨t13.desc, t14⟩,d t15,d t16,d t17,d t18,⟨t18.desc, t19⟩,d t20,d t21,⟨t3.desc, t22⟩,d t23,d t24,⟨t24.desc, t25⟩,d t26,d t27,⟨t27.desc, t28⟩,d t29,d t30,d t31,⟨t31.desc, t32⟩,d t33,⟨t33.desc, t34⟩,d t35,⟨t35.desc, t36⟩,d t37,d t38,d t39,⟨t3.desc, t40⟩,d t41,d t42,d t43,d t44,d t45,d t46,d t47,⟨t47.desc, t48⟩,d t49,d t50,d t51,d t52,d t53,d t54,⟨t54.desc, t55⟩,d t56,d t57,⟨t57.desc, t58⟩,d t59,d t60,d t61,d t62,⟨t62.desc, t63⟩,d t64,⟨t3.desc, t65⟩,d t66,⟨t66.desc, t67⟩,d t68,d t69,d t70,⟨t70.desc, t71⟩,d t72,d t73,d t74,d t75,d t76,⟨t76.desc, t77⟩,d t78,⟨t78.desc, t79⟩,d t80,d t81,d t82,d t83,d t84,d t85,d t86,d t87,⟨t87.desc, t88⟩,d t89,d t90,d t91,d t92,⟨t92.desc, t93⟩,d t94,d t95,d t96,d t97,d t98,d t99,d t100,d t101,d t102,d t103,d t104,d t105,d t106,d t107,⟨t107.desc, t108⟩,d t109,d t110,d t111,d t112,d t113,⟨t113.desc, t114⟩,d t115,d t116,d t117,d t118,d t119,d t120,d t121,d t122,d t123,d t124,d t125,d t126,d t127,d t128,d t129,⟨t129.desc, t130⟩,d t131,d t132,⟨t132.desc, t133⟩,d t134,d t135,d t136,d t137,d t138,d t139,⟨t139.desc, t140⟩,d t141,⟨t141.desc, t142⟩,d t143,d t144,d t145,d t146,d t147,d t148,d t149,d t150,d t151,d t152,d t153,d t154,d t155,d t156,⟨t156.desc, t157⟩,d t158,⟨t158.desc, t159⟩,d t160,d t161,d t162,d t163,d t164,d t165,d t166,d t167,d t168,d t169,d t170,d t171,d t172,d t173,d t174,d t175,d t176,d t177,d t178,d t179,d t180,d t181,d t182,d t183,d t184,d t185,d t186,d t187,d t188,d t189,d t190,d t191,d t192,d t193,d t194,d t195,d t196,d t197,d t198,d t199,d t200,d t201,d t202,d t203,d t204,d t205,d t206,d t207,d t208,d t209,d t210,d t211,d t212,d t213,d t214,d t215,d t216,d t217,⟨t217.desc, t218⟩,d t219,d t220,d t221,d t222,d t223,d t224,d t225,d t226,d t227,d t228,d t229,d t230,d t231,d t232,d t233,d t234,d t235,d t236,d t237,d t238,d t239,d t240,d t241,d t242,d t243,d t244,d t245,d t246,d t247,d t248,d t249,d t250,d t251,d t252,⟨t252.desc, t253⟩,d t254,d t255,d t256,d t257,d t258,d t259,d t260,⟨t260.desc, t261⟩,d t262,d t263,d t264,d t265,d t266,d t267,d t268,d t269,⟨t269.desc, t270⟩,d t271,d t272,d t273,d t274,d t275,d t276,d t277,d t278,d t279,d t280,d t281,d t282,d t283,d t284,d t285,d t286,d t287,d t288,d t289,⟨t289.desc, t290⟩,d t291,d t292,d t293,d t294,d t295,d t296,⟨t296.desc, t297⟩,d t298,d t299,d t300,d t301,d t302,d t303,d t304,⟨t304.desc, t305⟩,d t306,d t307,d t308,d t309,d t310,d t311,d t312,d t313,d t314,d t315,d t316,d t317,d t318,d t319,d t320,d t321,d t322,d t323,d t324,d t325,d t326,d t327,d t328,d t329,d t330,d t331,d t332,d t333,⟨t333.desc, t334⟩,d t335,d t336,d t337,⟨t3.desc, t338⟩,d t339,d t340,d t341,d t342,d t343,d t344,d t345,d t346,d t347,d t348,d t349,d t350,d t351,d t352,d t353,d t354,d t355,d t356,⟨t3.desc, t357⟩,d t358,d t359,d t360,d t361,d t362,d t363,d t364,d t365,d t366,d t367,d t368,d t369,d t370,d t371,d t372,d t373,d t374,d t375,d t376,d t377,d t378,d t379,d t380,d t381,d t382,d t383,d t384,d t385,d t386,d t387,d t388,d t389,⟨t389.desc, t390⟩,d t391,d t392,d t393,⟨t393.desc, t394⟩,d t395,d t396,d t397,d t398,d t399,d t400,⟨t144.desc, t401⟩,d t402,d t403,d t404,d t405,d t406,d t407,d t408,d t409,d t410,d t411,d t412,d t413,d t414,d t415,d t416,⟨t416.desc, t417⟩,d t418,d t419,d t420,⟨t420.desc, t421⟩,d t422,⟨t422.desc, t423⟩,d t424,d t425,d t426,d t427,d t428,d t429,d t430,d t431,d t432,d t433,d t434,d t435,d t436,d t437,d t438,d t439,d t440,d t441,d t442,d t443,d t444,d t445,d t446,d t447,d t448,d t449,d t450,d t451,d t452,d t453,⟨t453.desc, t454⟩,d t455,d t456,d t457,d t458,d t459,d t460,d t461,d t462,d t463,d t464,d t465,d t466,d t467,d t468,d t469,d t470,d t471,d t472,d t473,d t474,⟨t474.desc, t475⟩,d t476,d t477,d t478,d t479,d t480,d t481,d t482,d t483,d t484,d t485,d t486,d t487,d t488,d t489,d t490,⟨t490.desc, t491⟩,d t492,⟨t492.desc, t493⟩,d t494,d t495,⟨t495.desc, t496⟩,d t497,d t498,d t499,d t500,d t501,d t502,d t503,⟨t503.desc, t504⟩,d t505,d t506,⟨t506.desc, t507⟩,d t508,d t509,d t510,d t511,d t512,⟨t512.desc, t513⟩,d t514,⟨t514.desc, t515⟩,d t516,⟨t516.desc, t517⟩,d t518,d t519,d t520,d t521,d t522,d t523,d t524,d t525,d t526,⟨t526.desc, t527⟩,d t528,d t529,⟨t529.desc, t530⟩,⟨t5.desc, t531⟩,⟨t5.desc, t532⟩,d t533,⟨t21.desc, t534⟩,⟨t21.desc, t535⟩,d t536,⟨t536.desc, t537⟩,d t538,d t539,⟨t70.desc, t540⟩]
open Tryz in
noncomputable def fnT : Tr Func := .ofN 0 [f0,f1,f2,f3,f4,f5,f6,f7,f8,f9,f10,f11,f12,f13,f14,f15,f16,f17,f18,f19,f20,f21,f22,f23,f24,f25,f26,f27,f28,f29,f30,f31,f32,f33,f34,f35,f36,f37,f38,f39,f40,f41,f42,f43,f44,f45,f46,f47,f48,f49,f50,f51,f52,f53,f54,f55,f56,f57,f58,f59,f60,f61,f62,f63,f64,f65,f66,f67,f68,f69,f70,f71,f72,f73,f74,f75,f76,f77,f78,f79,f80,f81,f82,f83,f84,f85,f86,f87,f88,f89,f90,f91,f92,f93,f94,f95,f96,f97,f98,f99,f100,f101,f102,f103,f104,f105,f106,f107,f108,f109,f110,f111,f112,f113,f114,f115,f116,f117,f118,f119,f120,f121,f122,f123,f124,f125,f126,f127,f128,f129,f130,f131,f132,f133,f134,f135,f136,f137,f138,f139,f140,f141,f142,f143,f144,f145,f146,f147,f148,f149,f150,f151,f152,f153,f154,f155,f156,f157,f158,f159,f160,f161,f162,f163,f164,f165,f166,f167,f168,f169,f170,f171,f172,f173,f174,f175,f176,f177,f178,f179,f180,f181,f182,f183,f184,f185,f186,f187,f188,f189,f190,f191,f192,f193,f194,f195,f196,f197,f198,f199,f200,f201,f202,f203,f204,f205,f206,f207,f208,f209,f210,f211,f212,f213,f214,f215,f216,f217,f218,f219,f220,f221,f222,f223,f224,f225,f226,f227,f228,f229,f230,f231,f232,f233,f234,f235,f236,f237,f238,f239,f240,f241,f242,f243,f244,f245,f246,f247,f248,f249,f250,f251,f252,f253,f254,f255,f256,f257,f258,f259,f260,f261,f262,f263,f264,f265,f266,f267,f268,f269,f270,f271,f272,f273,f274,f275,f276,f277,f278,f279,f280,f281,f282,f283,f284,f285,f286,f287,f288,f289,f290,f291,f292,f293,f294,f295,f296,f297,f298,f299,f300,f301,f302,f303,f304,f305,f306,f307,f308,f309,f310,f311,f312,f313,f314,f315,f316,f317,f318,f319,f320,f321,f322,f323,f324,f325,f326,f327,f328,f329,f330,f331,f332,f333,f334,f335,f336,f337,f338,f339,f340,f341,f342,f343,f344,f345,f346,f347,f348,f349,f350,f351,f352,f353,f354,f355,f356,f357,f358,f359,f360,f361,f362,f363,f364,f365,f366,f367,f368,f369,f370,f371,f372,f373,f374,f375,f376,f377,f378,f379,f380,f381,f382,f383,f384,f385,f386,f387,f388,f389,f390,f391,f392,f393,f394,f395,f396,f397,f398,f399,f400,f401,f402,f403,f404,f405,f406,f407,f408,f409,f410,f411,f412,f413,f414,f415,f416,f417,f418,f419,f420,f421,f422,f423,f424,f425,f426,f427,f428,f429,f430,f431,f432,f433,f434,f435,f436,f437,f438,f439,f440,f441,f442,f443,f444,f445,f446,f447,f448,f449,f450,f451,f452,f453,f454,f455,f456,f457,f458,f459,f460,f461,f462,f463,f464,f465,f466,f467,f468,f469,f470,f471,f472,f473,f474,f475,f476,f477,f478,f479,f480,f481,f482,f483,f484,f485,f486,f487,f488,f489,f490,f491,f492,f493,f494,f495,f496,f497,f498,f499,f500,f501,f502,f503,f504,f505,f506,f507,f508]
noncomputable def cmpT : Tr Unit := .ofL ([0,1,2,3,4,5,6,7,8,9,10,11,12,15,16,17,20,21,22,23,24,25,26,27,28,29,30,31,32,33,34,35,36,37,38,39,40,41,42,43,44,45,46,47,48,49,50,51,52,53,54,55,56,57,58,59,60,61,62,63,64,65,66,67,68,69,70,71,72,73,74,75,76,77,78,79,80,81,82,83,84,85,86,87,88,89,90,91,92,93,94,95,96,97,98,99,100,101,102,103,104,105,106,107,108,109,110,111,112,113,114,115,116,117,118,119,120,121,122,123,124,125,126,127,128,129,130,131,132,133,134,135,136,137,138,139,140,141,142,143,144,145,146,147,148,149,150,151,152,153,154,155,156,157,158,159,160,161,162,163,164,165,166,167,168,169,170,171,172,173,174,175,176,177,178,179,180,181,182,183,184,185,186,187,188,189,190,191,192,193,194,195,196,197,198,199,200,201,202,203,204,205,206,207,208,209,210,211,212,213,214,215,216,217,218,219,220,221,222,223,224,225,226,227,228,229,230,231,232,233,234,235,236,237,238,239,240,241,242,243,244,245,246,247,248,249,250,251,254,255,256,257,258,259,260,261,262,263,264,265,266,267,268,269,270,271,272,273,274,275,276,277,278,279,280,281,282,283,284,285,286,287,288,289,290,291,292,293,294,295,296,297,298,299,300,301,302,303,304,305,306,307,308,309,310,311,312,313,314,315,316,317,318,319,320,321,322,323,324,325,326,327,328,329,330,331,332,333,334,335,336,337,338,339,340,341,342,343,344,345,346,347,348,349,350,351,352,353,354,355,356,357,358,359,360,361,362,363,364,365,366,367,368,369,370,371,372,373,374,375,376,377,378,379,380,381,382,383,384,385,386,387,388,389,390,391,392,393,394,395,396,397,398,399,400,401,402,403,404,405,406,407,408,409,410,411,412,413,414,415,418,419,420,421,422,423,424,425,426,427,428,429,430,431,432,433,434,435,436,437,438,439,440,441,442,443,444,445,446,447,448,449,450,451,452,453,454,455,456,457,458,459,460,461,462,463,464,465,466,467,468,469,470,471,472,473,474,475,476,477,478,479,480,481,482,483,484,485,486,487,488,489,490,491,492,493,494,495,496,497,498,499,500,501,502,503,504,505,506,507,508,509,510,511,512,513,514,515,516,517,518,519,520,521,522,523,524,525,528,531,532,533,534,535,538,539,540].map fun x => (x, ()))
noncomputable def EEs (ro : Nat) (orc : FuncId → List MV → MH → Option (MV × MH)) (bo : BinOp → TypeId → MV → MV → Option MV) (co : TypeId → TypeId → MV → Option MV) : Env := ⟨tyT, fnT, fun f => cond (Nat.beq f 350) (some .indexByteString) none, fun t => Option.rec false (fun _ => true) (cmpT.get t), ⟨ro, 11⟩, orc, bo, co⟩
noncomputable def EEw (ro : Nat) (orc : FuncId → List MV → MH → Option (MV × MH)) : Env := EEs ro orc (fun _ _ _ _ => none) (fun _ _ _ => none)
end Go.MiniT
/- The tables of sha. -/
namespace Go.MiniT
open Go Go.Mini
def shaT : ShaT := ⟨0, [1779033703, 3144134277, 1013904242, 2773480762, 1359893119, 2600822924, 528734635, 1541459225], 157, 1, [1116352408, 1899447441, 3049323471, 3921009573, 961987163, 1508970993, 2453635748, 2870763221, 3624381080, 310598401, 607225278, 1426881987, 1925078388, 2162078206, 2614888103, 3248222580, 3835390401, 4022224774, 264347078, 604807628, 770255983, 1249150122, 1555081692, 1996064986, 2554220882, 2821834349, 2952996808, 3210313671, 3336571891, 3584528711, 113926993, 338241895, 666307205, 773529912, 1294757372, 1396182291, 1695183700, 1986661051, 2177026350, 2456956037, 2730485921, 2820302411, 3259730800, 3345764771, 3516065817, 3600352804, 4094571909, 275423344, 430227734, 506948616, 659060556, 883997877, 958139571, 1322822218, 1537002063, 1747873779, 1955562222, 2024104815, 2227730452, 2361852424, 2428436474, 2756734187, 3204031479, 3329325298], 205, 5⟩
end Go.MiniT
/- sha's add over opaque words: the state at so in a window of m cells. -/
namespace Go.MiniT
open Go Go.Mini
noncomputable def symE : Env := EEs 12 (orOrc (orcTurnS symT 129) (orcChS symT 130)) (boS symT) (fun s d x => coS symT s d 5 27 x)
noncomputable def opqsAt (k n : Nat) : List MV := Nat.rec (fun _ => []) (fun _ ih k => .opq k :: ih (Nat.succ k)) n k
noncomputable def winL (m so : Nat) (mid : List MV) : List MV := opqsAt 100000 so ++ (mid ++ opqsAt (Nat.add 100008 so) (Nat.sub m (Nat.add so 8)))
noncomputable def addTab (m so : Nat) (t u : TypeId) : Tr MB := (shaT.tab.put 11 (.cells (opqsAt 8 64) u 1 false)).put 12 (.cells (winL m so (opqsAt 0 8)) t 1 false)
noncomputable def resA : Option (MV × MH) → Option (List MV × TypeId)
  | some (.tup [], h) => match h.get 12 with
    | some (.cells cs u _ _) => some (cs, u)
    | _ => none
  | _ => none
def addOut : List MV := [.opq 1561, .opq 1562, .opq 1563, .opq 1564, .opq 1565, .opq 1566, .opq 1567, .opq 1568]
def AddRun (m so : Nat) : Prop := ∀ t u : TypeId, resA (Go.Mini.run symE 60 (.call 81 [.ptr 12 so, .sl 11 0 64 64]) ⟨addTab m so t u, 13⟩) = some (winL m so addOut, t)
end Go.MiniT
/- The tables of the seat are its program's. -/
namespace Go.MiniT
open Go Go.Mini Go.Proofs
set_option maxRecDepth 1000000
theorem ty1 : tyT.toL.map (fun x => Tryz.prog.info? x.1) = tyT.toL.map (fun x => some x.2.info) := by kernel_rfl
theorem ty2 : tyT.toL.map (fun x => Tryz.prog.underlying x.1) = tyT.toL.map (fun x => some x.2.und) := by kernel_rfl
theorem fn1 : fnT.toL.map (fun x => Tryz.prog.funcs[x.1]?) = fnT.toL.map (fun x => some x.2) := by kernel_rfl
theorem fn2 : fnT.toL.all (fun x => !decide (x.2.name = "runtime.NumGoroutine")) = true := by kernel_rfl
theorem cm : cmpT.toL.all (fun x => !Tryz.prog.eqGuardType Tryz.prog.depth x.1 && !Tryz.prog.stoodInHeld x.1) = true := by kernel_rfl
theorem mx : Tryz.prog.follows .mixedOrders = true := by kernel_rfl
theorem runx [Opq] (s : List Nat) (c : Nat) (σ : Sg) (w : World) : (callFunc 350 ⟨embs σ [.str s, .int .u8 (.ofNat c)]⟩).run Tryz.prog w = .ok (.value (.int .i64 (Lib.indexByte (bytesV s).data.toList (UInt8.ofNat c)))) w := by
  have := Lib.run_indexByteString (P := Tryz.prog) (bytesV s) (.ofNat c) w
  rw [run_callFunc_extern Tryz.func350 (by kernel_rfl) (by kernel_rfl) (by kernel_rfl) (e := Extern.BytealgIndexByte.indexByte) (by kernel_rfl)]
  simp only [embs, emb]
  rw [this]
  rfl
theorem extW [Opq] (ro : Nat) (orc : FuncId → List MV → MH → Option (MV × MH)) (bo : BinOp → TypeId → MV → MV → Option MV) (co : TypeId → TypeId → MV → Option MV) : ∀ f k, (EEs ro orc bo co).ext f = some k → ∀ σ V args v, extM k args = some (.val v) → wfs σ V args → wf σ V v ∧ ∀ w, (callFunc f ⟨embs σ args⟩).run Tryz.prog w = .ok (.value (emb σ v)) w := by
  intro f k hk σ V args v ho hw
  have hf : f = 350 := by
    cases hb : Nat.beq f 350 with
    | true => exact Nat.eq_of_beq_eq_true hb
    | false =>
      have : (EEs ro orc bo co).ext f = none := by show cond (Nat.beq f 350) _ _ = _; rw [hb]; rfl
      rw [this] at hk; cases hk
  subst hf
  unfold extM at ho
  split at ho
  · rename_i s c
    cases hc : Nat.blt c 256 with
    | false => rw [hc] at ho; cases ho
    | true =>
      rw [hc] at ho
      cases ho
      have hs : ∀ b ∈ s, b < 256 := by simp only [wfs, wf] at hw; exact hw.1
      refine ⟨by simp only [wf], fun w => ?_⟩
      rw [idx_eq c (blt_lt hc) s hs 0]
      refine (runx s c σ w).trans ?_
      have e : (bytesV s).data.toList = s.map UInt8.ofNat := by simp [bytesV]
      rw [e]
      simp only [emb]
      split
      · rename_i h; rw [h]
      · simp
  · cases ho
theorem envS [Opq] (ro : Nat) (orc : FuncId → List MV → MH → Option (MV × MH)) (bo : BinOp → TypeId → MV → MV → Option MV) (co : TypeId → TypeId → MV → Option MV)
    (hb : ∀ op t x y v, bo op t x y = some v → ∀ (σ : Sg) (V : Nat → Prop), wf σ V x → wf σ V y → wf σ V v ∧ (emb σ x ≠ .nilIface ∧ ∀ c, emb σ x ≠ .agg c) ∧ ∀ w, (binOp op t (emb σ x) (emb σ y)).run Tryz.prog w = .ok (emb σ v) w)
    (hc : ∀ s d x v, co s d x = some v → ∀ (σ : Sg) (V : Nat → Prop), wf σ V x → wf σ V v ∧ ∀ w, (convert s d (emb σ x)).run Tryz.prog w = .ok (emb σ v) w) : EnvOk (EEs ro orc bo co) Tryz.prog :=
  ⟨ty_of (E := EEs ro orc bo co) ty1 ty2, fns_of (E := EEs ro orc bo co) fn1 fn2, extW ro orc bo co, fun t ht => cmp_of cm t (by
  have ht : (Option.rec false (fun _ => true) (cmpT.get t) : Bool) = true := ht
  cases h : cmpT.get t with
  | none => rw [h] at ht; cases ht
  | some u => rfl), mx, hb, hc⟩
theorem envW [Opq] (ro : Nat) (orc : FuncId → List MV → MH → Option (MV × MH)) : EnvOk (EEw ro orc) Tryz.prog := envS ro orc _ _ (fun _ _ _ _ _ h => by cases h) (fun _ _ _ _ h => by cases h)
end Go.MiniT
/- sha's add at any words: lists of opaque values. -/
namespace Go.Mini
open Go.RowKit
theorem ins_get : ∀ (l : List Int) (n : Nat) (S : Tr Int) (k : Nat), look (ins l n S) k = if n ≤ k ∧ k < n + l.length then odi (l[k - n]?) else look S k := by
  intro l
  induction l with
  | nil => intro n S k; rw [if_neg (by simp)]; rfl
  | cons a l ih =>
    intro n S k
    have e : ins (a :: l) n S = ins l (n + 1) (S.put n a) := rfl
    rw [e, ih]
    simp only [List.length_cons]
    by_cases h1 : n + 1 ≤ k ∧ k < n + 1 + l.length
    · rw [if_pos h1, if_pos (by omega), show k - n = (k - (n + 1)) + 1 by omega]; simp
    · rw [if_neg h1]
      unfold look
      rw [Tr.get_put]
      by_cases h2 : k = n
      · subst h2; rw [if_pos rfl, if_pos (by omega)]; simp
      · rw [if_neg h2, if_neg (by omega)]
end Go.Mini
namespace Go.MiniT
open Go Go.Mini Go.RowKit
theorem symF_in (l : List Int) (hl : l.length = 72) (k : Nat) (hk : k < 72) : symF symT l k = odi (l[k]?) := by
  unfold symF
  rw [ssa_old _ _ _ k hk, ins_get, if_pos (by omega)]; rfl
theorem opqsAt_get : ∀ (n k i : Nat), (opqsAt k n)[i]? = if i < n then some (.opq (k + i)) else none := by
  intro n
  induction n with
  | zero => intro k i; rw [if_neg (by omega)]; rfl
  | succ n ih =>
    intro k i
    have e : opqsAt k (n + 1) = .opq k :: opqsAt (k + 1) n := rfl
    rw [e]
    cases i with
    | zero => simp
    | succ i =>
      rw [List.getElem?_cons_succ, ih]
      by_cases h : i < n
      · rw [if_pos h, if_pos (by omega)]; congr 2; omega
      · rw [if_neg h, if_neg (by omega)]
theorem opqsAt_len (n k : Nat) : (opqsAt k n).length = n := by
  have h1 := opqsAt_get n k n
  rw [if_neg (Nat.lt_irrefl _), List.getElem?_eq_none_iff] at h1
  cases n with
  | zero => omega
  | succ n =>
    have h2 := opqsAt_get (n + 1) k n
    rw [if_pos (by omega)] at h2
    have := (List.getElem?_eq_some_iff.1 h2).1
    omega
theorem opqsAt_all (σ : Sg) (V : Nat → Prop) (k n : Nat) : wfs σ V (opqsAt k n) ∧ ones (opqsAt k n) = true := by
  have hm : ∀ v ∈ opqsAt k n, ∃ j, v = .opq j := fun v hv => by
    obtain ⟨i, hi⟩ := List.mem_iff_getElem?.1 hv
    rw [opqsAt_get] at hi
    split at hi
    · cases hi; exact ⟨_, rfl⟩
    · cases hi
  exact ⟨(wfs_iff _).2 fun v hv => by obtain ⟨j, rfl⟩ := hm v hv; simp only [wf], (ones_iff _).2 fun v hv => by obtain ⟨j, rfl⟩ := hm v hv; rfl⟩
theorem winL_get {m so : Nat} {mid : List MV} (hm : mid.length = 8) (hs : so + 8 ≤ m) (i : Nat) :
    (winL m so mid)[i]? = if so ≤ i ∧ i < so + 8 then mid[i - so]? else if i < m then some (.opq (100000 + i)) else none := by
  unfold winL
  by_cases h1 : i < so
  · rw [List.getElem?_append_left (by rw [opqsAt_len]; exact h1), opqsAt_get, if_pos h1, if_neg (by omega), if_pos (by omega)]
  · rw [List.getElem?_append_right (by rw [opqsAt_len]; omega), opqsAt_len]
    by_cases h2 : i < so + 8
    · rw [List.getElem?_append_left (by omega), if_pos (by omega)]
    · rw [List.getElem?_append_right (by omega), opqsAt_get, hm]
      have e1 : Nat.sub m (Nat.add so 8) = m - (so + 8) := rfl
      have e2 : Nat.add 100008 so = 100008 + so := rfl
      rw [e1, e2]
      have e3 : ¬ (so ≤ i ∧ i < so + 8) := by omega
      rw [if_neg e3]
      by_cases h3 : i < m
      · rw [if_pos (by omega), if_pos h3]; congr 2; omega
      · rw [if_neg (by omega), if_neg h3]
theorem winL_all {m so : Nat} {mid : List MV} (σ : Sg) (V : Nat → Prop) (h : wfs σ V mid ∧ ones mid = true) : wfs σ V (winL m so mid) ∧ ones (winL m so mid) = true := by
  unfold winL
  have a := opqsAt_all σ V 100000 so
  have b := opqsAt_all σ V (Nat.add 100008 so) (Nat.sub m (Nat.add so 8))
  rw [wfs_iff, ones_iff]
  refine ⟨fun v hv => ?_, fun v hv => ?_⟩
  · simp only [List.mem_append] at hv
    rcases hv with hv | hv | hv
    · exact (wfs_iff _).1 a.1 v hv
    · exact (wfs_iff _).1 h.1 v hv
    · exact (wfs_iff _).1 b.1 v hv
  · simp only [List.mem_append] at hv
    rcases hv with hv | hv | hv
    · exact (ones_iff _).1 a.2 v hv
    · exact (ones_iff _).1 h.2 v hv
    · exact (ones_iff _).1 b.2 v hv
theorem addTab_get (m so : Nat) (t u : TypeId) (k : Nat) (b : MB) (h : (addTab m so t u).get k = some b) : (k = 12 ∧ b = .cells (winL m so (opqsAt 0 8)) t 1 false) ∨ (k = 11 ∧ b = .cells (opqsAt 8 64) u 1 false) ∨ (k = shaT.s1 ∧ b = shaT.b1) ∨ (k = shaT.s0 ∧ b = shaT.b0) := by
  unfold addTab ShaT.tab at h
  rw [Tr.get_put] at h
  split at h
  · rename_i e; cases h; exact .inl ⟨e, rfl⟩
  · rw [Tr.get_put] at h
    split at h
    · rename_i e; cases h; exact .inr (.inl ⟨e, rfl⟩)
    · rw [Tr.get_put] at h
      split at h
      · rename_i e; cases h; exact .inr (.inr (.inl ⟨e, rfl⟩))
      · rw [Tr.get_put] at h
        split at h
        · rename_i e; cases h; exact .inr (.inr (.inr ⟨e, rfl⟩))
        · rw [Tr.get_nil] at h; cases h
end Go.MiniT
/- sha's add at any words: the start. -/
namespace Go.MiniT
open Go Go.Mini Go.RowKit
theorem symE_ok (l : List Int) (X : Ext) : @EnvOk (symO symT l X) symE Go.Proofs.Tryz.prog :=
  @envS (symO symT l X) 12 _ _ _ (fun op t x y v h σ V _ _ => boS_ok op t x y v h σ V) (fun s d x v h σ V _ => coS_ok (by kernel_rfl) (by kernel_rfl) s d x v h σ V)
def WordsAt (w : World) (b : Nat) (l : List Nat) (t : TypeId) : Prop := ∃ (c : Array Value) (fz : Nat × Nat), w.heap[b]? = some (.cells c t fz) ∧ (∀ (i n : Nat), l[i]? = some n → c[i]? = some (Value.int .u32 (n : Nat))) ∧ (fz.1 = fz.2 ∨ c.size ≤ fz.1)
theorem WordsAt.blk [Opq] {w : World} {b : Nat} {l : List Nat} {t : TypeId} (h : WordsAt w b l t) {σ : Sg} {V : Nat → Prop} (e : σ b = ⟨b, 0, 0⟩) : Blk σ V b w (.cells (u32s l) t 1 false) := by
  obtain ⟨c, fz, h1, h2, h3⟩ := h
  rw [u32s_eq]
  have hm : ∀ v ∈ l.map (fun n => MV.int .u32 (.ofNat n)), ∃ n : Nat, v = .int .u32 (.ofNat n) := fun v hv => by obtain ⟨n, -, rfl⟩ := List.mem_map.1 hv; exact ⟨n, rfl⟩
  refine ⟨c, fz, by rw [e]; exact h1, (wfs_iff _).2 fun v hv => by obtain ⟨n, rfl⟩ := hm v hv; simp only [wf], (ones_iff _).2 fun v hv => by obtain ⟨n, rfl⟩ := hm v hv; rfl, fun i v hv => ?_, fun hf => (by cases hf), h3⟩
  rw [List.getElem?_map] at hv
  cases hi : l[i]? with
  | none => rw [hi] at hv; cases hv
  | some n =>
    rw [hi] at hv; cases hv
    rw [e, Nat.zero_add]
    simp only [emb]
    exact h2 i n hi
structure AddAt (st bs : List Int) (vs : List Value) (m so sb wo bb bo : Nat) (t u : TypeId) (w : World) : Prop where
  n8 : st.length = 8
  n64 : bs.length = 64
  nm : vs.length = m
  fit : so + 8 ≤ m
  one : ∀ v ∈ vs, v.cells = #[v] ∧ v.oneCell' = true
  words : ∀ i, i < 8 → vs[so + i]? = some (.int .u32 (odi st[i]?))
  state : ∃ c fz, w.heap[sb]? = some (.cells c t fz) ∧ (∀ i v, vs[i]? = some v → c[wo + i]? = some v) ∧ (fz.1 = fz.2 ∨ c.size ≤ fz.1)
  bytes : ∃ c fz, w.heap[bb]? = some (.cells c u fz) ∧ (∀ i, i < 64 → c[bo + i]? = some (.int .u8 (odi bs[i]?))) ∧ (fz.1 = fz.2 ∨ c.size ≤ fz.1)
  ne : bb ≠ sb
  lo : (sb ≠ shaT.s0 ∧ sb ≠ shaT.s1) ∧ bb ≠ shaT.s0 ∧ bb ≠ shaT.s1
  sha0 : WordsAt w shaT.s0 shaT.l0 shaT.t0
  sha1 : WordsAt w shaT.s1 shaT.l1 shaT.t1
def extOf (vs : List Value) (hv : ∀ v ∈ vs, v.cells = #[v] ∧ v.oneCell' = true) : Ext where
  val i := (vs[i]?).getD .nilFunc
  single i := by
    cases h : vs[i]? with
    | none => rfl
    | some v => exact (hv v (List.mem_of_getElem? h)).1
  one i := by
    cases h : vs[i]? with
    | none => rfl
    | some v => exact (hv v (List.mem_of_getElem? h)).2
def addS (sb wo bb bo : Nat) : Sg := fun k => if k = 11 then ⟨bb, bo, 0⟩ else if k = 12 then ⟨sb, wo, 0⟩ else ⟨k, 0, 0⟩
theorem add_start {st bs : List Int} {vs : List Value} {m so sb wo bb bo : Nat} {t u : TypeId} {w : World} (h : AddAt st bs vs m so sb wo bb bo t u w) :
    @StartN (symO symT (st ++ bs) (extOf vs h.one)) ⟨12, 11⟩ 13 (fun k => k < w.heap.size ∧ k ≠ sb) (addTab m so t u) (addS sb wo bb bo) w := by
  letI O := symO symT (st ++ bs) (extOf vs h.one)
  have hl : (st ++ bs).length = 72 := by rw [List.length_append, h.n8, h.n64]
  have e10 : addS sb wo bb bo 11 = ⟨bb, bo, 0⟩ := rfl
  have e11 : addS sb wo bb bo 12 = ⟨sb, wo, 0⟩ := rfl
  have s0 : addS sb wo bb bo shaT.s0 = ⟨shaT.s0, 0, 0⟩ := rfl
  have s1 : addS sb wo bb bo shaT.s1 = ⟨shaT.s1, 0, 0⟩ := rfl
  have g0 : shaT.s0 < 11 := by decide
  have g1 : shaT.s1 < 11 := by decide
  refine ⟨by decide, by decide, fun id b hb => ?_, fun id hid => ?_, fun id b hb => ?_, fun id id' b b' hb hb' _ _ he => ?_, fun id b hb _ hr => ?_⟩
  · rcases addTab_get m so t u id b hb with ⟨rfl, -⟩ | ⟨rfl, -⟩ | ⟨rfl, -⟩ | ⟨rfl, -⟩ <;> omega
  · have hid : id < 11 := hid
    unfold addS
    rw [if_neg (by omega), if_neg (by omega)]
    exact ⟨rfl, rfl⟩
  · rcases addTab_get m so t u id b hb with ⟨rfl, rfl⟩ | ⟨rfl, rfl⟩ | ⟨rfl, rfl⟩ | ⟨rfl, rfl⟩
    · obtain ⟨c, fz, h1, h2, h3⟩ := h.state
      obtain ⟨a1, a2⟩ := winL_all (m := m) (so := so) (addS sb wo bb bo) (· < 13) (opqsAt_all (addS sb wo bb bo) (· < 13) 0 8)
      refine ⟨c, fz, h1, a1, a2, fun i v hv => ?_, fun hf => (by cases hf), h3⟩
      rw [winL_get (opqsAt_len 8 0) h.fit] at hv
      rw [e11]
      split at hv
      · rename_i hi
        rw [opqsAt_get, if_pos (by omega), Nat.zero_add] at hv
        cases hv
        have := h2 (so + (i - so)) _ (h.words (i - so) (by omega))
        rw [show so + (i - so) = i by omega] at this
        rw [this]
        show _ = some (extV symT (st ++ bs) (extOf vs h.one) (i - so))
        have hb : wordN (i - so) = true := by
          unfold wordN
          rw [show Nat.blt (i - so) 8 = true from Nat.ble_eq_true_of_le (by omega)]; rfl
        rw [symV_word hb, symF_in _ hl (i - so) (by omega), List.getElem?_append_left (by rw [h.n8]; omega)]
      · split at hv
        · rename_i hi
          cases hv
          have hlt : i < vs.length := by rw [h.nm]; exact hi
          rw [h2 i vs[i] (List.getElem?_eq_getElem hlt)]
          show _ = some (extV symT (st ++ bs) (extOf vs h.one) (100000 + i))
          rw [extV_ge]
          show _ = some ((vs[i]?).getD .nilFunc)
          rw [List.getElem?_eq_getElem hlt]; rfl
        · cases hv
    · obtain ⟨c, fz, h1, h2, h3⟩ := h.bytes
      obtain ⟨a1, a2⟩ := opqsAt_all (addS sb wo bb bo) (· < 13) 8 64
      refine ⟨c, fz, h1, a1, a2, fun i v hv => ?_, fun hf => (by cases hf), h3⟩
      rw [opqsAt_get] at hv
      split at hv
      · rename_i hi
        cases hv
        rw [e10, h2 i hi]
        show _ = some (extV symT (st ++ bs) (extOf vs h.one) (8 + i))
        have hk : extV symT (st ++ bs) (extOf vs h.one) (8 + i) = .int .u8 (symF symT (st ++ bs) (8 + i)) := by
          rw [extV_lt (by omega)]
          unfold symV wordN
          have e1 : Nat.blt (8 + i) 8 = false := by
            cases hh : Nat.blt (8 + i) 8 with
            | false => rfl
            | true => have := blt_lt hh; omega
          have e2 : Nat.ble 72 (8 + i) = false := by
            cases hh : Nat.ble 72 (8 + i) with
            | false => rfl
            | true => have := Nat.le_of_ble_eq_true hh; omega
          rw [e1, e2]; rfl
        rw [hk, symF_in _ hl (8 + i) (by omega), List.getElem?_append_right (by rw [h.n8]; omega), h.n8, show 8 + i - 8 = i by omega]
      · cases hv
    · exact h.sha1.blk s1
    · exact h.sha0.blk s0
  · obtain ⟨⟨l1, l2⟩, l3, l4⟩ := h.lo
    have := h.ne
    rcases addTab_get m so t u id b hb with ⟨rfl, -⟩ | ⟨rfl, -⟩ | ⟨rfl, -⟩ | ⟨rfl, -⟩ <;> rcases addTab_get m so t u id' b' hb' with ⟨rfl, -⟩ | ⟨rfl, -⟩ | ⟨rfl, -⟩ | ⟨rfl, -⟩ <;> first
      | rfl
      | (exfalso; simp only [e10, e11, s0, s1] at he; first | exact absurd he (by decide) | (exact absurd he ‹_›) | (exact absurd he.symm ‹_›))
  · have hr : 12 ≤ id := hr
    rcases addTab_get m so t u id b hb with ⟨rfl, -⟩ | ⟨rfl, -⟩ | ⟨rfl, -⟩ | ⟨rfl, -⟩
    · rintro ⟨-, hx⟩; exact hx rfl
    · omega
    · omega
    · omega
end Go.MiniT
/- sha's add at any words: the contract, the state being a part of a struct. -/
namespace Go.MiniT
open Go Go.Mini Go.RowKit
def TurnC : Prop := ∀ (x : Int) (b o cap : Nat) (ps : List Nat), (∀ p ∈ ps, 1 ≤ p ∧ p ≤ 31) → ps.length ≤ 64 → ∀ w : World, (∀ i (h : i < ps.length), w.cell? ⟨b, o + i, none⟩ = some (.int .i64 (ps[i] : Nat))) →
      Calls Go.Proofs.Tryz.prog 129 #[.int .u32 x, .slice (some ⟨b, o, none⟩) ps.length cap] w (fun e w' => e = .returned (.int .u32 (ps.foldl (fun y p => bits .xor .u32 y (rotI x (32 - p))) 0)) ∧ w = w')
def ChoiceC : Prop := ∀ (x y z : Int) (w : World), Calls Go.Proofs.Tryz.prog 130 #[.int .u32 x, .int .u32 y, .int .u32 z] w (fun e w' => e = .returned (.int .u32 (chI x y z)) ∧ w = w')
noncomputable def addF (st bs : List Int) (i : Nat) : Int := symF symT (st ++ bs) (1561 + i)
theorem addOut_get (i : Nat) (hi : i < 8) : addOut[i]? = some (.opq (1561 + i)) := by
  match i, hi with
  | 0, _ => rfl
  | 1, _ => rfl
  | 2, _ => rfl
  | 3, _ => rfl
  | 4, _ => rfl
  | 5, _ => rfl
  | 6, _ => rfl
  | 7, _ => rfl
theorem add_c (hT : TurnC) (hC : ChoiceC) {st bs : List Int} {vs : List Value} {m so sb wo bb bo : Nat} {t u : TypeId} {w : World} (hrun : AddRun m so) (h : AddAt st bs vs m so sb wo bb bo t u w) :
    Calls Go.Proofs.Tryz.prog 81 #[.pointer (some ⟨sb, wo + so, none⟩), .slice (some ⟨bb, bo, none⟩) 64 64] w fun e w' => e = .returned (.tuple #[]) ∧ Kept (fun k => k < w.heap.size ∧ k ≠ sb) w w' ∧
      ∃ c fz, w'.heap[sb]? = some (.cells c t fz) ∧ (∀ i, i < 8 → c[wo + (so + i)]? = some (.int .u32 (addF st bs i))) ∧ (∀ i v, (i < so ∨ so + 8 ≤ i) → vs[i]? = some v → c[wo + i]? = some v) ∧ (fz.1 = fz.2 ∨ c.size ≤ fz.1) := by
  letI O := symO symT (st ++ bs) (extOf vs h.one)
  have hW : ∀ k, (k < w.heap.size ∧ k ≠ sb) → k < w.heap.size := fun _ hk => hk.1
  have hO : OrcOk symE Go.Proofs.Tryz.prog (fun k => k < w.heap.size ∧ k ≠ sb) w := orcOk_of (orcIs_or (orcTurnS_ok hW hT) (orcChS_ok hW hC))
  have hE := symE_ok (st ++ bs) (extOf vs h.one)
  have hr := hrun t u
  unfold resA at hr
  split at hr
  · rename_i h' he
    split at hr
    · rename_i cs v es o hg
      cases hr
      obtain ⟨F, -, -, hc⟩ := (run_ok (W0 := w) hE hO hW (fun go hgo => draw_ok hE hW hgo) 60).1 81 _ ⟨addTab m so t u, 13⟩ _ _ he
      have := hc (addS sb wo bb bo) (· < 13) w (rel_startN (add_start h)) (by simp only [wfs, wf]; exact ⟨by decide, ⟨by decide, Nat.le_refl _⟩, trivial⟩)
      refine this.mono ?_
      rintro e w' ⟨σ', V', a1, a2, -, -, R, -, rfl⟩
      have e11 : σ' 12 = ⟨sb, wo, 0⟩ := a1 12 (by decide)
      obtain ⟨c, fz, k1, -, -, k4, -, k6⟩ := R.blk 12 _ (a2 12 (by decide)) hg
      rw [e11] at k1 k4
      refine ⟨rfl, R.below, c, fz, k1, fun i hi => ?_, fun i v hi hv => ?_, k6⟩
      · have hv : (winL m so addOut)[so + i]? = some (.opq (1561 + i)) := by
          rw [winL_get rfl h.fit, if_pos (by omega), show so + i - so = i by omega, addOut_get i hi]
        rw [k4 _ _ hv]
        show some (extV symT (st ++ bs) (extOf vs h.one) (1561 + i)) = _
        have hb : wordN (1561 + i) = true := by
          unfold wordN
          rw [Nat.ble_eq_true_of_le (show 72 ≤ 1561 + i by omega), show Nat.blt (1561 + i) 100000 = true from Nat.ble_eq_true_of_le (by omega)]
          cases Nat.blt (1561 + i) 8 <;> rfl
        rw [symV_word hb]; rfl
      · have hlt := (List.getElem?_eq_some_iff.1 hv).1
        rw [h.nm] at hlt
        have hq : (winL m so addOut)[i]? = some (.opq (100000 + i)) := by
          rw [winL_get rfl h.fit, if_neg (by omega), if_pos hlt]
        rw [k4 _ _ hq]
        show some (extV symT (st ++ bs) (extOf vs h.one) (100000 + i)) = _
        rw [extV_ge]
        show some ((vs[i]?).getD .nilFunc) = _
        rw [hv]; rfl
    · cases hr
  · cases hr
end Go.MiniT
/- sha's add over opaque words: the state at 0 of 8 cells. -/
namespace Go.MiniT
open Go Go.Mini
theorem add_run0 : AddRun 8 0 := fun t u => by kernel_rfl
end Go.MiniT
/- math/bits.RotateLeft32 and sha.turned. -/
namespace Go.WW
open Go.RowKit
def rotF (x : Int) (n : Nat) : Int := bits .or .u32 (x * 2 ^ n % 4294967296) (x / 2 ^ (32 - n))
def turnF (x : Int) (ps : List Nat) : Int := ps.foldl (fun y p => bits .xor .u32 y (rotF x (32 - p))) 0
theorem turnF_step (x : Int) (ps : List Nat) (k : Nat) (h : k < ps.length) : turnF x (ps.take (k + 1)) = bits .xor .u32 (turnF x (ps.take k)) (rotF x (32 - ps[k])) := by
  unfold turnF
  rw [List.take_succ_eq_append_getElem h, List.foldl_append]; rfl
theorem negs31 : ∀ p : Fin 31, bits .and .u64 (IntKind.u64.wrap (-((p.val : Int) + 1))) 31 = ((31 - p.val : Nat) : Int) := by decide +kernel
theorem negs (p : Nat) (h : 1 ≤ p ∧ p ≤ 31) : bits .and .u64 (IntKind.u64.wrap (-(p : Int))) 31 = ((32 - p : Nat) : Int) := by
  have := negs31 ⟨p - 1, by omega⟩
  have e : ((p - 1 : Nat) : Int) + 1 = (p : Int) := by omega
  simp only [e] at this
  rw [this]; congr 1; omega
end Go.WW
namespace Go.Proofs.YtidadlcknkeodaaGreatDoor
open Go.RowKit Go.WW
theorem rot_c (x k : Int) (n : Nat) (hn : n ≤ 31) (hk : bits .and .u64 (IntKind.u64.wrap k) 31 = (n : Int)) (w : World) : Calls Tryz.prog 210 #[.int .u32 x, .int .i64 k] w fun e w' => e = .returned (.int .u32 (rotF x n)) ∧ w = w' := by
  have h0 : (0 : Int) ≤ (n : Int) := by omega
  have h1 : (n : Int) ≤ 32 := by omega
  have h2 : (0 : Int) ≤ 32 - (n : Int) := by omega
  have h3 : (32 : Int) - (n : Int) ≤ 32 := by omega
  go_enter Tryz.func210, Tryz.ntmps210
  go_wp2
  go_ret
  exact ⟨rfl, rfl⟩
theorem turned_c (x : Int) (b o cap : Nat) (ps : List Nat) (hp : ∀ p ∈ ps, 1 ≤ p ∧ p ≤ 31) (hl : ps.length ≤ 64) (w : World) (hc : ∀ i (h : i < ps.length), w.cell? ⟨b, o + i, none⟩ = some (.int .i64 (ps[i] : Nat))) :
    Calls Tryz.prog 129 #[.int .u32 x, .slice (some ⟨b, o, none⟩) ps.length cap] w fun e w' => e = .returned (.int .u32 (turnF x ps)) ∧ w = w' := by
  have HC := Lib.hid hc
  have HP := Lib.hid hp
  clear hc hp
  go_enter Tryz.func129, Tryz.ntmps129
  go_wp2_with fail
  go_loop [4, 9] (fun y i => ∃ k : Nat, k ≤ ps.length ∧ i = .int .i64 k ∧ y = .int .u32 (turnF x (ps.take k))) (fun _ i => ps.length - (intOf i).toNat)
  case atStart => exact ⟨0, Nat.zero_le _, rfl, rfl⟩
  case round =>
    obtain ⟨k, hk, rfl, rfl⟩ := hrel
    by_cases hlt : k < ps.length
    · have hcell := HC.out k hlt
      have hpk := HP.out ps[k] (List.getElem_mem hlt)
      have HS := Lib.hid (turnF_step x ps k hlt)
      have hgb : b < w.heap.size := World.block_lt_of_cell? w _ hcell
      have HN := Lib.hid (negs ps[k] hpk)
      go_wp2_with (go_at_call 210; refine (rot_c _ _ (32 - ps[k]) (by omega) HN.out _).mono ?_; rintro e w' ⟨rfl, rfl⟩)
      go_round
      case rel => exact ⟨k + 1, by omega, by go_num, by rw [HS.out]⟩
      case measure => simp [intOf]; omega
    · have HE := Lib.hid (show turnF x (ps.take k) = turnF x ps by rw [List.take_of_length_le (by omega)])
      go_wp2_with fail
      go_ret
      exact ⟨by rw [← HE.out]; rfl, rfl⟩
end Go.Proofs.YtidadlcknkeodaaGreatDoor
/- The choice of sha's add. -/
namespace Go.Proofs.YtidadlcknkeodaaGreatDoor
open Go.RowKit Go.WW
theorem choice_c (x y z : Int) (w : World) : Calls Tryz.prog 130 #[.int .u32 x, .int .u32 y, .int .u32 z] w fun e w' => e = .returned (.int .u32 (bits .xor .u32 (bits .and .u32 x y) (bits .and .u32 (bits .xor .u32 IntKind.u32.max x) z))) ∧ w = w' := by
  go_enter Tryz.func130, Tryz.ntmps130
  go_wp2
  go_ret
  exact ⟨rfl, rfl⟩
end Go.Proofs.YtidadlcknkeodaaGreatDoor
/- sha.Sum: the hash of any bytes. -/
namespace Go.MiniT
open Go Go.Mini
structure ShaVars (w : World) : Prop where
  s0 : w.heap[shaT.s0]? = some (.cells ((shaT.l0.map fun (n : Nat) => Value.int .u32 n).toArray) shaT.t0 (0, 0))
  s1 : w.heap[shaT.s1]? = some (.cells ((shaT.l1.map fun (n : Nat) => Value.int .u32 n).toArray) shaT.t1 (0, 0))
theorem ShaVars.on {w w' : World} (h : ShaVars w) (h0 : w'.heap[shaT.s0]? = w.heap[shaT.s0]?) (h1 : w'.heap[shaT.s1]? = w.heap[shaT.s1]?) : ShaVars w' := ⟨h0.trans h.s0, h1.trans h.s1⟩
noncomputable def addL (st x : List Int) : List Int := (List.range 8).map fun i => addF st x i
theorem addL_length (st x : List Int) : (addL st x).length = 8 := by simp [addL]
noncomputable def shaStart : List Int := shaT.l0.map Int.ofNat
noncomputable def shaSt (l : List Int) : List Int := (Go.WW.blocksOf l l.length).foldl addL shaStart
noncomputable def shaF (l : List Int) : List Int := Go.WW.outL (shaSt l) 8
def StAt (w : World) (sb : Nat) (st : List Int) : Prop := st.length = 8 ∧ ∃ c fz, w.heap[sb]? = some (.cells c 157 fz) ∧ (∀ i (h : i < st.length), c[i]? = some (.int .u32 st[i])) ∧ (fz.1 = fz.2 ∨ c.size ≤ fz.1)
open Go.WW Go.RowKit in
theorem StAt.on {w w' : World} {sb : Nat} {st : List Int} (h : StAt w sb st) (he : w'.heap[sb]? = w.heap[sb]?) : StAt w' sb st := by
  obtain ⟨hn, c, fz, h1, h2⟩ := h
  exact ⟨hn, c, fz, he.trans h1, h2⟩
open Go.WW Go.RowKit in
theorem StAt.lt {w : World} {sb : Nat} {st : List Int} (h : StAt w sb st) : sb < w.heap.size := by
  obtain ⟨hn, c, fz, h1, h2⟩ := h
  exact (Array.getElem?_eq_some_iff.1 h1).1
open Go.WW Go.RowKit in
theorem StAt.row {w : World} {sb : Nat} {st : List Int} (h : StAt w sb st) : row? w sb 0 8 = some (wordsA st) := by
  obtain ⟨hn, c, fz, h1, h2, _⟩ := h
  have h8 : 8 ≤ c.size := by
    have := h2 7 (by omega)
    have := (Array.getElem?_eq_some_iff.1 this).1
    omega
  unfold row?
  rw [h1]
  simp only [Nat.zero_add]
  rw [if_pos h8]
  congr 1
  apply Array.ext_getElem?
  intro i
  by_cases hi : i < 8
  · rw [Array.getElem?_extract, if_pos (by omega), Nat.zero_add, h2 i (by omega)]
    simp [wordsA, hn, hi]
  · rw [Array.getElem?_eq_none (by simp; omega), Array.getElem?_eq_none (by simp [wordsA, hn]; omega)]
end Go.MiniT
namespace Go.Proofs.YtidadlcknkeodaaGreatDoor
open Go.RowKit Go.WW Go.Mini Go.MiniT
theorem add_step {w : World} {sb bb bo : Nat} {st x : List Int} (hT : TurnC) (hC : ChoiceC) (hv : ShaVars w) (hs : StAt w sb st) (hx : x.length = 64) (hr : Raw w bb bo x) (hne : bb ≠ sb) (hs0 : sb ≠ shaT.s0) (hs1 : sb ≠ shaT.s1) :
    Calls Tryz.prog 81 #[.pointer (some ⟨sb, 0, none⟩), .slice (some ⟨bb, bo, none⟩) 64 64] w fun e w' => e = .returned (.tuple #[]) ∧ But (one sb) w w' ∧ StAt w' sb (addL st x) := by
  obtain ⟨hn, c, fz, h1, h2, h3⟩ := hs
  obtain ⟨cb, ub, fb, b1, b2, b3⟩ := hr
  have hrun : AddRun 8 0 := add_run0
  have g0 : bb ≠ shaT.s0 := by
    rintro rfl
    have := b1.symm.trans hv.s0
    cases this
    have hb := b2 0 (by omega)
    have hlt := (Array.getElem?_eq_some_iff.1 hb).1
    rw [List.getElem?_toArray, List.getElem?_map] at hb
    obtain ⟨y, -, hy⟩ := Option.map_eq_some_iff.1 hb
    cases hy
  have g1 : bb ≠ shaT.s1 := by
    rintro rfl
    have := b1.symm.trans hv.s1
    cases this
    have hb := b2 0 (by omega)
    rw [List.getElem?_toArray, List.getElem?_map] at hb
    obtain ⟨y, -, hy⟩ := Option.map_eq_some_iff.1 hb
    cases hy
  have HA : AddAt st x (st.map fun v => Value.int .u32 v) 8 0 sb 0 bb bo 157 ub w := {
    n8 := hn
    n64 := hx
    nm := by simp [hn]
    fit := by omega
    one := fun v hv => by obtain ⟨y, -, rfl⟩ := List.mem_map.1 hv; exact ⟨rfl, rfl⟩
    words := fun i hi => by simp [odi, List.getElem?_eq_getElem (show i < st.length by omega)]
    state := ⟨c, fz, h1, fun i v hi => by
      rw [List.getElem?_map] at hi
      obtain ⟨y, hy, rfl⟩ := Option.map_eq_some_iff.1 hi
      obtain ⟨hl, rfl⟩ := List.getElem?_eq_some_iff.1 hy
      simpa using h2 i hl, h3⟩
    bytes := ⟨cb, fb, b1, fun i hi => by rw [b2 i (by omega)]; simp [odi, List.getElem?_eq_getElem (show i < x.length by omega)], b3⟩
    ne := hne
    lo := ⟨⟨hs0, hs1⟩, g0, g1⟩
    sha0 := ⟨_, (0, 0), hv.s0, fun i n h => by simp [h], .inl rfl⟩
    sha1 := ⟨_, (0, 0), hv.s1, fun i n h => by simp [h], .inl rfl⟩ }
  refine (add_c hT hC hrun HA).mono ?_
  rintro e w' ⟨rfl, hk, c', fz', k1, k2, -, k4⟩
  refine ⟨rfl, ⟨hk.os, hk.tape, hk.output, hk.size, fun j hj hn => hk.block j ⟨hj, hn⟩⟩, addL_length _ _, c', fz', k1, fun i hi => ?_, k4⟩
  rw [addL_length] at hi
  have := k2 i hi
  simpa [addL] using this
end Go.Proofs.YtidadlcknkeodaaGreatDoor
/- sha.Sum: the walk. -/
namespace Go.Proofs.YtidadlcknkeodaaGreatDoor
open Go.RowKit Go.WW Go.Mini Go.MiniT
theorem start_row {w : World} (h : ShaVars w) : row? w 0 0 8 = some (wordsA shaStart) := by
  have := h.s0
  exact (row?_of_cells this).trans ((subRow_whole rfl).trans rfl)
attribute [local go_sem] Oper.semAt_some
theorem shaSum_c (hT : TurnC) (hC : ChoiceC) (b o cap : Nat) (l : List Int) (w : World) (hv : ShaVars w) (hr : Raw w b o l) (hcap : l.length ≤ cap) (hn : l.length ≤ 1000000) : Calls Tryz.prog 49 #[.slice (some ⟨b, o, none⟩) l.length cap] w fun e w' => e = .returned (.agg (bytesA (shaF l))) ∧ Below w.heap.size w w' := by
  obtain ⟨r, hr9⟩ : ∃ r, r = shaF l := ⟨_, rfl⟩
  rw [← hr9]
  have HR := Lib.hid hr9
  clear hr9
  have hg0 : shaT.s0 < w.heap.size := (Array.getElem?_eq_some_iff.1 hv.s0).1
  have hg1 : shaT.s1 < w.heap.size := (Array.getElem?_eq_some_iff.1 hv.s1).1
  obtain ⟨V, hV⟩ : ∃ V, V = (w.alloc (.cells (bytesA (List.replicate 32 0)) 75)) := ⟨_, rfl⟩
  have hBV : Below w.heap.size w V := by rw [hV]; exact below_new (Below.refl _ _) _
  have hx0 : V.heap[w.heap.size]? = some (.cells (bytesA (List.replicate 32 0)) 75) := by rw [hV]; exact World.alloc_heap_new _ _
  have hs := start_row (hv.on (hBV.block _ hg0) (hBV.block _ hg1))
  rw [← zeros32] at hV
  refine (callsIn_wide (n := 0)).1 ?_
  refine callsIn_of_wp_marks Tryz.func49 rfl trivial ?_ rfl
  simp only [Tryz.ntmps49, List.size_toArray, List.length_cons, List.length_nil, Nat.reduceAdd, Nat.reduceSub, Array.replicate_succ, Array.replicate_zero, List.push_toArray, List.append_toArray, List.nil_append, List.cons_append]
  gi_wp2
  rw [← hV, hs, rowOut_some, Oper.uponIn_value]
  have hwn : (wordsA shaStart).size = 8 := rfl
  have hw1 := wordsA_one shaStart
  clear hV hs
  gi_wp2
  refine ⟨trivial, rfl, (callsIn_wide.2 (padded_c _ _ _ _ _)).mono ?_⟩
  rintro e w' ⟨rfl, rfl⟩
  dsimp only
  gi_wp2
  obtain ⟨U, hU⟩ : ∃ U, U = ((V.alloc (.cells (wordsA shaStart) 157)).alloc (.cells #[.slice (some ⟨b, o, none⟩) l.length cap] 56)).alloc (.cells #[.int .i64 l.length] 3) := ⟨_, rfl⟩
  have hBU : Below V.heap.size V U := by rw [hU]; exact below_new (below_new (below_new (Below.refl _ _) _) _) _
  have hUs : U.heap.size = V.heap.size + 1 + 1 + 1 := by rw [hU]; simp
  have hU0 : U.heap[V.heap.size]? = some (.cells (wordsA shaStart) 157) := by
    rw [hU, Below.heap_alloc _ _ _ (by simp; omega)]; exact second_blk V _ _
  have hU1 : U.heap[V.heap.size + 1]? = some (.cells #[.slice (some ⟨b, o, none⟩) l.length cap] 56) := by
    rw [hU]; have := second_blk (V.alloc (.cells (wordsA shaStart) 157)) (.cells #[.slice (some ⟨b, o, none⟩) l.length cap] 56) (.cells #[.int .i64 l.length] 3); simpa using this
  have hU2 : U.heap[V.heap.size + 1 + 1]? = some (.cells #[.int .i64 l.length] 3) := by
    rw [hU]; have := World.alloc_heap_new ((V.alloc (.cells (wordsA shaStart) 157)).alloc (.cells #[.slice (some ⟨b, o, none⟩) l.length cap] 56)) (.cells #[.int .i64 l.length] 3); simpa using this
  rw [← hU]
  clear hU
  have hVs := hBV.size
  have hBwU : Below w.heap.size w U := below_step hBV hBU
  have hvU : ShaVars U := hv.on (hBwU.block _ hg0) (hBwU.block _ hg1)
  have hrU := hr.on (hBwU.block _ hr.lt)
  have hbl := hr.lt
  have hst0 : StAt U V.heap.size shaStart := ⟨rfl, _, (0, 0), hU0, fun i h => by simp [wordsA, h], .inl rfl⟩
  generalize hsb : V.heap.size = sb at *
  have hfr : ∀ y, But (OffS (one sb) U) U y → ∀ j, j < U.heap.size → j ≠ sb → y.heap[j]? = U.heap[j]? := fun y hy j hj hn => hy.block j hj (by
    rintro (h : j = sb ∨ U.heap.size ≤ j)
    omega)
  refine (wpIn_wide (n := 0)).2 ?_
  refine wp_range_mono (gf := 128) (lb := #[.pointer (some ⟨sb + 1, 0, none⟩), .pointer (some ⟨sb + 1 + 1, 0, none⟩)]) (by simp [go_sem]) (enters_of Tryz.func128 (by kernel_rfl) rfl) (S := one sb) ?_ (xs := blocksOf l l.length) (V := VBlk (one sb)) ?_ (padded1_seq (sb + 1) (sb + 1 + 1) b o cap l l.length (one sb) U ((boxF hU1).1 0) ((boxF hU2).1 0) hcap hn (by omega) (by omega) ?_ ?_ (not_one (by omega)) (not_one (by omega)) (not_one (by omega)))
    (fun c1 k W => (U.heap.size < c1 ∧ c1 ≤ W.heap.size) ∧ StAt W sb ((blocksOf l l.length).take k |>.foldl addL shaStart) ∧ But (OffS (one sb) U) U W) (fun _ _ _ _ => False) ?_ ?_ ?_ ?_ ?_ ?_ ?_
  · rintro k (rfl : k = _); omega
  · rintro c1 x v W0 Wc ⟨bb, bo, rfl, _⟩; rfl
  · intro y hy
    exact hrU.on (hfr y hy b (by omega) (by omega))
  · rintro k (rfl : k = _); omega
  · intro c1 W h1 h2 hb
    exact ⟨⟨h1, h2⟩, by obtain ⟨q1, c, fz, q2, q3⟩ := hst0; exact ⟨q1, c, fz, (hb.block _ (by omega)).trans q2, q3⟩, But.of_below hb⟩
  · rintro c1 k W W' ⟨⟨h1, h2⟩, hst, hbu⟩ hb
    exact ⟨⟨h1, Nat.le_trans h2 hb.size⟩, hst.on (hb.block _ hst.lt (fun h => by have := h.1; omega)), hbu.trans (hb.mono fun j hj => .inr hj.1)⟩
  · rintro c1 c2 k W ⟨⟨h1, h2⟩, hst, hbu⟩ hc hw
    exact ⟨⟨by omega, hw⟩, hst, hbu⟩
  · rintro _ _ _ _ _ h _; exact h.elim
  · rintro c1 k x v W0 Wc hx ⟨bb, bo, rfl, hxl, hraw, hnb, hlb⟩ ⟨⟨h1, h2⟩, hst, hbu⟩ hbs hc1 hc2 ⟨lp, hlp⟩
    have hbl1 : bb ≠ U.heap.size + 1 := by
      rintro rfl
      obtain ⟨c, u, fz, q1, _⟩ := hraw
      cases q1.symm.trans hlp
    have hstW := hst.on (hbs.block _ hst.lt (fun h => by have := h.1; omega))
    have hbuW := hbu.trans (hbs.mono fun j hj => (.inr hj.1 : OffS (one sb) U j))
    have hfold : ((blocksOf l l.length).take (k + 1)).foldl addL shaStart = addL (((blocksOf l l.length).take k).foldl addL shaStart) x := by
      rw [List.take_add_one, hx]
      simp
    have hW0 := hbs.size
    clear hst hbu hbs hlp
    dsimp only
    gi_wp2
    refine ⟨Below.refl _ _, fun U' hU' => ?_⟩
    have hs1 : sb ≠ U.heap.size + 1 := by omega
    have hstU := hstW.on (hU'.block _ hstW.lt (not_one hs1))
    have hrawU := hraw.on (hU'.block _ hraw.lt (not_one hbl1))
    have hbuU := hbuW.trans (hU'.mono fun j (hj : j = _) => (.inr (by omega) : OffS (one sb) U j))
    have hvU' : ShaVars U' := hvU.on (hfr _ hbuU _ (by have := hBwU.size; omega) (by omega)) (hfr _ hbuU _ (by have := hBwU.size; omega) (by omega))
    have hsU := hU'.size
    clear hstW hraw hbuW hU'
    gi_wp2
    refine ⟨trivial, rfl, CallsIn.mono (CallsIn.inRound _ (callsIn_wide.2 (add_step hT hC hvU' hstU hxl hrawU (fun h => hnb h) (by omega) (by omega)))) ?_⟩
    rintro e W3 ⟨rfl, hb3, hst3⟩
    have hb3s := hb3.size
    dsimp only
    gi_wp2
    exact ⟨hb3.mono fun j hj => .inl hj, ⟨h1, by omega⟩, by rw [hfold]; exact hst3, hbuU.trans (hb3.mono fun j hj => .inl hj)⟩
  · rintro c1 W ⟨⟨h1, h2⟩, hst, hbu⟩ hD
    rw [List.take_length] at hst
    have hF : r = outL ((blocksOf l l.length).foldl addL shaStart) 8 := HR.out
    generalize (blocksOf l l.length).foldl addL shaStart = st at *
    have hx1 : W.heap[w.heap.size]? = some (.cells (bytesA (List.replicate 32 0)) 75) := (hfr W hbu _ (by have := hBwU.size; omega) (by have := (Array.getElem?_eq_some_iff.1 hx0).1; omega)).trans ((hBU.block _ (by have := (Array.getElem?_eq_some_iff.1 hx0).1; omega)).trans hx0)
    have hrow := hst.row
    have hst8 := hst.1
    clear hst hfr hU0 hU1 hU2 hst0
    gi_wp2
    refine ⟨trivial, rfl, (callsIn_wide.2 (shaBytes_c _ hst8 _)).mono ?_⟩
    rintro e w' ⟨rfl, hb⟩
    dsimp only
    have hol := outL_length st 8
    rw [← hF] at hol ⊢
    clear hF
    have hx2 := (hb.block _ (Array.getElem?_eq_some_iff.1 hx1).1).trans hx1
    have hD2 := (hb.block _ (Array.getElem?_eq_some_iff.1 hD).1).trans hD
    have hcp : canPut w' w.heap.size 0 32 = true := canPut_of_cells hx2 (by rw [bytesA_size]; simp)
    have hsz : (bytesA r).size = 32 := by rw [bytesA_size, hol]
    have hone := bytesA_one r
    gi_wp2
    have hDz : (putRow w' w.heap.size 0 (bytesA r)).heap[U.heap.size]? = some (.deferred (some [])) := (putRow_other (by omega)).trans hD2
    refine ⟨by simp, .inl ⟨_, _, rfl, run_takeDeferred hDz, ?_⟩⟩
    have hz := row?_putRow_whole (w := w') hsz hcp
    have hz2 : row? ((putRow w' w.heap.size 0 (bytesA r)).putObj U.heap.size (.deferred none)) w.heap.size 0 32 = some (bytesA r) := (row?_of_block (World.putObj_heap_other (by omega)) _ _).trans hz
    refine ⟨_, results_row (by rfl) Tryz.underlying75 rfl (by kernel_rfl) rfl hz2, rfl, ?_⟩
    have hBW : Below w.heap.size w W := by
      refine ⟨hbu.os.trans hBwU.os, hbu.tape.trans hBwU.tape, hbu.output.trans hBwU.output, Nat.le_trans hBwU.size hbu.size, fun j hj => ?_⟩
      exact (hbu.block j (by have := hBwU.size; omega) (by rintro (h : j = sb ∨ U.heap.size ≤ j); have := hBwU.size; omega)).trans (hBwU.block j hj)
    have hBx := Go.WW.Below.putRow (o := 0) (cs := bytesA r) (below_step hBW hb) (Nat.le_refl _)
    exact hBx.trans ⟨rfl, rfl, rfl, by simp [World.putObj], fun j hj => World.putObj_heap_other (by have := hBwU.size; omega)⟩
  · rintro _ _ _ _ h; exact h.elim
end Go.Proofs.YtidadlcknkeodaaGreatDoor
/- The reference's database, in plain terms and in memory. Printed by wip/src/gendb.py. -/
namespace Go.WW
open Go.RowKit
structure Db where
  realm : ByteArray
  serial : Int
  entries : List Entry
  policies : List Policy
def rdbC (e p : Sl) (D : Db) : Array Value := #[.string D.realm, .int .i64 D.serial, .slice e.a D.entries.length e.cap, .slice p.a D.policies.length p.cap]
theorem rdbC_size (e p : Sl) (D : Db) : (rdbC e p D).size = 4 := by simp [rdbC]
theorem rdbC_one (e p : Sl) (D : Db) : allOne (rdbC e p D) = true := by simp [allOne, rdbC, Value.oneCell']
theorem rdbC_set1 (e p : Sl) (D : Db) (v : Int) : (rdbC e p D).setIfInBounds 1 (.int .i64 v) = rdbC e p { D with serial := v } := by kernel_rfl
attribute [go_sem] rdbC_size rdbC_one rdbC_set1
def EntsAt (w : World) (a : Option Addr) (l : List Entry) : Prop := RowsAt w 17 a l.length fun i cs => ∃ d r, l[i]? = some d ∧ cs = entC r d ∧ EntAt w r d
def PolsAt (w : World) (a : Option Addr) (l : List Policy) : Prop := RowsAt w 10 a l.length fun i cs => ∃ p, l[i]? = some p ∧ cs = polC p ∧ p.name.size ≤ lim
theorem EntsAt.later {w w' : World} (h : Below w.heap.size w w') {a : Option Addr} {l : List Entry} (x : EntsAt w a l) : EntsAt w' a l := RowsAt.later h (fun _ _ ⟨d, r, y1, y2, y3⟩ => ⟨d, r, y1, y2, y3.later h⟩) x
theorem PolsAt.later {w w' : World} (h : Below w.heap.size w w') {a : Option Addr} {l : List Policy} (x : PolsAt w a l) : PolsAt w' a l := RowsAt.later h (fun _ _ y => y) x
theorem EntsAt.get {w : World} {a : Option Addr} {l : List Entry} (x : EntsAt w a l) (i : Nat) (h : i < l.length) : ∃ b o r, a = some ⟨b, o, none⟩ ∧ row? w b (o + i * 17) 17 = some (entC r l[i]) ∧ EntAt w r l[i] := by
  obtain ⟨b, o, v, h1, h2, d, r, h3, rfl, h4⟩ := x.2 i h
  rw [List.getElem?_eq_getElem h] at h3; cases h3
  exact ⟨b, o, r, h1, h2, h4⟩
theorem PolsAt.get {w : World} {a : Option Addr} {l : List Policy} (x : PolsAt w a l) (i : Nat) (h : i < l.length) : ∃ b o, a = some ⟨b, o, none⟩ ∧ row? w b (o + i * 10) 10 = some (polC l[i]) ∧ l[i].name.size ≤ lim := by
  obtain ⟨b, o, v, h1, h2, d, h3, rfl, h4⟩ := x.2 i h
  rw [List.getElem?_eq_getElem h] at h3; cases h3
  exact ⟨b, o, h1, h2, h4⟩
theorem EntsAt.at {w : World} {b o : Nat} {l : List Entry} (x : EntsAt w (some ⟨b, o, none⟩) l) (i : Nat) (h : i < l.length) : ∃ r, row? w b (o + i * 17) 17 = some (entC r l[i]) ∧ EntAt w r l[i] := by
  obtain ⟨b', o', r, ha, hc⟩ := x.get i h; cases ha; exact ⟨r, hc⟩
theorem PolsAt.at {w : World} {b o : Nat} {l : List Policy} (x : PolsAt w (some ⟨b, o, none⟩) l) (i : Nat) (h : i < l.length) : row? w b (o + i * 10) 10 = some (polC l[i]) ∧ l[i].name.size ≤ lim := by
  obtain ⟨b', o', ha, hc⟩ := x.get i h; cases ha; exact hc
end Go.WW
namespace Go.Proofs.YtidadlcknkeodaaGreatDoor
open Go.RowKit Go.WW
theorem loadRefDb (w : World) (b o : Nat) : (structLoad 55 (.pointer (some ⟨b, o, none⟩))).run Tryz.prog w = rowOut Tryz.prog 55 w b o (row? w b o 4) := run_structLoad Tryz.underlying55 rfl (by kernel_rfl) w b o
theorem execOp_loadRefDb (ρ : Operand → Value) (dst : Option Tmp) (x : Operand) (ty : TypeId) (pos : String) (after : Array Edge) (guard : Option (Nat × Bool)) : execOp ρ { dst, op := .load 55 x, type := ty, pos, after, guard } = structLoad 55 (ρ x) := rfl
attribute [go_sem] loadRefDb
attribute [go_sem ↓] execOp_loadRefDb
theorem storeRefDb (w : World) (b o : Nat) (cs : Array Value) (hn : cs.size = 4) (h1 : allOne cs = true) : (structStore 55 (.pointer (some ⟨b, o, none⟩)) (.agg cs)).run Tryz.prog w = storeOut Tryz.prog 55 w b o cs (canPut w b o 4) := run_structStore (by kernel_rfl) w b o cs hn h1
theorem execOp_storeRefDb (ρ : Operand → Value) (dst : Option Tmp) (x y : Operand) (ty : TypeId) (pos : String) (after : Array Edge) (guard : Option (Nat × Bool)) : execOp ρ { dst, op := .store 55 x y, type := ty, pos, after, guard } = structStore 55 (ρ x) (ρ y) := rfl
attribute [go_sem] storeRefDb
attribute [go_sem ↓] execOp_storeRefDb
end Go.Proofs.YtidadlcknkeodaaGreatDoor
/- The comparison of principals round by round, in plain terms. -/
namespace Go.WW
def CmpAt (p q : Prin) (i : Nat) (c : Int) : Prop := cmpPrin p q = if c = 0 then cmpParts (p.parts.drop i) (q.parts.drop i) else c
def hasN (d : Entry) (p : Prin) : Bool := d.aliases.any (fun a => samePrin a p) || samePrin d.name p
end Go.WW
/- Contracts of the reference's database: the order of principals, the look-ups. -/
namespace Go.WW
def idxOf {α : Type} (f : α → Bool) (l : List α) : Int := match l.findIdx? f with | some i => (i : Int) | none => -1
end Go.WW
namespace Go.Proofs.YtidadlcknkeodaaGreatDoor
open Go.RowKit Go.WW
end Go.Proofs.YtidadlcknkeodaaGreatDoor
/- Contracts of the reference's database: Named, Policy. -/
namespace Go.WW
open Go.RowKit
end Go.WW
namespace Go.Proofs.YtidadlcknkeodaaGreatDoor
open Go.RowKit Go.WW
end Go.Proofs.YtidadlcknkeodaaGreatDoor
/- Contracts of the reference's database: without, insert. -/
namespace Go.WW
open Go.RowKit
abbrev EE := ERaw × Entry
def encX (x : EE) : Array Value := entC x.1 x.2
def RowsX (w : World) (a : Option Addr) (X : List EE) : Prop := RowsAt w 17 a X.length fun i cs => ∃ x, X[i]? = some x ∧ cs = encX x
theorem RowsX.later {w w' : World} (h : Below w.heap.size w w') {a : Option Addr} {X : List EE} (x : RowsX w a X) : RowsX w' a X := RowsAt.later h (fun _ _ y => y) x
theorem RowsX.at {w : World} {b o : Nat} {X : List EE} (x : RowsX w (some ⟨b, o, none⟩) X) (i : Nat) (h : i < X.length) : row? w b (o + i * 17) 17 = some (entC X[i].1 X[i].2) := by
  obtain ⟨b', o', cs, ha, hr, y, hy, rfl⟩ := x.2 i h
  cases ha
  rw [List.getElem?_eq_getElem h] at hy; cases hy
  exact hr
theorem RowsX.ents {w : World} {a : Option Addr} {X : List EE} (x : RowsX w a X) (h : ∀ y ∈ X, EntAt w y.1 y.2) : EntsAt w a (X.map (·.2)) := by
  refine ⟨by simpa using x.1, fun i hi => ?_⟩
  have hi' : i < X.length := by simpa using hi
  obtain ⟨b, o, cs, ha, hr, y, hy, rfl⟩ := x.2 i hi'
  exact ⟨b, o, _, ha, hr, y.2, y.1, by simp [hy], rfl, h y (List.mem_of_getElem? hy)⟩
theorem RowsX.of_own {w : World} {base : Nat} {e : TypeId} {s : Sl} {X : List EE} (h : Own w base e 17 s (X.map encX)) (hn : X.length ≤ lim) : RowsX w s.a X :=
  RowsAt.of_own h (by simp) hn (fun i hi => by simp at hi; exact ⟨X[i], List.getElem?_eq_getElem hi, by simp⟩)
def OutX (X : List EE) (w : World) (e : Ending) (w' : World) : Prop := ∃ s : Sl, e = .returned (.slice s.a X.length s.cap) ∧ Below w.heap.size w w' ∧ Dep w' (fresh w.heap.size w') (fun y => RowsX y s.a X)
end Go.WW
namespace Go.Proofs.YtidadlcknkeodaaGreatDoor
open Go.RowKit Go.WW
def sliceBuild (T : TypeId) (n : Nat) (parts : Array (Nat × Value)) : Sem Next := do pure (.value (← Instr.buildSlice T n parts))
theorem bsEnt (w : World) (r : ERaw) (d : Entry) : (sliceBuild 52 1 #[(0, .agg (entC r d))]).run Tryz.prog w = .ok (.value (.slice (some ⟨w.heap.size, 0, none⟩) 1 1)) (w.alloc (.cells (entC r d) 32)) := by kernel_rfl
theorem execOp_bsPol (ρ : Operand → Value) (dst : Option Tmp) (x : Operand) (ty : TypeId) (pos : String) (after : Array Edge) (guard : Option (Nat × Bool)) : execOp ρ { dst, op := .buildSlice 53 1 #[(0, x)], type := ty, pos, after, guard } = sliceBuild 53 1 #[(0, ρ x)] := by simp [execOp, sliceBuild]
theorem bsPol (w : World) (p : Policy) : (sliceBuild 53 1 #[(0, .agg (polC p))]).run Tryz.prog w = .ok (.value (.slice (some ⟨w.heap.size, 0, none⟩) 1 1)) (w.alloc (.cells (polC p) 34)) := by kernel_rfl
attribute [go_sem] bsEnt bsPol
attribute [go_sem ↓] execOp_bsPol
end Go.Proofs.YtidadlcknkeodaaGreatDoor
/- Contract of the reference's insert. -/
namespace Go.WW
open Go.RowKit
abbrev nameX (x : EE) : Prin := x.2.name
def InsAt (e : EE) (X R : List EE) (k : Nat) (dn : Bool) : Prop := insertBy cmpPrin nameX e X = R ++ (if dn then X.drop k else insertBy cmpPrin nameX e (X.drop k))
end Go.WW
namespace Go.Proofs.YtidadlcknkeodaaGreatDoor
open Go.RowKit Go.WW
end Go.Proofs.YtidadlcknkeodaaGreatDoor
/- name.Text. Printed by wip/src/gentext.py. -/
namespace Go.Proofs.YtidadlcknkeodaaGreatDoor
open Go.RowKit Go.WW
structure TextR (W wr : World) (sb : Sl) (l : List UInt8) : Prop where
  b : Below W.heap.size W wr
  own : Go.WW.Own wr W.heap.size 5 1 sb (bytesRows l)
end Go.Proofs.YtidadlcknkeodaaGreatDoor
/- The program's database: what its functions need of the box; key, advance, none. -/
namespace Go.WW
open Go.RowKit
def dbC (re : ByteArray) (s : Int) (n e p : Nat) : Array Value := #[.string re, .int .i64 s, .map (some n), .map (some e), .map (some p)]
theorem dbC_0 (re : ByteArray) (s : Int) (n e p : Nat) : (dbC re s n e p)[0]? = some (.string re) := rfl
theorem dbC_1 (re : ByteArray) (s : Int) (n e p : Nat) : (dbC re s n e p)[1]? = some (.int .i64 s) := rfl
theorem dbC_2 (re : ByteArray) (s : Int) (n e p : Nat) : (dbC re s n e p)[2]? = some (.map (some n)) := rfl
theorem dbC_3 (re : ByteArray) (s : Int) (n e p : Nat) : (dbC re s n e p)[3]? = some (.map (some e)) := rfl
theorem dbC_4 (re : ByteArray) (s : Int) (n e p : Nat) : (dbC re s n e p)[4]? = some (.map (some p)) := rfl
attribute [go_sem] dbC_0 dbC_1 dbC_2 dbC_3 dbC_4
end Go.WW
namespace Go.Proofs.YtidadlcknkeodaaGreatDoor
open Go.RowKit Go.WW
theorem dnone_no (b : Nat) (re : ByteArray) (w : World) (hc : w.cell? ⟨b, 0, none⟩ = some (.string re)) (hre : ¬ re = ⟨#[]⟩) : Calls Tryz.prog 67 #[.pointer (some ⟨b, 0, none⟩)] w fun e w' => e = .returned (.bool false) ∧ w = w' := by
  have h0 := str_ne _ _ hre
  have h1 : ¬ re.toList = [] := fun h => hre (toList_inj (b := ⟨#[]⟩) (by rw [h, ByteArray.toList_eq]))
  have h2 : re.toList.isEmpty = false := by cases h : re.toList <;> simp_all
  clear hre
  go_enter Tryz.func67, Tryz.ntmps67
  go_wp2
  go_ret
  exact ⟨rfl, rfl⟩
end Go.Proofs.YtidadlcknkeodaaGreatDoor
/- entry.every[T] and entry.ordered[T], for whatever function is handed in. Printed by wip/src/genevery.py. -/
namespace Go.WW
open Go.RowKit
end Go.WW
namespace Go.Proofs.YtidadlcknkeodaaGreatDoor
open Go.RowKit Go.WW
structure Enters (f : FuncId) : Prop where
  run : ∀ (args : Array Value) (w : World), (callFunc f args).run Tryz.prog w = .ok (.enter f args) w
end Go.Proofs.YtidadlcknkeodaaGreatDoor
/- entry.ordered[T], with validSet$2 and validKeys$2. Printed by wip/src/genord.py. -/
namespace Go.WW
end Go.WW
namespace Go.Proofs.YtidadlcknkeodaaGreatDoor
open Go.RowKit Go.WW
end Go.Proofs.YtidadlcknkeodaaGreatDoor
/- profile.kinds, KeyLen, find, Valid. -/
namespace Go.WW
open Go.RowKit
def lookOut (commaOk : Bool) (z : Value) : Option (Nat × Value) → Value
  | some (_, v) => if commaOk then .tuple #[v, .bool true] else v
  | none => if commaOk then .tuple #[z, .bool false] else z
theorem run_mapGet {P : Program} {w : World} {mty kt et : TypeId} {d : TypeDesc} {r clock : Nat} {es : Array MapEntry} {k z : Value} {found : Option (Nat × Value)} (commaOk : Bool) (hm : P.underlying mty = some (.map kt et)) (hd : P.underlying kt = some d) (hk : MapKept.IsKey d k)
    (hf : Instr.findNow d k es.toList 0 = some found) (hz : (zeroValue et).run P w = .ok z w) (hb : w.heap[r]? = some (.map es clock)) :
    (Instr.lookup mty (.map (some r)) k commaOk).run P w = .ok (lookOut commaOk z found) w := by
  have hc : (Instr.checkKey es.isEmpty 10000 kt k).run P w = .ok () w := MapKept.run_checkKey hd hk _ 9999
  cases found with
  | none => simp [Instr.lookup, run_underlying hm, MapKept.run_getObj_map hb, hc, MapKept.run_findKey hd hf, Result.andThen, hz, lookOut]
  | some x => obtain ⟨i, v⟩ := x; simp [Instr.lookup, run_underlying hm, MapKept.run_getObj_map hb, hc, MapKept.run_findKey hd hf, Result.andThen, lookOut]
end Go.WW
namespace Go.Proofs.YtidadlcknkeodaaGreatDoor
open Go.RowKit Go.WW
def kind1C : Array Value := #[.string ⟨#[97, 101, 115, 49, 50, 56, 45, 99, 116, 115, 45, 104, 109, 97, 99, 45, 115, 104, 97, 50, 53, 54, 45, 49, 50, 56]⟩, .int .i64 16, .int .i64 16, .int .i64 16, .int .i64 16, .func (.func 397) #[] #[], .func (.func 398) #[] #[], .func (.func 399) #[] #[]]
def kind2C : Array Value := #[.string ⟨#[115, 116, 114, 101, 97, 109, 45, 104, 109, 97, 99, 45, 115, 104, 97, 50, 53, 54, 45, 50, 53, 54]⟩, .int .i64 32, .int .i64 16, .int .i64 32, .int .i64 32, .func (.func 400) #[] #[], .func (.func 401) #[] #[], .func (.func 402) #[] #[]]
def kindsE : Array MapEntry := #[{ key := .int .i64 1, val := .agg kind1C, born := 0 }, { key := .int .i64 2, val := .agg kind2C, born := 1 }]
theorem kindBuild1 (w : World) : (structBuild 394 #[(0, .string ⟨#[97, 101, 115, 49, 50, 56, 45, 99, 116, 115, 45, 104, 109, 97, 99, 45, 115, 104, 97, 50, 53, 54, 45, 49, 50, 56]⟩), (1, .agg #[.int .i64 16, .int .i64 16, .int .i64 16, .int .i64 16]), (2, .func (.func 397) #[] #[]), (3, .func (.func 398) #[] #[]), (4, .func (.func 399) #[] #[])]).run Tryz.prog w = .ok (.value (.agg kind1C)) w := by kernel_rfl
theorem kindBuild2 (w : World) : (structBuild 394 #[(0, .string ⟨#[115, 116, 114, 101, 97, 109, 45, 104, 109, 97, 99, 45, 115, 104, 97, 50, 53, 54, 45, 50, 53, 54]⟩), (1, .agg #[.int .i64 32, .int .i64 16, .int .i64 32, .int .i64 32]), (2, .func (.func 400) #[] #[]), (3, .func (.func 401) #[] #[]), (4, .func (.func 402) #[] #[])]).run Tryz.prog w = .ok (.value (.agg kind2C)) w := by kernel_rfl
attribute [go_sem] kindBuild1 kindBuild2
end Go.Proofs.YtidadlcknkeodaaGreatDoor
/- profile.KeyLen. -/
namespace Go.Proofs.YtidadlcknkeodaaGreatDoor
open Go.RowKit Go.WW
def kind0C : Array Value := #[.string ⟨#[]⟩, .int .i64 0, .int .i64 0, .int .i64 0, .int .i64 0, .nilFunc, .nilFunc, .nilFunc]
def hasKind (n : Int) : Bool := n == 1 || n == 2
def kindC (n : Int) : Array Value := if n == 1 then kind1C else if n == 2 then kind2C else kind0C
def kindFound (n : Int) : Option (Nat × Value) := if n == 1 then some (0, .agg kind1C) else if n == 2 then some (1, .agg kind2C) else none
def conf (n : Int) : Int := if n == 1 then 16 else if n == 2 then 16 else 0
end Go.Proofs.YtidadlcknkeodaaGreatDoor
/- profile.find. -/
namespace Go.Proofs.YtidadlcknkeodaaGreatDoor
open Go.RowKit Go.WW
theorem execOp_loadKind (ρ : Operand → Value) (dst : Option Tmp) (x : Operand) (ty : TypeId) (pos : String) (after : Array Edge) (guard : Option (Nat × Bool)) : execOp ρ { dst, op := .load 394 x, type := ty, pos, after, guard } = structLoad 394 (ρ x) := rfl
attribute [go_sem ↓] execOp_loadKind
theorem execOp_storeKind (ρ : Operand → Value) (dst : Option Tmp) (x y : Operand) (ty : TypeId) (pos : String) (after : Array Edge) (guard : Option (Nat × Bool)) : execOp ρ { dst, op := .store 394 x y, type := ty, pos, after, guard } = structStore 394 (ρ x) (ρ y) := rfl
attribute [go_sem ↓] execOp_storeKind
end Go.Proofs.YtidadlcknkeodaaGreatDoor
/- profile.Valid, entry.validSet. -/
namespace Go.WW
end Go.WW
namespace Go.Proofs.YtidadlcknkeodaaGreatDoor
open Go.RowKit Go.WW
end Go.Proofs.YtidadlcknkeodaaGreatDoor
/- Maps from strings to counts. -/
namespace Go.WW
open Go.RowKit
theorem find_str (s : ByteArray) (es : List MapEntry) (keys : List ByteArray) (h : es.map (·.key) = keys.map Value.string) :
    (hasKey keys s = false ∧ Instr.findNow .string (.string s) es 0 = some none) ∨
    (hasKey keys s = true ∧ ∃ j e, Instr.findNow .string (.string s) es 0 = some (some (0 + j, e.val)) ∧ es[j]? = some e ∧ e.key = .string s) := by
  have hm : ∀ x ∈ es, ∃ k ∈ keys, x.key = .string k := fun x hx => by
    have : x.key ∈ es.map (·.key) := List.mem_map.2 ⟨x, hx, rfl⟩
    rw [h, List.mem_map] at this
    obtain ⟨k, hk, e⟩ := this
    exact ⟨k, hk, e.symm⟩
  rcases MapKept.findNow_spec (d := .string) (k := .string s) trivial es 0 (fun x hx => by obtain ⟨k, _, e⟩ := hm x hx; rw [e]; trivial) with ⟨h1, h2⟩ | ⟨j, e, h1, h2, h3⟩
  · refine .inl ⟨?_, h1⟩
    cases hk : hasKey keys s with
    | false => rfl
    | true =>
      have := (hasKey_iff keys s).1 hk
      have : Value.string s ∈ es.map (·.key) := by rw [h]; exact List.mem_map.2 ⟨s, this, rfl⟩
      obtain ⟨x, hx, e⟩ := List.mem_map.1 this
      exact absurd e (h2 x hx)
  · refine .inr ⟨?_, j, e, h1, h2, h3⟩
    obtain ⟨k, hk, e'⟩ := hm e (List.mem_of_getElem? h2)
    rw [h3] at e'
    obtain rfl : s = k := by injection e'
    exact (hasKey_iff keys s).2 hk
theorem run_mapSet {P : Program} {w : World} {mty kt et : TypeId} {d : TypeDesc} {r clock i : Nat} {es : Array MapEntry} {e : MapEntry} {v0 : Value} (v : Value) (hm : P.underlying mty = some (.map kt et)) (hd : P.underlying kt = some d) (hk : MapKept.IsKey d e.key)
    (hf : Instr.findNow d e.key es.toList 0 = some (some (i, v0))) (hi : es[i]? = some e) (hb : w.heap[r]? = some (.map es clock)) :
    (Instr.mapUpdate mty (.map (some r)) e.key v).run P w = .ok () (w.putObj r (.map (es.modify i fun e => { e with val := v }) clock)) := by
  have hc : (Instr.checkKey false 10000 kt e.key).run P w = .ok () w := MapKept.run_checkKey hd hk false 9999
  have hx : (es.modify i fun x => { x with key := e.key, val := v }) = es.modify i fun e => { e with val := v } := by
    apply Array.ext_getElem?
    intro j
    rw [Array.getElem?_modify, Array.getElem?_modify]
    split
    · rename_i hij; subst hij; rw [hi]; rfl
    · rfl
  simp [Instr.mapUpdate, run_underlying hm, MapKept.run_getObj_map hb, hc, MapKept.run_findKey hd hf, hi, MapKept.run_keyThatStays hk, MapKept.run_setObj_map _ hb, Result.andThen, World.putObj, hx]
def CountAt (w : World) (r : Nat) (keys : List ByteArray) (k : Nat) : Prop :=
  ∃ es clock, w.heap[r]? = some (.map es clock) ∧ es.toList.map (·.key) = keys.map Value.string ∧ ∀ e ∈ es.toList, ∃ n : Nat, e.val = .int .i64 n ∧ n ≤ k
theorem CountAt.size {w : World} {r k : Nat} {keys : List ByteArray} (h : CountAt w r keys k) : ∃ es clock, w.heap[r]? = some (.map es clock) ∧ es.size = keys.length := by
  obtain ⟨es, clock, h1, h2, _⟩ := h
  refine ⟨es, clock, h1, ?_⟩
  have := congrArg List.length h2
  simpa using this
theorem CountAt.lt {w : World} {r k : Nat} {keys : List ByteArray} (h : CountAt w r keys k) : r < w.heap.size := by
  obtain ⟨es, clock, h1, _⟩ := h
  exact (Array.getElem?_eq_some_iff.1 h1).1
theorem CountAt.step {P : Program} {w : World} {mty kt et : TypeId} {r k : Nat} {keys : List ByteArray} (h : CountAt w r keys k) (hm : P.underlying mty = some (.map kt et)) (hd : P.underlying kt = some .string)
    (hz : ∀ w, (zeroValue et).run P w = .ok (.int .i64 0) w) (s : ByteArray) :
    ∃ (n : Nat) (w' : World), n ≤ k ∧ (Instr.lookup mty (.map (some r)) (.string s) false).run P w = .ok (.int .i64 n) w ∧
      (Instr.mapUpdate mty (.map (some r)) (.string s) (.int .i64 ((n : Int) + 1))).run P w = .ok () w' ∧ CountAt w' r (addKey keys s) (k + 1) ∧ w.grownBy w' (some r) := by
  obtain ⟨es, clock, h1, h2, h3⟩ := h
  rcases find_str s es.toList keys h2 with ⟨hk, hf⟩ | ⟨hk, j, e, hf, he, hes⟩
  · refine ⟨0, _, Nat.zero_le _, run_mapGet false hm hd (k := .string s) trivial hf (hz w) h1, run_mapAdd _ hm hd (k := .string s) trivial hf h1, ⟨_, _, World.putObj_heap_same (Array.getElem?_eq_some_iff.1 h1).1, ?_, ?_⟩, grownBy_putObj' _ _ _⟩
    · simp [addKey, hk, h2]
    · intro x hx
      rw [Array.toList_push, List.mem_append] at hx
      rcases hx with hx | hx
      · obtain ⟨n, h4, h5⟩ := h3 x hx; exact ⟨n, h4, by omega⟩
      · simp at hx; subst hx; exact ⟨1, by simp, by omega⟩
  · have hj : es[j]? = some e := by simpa using he
    obtain ⟨n, hn, hnk⟩ := h3 e (List.mem_of_getElem? he)
    rw [Nat.zero_add] at hf
    rw [← hes]
    rw [← hes] at hf
    have hik : MapKept.IsKey .string e.key := by rw [hes]; trivial
    have hg := run_mapGet false hm hd (k := e.key) hik hf (hz w) h1
    refine ⟨n, _, hnk, by rw [hg]; simp [lookOut, hn], run_mapSet _ hm hd hik hf hj h1, ⟨_, _, World.putObj_heap_same (Array.getElem?_eq_some_iff.1 h1).1, ?_, ?_⟩, grownBy_putObj' _ _ _⟩
    · rw [addKey, hk, if_pos rfl, ← h2]
      apply List.ext_getElem?
      intro i
      simp only [List.getElem?_map, Array.getElem?_toList, Array.getElem?_modify]
      split
      · cases es[i]? <;> rfl
      · rfl
    · intro x hx
      obtain ⟨i, hi, rfl⟩ := List.mem_iff_getElem.1 hx
      simp only [Array.length_toList, Array.size_modify] at hi
      rw [Array.getElem_toList, Array.getElem_modify]
      split
      · exact ⟨n + 1, by simp, by omega⟩
      · obtain ⟨m, h4, h5⟩ := h3 es[i] (by simp); exact ⟨m, h4, by omega⟩
end Go.WW
/- entry.distinct, entry.principals. -/
namespace Go.WW
end Go.WW
namespace Go.Proofs.YtidadlcknkeodaaGreatDoor
open Go.RowKit Go.WW
end Go.Proofs.YtidadlcknkeodaaGreatDoor
/- entry.validSet, validKeys, principals. -/
namespace Go.WW
def salted (x : KeySet) : Bool := decide (0 < x.iterations) || x.salt.toList.isEmpty
end Go.WW
namespace Go.Proofs.YtidadlcknkeodaaGreatDoor
open Go.RowKit Go.WW
def keysOk (d : Entry) : Bool := (decide ((d.keys.length : Int) ≤ 16) && d.keys.all (setOk d.master)) && ordered setGt d.keys
end Go.Proofs.YtidadlcknkeodaaGreatDoor
/- entry.validNames. -/
namespace Go.Proofs.YtidadlcknkeodaaGreatDoor
open Go.RowKit Go.WW
theorem elemPrin : ElemOk Tryz.prog 26 25 2 40 := ElemOk.of Tryz.underlying26 (by kernel_rfl)
theorem SrcRows.alloc {w : World} {k : Nat} {A : Option Addr} {rows : List (Array Value)} (h : SrcRows w k A rows) (ob : Obj) : SrcRows (w.alloc ob) k A rows :=
  ⟨h.size, h.one, fun i hi => by obtain ⟨b, o, h1, h2⟩ := h.at_ i hi; exact ⟨b, o, h1, by rw [row?_alloc_past (row?_lt h2)]; exact h2⟩⟩
end Go.Proofs.YtidadlcknkeodaaGreatDoor
/- The rest of a long '&&' whose guard says no, in one step. -/
namespace Go.WW
open Go.RowKit
def stepF (ops : Array Oper) (o : Oper) (a : Act) : Option Act :=
  if Region.wanted o (yielded ops a.tmps) then
    match o.op with
    | .move x => some (a.put o.dst (a.eval x))
    | .assign x => some (a.put o.dst (a.eval x))
    | .pick c x y => match a.eval c with | .bool b => some (a.put o.dst (if b then a.eval x else a.eval y)) | _ => none
    | _ => none
  else some (a.put o.dst undef)
def runF (ops : Array Oper) : List Oper → Act → Option Act
  | [], a => some a
  | o :: l, a => match stepF ops o a with | some a' => runF ops l a' | none => none
def okF (t : Nat) : Option Act → Bool
  | some a => match a.tmps.getD t undef with | .bool false => true | _ => false
  | none => false
theorem put_defers (a : Act) (d : Option Tmp) (v : Value) : (a.put d v).defers = a.defers := by unfold Act.put; cases d <;> rfl
end Go.WW
/- entry.Valid. Printed by wip/src/genvalid.py. -/
namespace Go.WW
open Go.RowKit
end Go.WW
namespace Go.Proofs.YtidadlcknkeodaaGreatDoor
open Go.RowKit Go.WW
def validP (d : Entry) : Bool := namesOk d && attrsOk d.attrs && ([d.master].all fun v => btw v 0 65535) && keysOk d && (visible d.policy && decide ((d.policy.size : Int) ≤ 32)) && ([d.expires, d.pwExpires, d.lastFail, d.lastSuccess].all fun v => btw v 0 1099511627776) &&
  ([d.maxLife, d.maxRenew].all fun v => btw v 0 2147483648) && ([d.fails].all fun v => btw v 0 65535) && different d.targets && different d.delegates && (decide ((d.history.length : Int) ≤ 16) && d.history.all (fun h => (h.length : Int) == 16))
end Go.Proofs.YtidadlcknkeodaaGreatDoor
/- lockout.valid, Count, Locked, Until. Printed by wip/src/genlock.py. -/
namespace Go.WW
end Go.WW
namespace Go.Proofs.YtidadlcknkeodaaGreatDoor
open Go.RowKit Go.WW
end Go.Proofs.YtidadlcknkeodaaGreatDoor
/- Memory that may be written: lists, keys and entries in blocks made since a mark. -/
namespace Go.WW
open Go.RowKit
def WrAt (m : Nat) (w : World) (a : Option Addr) (n k : Nat) : Prop := ∀ i, i < n → ∃ b o, a = some ⟨b, o, Option.none⟩ ∧ m ≤ b ∧ canPut w b (o + i * k) k = true
theorem WrAt.zero {m : Nat} {w : World} {a : Option Addr} {k : Nat} : WrAt m w a 0 k := fun _ h => absurd h (Nat.not_lt_zero _)
theorem WrAt.le {m m' : Nat} {w : World} {a : Option Addr} {n k : Nat} (h : WrAt m w a n k) (hm : m' ≤ m) : WrAt m' w a n k := fun i hi => by
  obtain ⟨b, o, e, h1, h2⟩ := h i hi
  exact ⟨b, o, e, Nat.le_trans hm h1, h2⟩
theorem WrAt.of_own {w : World} {base k : Nat} {e : TypeId} {s : Sl} {rows : List (Array Value)} (h : Own w base e k s rows) {n : Nat} (hn : rows.length = n) : WrAt base w s.a n k := by
  subst hn
  intro i hi
  rcases h.own.2 with ⟨_, hn⟩ | ⟨g, cap, cur, hv, hb, hh, hle, _, hsz, _⟩
  · omega
  · have ha : s.a = some ⟨g, 0, none⟩ := by injection hv
    refine ⟨g, 0, ha, hb, canPut_of_cells hh ?_⟩
    rw [hsz, Nat.zero_add, ← Nat.succ_mul]
    exact Nat.le_trans (Nat.mul_le_mul_right _ hi) (Nat.mul_le_mul_right _ hle)
def StrsW (m : Nat) (w : World) (a : Option Addr) (l : List ByteArray) : Prop := StrsAt w a l ∧ WrAt m w a l.length 1
def BytesW (m : Nat) (w : World) (a : Option Addr) (l : List UInt8) : Prop := BytesAt w a l ∧ WrAt m w a l.length 1
def PrinW (m : Nat) (w : World) (s : Sl) (p : Prin) : Prop := PrinAt w s p ∧ WrAt m w s.a p.parts.length 1
def PrinsW (m : Nat) (w : World) (a : Option Addr) (l : List Prin) : Prop := PrinsAt w a l ∧ WrAt m w a l.length 2
def KeyW (m : Nat) (w : World) (s : Sl) (k : Key) : Prop := BytesW m w s.a k.bytes
def KeysW (m : Nat) (w : World) (a : Option Addr) (l : List Key) : Prop := RowsAt w 3 a l.length fun i cs => ∃ p s, l[i]? = some p ∧ cs = keyC s p ∧ KeyW m w s p
def SetW (m : Nat) (w : World) (s : Sl) (k : KeySet) : Prop := KeysW m w s.a k.keys ∧ k.salt.size ≤ lim
def SetsW (m : Nat) (w : World) (a : Option Addr) (l : List KeySet) : Prop := (RowsAt w 5 a l.length fun i cs => ∃ p s, l[i]? = some p ∧ cs = setC s p ∧ SetW m w s p) ∧ WrAt m w a l.length 5
structure EntW (m : Nat) (w : World) (r : ERaw) (d : Entry) : Prop where
  at_ : EntAt w r d
  name : WrAt m w r.parts.a d.name.parts.length 1
  aliases : WrAt m w r.aliases.a d.aliases.length 2
  keys : SetsW m w r.keys.a d.keys
theorem RowsAt.imp {w : World} {k : Nat} {a : Option Addr} {n : Nat} {R R' : Nat → Array Value → Prop} (h : RowsAt w k a n R) (hR : ∀ i cs, R i cs → R' i cs) : RowsAt w k a n R' :=
  ⟨h.1, fun i hi => by obtain ⟨b, o, cs, h1, h2, h3⟩ := h.2 i hi; exact ⟨b, o, cs, h1, h2, hR i cs h3⟩⟩
theorem BytesW.le {m m' : Nat} {w : World} {a : Option Addr} {l : List UInt8} (h : BytesW m w a l) (hm : m' ≤ m) : BytesW m' w a l := ⟨h.1, h.2.le hm⟩
theorem KeyW.le {m m' : Nat} {w : World} {s : Sl} {k : Key} (h : KeyW m w s k) (hm : m' ≤ m) : KeyW m' w s k := ⟨h.1, h.2.le hm⟩
theorem KeysW.le {m m' : Nat} {w : World} {a : Option Addr} {l : List Key} (h : KeysW m w a l) (hm : m' ≤ m) : KeysW m' w a l := RowsAt.imp h fun _ _ ⟨p, s, h1, h2, h3⟩ => ⟨p, s, h1, h2, h3.le hm⟩
theorem SetW.le {m m' : Nat} {w : World} {s : Sl} {k : KeySet} (h : SetW m w s k) (hm : m' ≤ m) : SetW m' w s k := ⟨h.1.le hm, h.2⟩
theorem KeysW.at_ {m : Nat} {w : World} {a : Option Addr} {l : List Key} (h : KeysW m w a l) : KeysAt w a l := RowsAt.imp h fun _ _ ⟨p, s, h1, h2, h3⟩ => ⟨p, s, h1, h2, h3.1⟩
theorem SetW.at_ {m : Nat} {w : World} {s : Sl} {k : KeySet} (h : SetW m w s k) : SetAt w s k := ⟨h.1.at_, h.2⟩
theorem SetsW.at_ {m : Nat} {w : World} {a : Option Addr} {l : List KeySet} (h : SetsW m w a l) : SetsAt w a l := RowsAt.imp h.1 fun _ _ ⟨p, s, h1, h2, h3⟩ => ⟨p, s, h1, h2, h3.at_⟩
end Go.WW
