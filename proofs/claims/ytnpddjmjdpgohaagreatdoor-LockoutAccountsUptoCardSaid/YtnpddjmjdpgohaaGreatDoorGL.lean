/- Part L of the proof about watchword's lockout: texts V1 V2 Src V3 Fall. -/
import Derived.Test.YtnpddjmjdpgohaaGreatDoorGJ
import Derived.Test.YtnpddjmjdpgohaaGreatDoorGK
import Derived.RangeFuncOwn

namespace Go.WW
theorem keyFits_1 {m v : Int} {k : Key} (h : (k.version != v) = true) : keyFits m v k = false := by rw [keyFits, h]; simp
theorem keyFits_2 {m v : Int} {k : Key} (h : (keyLen k.profile == 0) = true) : keyFits m v k = false := by rw [keyFits, h]; simp
theorem keyFits_3 {m v : Int} {k : Key} (h : (k.version != v) = false) (h2 : (keyLen k.profile == 0) = false) (h3 : (m == 0) = true) : keyFits m v k = keyOk k := by rw [keyFits, h, h2, h3]; simp
theorem keyFits_4 {m v : Int} {k : Key} (h : (k.version != v) = false) (h2 : (keyLen k.profile == 0) = false) (h3 : (m == 0) = false) : keyFits m v k = btw k.bytes.length 1 256 := by rw [keyFits, h, h2, h3]; simp
theorem set_no1 {m : Int} {x : KeySet} (h : btw x.version 1 65535 = false) : setOk m x = false := by rw [setOk, setEnd, h]; simp
theorem set_no2 {m : Int} {x : KeySet} (h : decide (1 ≤ (x.keys.length : Int)) = false) : setOk m x = false := by
  have e : btw x.keys.length 1 4 = false := by rw [btw, h]; rfl
  rw [setOk, setEnd, e]; simp
theorem set_no3 {m : Int} {x : KeySet} (h : (decide ((x.keys.length : Int) ≤ 4) && x.keys.all (keyFits m x.version)) = false) : setOk m x = false := by
  rw [Bool.and_eq_false_iff] at h
  rcases h with h | h
  · rw [setOk, setEnd, show btw x.keys.length 1 4 = false by rw [btw, h]; simp]; simp
  · rw [setOk, h]; simp
theorem set_no4 {m : Int} {x : KeySet} (h : ordered profLt x.keys = false) : setOk m x = false := by rw [setOk, h]; simp
theorem set_yes {m : Int} {x : KeySet} (h2 : decide (1 ≤ (x.keys.length : Int)) = true) (h3 : (decide ((x.keys.length : Int) ≤ 4) && x.keys.all (keyFits m x.version)) = true) (h4 : ordered profLt x.keys = true) : setOk m x = setEnd x ∧ btw x.keys.length 1 4 = true := by
  rw [Bool.and_eq_true] at h3
  exact ⟨by rw [setOk, h3.2, h4]; rfl, by rw [btw, h2, h3.1]; rfl⟩
end Go.WW
namespace Go.Proofs.YtnpddjmjdpgohaaGreatDoor
open Go.RowKit Go.WW
set_option maxRecDepth 100000 in
theorem pValid_c (s : Sl) (k : Key) (w : World) : Calls Tryz.prog 135 #[.agg (keyC s k)] w fun e w' => e = .returned (.bool (keyOk k)) ∧ Below w.heap.size w w' := by
  go_enter Tryz.func135, Tryz.ntmps135
  go_wp2_with fail
  refine (find_c _ _ _).mono ?_
  rintro e w1 ⟨rfl, hb⟩
  have hB : Below w.heap.size w w1 := below_step ((Below.refl _ w).alloc (Nat.le_refl _) _) hb
  go_wp2_with fail
  go_ret
  exact ⟨rfl, hB.alloc hB.size _⟩
set_option maxRecDepth 100000 in
set_option maxHeartbeats 1000000 in
theorem keyFn_c (s : Sl) (k : Key) (B0 B1 : Nat) (m v : Int) (w : World) (hl : k.bytes.length ≤ lim) (h0 : w.cell? ⟨B0, 0, none⟩ = some (.int .i64 v)) (h1 : w.cell? ⟨B1, 0, none⟩ = some (.int .i64 m)) :
    Calls Tryz.prog 133 #[.agg (keyC s k), .pointer (some ⟨B0, 0, none⟩), .pointer (some ⟨B1, 0, none⟩)] w fun e w' => e = .returned (.bool (keyFits m v k)) ∧ Below w.heap.size w w' := by
  have hb0 : B0 < w.heap.size := World.block_lt_of_cell? w _ h0
  have hb1 : B1 < w.heap.size := World.block_lt_of_cell? w _ h1
  have hl' : k.bytes.length ≤ 4294967000 := hl
  have hB : Below w.heap.size w (w.alloc (.cells (keyC s k) 143)) := (Below.refl _ w).alloc (Nat.le_refl _) _
  go_enter Tryz.func133, Tryz.ntmps133
  cases c1 : (k.version != v)
  · go_wp2_with fail
    refine (pKeyLen_c _ _).mono ?_
    rintro e w1 ⟨rfl, hb⟩
    have hB1 := below_step hB hb
    obtain ⟨hcc, hff, hrr⟩ := bcell hb
    have hsz : w.heap.size < w1.heap.size := by have := hb.size; simp at this; omega
    cases c2 : (keyLen k.profile == 0)
    · cases c3 : (m == 0)
      · have HN := Lib.hid (keyFits_4 c1 c2 c3)
        go_wp2_with (go_at_call 88; refine (between_c _ _ _ _).mono ?_; rintro e w' ⟨rfl, rfl⟩)
        go_ret
        exact ⟨by rw [HN.out]; rfl, hB1⟩
      · have HN := Lib.hid (keyFits_3 c1 c2 c3)
        go_wp2_with fail
        refine (pValid_c _ _ _).mono ?_
        rintro e w2 ⟨rfl, hb2⟩
        go_wp2_with fail
        go_ret
        exact ⟨by rw [HN.out]; rfl, below_step hB1 hb2⟩
    · have HN := Lib.hid (keyFits_2 (m := m) (v := v) c2)
      go_wp2_with fail
      go_ret
      exact ⟨by rw [HN.out]; rfl, hB1⟩
  · have HN := Lib.hid (keyFits_1 (m := m) c1)
    go_wp2_with fail
    go_ret
    exact ⟨by rw [HN.out]; rfl, hB⟩
theorem keyFn_enters : Enters 133 := ⟨fun args w => by kernel_rfl⟩
end Go.Proofs.YtnpddjmjdpgohaaGreatDoor

namespace Go.WW
def salted (x : KeySet) : Bool := decide (0 < x.iterations) || x.salt.toList.isEmpty
theorem setEnd_cut {x : KeySet} (h1 : btw x.version 1 65535 = true) (h2 : btw x.keys.length 1 4 = true) : setEnd x = (decide ((x.salt.size : Int) ≤ 256) && btw x.iterations 0 65536 && salted x && btw x.created 0 1099511627776) := by
  rw [setEnd, h1, h2, salted]; rfl
end Go.WW
namespace Go.Proofs.YtnpddjmjdpgohaaGreatDoor
open Go.RowKit Go.WW
set_option maxRecDepth 100000 in
set_option maxHeartbeats 4000000 in
theorem validSet_c (s : Sl) (x : KeySet) (m : Int) (w : World) (hx : SetAt w s x) : Calls Tryz.prog 119 #[.agg (setC s x), .int .i64 m] w fun e w' => e = .returned (.bool (setOk m x)) ∧ Below w.heap.size w w' := by
  have hn : x.keys.length ≤ 4294967000 := hx.1.1
  have hs : x.salt.size ≤ 4294967000 := hx.2
  have hB : Below w.heap.size w ((w.alloc (.cells (setC s x) 63)).alloc (.cells #[.int .i64 m] 3)) := ((Below.refl _ w).alloc (Nat.le_refl _) _).alloc (by simp) _
  have hxB := hx.later hB
  have g0 : ((w.alloc (.cells (setC s x) 63)).alloc (.cells #[.int .i64 m] 3)).cell? ⟨w.heap.size, 0, none⟩ = some (.int .i64 x.version) := by simp [go_sem]
  have g1 : ((w.alloc (.cells (setC s x) 63)).alloc (.cells #[.int .i64 m] 3)).cell? ⟨w.heap.size + 1, 0, none⟩ = some (.int .i64 m) := by simp [go_sem]
  have hlim : ∀ k ∈ x.keys, k.bytes.length ≤ lim := fun k hk => by
    obtain ⟨i, hi, rfl⟩ := List.mem_iff_getElem.1 hk
    obtain ⟨_, _, _, _, _, h3⟩ := hx.1.get i hi
    exact h3.1
  have HF := Lib.hid (everyKey2_c s.a s.cap 133 4 x.keys w.heap.size (w.heap.size + 1) (keyFits m x.version) _ keyFn_enters hxB.1 (fun y t p hp _ => keyFn_c t p _ _ m x.version y.w (hlim p hp) ((y.b.cell (p := ⟨w.heap.size, 0, none⟩) (by simp; omega)).trans g0) ((y.b.cell (p := ⟨w.heap.size + 1, 0, none⟩) (by simp)).trans g1)))
  have HL := Lib.hid hlim
  clear g0 g1 hlim
  go_enter Tryz.func119, Tryz.ntmps119
  cases c1 : btw x.version 1 65535
  · have HN := Lib.hid (set_no1 (m := m) c1)
    go_wp2_with (go_at_call 88; refine (between_c _ _ _ _).mono ?_; rintro e w' ⟨rfl, rfl⟩)
    go_ret
    exact ⟨by rw [HN.out]; rfl, hB⟩
  cases c2 : decide (1 ≤ (x.keys.length : Int))
  · have HN := Lib.hid (set_no2 (m := m) c2)
    have c2' : decide (1 ≤ x.keys.length) = false := by rw [decide_eq_false_iff_not] at c2 ⊢; omega
    go_wp2_with (go_at_call 88; refine (between_c _ _ _ _).mono ?_; rintro e w' ⟨rfl, rfl⟩)
    go_ret
    exact ⟨by rw [HN.out]; rfl, hB⟩
  have c2' : decide (1 ≤ x.keys.length) = true := by rw [decide_eq_true_eq] at c2 ⊢; omega
  go_wp2_with (go_at_call 88; refine (between_c _ _ _ _).mono ?_; rintro e w' ⟨rfl, rfl⟩)
  refine (HF.out).mono ?_
  rintro e w1 ⟨rfl, hb1⟩
  have hB1 := below_step hB hb1
  obtain ⟨hcc, hff, hrr⟩ := bcell hb1
  have hsz : w.heap.size + 1 < w1.heap.size := by have := hb1.size; simp at this; omega
  cases c3 : (decide ((x.keys.length : Int) ≤ 4) && x.keys.all (keyFits m x.version))
  · have HN := Lib.hid (set_no3 c3)
    go_wp2_with fail
    go_ret
    exact ⟨by rw [HN.out]; rfl, hB1⟩
  go_wp2_with fail
  refine (ordKey_c _ _ _ _ (hx.1.later hB1)).mono ?_
  rintro e w2 ⟨rfl, hb2⟩
  have hB2 := below_step hB1 hb2
  clear hcc hff hrr
  have hbb : Below ((w.alloc (.cells (setC s x) 63)).alloc (.cells #[.int .i64 m] 3)).heap.size ((w.alloc (.cells (setC s x) 63)).alloc (.cells #[.int .i64 m] 3)) w2 := below_step hb1 hb2
  obtain ⟨hcc, hff, hrr⟩ := bcell hbb
  have hsz2 : w.heap.size + 1 < w2.heap.size := by have := hbb.size; simp at this; omega
  cases c4 : ordered profLt x.keys
  · have HN := Lib.hid (set_no4 (m := m) c4)
    go_wp2_with fail
    go_ret
    exact ⟨by rw [HN.out]; rfl, hB2⟩
  obtain ⟨hy1, hy2⟩ := set_yes c2 c3 c4
  have HN := Lib.hid (hy1.trans (setEnd_cut c1 hy2))
  clear hy1 hy2 hxB hx hb1 hb2 hbb hB1 hB
  cases c5 : decide ((x.salt.size : Int) ≤ 256)
  · have c5' : decide (x.salt.size ≤ 256) = false := by rw [decide_eq_false_iff_not] at c5 ⊢; omega
    go_wp2_with fail
    go_ret
    exact ⟨by rw [HN.out, c5]; rfl, hB2⟩
  have c5' : decide (x.salt.size ≤ 256) = true := by rw [decide_eq_true_eq] at c5 ⊢; omega
  cases c6 : btw x.iterations 0 65536
  · go_wp2_with (go_at_call 88; refine (between_c _ _ _ _).mono ?_; rintro e w' ⟨rfl, rfl⟩)
    go_ret
    exact ⟨by rw [HN.out, c5, c6]; rfl, hB2⟩
  cases c7 : decide (0 < x.iterations)
  · cases c8 : x.salt.toList.isEmpty
    · have c8' : ¬ x.salt.toList = [] := by simpa using c8
      go_wp2_with (go_at_call 88; refine (between_c _ _ _ _).mono ?_; rintro e w' ⟨rfl, rfl⟩)
      go_ret
      exact ⟨by rw [HN.out, c5, c6, salted, c7, c8]; rfl, hB2⟩
    · have c8' : x.salt.toList = [] := by simpa using c8
      go_wp2_with (go_at_call 88; refine (between_c _ _ _ _).mono ?_; rintro e w' ⟨rfl, rfl⟩)
      go_ret
      exact ⟨by rw [HN.out, c5, c6, salted, c7, c8]; rfl, hB2⟩
  · go_wp2_with (go_at_call 88; refine (between_c _ _ _ _).mono ?_; rintro e w' ⟨rfl, rfl⟩)
    go_ret
    exact ⟨by rw [HN.out, c5, c6, salted, c7]; rfl, hB2⟩
theorem setFn_c (s : Sl) (x : KeySet) (B : Nat) (m : Int) (w : World) (hx : SetAt w s x) (h : w.cell? ⟨B, 4, none⟩ = some (.int .i64 m)) : Calls Tryz.prog 118 #[.agg (setC s x), .pointer (some ⟨B, 0, none⟩)] w fun e w' => e = .returned (.bool (setOk m x)) ∧ Below w.heap.size w w' := by
  have hb : B < w.heap.size := World.block_lt_of_cell? w _ h
  have hB : Below w.heap.size w (w.alloc (.cells (setC s x) 63)) := (Below.refl _ w).alloc (Nat.le_refl _) _
  go_enter Tryz.func118, Tryz.ntmps118
  go_wp2_with fail
  refine (validSet_c _ _ _ _ (hx.later hB)).mono ?_
  rintro e w1 ⟨rfl, hb1⟩
  go_wp2_with fail
  go_ret
  exact ⟨rfl, below_step hB hb1⟩
theorem setFn_enters : Enters 118 := ⟨fun args w => by kernel_rfl⟩
def keysOk (d : Entry) : Bool := (decide ((d.keys.length : Int) ≤ 16) && d.keys.all (setOk d.master)) && ordered setGt d.keys
set_option maxRecDepth 100000 in
set_option maxHeartbeats 1000000 in
theorem validKeys_c (r : ERaw) (d : Entry) (w : World) (he : EntAt w r d) : Calls Tryz.prog 90 #[.agg (entC r d)] w fun e w' => e = .returned (.bool (keysOk d)) ∧ Below w.heap.size w w' := by
  have hB : Below w.heap.size w (w.alloc (.cells (entC r d) 31)) := (Below.refl _ w).alloc (Nat.le_refl _) _
  have hk := he.keys.later hB
  have g : (w.alloc (.cells (entC r d) 31)).cell? ⟨w.heap.size, 4, none⟩ = some (.int .i64 d.master) := by simp [go_sem]
  have HF := Lib.hid (everySet1_c r.keys.a r.keys.cap 118 16 d.keys w.heap.size (setOk d.master) _ setFn_enters hk (fun y t p _ hp => setFn_c t p _ d.master y.w hp ((y.b.cell (p := ⟨w.heap.size, 4, none⟩) (by simp)).trans g)))
  clear g hk
  go_enter Tryz.func90, Tryz.ntmps90
  go_wp2_with fail
  refine (HF.out).mono ?_
  rintro e w1 ⟨rfl, hb1⟩
  have hB1 := below_step hB hb1
  obtain ⟨hcc, hff, hrr⟩ := bcell hb1
  have hsz : w.heap.size < w1.heap.size := by have := hb1.size; simp at this; omega
  cases c1 : (decide ((d.keys.length : Int) ≤ 16) && d.keys.all (setOk d.master))
  · have HN := Lib.hid (show keysOk d = false by rw [keysOk, c1]; rfl)
    go_wp2_with fail
    go_ret
    exact ⟨by rw [HN.out]; rfl, hB1⟩
  · have HN := Lib.hid (show keysOk d = ordered setGt d.keys by rw [keysOk, c1]; rfl)
    go_wp2_with fail
    refine (ordSet_c _ _ _ _ (he.keys.later hB1)).mono ?_
    rintro e w2 ⟨rfl, hb2⟩
    go_wp2_with fail
    go_ret
    exact ⟨by rw [HN.out]; rfl, below_step hB1 hb2⟩
theorem nameFn_enters : Enters 110 := ⟨fun args w => by kernel_rfl⟩
set_option maxRecDepth 100000 in
theorem principals_c (a : Option Addr) (cap : Nat) (l : List Prin) (w : World) (hl : PrinsAt w a l) : Calls Tryz.prog 92 #[.slice a l.length cap] w fun e w' => e = .returned (.bool (different l)) ∧ Below w.heap.size w w' := by
  have HF := Lib.hid (everyPrin0_c a cap 110 16 l prinOk _ nameFn_enters hl (fun y t p _ hp => nameValid_c t p y.w hp))
  have HE := Lib.hid (principals_eq l)
  go_enter Tryz.func92, Tryz.ntmps92
  go_wp2_with fail
  refine (HF.out).mono ?_
  rintro e w1 ⟨rfl, hb1⟩
  cases c1 : (decide ((l.length : Int) ≤ 16) && l.all prinOk)
  · have HN := Lib.hid (show different l = false by rw [← HE.out, c1]; rfl)
    go_wp2_with fail
    go_ret
    exact ⟨by rw [HN.out]; rfl, hb1⟩
  · have HN := Lib.hid (show different l = distinctP l by rw [← HE.out, c1]; rfl)
    have hall : l.all prinOk = true := by rw [Bool.and_eq_true] at c1; exact c1.2
    have HA := Lib.hid hall
    clear hall
    go_wp2_with fail
    refine (distinct_c _ _ _ _ (hl.later hb1) HA.out).mono ?_
    rintro e w2 ⟨rfl, hb2⟩
    go_wp2_with fail
    go_ret
    exact ⟨by rw [HN.out]; rfl, below_step hb1 hb2⟩
end Go.Proofs.YtnpddjmjdpgohaaGreatDoor

namespace Go.WW
open Go.RowKit
theorem RowsAt.src {w : World} {k n : Nat} {a : Option Addr} {R : Nat → Array Value → Prop} (h : RowsAt w k a n R) (hR : ∀ i cs, R i cs → cs.size = k ∧ allOne cs = true) :
    ∃ rows, rows.length = n ∧ SrcRows w k a rows ∧ ∀ i (hi : i < rows.length), R i rows[i] := by
  rcases Nat.eq_zero_or_pos n with h0 | h0
  · subst h0; exact ⟨[], rfl, ⟨by simp, by simp, fun i hi => by simp at hi⟩, fun i hi => by simp at hi⟩
  · obtain ⟨b, o, _, ha, _⟩ := h.2 0 h0
    have key : ∀ i, i < n → ∃ cs, row? w b (o + i * k) k = some cs ∧ R i cs := fun i hi => by
      obtain ⟨b', o', cs, ha', hr, hc⟩ := h.2 i hi
      rw [ha] at ha'; cases ha'
      exact ⟨cs, hr, hc⟩
    have hg : ∀ i (hi : i < ((List.range n).map fun i => (row? w b (o + i * k) k).getD #[]).length), ∃ cs, ((List.range n).map fun i => (row? w b (o + i * k) k).getD #[])[i] = cs ∧ row? w b (o + i * k) k = some cs ∧ R i cs := fun i hi => by
      have hi' : i < n := by simpa using hi
      obtain ⟨cs, h1, h2⟩ := key i hi'
      exact ⟨cs, by simp [h1], h1, h2⟩
    refine ⟨(List.range n).map fun i => (row? w b (o + i * k) k).getD #[], by simp, ⟨fun r hr => ?_, fun r hr => ?_, fun i hi => ?_⟩, fun i hi => ?_⟩
    · obtain ⟨i, hi, rfl⟩ := List.mem_iff_getElem.1 hr
      obtain ⟨cs, e, _, h2⟩ := hg i hi
      rw [e]; exact (hR i cs h2).1
    · obtain ⟨i, hi, rfl⟩ := List.mem_iff_getElem.1 hr
      obtain ⟨cs, e, _, h2⟩ := hg i hi
      rw [e]; exact (hR i cs h2).2
    · obtain ⟨cs, e, h1, _⟩ := hg i hi
      exact ⟨b, o, ha, by rw [e]; exact h1⟩
    · obtain ⟨cs, e, _, h2⟩ := hg i hi
      rw [e]; exact h2
theorem RowsAt.of_own {w : World} {base k n : Nat} {e : TypeId} {s : Sl} {rows : List (Array Value)} {R : Nat → Array Value → Prop} (h : Own w base e k s rows) (hl : rows.length = n) (hn : n ≤ lim) (hR : ∀ i (hi : i < rows.length), R i rows[i]) : RowsAt w k s.a n R := by
  subst hl
  refine ⟨hn, fun i hi => ?_⟩
  obtain ⟨g, ha, _, hrow⟩ := h.row i hi
  exact ⟨g, 0, rows[i], ha, hrow, hR i hi⟩
theorem row?_one {w : World} {b o : Nat} {v : Value} (h : w.cell? ⟨b, o, none⟩ = some v) : row? w b o 1 = some #[v] := by
  have hlt := World.block_lt_of_cell? w _ h
  unfold row?
  cases hb : w.heap[b]? with
  | none => exfalso; simp [World.cell?, hb] at h
  | some ob =>
    cases ob with
    | cells c t f =>
      rw [cell_of_row w b o c t f hb] at h
      have ho := (Array.getElem?_eq_some_iff.1 h).1
      show (if o + 1 ≤ c.size then _ else _) = _
      rw [if_pos (by omega)]
      congr 1
      apply Array.ext_getElem?
      intro j
      rw [Array.getElem?_extract]
      by_cases hj : j = 0
      · subst hj; rw [if_pos (by omega)]; simpa using h
      · rw [if_neg (by omega)]; simp; omega
    | _ => exfalso; simp [World.cell?, hb] at h
theorem CellsAt.src {w : World} {n : Nat} {a : Option Addr} {R : Nat → Value → Prop} (h : CellsAt w a n R) (hR : ∀ i v, R i v → v.oneCell' = true) :
    ∃ rows, rows.length = n ∧ SrcRows w 1 a rows ∧ ∀ i (hi : i < rows.length), ∃ v, rows[i] = #[v] ∧ R i v := by
  have h' : RowsAt w 1 a n (fun i cs => ∃ v, cs = #[v] ∧ R i v) := ⟨h.1, fun i hi => by
    obtain ⟨b, o, v, ha, hc, hr⟩ := h.2 i hi
    exact ⟨b, o, #[v], ha, by rw [Nat.mul_one]; exact row?_one hc, v, rfl, hr⟩⟩
  obtain ⟨rows, h1, h2, h3⟩ := h'.src (fun i cs ⟨v, e, hr⟩ => by subst e; exact ⟨rfl, by simp [allOne, hR i v hr]⟩)
  exact ⟨rows, h1, h2, h3⟩
theorem CellsAt.of_own {w : World} {base n : Nat} {e : TypeId} {s : Sl} {rows : List (Array Value)} {R : Nat → Value → Prop} (h : Own w base e 1 s rows) (hl : rows.length = n) (hn : n ≤ lim) (hR : ∀ i (hi : i < rows.length), ∃ v, rows[i] = #[v] ∧ R i v) : CellsAt w s.a n R := by
  subst hl
  refine ⟨hn, fun i hi => ?_⟩
  obtain ⟨g, ha, _, hrow⟩ := h.row i hi
  obtain ⟨v, e, hr⟩ := hR i hi
  refine ⟨g, 0, v, ha, ?_, hr⟩
  have := row?_cell hrow 0 (by omega)
  rw [e, Nat.mul_one] at this
  simpa using this
theorem wpList_append_w {P : Program} {ops : Array Oper} {rest : List Oper} {o : Oper} {a : Act} {w : World} {Q : Exit → Act → World → Prop} (hw : Region.wanted o (yielded ops a.tmps) = true) (x y : Operand) (t : TypeId) (ho : o.op = .call { callee := .builtin .append, args := #[x, y], argTypes := #[t, t] })
    {e : TypeId} {k bytes : Nat} (he : ElemOk P t e k bytes) {base : Nat} {s : Sl} {n : Nat} {rows : List (Array Value)} (hx : a.eval x = .slice s.a n s.cap) (hn : n = rows.length) (h : Own w base e k s rows) {A : Option Addr} {news : List (Array Value)} {m c : Nat}
    (hy : a.eval y = .slice A m c) (hm : m = news.length) (hs : SrcRows w k A news) (hlen : (rows.length + news.length) * (bytes + 1) ≤ 140737488355328) (hbase : base ≤ w.heap.size)
    (hK : ∀ (s' : Sl) w', Own w' base e k s' (rows ++ news) → w.grownBy w' s.blk → (s'.blk = s.blk ∨ s'.blk = some w.heap.size) → wpList P ops Q rest (a.put o.dst (.slice s'.a (n + m) s'.cap)) w') : wpList P ops Q (o :: rest) a w := by
  subst hn hm
  refine wpList_step fun K hK' => ?_
  rw [if_pos hw]
  exact wp_append_rows x y t ho he hx h hy rfl hs hlen hbase fun s' w' h2 h3 h4 => hK' _ _ (hK s' w' h2 h3 h4)
theorem Own.one (w : World) (cs : Array Value) (t : TypeId) (k : Nat) (hs : cs.size = k) : Own (w.alloc (.cells cs t)) w.heap.size t k ⟨some ⟨w.heap.size, 0, none⟩, 1⟩ [cs] := by
  refine ⟨⟨by simp [flat, hs], .inr ⟨w.heap.size, 1, cs, rfl, Nat.le_refl _, World.alloc_heap_new w _, Nat.le_refl _, by unfold maxLen; omega, by simp [hs], ?_⟩⟩, by simpa using hs⟩
  simp only [flat, List.flatMap_cons, List.flatMap_nil, List.append_nil, List.length_singleton, Nat.one_mul]
  exact List.take_of_length_le (by simp [hs])
theorem prinR_ok {w : World} {l : List Prin} (i : Nat) (cs : Array Value) (h : ∃ p s, l[i]? = some p ∧ cs = prinC s p ∧ PrinAt w s p) : cs.size = 2 ∧ allOne cs = true := by
  obtain ⟨p, s, _, rfl, _⟩ := h; exact ⟨prinC_size s p, prinC_one s p⟩
end Go.WW

namespace Go.Proofs.YtnpddjmjdpgohaaGreatDoor
open Go.RowKit Go.WW
theorem aliasFn_enters : Enters 114 := ⟨fun args w => by kernel_rfl⟩
set_option maxRecDepth 100000 in
theorem aliasFn_c (s : Sl) (p n : Prin) (B : Nat) (w : World) (hp : PrinAt w s p) (h : w.cell? ⟨B, 1, none⟩ = some (.string n.realm)) : Calls Tryz.prog 114 #[.agg (prinC s p), .pointer (some ⟨B, 0, none⟩)] w fun e w' => e = .returned (.bool (aliasFits n p)) ∧ Below w.heap.size w w' := by
  have hb : B < w.heap.size := World.block_lt_of_cell? w _ h
  have hB : Below w.heap.size w (w.alloc (.cells (prinC s p) 24)) := (Below.refl _ w).alloc (Nat.le_refl _) _
  go_enter Tryz.func114, Tryz.ntmps114
  go_wp2_with fail
  refine (nameValid_c _ _ _ (hp.later hB)).mono ?_
  rintro e w1 ⟨rfl, hb1⟩
  have hB1 := below_step hB hb1
  obtain ⟨hcc, hff, hrr⟩ := bcell hb1
  have hsz : w.heap.size < w1.heap.size := by have := hb1.size; simp at this; omega
  cases c1 : prinOk p
  · have HN := Lib.hid (show aliasFits n p = false by rw [aliasFits, c1]; rfl)
    go_wp2_with fail
    go_ret
    exact ⟨by rw [HN.out]; rfl, hB1⟩
  · have HN := Lib.hid (show aliasFits n p = (p.realm.toList == n.realm.toList) by
      rw [aliasFits, c1]
      by_cases h' : p.realm = n.realm
      · rw [str_eq _ _ h']; simp [h']
      · rw [str_ne _ _ h']; simp [h'])
    go_wp2_with fail
    go_ret
    exact ⟨by rw [HN.out]; rfl, hB1⟩
theorem elemPrin : ElemOk Tryz.prog 25 24 2 40 := ElemOk.of Tryz.underlying25 (by kernel_rfl)
theorem SrcRows.alloc {w : World} {k : Nat} {A : Option Addr} {rows : List (Array Value)} (h : SrcRows w k A rows) (ob : Obj) : SrcRows (w.alloc ob) k A rows :=
  ⟨h.size, h.one, fun i hi => by obtain ⟨b, o, h1, h2⟩ := h.at_ i hi; exact ⟨b, o, h1, by rw [row?_alloc_past (row?_lt h2)]; exact h2⟩⟩
set_option maxRecDepth 100000 in
set_option maxHeartbeats 2000000 in
theorem validNames_c (r : ERaw) (d : Entry) (w : World) (he : EntAt w r d) : Calls Tryz.prog 89 #[.agg (entC r d)] w fun e w' => e = .returned (.bool (namesOk d)) ∧ Below w.heap.size w w' := by
  have hB : Below w.heap.size w (w.alloc (.cells (entC r d) 31)) := (Below.refl _ w).alloc (Nat.le_refl _) _
  have hA := he.aliases.later hB
  have hal : d.aliases.length ≤ 4294967000 := he.aliases.1
  have g : (w.alloc (.cells (entC r d) 31)).cell? ⟨w.heap.size, 1, none⟩ = some (.string d.name.realm) := by simp [go_sem]
  have HF := Lib.hid (fun (w1 : World) (hb1 : Below (w.alloc (.cells (entC r d) 31)).heap.size (w.alloc (.cells (entC r d) 31)) w1) => everyPrin1_c r.aliases.a r.aliases.cap 114 16 d.aliases w.heap.size (aliasFits d.name) w1 aliasFn_enters (hA.later hb1) (fun y t p _ hp => aliasFn_c t p d.name _ y.w hp (((below_step hb1 y.b).cell (p := ⟨w.heap.size, 1, none⟩) (by simp)).trans g)))
  clear g hA
  go_enter Tryz.func89, Tryz.ntmps89
  go_wp2_with fail
  refine (nameValid_c _ _ _ (he.name.later hB)).mono ?_
  rintro e w1 ⟨rfl, hb1⟩
  have hB1 := below_step hB hb1
  obtain ⟨hcc, hff, hrr⟩ := bcell hb1
  have hsz : w.heap.size < w1.heap.size := by have := hb1.size; simp at this; omega
  cases c1 : prinOk d.name
  · have HN := Lib.hid (show namesOk d = false by rw [namesOk, c1]; rfl)
    go_wp2_with fail
    go_ret
    exact ⟨by rw [HN.out]; rfl, hB1⟩
  go_wp2_with fail
  refine (HF.out w1 hb1).mono ?_
  rintro e w2 ⟨rfl, hb2⟩
  have hb2' := below_step hb1 hb2
  have hB2 := below_step hB1 hb2
  clear hcc hff hrr hsz
  obtain ⟨hcc, hff, hrr⟩ := bcell hb2'
  have hsz : w.heap.size < w2.heap.size := by have := hb2'.size; simp at this; omega
  cases c2 : (decide ((d.aliases.length : Int) ≤ 16) && d.aliases.all (aliasFits d.name))
  · have HN := Lib.hid (show namesOk d = false by rw [namesOk, c1, c2]; rfl)
    go_wp2_with fail
    go_ret
    exact ⟨by rw [HN.out]; rfl, hB2⟩
  have HN := Lib.hid (show namesOk d = distinctP (d.name :: d.aliases) by rw [namesOk, c1, c2]; rfl)
  have HO := Lib.hid (show (d.name :: d.aliases).all prinOk = true by
    rw [Bool.and_eq_true, List.all_eq_true] at c2
    rw [List.all_cons, c1, Bool.true_and, List.all_eq_true]
    intro a ha
    have := c2.2 a ha
    rw [aliasFits, Bool.and_eq_true] at this
    exact this.1)
  obtain ⟨rows, hlr, hsr, hrR⟩ := RowsAt.src (he.aliases.later hB2) prinR_ok
  have HLR := Lib.hid hlr
  have HRR := Lib.hid hrR
  have hsr' := SrcRows.alloc hsr (.cells (prinC r.parts d.name) 24)
  have hown := Own.one w2 (prinC r.parts d.name) 24 2 (prinC_size _ _)
  clear hlr hrR
  go_wp2_with (at_builtin; refine wpList_append_w rfl (.tmp 17) (.tmp 19) _ rfl elemPrin (n := 1) (s := ⟨some ⟨w2.heap.size, 0, none⟩, 1⟩) rfl rfl hown rfl HLR.out.symm hsr' (by rw [HLR.out]; simp; omega) (by simp) ?_; intro s3 w3 hown3 hg3 hat3)
  have hb3 : Below w2.heap.size w2 w3 := ((Below.refl _ w2).alloc (Nat.le_refl _) _).grown hg3 (by simp) (fun k e => by cases e; exact Nat.le_refl _)
  have hal16 : d.aliases.length ≤ 16 := by rw [Bool.and_eq_true, decide_eq_true_eq] at c2; omega
  have hP3 : PrinsAt w3 s3.a (d.name :: d.aliases) := by
    refine RowsAt.of_own hown3 (by have := HLR.out; simp; omega) (by unfold lim; simp; omega) ?_
    intro i hi
    cases i with
    | zero => exact ⟨d.name, r.parts, rfl, rfl, (he.name.later hB2).later hb3⟩
    | succ i =>
      have hi' : i < rows.length := by simpa using hi
      obtain ⟨p, s, h1, h2, h3⟩ := HRR.out i hi'
      exact ⟨p, s, by simpa using h1, by simpa using h2, h3.later hb3⟩
  have HD := distinct_c s3.a s3.cap _ _ hP3 HO.out
  rw [List.length_cons, Nat.add_comm] at HD
  refine HD.mono ?_
  rintro e w4 ⟨rfl, hb4⟩
  clear hcc hff hrr hsr hsr' hown hown3 hg3 hat3
  go_wp2_with fail
  go_ret
  exact ⟨by rw [HN.out]; rfl, below_step (below_step hB2 hb3) hb4⟩
end Go.Proofs.YtnpddjmjdpgohaaGreatDoor

namespace Go.WW
open Go.RowKit
def stepF (ops : Array Oper) (o : Oper) (a : Act) : Option Act :=
  if Region.wanted o (yielded ops a.tmps) then
    match o.op with
    | .move x => some (a.put o.dst (a.eval x))
    | .assign x => some (a.put o.dst (a.eval x))
    | .pick c x y => match a.eval c with | .bool b => some (a.put o.dst (if b then a.eval x else a.eval y)) | _ => none
    | _ => none
  else some (a.put o.dst undef)
def runF (ops : Array Oper) : List Oper → Act → Option Act
  | [], a => some a
  | o :: l, a => match stepF ops o a with | some a' => runF ops l a' | none => none
def okF (t : Nat) : Option Act → Bool
  | some a => match a.tmps.getD t undef with | .bool false => true | _ => false
  | none => false
theorem put_defers (a : Act) (d : Option Tmp) (v : Value) : (a.put d v).defers = a.defers := by unfold Act.put; cases d <;> rfl
theorem stepF_defers {ops : Array Oper} {o : Oper} {a a' : Act} (h : stepF ops o a = some a') : a'.defers = a.defers := by
  unfold stepF at h
  split at h
  · split at h
    · cases h; exact put_defers _ _ _
    · cases h; exact put_defers _ _ _
    · split at h
      · cases h; exact put_defers _ _ _
      · cases h
    · cases h
  · cases h; exact put_defers _ _ _
theorem runF_defers {ops : Array Oper} : ∀ {l : List Oper} {a a' : Act}, runF ops l a = some a' → a'.defers = a.defers
  | [], a, a', h => by cases h; rfl
  | o :: l, a, a', h => by
    unfold runF at h
    split at h
    · rename_i b hb; rw [runF_defers h, stepF_defers hb]
    · cases h
theorem wpList_stepF {P : Program} {ops : Array Oper} {Q : Exit → Act → World → Prop} {o : Oper} {rest : List Oper} {a a' : Act} {w : World} (h : stepF ops o a = some a') (hr : wpList P ops Q rest a' w) : wpList P ops Q (o :: rest) a w := by
  refine wpList_step fun K hK => ?_
  unfold stepF at h
  split at h
  · rename_i hw
    rw [if_pos hw]
    unfold Oper.wp
    split at h
    · rename_i x hop; cases h; simp only [execOp, hop, Sem.run_pure, Oper.upon]; exact hK _ _ hr
    · rename_i x hop; cases h; simp only [execOp, hop, Sem.run_pure, Oper.upon]; exact hK _ _ hr
    · rename_i c x y hop
      split at h
      · rename_i b hb; cases h
        simp only [execOp, hop, hb, asBool, Sem.run_bind, Sem.run_pure, Result.andThen, Oper.upon]
        exact hK _ _ (by cases b <;> exact hr)
      · cases h
    · cases h
  · rename_i hw
    cases h
    rw [if_neg hw]
    exact hK _ _ hr
theorem wpList_runF {P : Program} {ops : Array Oper} {Q : Exit → Act → World → Prop} {w : World} : ∀ {l : List Oper} {a a' : Act}, runF ops l a = some a' → Q .normal a' w → wpList P ops Q l a w
  | [], a, a', h, hq => by cases h; exact hq
  | o :: l, a, a', h, hq => by
    unfold runF at h
    split at h
    · rename_i b hb; exact wpList_stepF hb (wpList_runF h hq)
    · cases h
theorem wpList_falls {P : Program} {ops : Array Oper} {Q : Exit → Act → World → Prop} {w : World} {l : List Oper} {a : Act} (t : Nat) (h : okF t (runF ops l a) = true) (hq : ∀ a', a'.tmps.getD t undef = .bool false → a'.defers = a.defers → Q .normal a' w) : wpList P ops Q l a w := by
  cases hr : runF ops l a with
  | none => rw [hr] at h; cases h
  | some a' =>
    refine wpList_runF hr (hq a' ?_ (runF_defers hr))
    rw [hr] at h
    unfold okF at h
    split at h
    · rename_i b hb
      cases hb
      split at h
      · assumption
      · cases h
    · cases h
end Go.WW
