/- The reading of the arguments. -/
import Derived.Test.YtpibcnchkndejaaGreatDoorXI
import Derived.Test.YtpibcnchkndejaaGreatDoorRows
import Derived.Deep.Slices
import Derived.ChangeArms
import Derived.ProofKit
import Derived.OpenShut
import Derived.Carry
import Derived.Deep.DeepHandedRow
namespace Go.Proofs.YtpibcnchkndejaaGreatDoor
open Go.ChangeShapes Go.WideShapes Go.ChangeAt Go.RowKit Go.WW Go.Deep

section
variable {H : Type}
theorem bulk_pos (d : DataW H) : 1 ≤ Rows.uptoBulk d := by
  cases d with
  | lit l => cases l <;> simp [Rows.uptoBulk]
  | _ => simp [Rows.uptoBulk]
theorem bulk_len : ∀ (l : List (DataW H)), l.length ≤ Rows.uptoBulkAll l
  | [] => by simp [Rows.uptoBulkAll]
  | d :: l => by have := bulk_pos d; have := bulk_len l; simp [Rows.uptoBulkAll]; omega
theorem bulk_mem {d : DataW H} : ∀ {l : List (DataW H)}, d ∈ l → Rows.uptoBulk d ≤ Rows.uptoBulkAll l
  | [], h => by simp at h
  | e :: l, h => by
    rcases List.mem_cons.1 h with rfl | h
    · simp [Rows.uptoBulkAll]
    · have := bulk_mem h; simp [Rows.uptoBulkAll]; omega
end
theorem row?_of_all {w : World} {b o n : Nat} {cs : List Value} (hn : cs.length = n) (h0 : 0 < n) (h : ∀ j, j < n → w.cell? ⟨b, o + j, none⟩ = cs[j]?) : row? w b o n = some cs.toArray := by
  have hlast := h (n - 1) (by omega)
  rw [List.getElem?_eq_getElem (by omega)] at hlast
  unfold row?
  cases hb : w.heap[b]? with
  | none => exfalso; simp [World.cell?, hb] at hlast
  | some ob =>
    cases ob with
    | cells c t f =>
      rw [cell_of_row w b (o + (n - 1)) c t f hb] at hlast
      have hl := (Array.getElem?_eq_some_iff.1 hlast).1
      show (if o + n ≤ c.size then _ else _) = _
      rw [if_pos (by omega)]
      congr 1
      apply Array.ext_getElem?
      intro j
      rw [Array.getElem?_extract]
      by_cases hj : j < n
      · rw [if_pos (by omega), ← cell_of_row w b (o + j) c t f hb, h j hj]; simp
      · rw [if_neg (by omega)]; simp; omega
    | _ => exfalso; simp [World.cell?, hb] at hlast

section
variable {H : Type} {enc : TypeId × Value → H} {P : Program} {w : World} {base : Nat} {spare : Nat → Bool} {held : Bool}
theorem read_slice {t e : TypeId} {fuel k : Nat} {v : Value} {x : DataW H × List MemPlace} (ht : P.underlying t = some (.slice e)) (hC : P.cellsOf e = k) (h0 : 0 < k) (h : DataW.trod enc P w base spare held fuel t [v] = some x) (hb : Rows.uptoBulk x.1 ≤ 1048576) :
    ∃ (s : Sl) (n : Nat), v = .slice s.a n s.cap ∧ n ≤ 1048576 ∧ ∀ i, i < n → ∃ b o cs fuel' y, s.a = some ⟨b, o, none⟩ ∧ row? w b (o + i * k) k = some cs ∧ DataW.trod enc P w base spare held fuel' e cs.toList = some y ∧ Rows.uptoBulk y.1 ≤ 1048576 := by
  rcases open_slice ht h with ⟨hcs, rfl⟩ | ⟨a, len, cap, m, n, D, Pl, hcs, hba, hle, hmax, hm, hx, hel⟩
  · refine ⟨⟨none, 0⟩, 0, by simpa using hcs, by omega, fun i hi => by omega⟩
  · rw [hx] at hb
    simp only [Rows.uptoBulk] at hb
    have hlen := bulk_len ((List.range len).map D)
    simp only [List.length_map, List.length_range] at hlen
    refine ⟨⟨some a, cap⟩, len, by simpa using hcs, by omega, fun i hi => ?_⟩
    have hml : len ≤ m := by rw [hm]; split <;> omega
    obtain ⟨c0, hc0, _⟩ := hel 0 (by omega)
    rw [hC] at hc0
    obtain ⟨_, hl0, hat0⟩ := World.cells?_some hc0
    have hspot : a.spot = none := by
      have h1 := hat0 0 h0
      rw [List.getElem?_eq_getElem (by omega)] at h1
      simp only [Nat.zero_mul, Addr.add, if_true] at h1
      unfold World.cell? at h1
      split at h1
      · split at h1
        · cases h1
        · rename_i hs; simpa using hs
      · cases h1
    obtain ⟨b, o, sp⟩ := a
    dsimp only at hspot
    subst hspot
    obtain ⟨cs', hc', ht'⟩ := hel i (by omega)
    rw [hC] at hc'
    obtain ⟨_, hl', hat'⟩ := World.cells?_some hc'
    refine ⟨b, o, cs'.toArray, n, (D i, Pl i), rfl, row?_of_all hl' h0 (fun j hj => ?_), by simpa using ht', ?_⟩
    · have h1 := hat' j hj
      rw [Addr.add_mid, Addr.add_mid] at h1
      exact h1
    · have := bulk_mem (d := D i) (l := (List.range len).map D) (List.mem_map.2 ⟨i, by simpa using hi, rfl⟩)
      show Rows.uptoBulk (D i) ≤ _
      omega
end
end Go.Proofs.YtpibcnchkndejaaGreatDoor
/- The reading of the arguments: this program's types. -/
namespace Go.Proofs.YtpibcnchkndejaaGreatDoor
open Go.ChangeShapes Go.WideShapes Go.ChangeAt Go.RowKit Go.WW Go.Deep
theorem list_of {α : Type} {R : Nat → α → Prop} : ∀ {n : Nat}, (∀ i, i < n → ∃ a, R i a) → ∃ l : List α, l.length = n ∧ ∀ i a, l[i]? = some a → R i a
  | 0, _ => ⟨[], rfl, fun i a h => by simp at h⟩
  | n + 1, h => by
    obtain ⟨l, hl, hr⟩ := list_of (n := n) (fun i hi => h i (by omega))
    obtain ⟨a, ha⟩ := h n (by omega)
    refine ⟨l ++ [a], by simp [hl], fun i b hb => ?_⟩
    by_cases hi : i < n
    · rw [List.getElem?_append_left (by omega)] at hb; exact hr i b hb
    · have hil := (List.getElem?_eq_some_iff.1 hb).1
      simp [hl] at hil
      obtain rfl : i = n := by omega
      rw [List.getElem?_append_right (by omega)] at hb
      simp [hl] at hb
      subst hb; exact ha
theorem list_1 : ∀ {cs : List Value}, cs.length = 1 → ∃ c0, cs = [c0]
  | [c0], _ => ⟨c0, rfl⟩
theorem list_2 : ∀ {cs : List Value}, cs.length = 2 → ∃ c0 c1, cs = [c0, c1]
  | [c0, c1], _ => ⟨c0, c1, rfl⟩
theorem list_3 : ∀ {cs : List Value}, cs.length = 3 → ∃ c0 c1 c2, cs = [c0, c1, c2]
  | [c0, c1, c2], _ => ⟨c0, c1, c2, rfl⟩
theorem list_5 : ∀ {cs : List Value}, cs.length = 5 → ∃ c0 c1 c2 c3 c4, cs = [c0, c1, c2, c3, c4]
  | [c0, c1, c2, c3, c4], _ => ⟨c0, c1, c2, c3, c4, rfl⟩
theorem list_10 : ∀ {cs : List Value}, cs.length = 10 → ∃ c0 c1 c2 c3 c4 c5 c6 c7 c8 c9, cs = [c0, c1, c2, c3, c4, c5, c6, c7, c8, c9]
  | [c0, c1, c2, c3, c4, c5, c6, c7, c8, c9], _ => ⟨c0, c1, c2, c3, c4, c5, c6, c7, c8, c9, rfl⟩
theorem list_17 : ∀ {cs : List Value}, cs.length = 17 → ∃ c0 c1 c2 c3 c4 c5 c6 c7 c8 c9 c10 c11 c12 c13 c14 c15 c16, cs = [c0, c1, c2, c3, c4, c5, c6, c7, c8, c9, c10, c11, c12, c13, c14, c15, c16]
  | [c0, c1, c2, c3, c4, c5, c6, c7, c8, c9, c10, c11, c12, c13, c14, c15, c16], _ => ⟨c0, c1, c2, c3, c4, c5, c6, c7, c8, c9, c10, c11, c12, c13, c14, c15, c16, rfl⟩
theorem lim_of {n : Nat} (h : n ≤ 1048576) : n ≤ lim := by unfold lim; omega
section
variable {H : Type} {enc : TypeId × Value → H} {w : World} {base : Nat} {spare : Nat → Bool} {held : Bool} {fuel : Nat} {x : DataW H × List MemPlace}
theorem field_of {P : Program} {T : TypeId} {fs : Array Field} {cs : List Value} (ht : P.underlying T = some (.struct fs)) (h : DataW.trod enc P w base spare held fuel T cs = some x) (hb : Rows.uptoBulk x.1 ≤ 1048576) :
    cs.length = P.cellsOf T ∧ ∃ n, ∀ (i : Nat) (f : Field), fs[i]? = some f → ∃ y, DataW.trod enc P w base spare held n f.type ((cs.drop f.offset).take (P.cellsOf f.type)) = some y ∧ Rows.uptoBulk y.1 ≤ 1048576 := by
  obtain ⟨xs, n, _, hx, hlen, hxl, hf⟩ := DataW.trod_struct ht h
  refine ⟨hlen, n, fun i f hi => ?_⟩
  have hil : i < xs.length := by rw [hxl]; exact (Array.getElem?_eq_some_iff.1 hi).1
  refine ⟨xs[i], by rw [hf i f hi, List.getElem?_eq_getElem hil], ?_⟩
  rw [hx] at hb
  simp only [Rows.uptoBulk] at hb
  have := bulk_mem (d := xs[i].1) (l := xs.map (·.1)) (List.mem_map.2 ⟨xs[i], List.getElem_mem hil, rfl⟩)
  omega
theorem take_one {cs : List Value} {o : Nat} {c : Value} (h : cs[o]? = some c) : (cs.drop o).take 1 = [c] := by
  obtain ⟨ho, rfl⟩ := List.getElem?_eq_some_iff.1 h
  rw [List.drop_eq_getElem_cons ho]; rfl
theorem cellsStr : Tryz.prog.cellsOf 9 = 1 := by kernel_rfl
theorem cellsU8 : Tryz.prog.cellsOf 5 = 1 := by kernel_rfl
theorem cellsInt : Tryz.prog.cellsOf 3 = 1 := by kernel_rfl
theorem cellsU32 : Tryz.prog.cellsOf 27 = 1 := by kernel_rfl
theorem cellsPrin : Tryz.prog.cellsOf 24 = 2 := by kernel_rfl
theorem cellsKey : Tryz.prog.cellsOf 69 = 3 := by kernel_rfl
theorem cellsSet : Tryz.prog.cellsOf 39 = 5 := by kernel_rfl
theorem cellsEnt : Tryz.prog.cellsOf 31 = 17 := by kernel_rfl
theorem cellsPol : Tryz.prog.cellsOf 75 = 10 := by kernel_rfl
theorem cellsSl1 : Tryz.prog.cellsOf 22 = 1 := by kernel_rfl
theorem cellsSl2 : Tryz.prog.cellsOf 44 = 1 := by kernel_rfl
theorem cellsSl3 : Tryz.prog.cellsOf 25 = 1 := by kernel_rfl
theorem cellsSl4 : Tryz.prog.cellsOf 28 = 1 := by kernel_rfl
theorem cellsSl5 : Tryz.prog.cellsOf 37 = 1 := by kernel_rfl
theorem cellsSl6 : Tryz.prog.cellsOf 29 = 1 := by kernel_rfl
theorem read_str {v : Value} (h : DataW.trod enc Tryz.prog w base spare held fuel 9 [v] = some x) (hb : Rows.uptoBulk x.1 ≤ 1048576) : ∃ s : ByteArray, v = .string s ∧ s.size ≤ lim := by
  obtain ⟨s, hs, hx, _⟩ := DataW.trod_string Tryz.underlying9 h
  refine ⟨s, by simpa using hs, ?_⟩
  rw [hx] at hb
  simp [Rows.uptoBulk] at hb
  exact lim_of (by omega)
theorem read_int {v : Value} (h : DataW.trod enc Tryz.prog w base spare held fuel 3 [v] = some x) : ∃ n : Int, v = .int .i64 n := by
  obtain ⟨n, hs, _, _⟩ := DataW.trod_int Tryz.underlying3 h
  exact ⟨n, by simpa using hs⟩
theorem read_strs {v : Value} (h : DataW.trod enc Tryz.prog w base spare held fuel 22 [v] = some x) (hb : Rows.uptoBulk x.1 ≤ 1048576) : ∃ (s : Sl) (l : List ByteArray), v = .slice s.a l.length s.cap ∧ StrsAt w s.a l := by
  obtain ⟨s, n, hv, hn, hel⟩ := read_slice Tryz.underlying22 cellsStr (by omega) h hb
  obtain ⟨l, hl, hr⟩ := list_of (R := fun i (a : ByteArray) => ∃ b o, s.a = some ⟨b, o, none⟩ ∧ w.cell? ⟨b, o + i, none⟩ = some (.string a) ∧ a.size ≤ lim) (n := n) (fun i hi => by
    obtain ⟨b, o, cs, f', y, ha, hrow, ht, hby⟩ := hel i hi
    have hc := row?_cell hrow 0 (by omega)
    have hsz := row?_size hrow
    obtain ⟨c, hcs⟩ : ∃ c, cs.toList = [c] := by
      obtain ⟨l⟩ := cs
      match l, hsz with
      | [c], _ => exact ⟨c, rfl⟩
    rw [hcs] at ht
    obtain ⟨a, rfl, hs⟩ := read_str ht hby
    refine ⟨a, b, o, ha, ?_, hs⟩
    have e : cs[0]? = some (.string a) := by rw [← Array.getElem?_toList, hcs]; rfl
    rw [e] at hc
    simpa using hc)
  refine ⟨s, l, by rw [hl]; exact hv, by rw [hl]; exact lim_of hn, fun i hi => ?_⟩
  obtain ⟨b, o, h1, h2, h3⟩ := hr i l[i] (List.getElem?_eq_getElem hi)
  exact ⟨b, o, _, h1, h2, l[i], List.getElem?_eq_getElem hi, rfl, h3⟩
theorem read_prin {cs : List Value} (h : DataW.trod enc Tryz.prog w base spare held fuel 24 cs = some x) (hb : Rows.uptoBulk x.1 ≤ 1048576) : ∃ (s : Sl) (p : Prin), cs = (prinC s p).toList ∧ PrinAt w s p := by
  obtain ⟨hl, n, hf⟩ := field_of Tryz.underlying24 h hb
  rw [cellsPrin] at hl
  obtain ⟨c0, c1, rfl⟩ := list_2 hl
  obtain ⟨y0, t0, b0⟩ := hf 0 _ rfl
  replace t0 : DataW.trod enc Tryz.prog w base spare held n 22 (([c0, c1].drop 0).take (Tryz.prog.cellsOf 22)) = some y0 := t0
  rw [cellsSl1, take_one (c := c0) rfl] at t0
  obtain ⟨y1, t1, b1⟩ := hf 1 _ rfl
  replace t1 : DataW.trod enc Tryz.prog w base spare held n 9 (([c0, c1].drop 1).take (Tryz.prog.cellsOf 9)) = some y1 := t1
  rw [cellsStr, take_one (c := c1) rfl] at t1
  obtain ⟨s0, n0, rfl, hs0⟩ := read_strs t0 b0
  obtain ⟨n1, rfl, hs1⟩ := read_str t1 b1
  exact ⟨s0, ⟨n0, n1⟩, rfl, hs0, hs1⟩
theorem read_prins {v : Value} (h : DataW.trod enc Tryz.prog w base spare held fuel 25 [v] = some x) (hb : Rows.uptoBulk x.1 ≤ 1048576) : ∃ (s : Sl) (l : List Prin), v = .slice s.a l.length s.cap ∧ PrinsAt w s.a l := by
  obtain ⟨s, n, hv, hn, hel⟩ := read_slice Tryz.underlying25 cellsPrin (by omega) h hb
  obtain ⟨l, hl, hr⟩ := list_of (R := fun i (a : Prin) => ∃ b o t, s.a = some ⟨b, o, none⟩ ∧ row? w b (o + i * 2) 2 = some (prinC t a) ∧ PrinAt w t a) (n := n) (fun i hi => by
    obtain ⟨b, o, cs, f', y, ha, hrow, ht, hby⟩ := hel i hi
    obtain ⟨t, p, hcs, hp⟩ := read_prin ht hby
    exact ⟨p, b, o, t, ha, by rw [hrow, ← Array.toList_inj.1 hcs], hp⟩)
  refine ⟨s, l, by rw [hl]; exact hv, by rw [hl]; exact lim_of hn, fun i hi => ?_⟩
  obtain ⟨b, o, t, h1, h2, h3⟩ := hr i l[i] (List.getElem?_eq_getElem hi)
  exact ⟨b, o, _, h1, h2, l[i], t, List.getElem?_eq_getElem hi, rfl, h3⟩
theorem read_u8 {v : Value} (h : DataW.trod enc Tryz.prog w base spare held fuel 5 [v] = some x) : ∃ c : UInt8, v = .int .u8 c.toNat := by
  obtain ⟨n, hs, _, hw⟩ := DataW.trod_int Tryz.underlying5 h
  have hw' : 0 ≤ n ∧ n ≤ 255 := by
    simp only [Lit.wf, Bool.and_eq_true, decide_eq_true_eq] at hw
    exact ⟨hw.1, hw.2⟩
  refine ⟨UInt8.ofNat n.toNat, ?_⟩
  have e : ((UInt8.ofNat n.toNat).toNat : Int) = n := by
    have : n.toNat < 256 := by omega
    rw [UInt8.toNat_ofNat_of_lt' (by simpa using this)]; omega
  rw [e]; simpa using hs
theorem read_bytes {v : Value} (h : DataW.trod enc Tryz.prog w base spare held fuel 44 [v] = some x) (hb : Rows.uptoBulk x.1 ≤ 1048576) : ∃ (s : Sl) (l : List UInt8), v = .slice s.a l.length s.cap ∧ BytesAt w s.a l := by
  obtain ⟨s, n, hv, hn, hel⟩ := read_slice Tryz.underlying44 cellsU8 (by omega) h hb
  obtain ⟨l, hl, hr⟩ := list_of (R := fun i (a : UInt8) => ∃ b o v, s.a = some ⟨b, o, none⟩ ∧ w.cell? ⟨b, o + i, none⟩ = some v ∧ v = .int .u8 a.toNat) (n := n) (fun i hi => by
    obtain ⟨b, o, cs, f', y, ha, hrow, ht, hby⟩ := hel i hi
    have hc := row?_cell hrow 0 (by omega)
    obtain ⟨c, hcs⟩ := list_1 (cs := cs.toList) (by simpa using row?_size hrow)
    have e : cs[0]? = some c := by rw [← Array.getElem?_toList, hcs]; rfl
    rw [hcs] at ht
    rw [e] at hc
    obtain ⟨a, rfl⟩ := read_u8 ht
    exact ⟨a, b, o, _, ha, by simpa using hc, rfl⟩)
  refine ⟨s, l, by rw [hl]; exact hv, by rw [hl]; exact lim_of hn, fun i hi => ?_⟩
  obtain ⟨b, o, v, h1, h2, h3⟩ := hr i l[i] (List.getElem?_eq_getElem hi)
  exact ⟨b, o, v, h1, h2, l[i], List.getElem?_eq_getElem hi, h3⟩
theorem read_key {cs : List Value} (h : DataW.trod enc Tryz.prog w base spare held fuel 69 cs = some x) (hb : Rows.uptoBulk x.1 ≤ 1048576) : ∃ (s : Sl) (p : Key), cs = (keyC s p).toList ∧ KeyAt w s p := by
  obtain ⟨hl, n, hf⟩ := field_of Tryz.underlying69 h hb
  rw [cellsKey] at hl
  obtain ⟨c0, c1, c2, rfl⟩ := list_3 hl
  obtain ⟨y0, t0, b0⟩ := hf 0 _ rfl
  replace t0 : DataW.trod enc Tryz.prog w base spare held n 3 (([c0, c1, c2].drop 0).take (Tryz.prog.cellsOf 3)) = some y0 := t0
  rw [cellsInt, take_one (c := c0) rfl] at t0
  obtain ⟨y1, t1, b1⟩ := hf 1 _ rfl
  replace t1 : DataW.trod enc Tryz.prog w base spare held n 3 (([c0, c1, c2].drop 1).take (Tryz.prog.cellsOf 3)) = some y1 := t1
  rw [cellsInt, take_one (c := c1) rfl] at t1
  obtain ⟨y2, t2, b2⟩ := hf 2 _ rfl
  replace t2 : DataW.trod enc Tryz.prog w base spare held n 44 (([c0, c1, c2].drop 2).take (Tryz.prog.cellsOf 44)) = some y2 := t2
  rw [cellsSl2, take_one (c := c2) rfl] at t2
  obtain ⟨n0, rfl⟩ := read_int t0
  clear b0
  obtain ⟨n1, rfl⟩ := read_int t1
  clear b1
  obtain ⟨s2, n2, rfl, hs2⟩ := read_bytes t2 b2
  exact ⟨s2, ⟨n0, n1, n2⟩, rfl, hs2⟩
theorem read_keys {v : Value} (h : DataW.trod enc Tryz.prog w base spare held fuel 37 [v] = some x) (hb : Rows.uptoBulk x.1 ≤ 1048576) : ∃ (s : Sl) (l : List Key), v = .slice s.a l.length s.cap ∧ KeysAt w s.a l := by
  obtain ⟨s, n, hv, hn, hel⟩ := read_slice Tryz.underlying37 cellsKey (by omega) h hb
  obtain ⟨l, hl, hr⟩ := list_of (R := fun i (a : Key) => ∃ b o t, s.a = some ⟨b, o, none⟩ ∧ row? w b (o + i * 3) 3 = some (keyC t a) ∧ KeyAt w t a) (n := n) (fun i hi => by
    obtain ⟨b, o, cs, f', y, ha, hrow, ht, hby⟩ := hel i hi
    obtain ⟨t, p, hcs, hp⟩ := read_key ht hby
    exact ⟨p, b, o, t, ha, by rw [hrow, ← Array.toList_inj.1 hcs], hp⟩)
  refine ⟨s, l, by rw [hl]; exact hv, by rw [hl]; exact lim_of hn, fun i hi => ?_⟩
  obtain ⟨b, o, t, h1, h2, h3⟩ := hr i l[i] (List.getElem?_eq_getElem hi)
  exact ⟨b, o, _, h1, h2, l[i], t, List.getElem?_eq_getElem hi, rfl, h3⟩
theorem read_set {cs : List Value} (h : DataW.trod enc Tryz.prog w base spare held fuel 39 cs = some x) (hb : Rows.uptoBulk x.1 ≤ 1048576) : ∃ (s : Sl) (p : KeySet), cs = (setC s p).toList ∧ SetAt w s p := by
  obtain ⟨hl, n, hf⟩ := field_of Tryz.underlying39 h hb
  rw [cellsSet] at hl
  obtain ⟨c0, c1, c2, c3, c4, rfl⟩ := list_5 hl
  obtain ⟨y0, t0, b0⟩ := hf 0 _ rfl
  replace t0 : DataW.trod enc Tryz.prog w base spare held n 3 (([c0, c1, c2, c3, c4].drop 0).take (Tryz.prog.cellsOf 3)) = some y0 := t0
  rw [cellsInt, take_one (c := c0) rfl] at t0
  obtain ⟨y1, t1, b1⟩ := hf 1 _ rfl
  replace t1 : DataW.trod enc Tryz.prog w base spare held n 37 (([c0, c1, c2, c3, c4].drop 1).take (Tryz.prog.cellsOf 37)) = some y1 := t1
  rw [cellsSl5, take_one (c := c1) rfl] at t1
  obtain ⟨y2, t2, b2⟩ := hf 2 _ rfl
  replace t2 : DataW.trod enc Tryz.prog w base spare held n 9 (([c0, c1, c2, c3, c4].drop 2).take (Tryz.prog.cellsOf 9)) = some y2 := t2
  rw [cellsStr, take_one (c := c2) rfl] at t2
  obtain ⟨y3, t3, b3⟩ := hf 3 _ rfl
  replace t3 : DataW.trod enc Tryz.prog w base spare held n 3 (([c0, c1, c2, c3, c4].drop 3).take (Tryz.prog.cellsOf 3)) = some y3 := t3
  rw [cellsInt, take_one (c := c3) rfl] at t3
  obtain ⟨y4, t4, b4⟩ := hf 4 _ rfl
  replace t4 : DataW.trod enc Tryz.prog w base spare held n 3 (([c0, c1, c2, c3, c4].drop 4).take (Tryz.prog.cellsOf 3)) = some y4 := t4
  rw [cellsInt, take_one (c := c4) rfl] at t4
  obtain ⟨n0, rfl⟩ := read_int t0
  clear b0
  obtain ⟨s1, n1, rfl, hs1⟩ := read_keys t1 b1
  obtain ⟨n2, rfl, hs2⟩ := read_str t2 b2
  obtain ⟨n3, rfl⟩ := read_int t3
  clear b3
  obtain ⟨n4, rfl⟩ := read_int t4
  clear b4
  exact ⟨s1, ⟨n0, n1, n2, n3, n4⟩, rfl, hs1, hs2⟩
theorem read_sets {v : Value} (h : DataW.trod enc Tryz.prog w base spare held fuel 28 [v] = some x) (hb : Rows.uptoBulk x.1 ≤ 1048576) : ∃ (s : Sl) (l : List KeySet), v = .slice s.a l.length s.cap ∧ SetsAt w s.a l := by
  obtain ⟨s, n, hv, hn, hel⟩ := read_slice Tryz.underlying28 cellsSet (by omega) h hb
  obtain ⟨l, hl, hr⟩ := list_of (R := fun i (a : KeySet) => ∃ b o t, s.a = some ⟨b, o, none⟩ ∧ row? w b (o + i * 5) 5 = some (setC t a) ∧ SetAt w t a) (n := n) (fun i hi => by
    obtain ⟨b, o, cs, f', y, ha, hrow, ht, hby⟩ := hel i hi
    obtain ⟨t, p, hcs, hp⟩ := read_set ht hby
    exact ⟨p, b, o, t, ha, by rw [hrow, ← Array.toList_inj.1 hcs], hp⟩)
  refine ⟨s, l, by rw [hl]; exact hv, by rw [hl]; exact lim_of hn, fun i hi => ?_⟩
  obtain ⟨b, o, t, h1, h2, h3⟩ := hr i l[i] (List.getElem?_eq_getElem hi)
  exact ⟨b, o, _, h1, h2, l[i], t, List.getElem?_eq_getElem hi, rfl, h3⟩
theorem read_hist {v : Value} (h : DataW.trod enc Tryz.prog w base spare held fuel 29 [v] = some x) (hb : Rows.uptoBulk x.1 ≤ 1048576) : ∃ (s : Sl) (l : List (List UInt8)), v = .slice s.a l.length s.cap ∧ HistAt w s.a l := by
  obtain ⟨s, n, hv, hn, hel⟩ := read_slice Tryz.underlying29 cellsSl2 (by omega) h hb
  obtain ⟨l, hl, hr⟩ := list_of (R := fun i (a : (List UInt8)) => ∃ b o v, s.a = some ⟨b, o, none⟩ ∧ w.cell? ⟨b, o + i, none⟩ = some v ∧ ∃ s' : Sl, v = .slice s'.a a.length s'.cap ∧ BytesAt w s'.a a) (n := n) (fun i hi => by
    obtain ⟨b, o, cs, f', y, ha, hrow, ht, hby⟩ := hel i hi
    have hc := row?_cell hrow 0 (by omega)
    obtain ⟨c, hcs⟩ := list_1 (cs := cs.toList) (by simpa using row?_size hrow)
    have e : cs[0]? = some c := by rw [← Array.getElem?_toList, hcs]; rfl
    rw [hcs] at ht
    rw [e] at hc
    obtain ⟨s', a, rfl, hs'⟩ := read_bytes ht hby
    exact ⟨a, b, o, _, ha, by simpa using hc, s', rfl, hs'⟩)
  refine ⟨s, l, by rw [hl]; exact hv, by rw [hl]; exact lim_of hn, fun i hi => ?_⟩
  obtain ⟨b, o, v, h1, h2, h3⟩ := hr i l[i] (List.getElem?_eq_getElem hi)
  obtain ⟨s', h4, h5⟩ := h3
  exact ⟨b, o, v, h1, h2, l[i], s', List.getElem?_eq_getElem hi, h4, h5⟩
end
end Go.Proofs.YtpibcnchkndejaaGreatDoor
/- The reading of an entry and of a policy. Printed by wip/src/genread2.py. -/
namespace Go.Proofs.YtpibcnchkndejaaGreatDoor
open Go.ChangeShapes Go.WideShapes Go.ChangeAt Go.RowKit Go.WW Go.Deep
section
variable {H : Type} {enc : TypeId × Value → H} {w : World} {base : Nat} {spare : Nat → Bool} {held : Bool} {fuel : Nat} {x : DataW H × List MemPlace}
theorem read_u32 {v : Value} (h : DataW.trod enc Tryz.prog w base spare held fuel 27 [v] = some x) : ∃ n : Int, v = .int .u32 n ∧ 0 ≤ n ∧ n ≤ 4294967295 := by
  obtain ⟨n, hs, _, hw⟩ := DataW.trod_int Tryz.underlying27 h
  simp only [Lit.wf, Bool.and_eq_true, decide_eq_true_eq] at hw
  exact ⟨n, by simpa using hs, hw.1, hw.2⟩
set_option maxRecDepth 100000 in
theorem read_ent {cs : List Value} (h : DataW.trod enc Tryz.prog w base spare held fuel 31 cs = some x) (hb : Rows.uptoBulk x.1 ≤ 1048576) : ∃ (r : ERaw) (d : Entry), cs = (entC r d).toList ∧ EntAt w r d := by
  obtain ⟨hl, n, hf⟩ := field_of Tryz.underlying31 h hb
  rw [cellsEnt] at hl
  obtain ⟨c0, c1, c2, c3, c4, c5, c6, c7, c8, c9, c10, c11, c12, c13, c14, c15, c16, rfl⟩ := list_17 hl
  obtain ⟨y0, t0, b0⟩ := hf 0 _ rfl
  replace t0 : DataW.trod enc Tryz.prog w base spare held n 24 (([c0, c1, c2, c3, c4, c5, c6, c7, c8, c9, c10, c11, c12, c13, c14, c15, c16].drop 0).take (Tryz.prog.cellsOf 24)) = some y0 := t0
  rw [cellsPrin] at t0
  replace t0 : DataW.trod enc Tryz.prog w base spare held n 24 [c0, c1] = some y0 := t0
  obtain ⟨y1, t1, b1⟩ := hf 1 _ rfl
  replace t1 : DataW.trod enc Tryz.prog w base spare held n 25 (([c0, c1, c2, c3, c4, c5, c6, c7, c8, c9, c10, c11, c12, c13, c14, c15, c16].drop 2).take (Tryz.prog.cellsOf 25)) = some y1 := t1
  rw [cellsSl3, take_one (c := c2) rfl] at t1
  obtain ⟨y2, t2, b2⟩ := hf 2 _ rfl
  replace t2 : DataW.trod enc Tryz.prog w base spare held n 27 (([c0, c1, c2, c3, c4, c5, c6, c7, c8, c9, c10, c11, c12, c13, c14, c15, c16].drop 3).take (Tryz.prog.cellsOf 27)) = some y2 := t2
  rw [cellsU32, take_one (c := c3) rfl] at t2
  obtain ⟨y3, t3, b3⟩ := hf 3 _ rfl
  replace t3 : DataW.trod enc Tryz.prog w base spare held n 3 (([c0, c1, c2, c3, c4, c5, c6, c7, c8, c9, c10, c11, c12, c13, c14, c15, c16].drop 4).take (Tryz.prog.cellsOf 3)) = some y3 := t3
  rw [cellsInt, take_one (c := c4) rfl] at t3
  obtain ⟨y4, t4, b4⟩ := hf 4 _ rfl
  replace t4 : DataW.trod enc Tryz.prog w base spare held n 28 (([c0, c1, c2, c3, c4, c5, c6, c7, c8, c9, c10, c11, c12, c13, c14, c15, c16].drop 5).take (Tryz.prog.cellsOf 28)) = some y4 := t4
  rw [cellsSl4, take_one (c := c5) rfl] at t4
  obtain ⟨y5, t5, b5⟩ := hf 5 _ rfl
  replace t5 : DataW.trod enc Tryz.prog w base spare held n 9 (([c0, c1, c2, c3, c4, c5, c6, c7, c8, c9, c10, c11, c12, c13, c14, c15, c16].drop 6).take (Tryz.prog.cellsOf 9)) = some y5 := t5
  rw [cellsStr, take_one (c := c6) rfl] at t5
  obtain ⟨y6, t6, b6⟩ := hf 6 _ rfl
  replace t6 : DataW.trod enc Tryz.prog w base spare held n 3 (([c0, c1, c2, c3, c4, c5, c6, c7, c8, c9, c10, c11, c12, c13, c14, c15, c16].drop 7).take (Tryz.prog.cellsOf 3)) = some y6 := t6
  rw [cellsInt, take_one (c := c7) rfl] at t6
  obtain ⟨y7, t7, b7⟩ := hf 7 _ rfl
  replace t7 : DataW.trod enc Tryz.prog w base spare held n 3 (([c0, c1, c2, c3, c4, c5, c6, c7, c8, c9, c10, c11, c12, c13, c14, c15, c16].drop 8).take (Tryz.prog.cellsOf 3)) = some y7 := t7
  rw [cellsInt, take_one (c := c8) rfl] at t7
  obtain ⟨y8, t8, b8⟩ := hf 8 _ rfl
  replace t8 : DataW.trod enc Tryz.prog w base spare held n 3 (([c0, c1, c2, c3, c4, c5, c6, c7, c8, c9, c10, c11, c12, c13, c14, c15, c16].drop 9).take (Tryz.prog.cellsOf 3)) = some y8 := t8
  rw [cellsInt, take_one (c := c9) rfl] at t8
  obtain ⟨y9, t9, b9⟩ := hf 9 _ rfl
  replace t9 : DataW.trod enc Tryz.prog w base spare held n 3 (([c0, c1, c2, c3, c4, c5, c6, c7, c8, c9, c10, c11, c12, c13, c14, c15, c16].drop 10).take (Tryz.prog.cellsOf 3)) = some y9 := t9
  rw [cellsInt, take_one (c := c10) rfl] at t9
  obtain ⟨y10, t10, b10⟩ := hf 10 _ rfl
  replace t10 : DataW.trod enc Tryz.prog w base spare held n 3 (([c0, c1, c2, c3, c4, c5, c6, c7, c8, c9, c10, c11, c12, c13, c14, c15, c16].drop 11).take (Tryz.prog.cellsOf 3)) = some y10 := t10
  rw [cellsInt, take_one (c := c11) rfl] at t10
  obtain ⟨y11, t11, b11⟩ := hf 11 _ rfl
  replace t11 : DataW.trod enc Tryz.prog w base spare held n 3 (([c0, c1, c2, c3, c4, c5, c6, c7, c8, c9, c10, c11, c12, c13, c14, c15, c16].drop 12).take (Tryz.prog.cellsOf 3)) = some y11 := t11
  rw [cellsInt, take_one (c := c12) rfl] at t11
  obtain ⟨y12, t12, b12⟩ := hf 12 _ rfl
  replace t12 : DataW.trod enc Tryz.prog w base spare held n 3 (([c0, c1, c2, c3, c4, c5, c6, c7, c8, c9, c10, c11, c12, c13, c14, c15, c16].drop 13).take (Tryz.prog.cellsOf 3)) = some y12 := t12
  rw [cellsInt, take_one (c := c13) rfl] at t12
  obtain ⟨y13, t13, b13⟩ := hf 13 _ rfl
  replace t13 : DataW.trod enc Tryz.prog w base spare held n 25 (([c0, c1, c2, c3, c4, c5, c6, c7, c8, c9, c10, c11, c12, c13, c14, c15, c16].drop 14).take (Tryz.prog.cellsOf 25)) = some y13 := t13
  rw [cellsSl3, take_one (c := c14) rfl] at t13
  obtain ⟨y14, t14, b14⟩ := hf 14 _ rfl
  replace t14 : DataW.trod enc Tryz.prog w base spare held n 25 (([c0, c1, c2, c3, c4, c5, c6, c7, c8, c9, c10, c11, c12, c13, c14, c15, c16].drop 15).take (Tryz.prog.cellsOf 25)) = some y14 := t14
  rw [cellsSl3, take_one (c := c15) rfl] at t14
  obtain ⟨y15, t15, b15⟩ := hf 15 _ rfl
  replace t15 : DataW.trod enc Tryz.prog w base spare held n 29 (([c0, c1, c2, c3, c4, c5, c6, c7, c8, c9, c10, c11, c12, c13, c14, c15, c16].drop 16).take (Tryz.prog.cellsOf 29)) = some y15 := t15
  rw [cellsSl6, take_one (c := c16) rfl] at t15
  obtain ⟨s0, n0, e0, hs0⟩ := read_prin t0 b0
  obtain ⟨rfl, rfl⟩ : c0 = .slice s0.a n0.parts.length s0.cap ∧ c1 = .string n0.realm := by simpa [prinC] using e0
  obtain ⟨s1, n1, rfl, hs1⟩ := read_prins t1 b1
  obtain ⟨n2, rfl, hs2⟩ := read_u32 t2
  clear b2
  obtain ⟨n3, rfl⟩ := read_int t3
  clear b3
  obtain ⟨s4, n4, rfl, hs4⟩ := read_sets t4 b4
  obtain ⟨n5, rfl, hs5⟩ := read_str t5 b5
  obtain ⟨n6, rfl⟩ := read_int t6
  clear b6
  obtain ⟨n7, rfl⟩ := read_int t7
  clear b7
  obtain ⟨n8, rfl⟩ := read_int t8
  clear b8
  obtain ⟨n9, rfl⟩ := read_int t9
  clear b9
  obtain ⟨n10, rfl⟩ := read_int t10
  clear b10
  obtain ⟨n11, rfl⟩ := read_int t11
  clear b11
  obtain ⟨n12, rfl⟩ := read_int t12
  clear b12
  obtain ⟨s13, n13, rfl, hs13⟩ := read_prins t13 b13
  obtain ⟨s14, n14, rfl, hs14⟩ := read_prins t14 b14
  obtain ⟨s15, n15, rfl, hs15⟩ := read_hist t15 b15
  exact ⟨⟨s0, s1, s4, s13, s14, s15⟩, ⟨n0, n1, n2, n3, n4, n5, n6, n7, n8, n9, n10, n11, n12, n13, n14, n15⟩, rfl, ⟨hs0, hs1, hs4, hs13, hs14, hs15, hs5, hs2⟩⟩
set_option maxRecDepth 100000 in
theorem read_pol {cs : List Value} (h : DataW.trod enc Tryz.prog w base spare held fuel 75 cs = some x) (hb : Rows.uptoBulk x.1 ≤ 1048576) : ∃ p : Policy, cs = (polC p).toList ∧ p.name.size ≤ lim := by
  obtain ⟨hl, n, hf⟩ := field_of Tryz.underlying75 h hb
  rw [cellsPol] at hl
  obtain ⟨c0, c1, c2, c3, c4, c5, c6, c7, c8, c9, rfl⟩ := list_10 hl
  obtain ⟨y0, t0, b0⟩ := hf 0 _ rfl
  replace t0 : DataW.trod enc Tryz.prog w base spare held n 9 (([c0, c1, c2, c3, c4, c5, c6, c7, c8, c9].drop 0).take (Tryz.prog.cellsOf 9)) = some y0 := t0
  rw [cellsStr, take_one (c := c0) rfl] at t0
  obtain ⟨y1, t1, b1⟩ := hf 1 _ rfl
  replace t1 : DataW.trod enc Tryz.prog w base spare held n 3 (([c0, c1, c2, c3, c4, c5, c6, c7, c8, c9].drop 1).take (Tryz.prog.cellsOf 3)) = some y1 := t1
  rw [cellsInt, take_one (c := c1) rfl] at t1
  obtain ⟨y2, t2, b2⟩ := hf 2 _ rfl
  replace t2 : DataW.trod enc Tryz.prog w base spare held n 3 (([c0, c1, c2, c3, c4, c5, c6, c7, c8, c9].drop 2).take (Tryz.prog.cellsOf 3)) = some y2 := t2
  rw [cellsInt, take_one (c := c2) rfl] at t2
  obtain ⟨y3, t3, b3⟩ := hf 3 _ rfl
  replace t3 : DataW.trod enc Tryz.prog w base spare held n 3 (([c0, c1, c2, c3, c4, c5, c6, c7, c8, c9].drop 3).take (Tryz.prog.cellsOf 3)) = some y3 := t3
  rw [cellsInt, take_one (c := c3) rfl] at t3
  obtain ⟨y4, t4, b4⟩ := hf 4 _ rfl
  replace t4 : DataW.trod enc Tryz.prog w base spare held n 3 (([c0, c1, c2, c3, c4, c5, c6, c7, c8, c9].drop 4).take (Tryz.prog.cellsOf 3)) = some y4 := t4
  rw [cellsInt, take_one (c := c4) rfl] at t4
  obtain ⟨y5, t5, b5⟩ := hf 5 _ rfl
  replace t5 : DataW.trod enc Tryz.prog w base spare held n 3 (([c0, c1, c2, c3, c4, c5, c6, c7, c8, c9].drop 5).take (Tryz.prog.cellsOf 3)) = some y5 := t5
  rw [cellsInt, take_one (c := c5) rfl] at t5
  obtain ⟨y6, t6, b6⟩ := hf 6 _ rfl
  replace t6 : DataW.trod enc Tryz.prog w base spare held n 3 (([c0, c1, c2, c3, c4, c5, c6, c7, c8, c9].drop 6).take (Tryz.prog.cellsOf 3)) = some y6 := t6
  rw [cellsInt, take_one (c := c6) rfl] at t6
  obtain ⟨y7, t7, b7⟩ := hf 7 _ rfl
  replace t7 : DataW.trod enc Tryz.prog w base spare held n 3 (([c0, c1, c2, c3, c4, c5, c6, c7, c8, c9].drop 7).take (Tryz.prog.cellsOf 3)) = some y7 := t7
  rw [cellsInt, take_one (c := c7) rfl] at t7
  obtain ⟨y8, t8, b8⟩ := hf 8 _ rfl
  replace t8 : DataW.trod enc Tryz.prog w base spare held n 3 (([c0, c1, c2, c3, c4, c5, c6, c7, c8, c9].drop 8).take (Tryz.prog.cellsOf 3)) = some y8 := t8
  rw [cellsInt, take_one (c := c8) rfl] at t8
  obtain ⟨y9, t9, b9⟩ := hf 9 _ rfl
  replace t9 : DataW.trod enc Tryz.prog w base spare held n 3 (([c0, c1, c2, c3, c4, c5, c6, c7, c8, c9].drop 9).take (Tryz.prog.cellsOf 3)) = some y9 := t9
  rw [cellsInt, take_one (c := c9) rfl] at t9
  obtain ⟨n0, rfl, hs0⟩ := read_str t0 b0
  obtain ⟨n1, rfl⟩ := read_int t1
  clear b1
  obtain ⟨n2, rfl⟩ := read_int t2
  clear b2
  obtain ⟨n3, rfl⟩ := read_int t3
  clear b3
  obtain ⟨n4, rfl⟩ := read_int t4
  clear b4
  obtain ⟨n5, rfl⟩ := read_int t5
  clear b5
  obtain ⟨n6, rfl⟩ := read_int t6
  clear b6
  obtain ⟨n7, rfl⟩ := read_int t7
  clear b7
  obtain ⟨n8, rfl⟩ := read_int t8
  clear b8
  obtain ⟨n9, rfl⟩ := read_int t9
  clear b9
  exact ⟨⟨n0, n1, n2, n3, n4, n5, n6, n7, n8, n9⟩, rfl, hs0⟩
end
end Go.Proofs.YtpibcnchkndejaaGreatDoor
/- LockoutCounts: from the reading of the arguments to what the row asks. -/
namespace Go.Proofs.YtpibcnchkndejaaGreatDoor
open Go.ChangeShapes Go.WideShapes Go.ChangeAt Go.RowKit Go.WW Go.Deep
theorem laidOut : laidOutB Tryz.prog = true := by kernel_rfl
theorem readEnt : Tryz.prog.readableRec 31 = true := by kernel_rfl
theorem readPol : Tryz.prog.readableRec 75 = true := by kernel_rfl
theorem readInt : Tryz.prog.readableRec 3 = true := by kernel_rfl
theorem ltEnt : 31 < Tryz.prog.types.size := of_decide_eq_true (by kernel_rfl)
theorem ltPol : 75 < Tryz.prog.types.size := of_decide_eq_true (by kernel_rfl)
theorem ltInt : 3 < Tryz.prog.types.size := of_decide_eq_true (by kernel_rfl)
section
variable {H : Type} {enc : TypeId × Value → H}
set_option maxRecDepth 2000000 in
theorem arg_ent {W : World} {b0 : Nat} {v : Value} {d : DataW H} {p : List MemPlace} (hv : Value.okWide Tryz.prog W .any b0 31 v) (h : DataW.Trod enc Tryz.prog W 0 (fun _ => true) true 31 v d p) (hb : Rows.uptoBulk d ≤ 1048576) :
    ∃ (r : ERaw) (e : Entry), v = .agg (entC r e) ∧ EntAt W r e := by
  obtain ⟨cs, rfl, _⟩ := okWide_struct Tryz.underlying31 hv
  obtain ⟨fuel, hf⟩ := h
  obtain ⟨r, e, he, hat⟩ := read_ent hf hb
  have h1 : cs = entC r e := Array.toList_inj.1 he
  exact ⟨r, e, by rw [h1], hat⟩
set_option maxRecDepth 2000000 in
theorem arg_pol {W : World} {b0 : Nat} {v : Value} {d : DataW H} {p : List MemPlace} (hv : Value.okWide Tryz.prog W .any b0 75 v) (h : DataW.Trod enc Tryz.prog W 0 (fun _ => true) true 75 v d p) (hb : Rows.uptoBulk d ≤ 1048576) :
    ∃ q : Policy, v = .agg (polC q) ∧ q.name.size ≤ lim := by
  obtain ⟨cs, rfl, _⟩ := okWide_struct Tryz.underlying75 hv
  obtain ⟨fuel, hf⟩ := h
  obtain ⟨q, hq, hs⟩ := read_pol hf hb
  have h1 : cs = polC q := Array.toList_inj.1 hq
  exact ⟨q, by rw [h1], hs⟩
theorem stays {W W' : World} {t : TypeId} {v : Value} {d : DataW H} {ps : List MemPlace} (hr : Tryz.prog.readableRec t = true) (hrow : t < Tryz.prog.types.size) (h : DataW.Trod enc Tryz.prog W 0 (fun _ => true) true t v d ps) (hb : Below W.heap.size W W') (hlt : ∀ x ∈ ps, x.block < W.heap.size)
    {sp : Nat → Bool} (hsp : ∀ x ∈ ps, sp x.block = true) : DataW.Trod enc Tryz.prog W' 0 sp true t v d ps :=
  WideElems.Trod_stays laidOut hr hrow h (fun x hx => hb.same (hlt x hx)) hsp
set_option maxRecDepth 2000000 in
/-- The row's last step for a law whose call leaves all that was there as it was. -/
theorem law_post {f : Func} {s : ChangeSpec} {fresh handsOn again apart : Bool} {W W' : World} {args : Array Value} {v : Value} {ds : List (DataW H)} {before : List MemPlace}
    (hW : DataW.Whole enc Tryz.prog f.params.toList s.vars apart W args.toList ds [] before)
    (hres : ∀ (b : Nat) (sp : Nat → Bool) (hd : Bool), DataW.TrodAll enc Tryz.prog W' b sp hd f.resultTypes.toList (v.resultList f.resultTypes.size) (s.fn H (ds ++ [])).results [])
    (hargs : ∀ sp : Nat → Bool, (∀ p ∈ before, sp p.block = true) → DataW.TrodAll enc Tryz.prog W' 0 sp true f.params.toList args.toList (s.fn H (ds ++ [])).args before)
    (hvars : ∀ sp : Nat → Bool, DataW.TrodVars enc Tryz.prog W' sp s.vars (s.fn H (ds ++ [])).vars [])
    (hb : Below W.heap.size W W') (hok : ∀ (j : Nat) (t : TypeId) (r : Value), f.resultTypes[j]? = some t → (v.resultList f.resultTypes.size)[j]? = some r → Value.okWide Tryz.prog W' .any 0 t r) :
    s.post enc Tryz.prog f apart fresh handsOn again W args v W' := by
  have hold : ∀ q ∈ before, decide (q.block < W.heap.size) = true := fun q hq => by simpa using hW.lt q hq
  have hlt := hW.lt
  refine ⟨ds, [], before, [], before, [], hW, hres _ _ _, hargs _ hold, hvars _, World.keptBut_mono (fun q hq => ⟨hq, .inr (.inl hq)⟩) (hb.frame (· ∈ before)), fun _ => ?_⟩
  obtain ⟨_, _, _, _, _, hz, hn⟩ := hW
  refine ⟨hok, _, _, ([] ++ before) ++ [], ⟨[] ++ before, [], trodAll_append (hargs _ (fun _ _ => rfl)) (hres _ _ _), hvars _, rfl, fun b off hq => ?_, fun ha => ?_⟩, fun q hq _ => ?_⟩
  · have hin : MemPlace.cell b off ∈ before := by simpa using hq
    rw [hb.frozen (hlt _ hin)]
    exact hz b off hin
  · simpa using hn ha
  · simpa using hq
end
end Go.Proofs.YtpibcnchkndejaaGreatDoor
