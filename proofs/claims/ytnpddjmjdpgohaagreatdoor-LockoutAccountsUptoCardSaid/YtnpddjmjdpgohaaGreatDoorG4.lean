/- Part 4 of the proof about watchword's lockout: texts F1 F2 F3 F4. -/
import Derived.Test.YtnpddjmjdpgohaaGreatDoorG3
import Derived.Test.YtnpddjmjdpgohaaGreatDoorGB
import Derived.Test.YtnpddjmjdpgohaaGreatDoorGL

namespace Go.WW
def idxOf {α : Type} (f : α → Bool) (l : List α) : Int := match l.findIdx? f with | some i => (i : Int) | none => -1
theorem idxOf_found {α : Type} {f : α → Bool} {l : List α} (k : Nat) (hk : k < l.length) (h : (l.take k).all (fun x => !f x) = true) (hf : f l[k] = true) : idxOf f l = (k : Int) := by
  have : l.findIdx? f = some k := by
    rw [List.findIdx?_eq_some_iff_getElem]
    refine ⟨hk, hf, fun j hj => ?_⟩
    have := List.all_eq_true.1 h (l[j]'(by omega)) (by rw [List.mem_iff_getElem]; exact ⟨j, by simp; omega, by simp⟩)
    simpa using this
  rw [idxOf, this]
theorem idxOf_none {α : Type} {f : α → Bool} {l : List α} (k : Nat) (hk : l.length ≤ k) (h : (l.take k).all (fun x => !f x) = true) : idxOf f l = -1 := by
  have : l.findIdx? f = none := by
    rw [List.findIdx?_eq_none_iff]
    intro x hx
    rw [List.take_of_length_le hk] at h
    simpa using List.all_eq_true.1 h x hx
  rw [idxOf, this]
theorem any_yes {α : Type} {f : α → Bool} {l : List α} (k : Nat) (hk : k < l.length) (hf : f l[k] = true) : l.any f = true := List.any_eq_true.2 ⟨l[k], List.getElem_mem hk, hf⟩
theorem any_no {α : Type} {f : α → Bool} {l : List α} (k : Nat) (hk : l.length ≤ k) (h : (l.take k).all (fun x => !f x) = true) : l.any f = false := by
  rw [List.take_of_length_le hk] at h
  rw [List.any_eq_false]
  intro x hx
  have := List.all_eq_true.1 h x hx
  simpa using this
end Go.WW
namespace Go.Proofs.YtnpddjmjdpgohaaGreatDoor
open Go.RowKit Go.WW
theorem texts26_c (a b : ByteArray) (w : World) : Calls Tryz.prog 124 #[.string a, .string b] w fun e w' => e = .returned (.int .i64 (cmpT a b)) ∧ w = w' := by
  cases h : Op.bytesLess a.toList b.toList
  · by_cases he : a = b
    · have he' := str_eq _ _ he
      have HN := Lib.hid (show cmpT a b = 0 by subst he; exact cmpT_same a)
      clear he
      go_enter Tryz.func124, Tryz.ntmps124
      go_wp2
      go_ret
      exact ⟨by rw [HN.out]; rfl, rfl⟩
    · have he' := str_ne _ _ he
      have HN := Lib.hid (cmpT_more h he)
      clear he
      go_enter Tryz.func124, Tryz.ntmps124
      go_wp2
      go_ret
      exact ⟨by rw [HN.out]; rfl, rfl⟩
  · have HN := Lib.hid (cmpT_less h)
    go_enter Tryz.func124, Tryz.ntmps124
    go_wp2
    go_ret
    exact ⟨by rw [HN.out]; rfl, rfl⟩
set_option maxRecDepth 100000 in
set_option maxHeartbeats 1000000 in
theorem compare26_c (s t : Sl) (p q : Prin) (w : World) (hp : PrinAt w s p) (hq : PrinAt w t q) : Calls Tryz.prog 103 #[.agg (prinC s p), .agg (prinC t q)] w fun e w' => e = .returned (.int .i64 (cmpPrin p q)) ∧ Below w.heap.size w w' := by
  have hl : p.parts.length ≤ 4294967000 := hp.1.1
  have hl2 : q.parts.length ≤ 4294967000 := hq.1.1
  have hB : Below w.heap.size w ((w.alloc (.cells (prinC s p) 24)).alloc (.cells (prinC t q) 24)) := ((Below.refl _ _).alloc (Nat.le_refl _) _).alloc (by simp) _
  go_enter Tryz.func103, Tryz.ntmps103
  go_wp2_with (go_at_call 124; refine (texts26_c _ _ _).mono ?_; rintro e w' ⟨rfl, rfl⟩)
  go_loopw [5, 6] (fun c i wr => Below ((w.alloc (.cells (prinC s p) 24)).alloc (.cells (prinC t q) 24)).heap.size ((w.alloc (.cells (prinC s p) 24)).alloc (.cells (prinC t q) 24)) wr ∧ ∃ (k : Nat) (z : Int), k ≤ p.parts.length ∧ k ≤ q.parts.length ∧ i = .int .i64 k ∧ c = .int .i64 z ∧ Hid (CmpAt p q k z)) (fun _ i _ => p.parts.length - (intOf i).toNat)
  case atStart => exact ⟨Below.refl _ _, 0, _, Nat.zero_le _, Nat.zero_le _, rfl, rfl, cmpAt_start p q⟩
  case round =>
    obtain ⟨hbr, k, z, hk, hk2, rfl, rfl, hall⟩ := hrel
    obtain ⟨hcc, hff, hrr⟩ := bcell hbr
    by_cases hz : z = 0
    · subst hz
      by_cases hlt : k < p.parts.length
      · have hki : (k : Int) < (p.parts.length : Int) := by omega
        by_cases hlq : k < q.parts.length
        · have hkq : (k : Int) < (q.parts.length : Int) := by omega
          obtain ⟨b, o, ha, hc, hsz⟩ := hp.1.get k hlt
          obtain ⟨b', o', ha', hc', hsz'⟩ := hq.1.get k hlq
          have hb : b < w.heap.size := World.block_lt_of_cell? w _ hc
          have hb' : b' < w.heap.size := World.block_lt_of_cell? w _ hc'
          have hb1 : b < w.heap.size + 1 + 1 := by omega
          have hb1' : b' < w.heap.size + 1 + 1 := by omega
          have HT := Lib.hid (cmpAt_step hall.out hlt hlq)
          go_wp2
          refine wp_region_later hbr (by kernel_rfl) (by kernel_rfl) ?_
          repeat (go_big_quiet_step ((go_at_call 124; exact Calls.later_same (texts26_c _ _ _))))
          refine wpQuiet_nil ?_
          intro w2 hb2
          go_wp2
          go_roundw
          case rel => exact ⟨hb2, k + 1, _, by omega, by omega, by go_num, rfl, HT.out⟩
          case measure => simp [intOf]; omega
        · have HN := Lib.hid (cmpAt_more hall.out hlt (by omega))
          have h1 : ¬ (p.parts.length : Int) < (q.parts.length : Int) := by omega
          have h2 : (q.parts.length : Int) < (p.parts.length : Int) := by omega
          go_wp2
          go_ret
          exact ⟨by rw [HN.out]; rfl, hB.trans (hbr.mono (by simp; omega))⟩
      · by_cases hlq : k < q.parts.length
        · have HN := Lib.hid (cmpAt_less hall.out (by omega) hlq)
          have h1 : (p.parts.length : Int) < (q.parts.length : Int) := by omega
          go_wp2
          go_ret
          exact ⟨by rw [HN.out]; rfl, hB.trans (hbr.mono (by simp; omega))⟩
        · have HN := Lib.hid (cmpAt_same hall.out (by omega) (by omega))
          have h1 : ¬ (p.parts.length : Int) < (q.parts.length : Int) := by omega
          have h2 : ¬ (q.parts.length : Int) < (p.parts.length : Int) := by omega
          go_wp2
          go_ret
          exact ⟨by rw [HN.out]; rfl, hB.trans (hbr.mono (by simp; omega))⟩
    · have HN := Lib.hid (cmpAt_done hall.out hz)
      have hz' : (z == 0) = false := by simp [hz]
      clear hz
      go_wp2
      go_ret
      exact ⟨by rw [HN.out]; rfl, hB.trans (hbr.mono (by simp; omega))⟩
set_option maxRecDepth 100000 in
set_option maxHeartbeats 1000000 in
theorem has26_c (r : ERaw) (d : Entry) (t : Sl) (q : Prin) (w : World) (he : EntAt w r d) (hq : PrinAt w t q) : Calls Tryz.prog 68 #[.agg (entC r d), .agg (prinC t q)] w fun e w' => e = .returned (.bool (hasN d q)) ∧ Below w.heap.size w w' := by
  have hl : d.aliases.length ≤ 4294967000 := he.aliases.1
  have hB : Below w.heap.size w ((w.alloc (.cells (entC r d) 31)).alloc (.cells (prinC t q) 24)) := ((Below.refl _ _).alloc (Nat.le_refl _) _).alloc (by simp) _
  go_enter Tryz.func68, Tryz.ntmps68
  go_wp2_with fail
  go_loopw [5] (fun i wr => Below ((w.alloc (.cells (entC r d) 31)).alloc (.cells (prinC t q) 24)).heap.size ((w.alloc (.cells (entC r d) 31)).alloc (.cells (prinC t q) 24)) wr ∧ ∃ k : Nat, k ≤ d.aliases.length ∧ i = .int .i64 k ∧ Hid ((d.aliases.take k).all (fun a => !samePrin a q) = true)) (fun i _ => d.aliases.length - (intOf i).toNat)
  case atStart => exact ⟨Below.refl _ _, 0, Nat.zero_le _, rfl, by simp [Hid]⟩
  case round =>
    obtain ⟨hbr, k, hk, rfl, hall⟩ := hrel
    obtain ⟨hcc, hff, hrr⟩ := bcell hbr
    by_cases hlt : k < d.aliases.length
    · have hki : (k : Int) < (d.aliases.length : Int) := by omega
      obtain ⟨b, o, t1, ha, hc, hp⟩ := he.aliases.get k hlt
      have hb : b < w.heap.size := row?_lt hc
      have hb1 : b < w.heap.size + 1 + 1 := by omega
      cases hs : samePrin d.aliases[k] q
      · have HS := Lib.hid (lall_step (p := fun a => !samePrin a q) d.aliases k hlt hall.out (by simp [hs]))
        go_wp2_with fail
        refine wp_region_later hbr (by kernel_rfl) (by kernel_rfl) ?_
        repeat (go_big_quiet_step ((go_at_call 21; rename_i xw; exact Calls.later_of (hs ▸ samePrincipal_c _ _ _ _ _ ((hp.later hB).later xw.b) ((hq.later hB).later xw.b)))))
        refine wpQuiet_nil ?_
        intro w2 hb2
        go_wp2_with fail
        go_roundw
        case rel => exact ⟨hb2, k + 1, by omega, by go_num, HS.out⟩
        case measure => simp [intOf]; omega
      · have HS := Lib.hid (show hasN d q = true by rw [hasN, any_yes k hlt hs]; rfl)
        go_wp2_with fail
        refine wp_region_later hbr (by kernel_rfl) (by kernel_rfl) ?_
        repeat (go_big_quiet_step ((go_at_call 21; rename_i xw; exact Calls.later_of (hs ▸ samePrincipal_c _ _ _ _ _ ((hp.later hB).later xw.b) ((hq.later hB).later xw.b)))))
        refine wpQuiet_nil ?_
        intro w2 hb2
        go_wp2_with fail
        go_ret
        exact ⟨by rw [HS.out]; rfl, hB.trans (hb2.mono (by simp; omega))⟩
    · have HN := Lib.hid (show hasN d q = samePrin d.name q by rw [hasN, any_no k (by omega) hall.out]; rfl)
      go_wp2_with fail
      refine (samePrincipal_c _ _ _ _ _ ((he.name.later hB).later hbr) ((hq.later hB).later hbr)).mono ?_
      rintro e w2 ⟨rfl, hb2⟩
      dsimp only
      go_wp2_with fail
      go_ret
      exact ⟨by rw [HN.out]; rfl, hB.trans ((below_step hbr hb2).mono (by simp; omega))⟩
end Go.Proofs.YtnpddjmjdpgohaaGreatDoor

namespace Go.WW
open Go.RowKit
theorem row?_sub {w : World} {b o n : Nat} {cs : Array Value} (h : row? w b o n = some cs) {j m : Nat} (hj : j + m ≤ n) : row? w b (o + j) m = subRow cs j m := by
  have hs := row?_size h
  unfold row? at h ⊢
  cases hb : w.heap[b]? with
  | none => rw [hb] at h; simp at h
  | some ob =>
    rw [hb] at h
    cases ob with
    | cells c t f =>
      dsimp only at h ⊢
      by_cases hn : o + n ≤ c.size
      · rw [if_pos hn] at h
        injection h with h
        rw [if_pos (by omega)]
        unfold subRow
        rw [if_pos (by omega), ← h, Array.extract_extract]
        congr 2
        omega
      · rw [if_neg hn] at h; cases h
    | _ => simp at h
theorem ent_name_row {w : World} {b o : Nat} {r : ERaw} {d : Entry} (h : row? w b o 17 = some (entC r d)) : row? w b o 2 = some (prinC r.parts d.name) := by
  have := row?_sub h (j := 0) (m := 2) (by omega)
  rw [Nat.add_zero] at this
  rw [this]; exact entC_name r d
end Go.WW
namespace Go.Proofs.YtnpddjmjdpgohaaGreatDoor
open Go.RowKit Go.WW
set_option maxRecDepth 100000 in
set_option maxHeartbeats 1000000 in
theorem named26_c (e p : Sl) (D : Db) (t : Sl) (q : Prin) (w : World) (he : EntsAt w e.a D.entries) (hq : PrinAt w t q) : Calls Tryz.prog 67 #[.agg (rdbC e p D), .agg (prinC t q)] w fun x w' => x = .returned (.int .i64 (idxOf (fun d => samePrin d.name q) D.entries)) ∧ Below w.heap.size w w' := by
  have hl : D.entries.length ≤ 4294967000 := he.1
  have hB : Below w.heap.size w ((w.alloc (.cells (rdbC e p D) 50)).alloc (.cells (prinC t q) 24)) := ((Below.refl _ _).alloc (Nat.le_refl _) _).alloc (by simp) _
  go_enter Tryz.func67, Tryz.ntmps67
  go_wp2_with fail
  go_loopw [5] (fun i wr => Below ((w.alloc (.cells (rdbC e p D) 50)).alloc (.cells (prinC t q) 24)).heap.size ((w.alloc (.cells (rdbC e p D) 50)).alloc (.cells (prinC t q) 24)) wr ∧ ∃ k : Nat, k ≤ D.entries.length ∧ i = .int .i64 k ∧ Hid ((D.entries.take k).all (fun d => !samePrin d.name q) = true)) (fun i _ => D.entries.length - (intOf i).toNat)
  case atStart => exact ⟨Below.refl _ _, 0, Nat.zero_le _, rfl, by simp [Hid]⟩
  case round =>
    obtain ⟨hbr, k, hk, rfl, hall⟩ := hrel
    obtain ⟨hcc, hff, hrr⟩ := bcell hbr
    by_cases hlt : k < D.entries.length
    · have hki : (k : Int) < (D.entries.length : Int) := by omega
      obtain ⟨b, o, r, ha, hc, hp⟩ := he.get k hlt
      have hb : b < w.heap.size := row?_lt hc
      have hb1 : b < w.heap.size + 1 + 1 := by omega
      have hc2 := ent_name_row hc
      clear hc
      cases hs : samePrin D.entries[k].name q
      · have HS := Lib.hid (lall_step (p := fun d => !samePrin d.name q) D.entries k hlt hall.out (by simp [hs]))
        go_wp2_with fail
        refine wp_region_later hbr (by kernel_rfl) (by kernel_rfl) ?_
        repeat (go_big_quiet_step ((go_at_call 21; rename_i xw; exact Calls.later_of (hs ▸ samePrincipal_c _ _ _ _ _ ((hp.name.later hB).later xw.b) ((hq.later hB).later xw.b)))))
        refine wpQuiet_nil ?_
        intro w2 hb2
        go_wp2_with fail
        go_roundw
        case rel => exact ⟨hb2, k + 1, by omega, by go_num, HS.out⟩
        case measure => simp [intOf]; omega
      · have HS := Lib.hid (idxOf_found (f := fun d => samePrin d.name q) k hlt hall.out hs)
        go_wp2_with fail
        refine wp_region_later hbr (by kernel_rfl) (by kernel_rfl) ?_
        repeat (go_big_quiet_step ((go_at_call 21; rename_i xw; exact Calls.later_of (hs ▸ samePrincipal_c _ _ _ _ _ ((hp.name.later hB).later xw.b) ((hq.later hB).later xw.b)))))
        refine wpQuiet_nil ?_
        intro w2 hb2
        go_wp2_with fail
        go_ret
        exact ⟨by rw [HS.out]; rfl, hB.trans (hb2.mono (by simp; omega))⟩
    · have HN := Lib.hid (idxOf_none (l := D.entries) (f := fun d : Entry => samePrin d.name q) k (by omega) hall.out)
      go_wp2_with fail
      go_ret
      exact ⟨by rw [HN.out]; rfl, hB.trans (hbr.mono (by simp; omega))⟩
set_option maxRecDepth 100000 in
set_option maxHeartbeats 1000000 in
theorem policy26_c (e p : Sl) (D : Db) (s : ByteArray) (w : World) (hp : PolsAt w p.a D.policies) : Calls Tryz.prog 40 #[.agg (rdbC e p D), .string s] w fun x w' => x = .returned (.int .i64 (idxOf (fun q => decide (q.name = s)) D.policies)) ∧ Below w.heap.size w w' := by
  have hl : D.policies.length ≤ 4294967000 := hp.1
  have hB : Below w.heap.size w (w.alloc (.cells (rdbC e p D) 50)) := (Below.refl _ _).alloc (Nat.le_refl _) _
  go_enter Tryz.func40, Tryz.ntmps40
  go_wp2_with fail
  go_loop [5] (fun i => ∃ k : Nat, k ≤ D.policies.length ∧ i = .int .i64 k ∧ Hid ((D.policies.take k).all (fun q => !decide (q.name = s)) = true)) (fun i => D.policies.length - (intOf i).toNat)
  case atStart => exact ⟨0, Nat.zero_le _, rfl, by simp [Hid]⟩
  case round =>
    obtain ⟨k, hk, rfl, hall⟩ := hrel
    by_cases hlt : k < D.policies.length
    · have hki : (k : Int) < (D.policies.length : Int) := by omega
      obtain ⟨b, o, ha, hc, hpl⟩ := hp.get k hlt
      have hb : b < w.heap.size := row?_lt hc
      have hc2 : w.cell? ⟨b, o + k * 10, none⟩ = some (.string D.policies[k].name) := by have := row?_cell hc 0 (by omega); simpa [go_sem] using this
      clear hc
      by_cases hs : D.policies[k].name = s
      · have hs' := str_eq _ _ hs
        have HS := Lib.hid (idxOf_found (f := fun q => decide (q.name = s)) k hlt hall.out (by simp [hs]))
        clear hs
        go_wp2_with fail
        go_ret
        exact ⟨by rw [HS.out]; rfl, hB⟩
      · have hs' := str_ne _ _ hs
        have HS := Lib.hid (lall_step (p := fun q => !decide (q.name = s)) D.policies k hlt hall.out (by simp [hs]))
        clear hs
        go_wp2_with fail
        go_round
        case rel => exact ⟨k + 1, by omega, by go_num, HS.out⟩
        case measure => simp [intOf]; omega
    · have HN := Lib.hid (idxOf_none (l := D.policies) (f := fun q : Policy => decide (q.name = s)) k (by omega) hall.out)
      go_wp2_with fail
      go_ret
      exact ⟨by rw [HN.out]; rfl, hB⟩
end Go.Proofs.YtnpddjmjdpgohaaGreatDoor

namespace Go.WW
open Go.RowKit
abbrev EE := ERaw × Entry
def encX (x : EE) : Array Value := entC x.1 x.2
def RowsX (w : World) (a : Option Addr) (X : List EE) : Prop := RowsAt w 17 a X.length fun i cs => ∃ x, X[i]? = some x ∧ cs = encX x
theorem RowsX.later {w w' : World} (h : Below w.heap.size w w') {a : Option Addr} {X : List EE} (x : RowsX w a X) : RowsX w' a X := RowsAt.later h (fun _ _ y => y) x
theorem RowsX.at {w : World} {b o : Nat} {X : List EE} (x : RowsX w (some ⟨b, o, none⟩) X) (i : Nat) (h : i < X.length) : row? w b (o + i * 17) 17 = some (entC X[i].1 X[i].2) := by
  obtain ⟨b', o', cs, ha, hr, y, hy, rfl⟩ := x.2 i h
  cases ha
  rw [List.getElem?_eq_getElem h] at hy; cases hy
  exact hr
theorem RowsX.ents {w : World} {a : Option Addr} {X : List EE} (x : RowsX w a X) (h : ∀ y ∈ X, EntAt w y.1 y.2) : EntsAt w a (X.map (·.2)) := by
  refine ⟨by simpa using x.1, fun i hi => ?_⟩
  have hi' : i < X.length := by simpa using hi
  obtain ⟨b, o, cs, ha, hr, y, hy, rfl⟩ := x.2 i hi'
  exact ⟨b, o, _, ha, hr, y.2, y.1, by simp [hy], rfl, h y (List.mem_of_getElem? hy)⟩
theorem RowsX.of_own {w : World} {base : Nat} {e : TypeId} {s : Sl} {X : List EE} (h : Own w base e 17 s (X.map encX)) (hn : X.length ≤ lim) : RowsX w s.a X :=
  RowsAt.of_own h (by simp) hn (fun i hi => by simp at hi; exact ⟨X[i], List.getElem?_eq_getElem hi, by simp⟩)
theorem own_on {W w w' : World} {E : TypeId} {k : Nat} {s : Sl} {rows : List (Array Value)} (h : Own w W.heap.size E k s rows) (hb : Below W.heap.size W w) (hg : w.grownBy w' s.blk) : Below W.heap.size W w' := hb.grown hg hb.size (fun _ e => (h.base e).1)
theorem take_erase {α : Type} (X : List α) (i k : Nat) (h : k < X.length) : (X.take (k + 1)).eraseIdx i = if k = i then (X.take k).eraseIdx i else (X.take k).eraseIdx i ++ [X[k]] := by
  rw [List.take_succ_eq_append_getElem h]
  have hl : (X.take k).length = k := by simp; omega
  rcases Nat.lt_trichotomy i k with h1 | h1 | h1
  · rw [if_neg (by omega), List.eraseIdx_append_of_lt_length (by omega)]
  · subst h1
    have e : (X.take i).eraseIdx i = X.take i := List.eraseIdx_of_length_le (by omega)
    rw [if_pos rfl, List.eraseIdx_append_of_length_le (by omega), e, hl, Nat.sub_self]; simp
  · rw [if_neg (by omega), List.eraseIdx_of_length_le (by simp; omega), List.eraseIdx_of_length_le (by omega)]
def OutX (X : List EE) (w : World) (e : Ending) (w' : World) : Prop := ∃ s : Sl, e = .returned (.slice s.a X.length s.cap) ∧ Below w.heap.size w w' ∧ Dep w' (fresh w.heap.size w') (fun y => RowsX y s.a X)
end Go.WW
namespace Go.Proofs.YtnpddjmjdpgohaaGreatDoor
open Go.RowKit Go.WW
def sliceBuild (T : TypeId) (n : Nat) (parts : Array (Nat × Value)) : Sem Next := do pure (.value (← Instr.buildSlice T n parts))
theorem execOp_bsEnt (ρ : Operand → Value) (dst : Option Tmp) (x : Operand) (ty : TypeId) (pos : String) (after : Array Edge) (guard : Option (Nat × Bool)) : execOp ρ { dst, op := .buildSlice 46 1 #[(0, x)], type := ty, pos, after, guard } = sliceBuild 46 1 #[(0, ρ x)] := by simp [execOp, sliceBuild]
theorem bsEnt (w : World) (r : ERaw) (d : Entry) : (sliceBuild 46 1 #[(0, .agg (entC r d))]).run Tryz.prog w = .ok (.value (.slice (some ⟨w.heap.size, 0, none⟩) 1 1)) (w.alloc (.cells (entC r d) 31)) := by kernel_rfl
theorem execOp_bsPol (ρ : Operand → Value) (dst : Option Tmp) (x : Operand) (ty : TypeId) (pos : String) (after : Array Edge) (guard : Option (Nat × Bool)) : execOp ρ { dst, op := .buildSlice 45 1 #[(0, x)], type := ty, pos, after, guard } = sliceBuild 45 1 #[(0, ρ x)] := by simp [execOp, sliceBuild]
theorem bsPol (w : World) (p : Policy) : (sliceBuild 45 1 #[(0, .agg (polC p))]).run Tryz.prog w = .ok (.value (.slice (some ⟨w.heap.size, 0, none⟩) 1 1)) (w.alloc (.cells (polC p) 33)) := by kernel_rfl
attribute [go_sem] bsEnt bsPol
attribute [go_sem ↓] execOp_bsEnt execOp_bsPol
theorem elemEnt : ElemOk Tryz.prog 46 31 17 248 := ElemOk.of Tryz.underlying46 (by kernel_rfl)
set_option maxRecDepth 100000 in
set_option maxHeartbeats 1000000 in
theorem without26_c (a : Option Addr) (cap : Nat) (X : List EE) (j : Nat) (w : World) (hX : RowsX w a X) (hj : j < X.length) : Calls Tryz.prog 69 #[.slice a X.length cap, .int .i64 j] w (OutX (X.eraseIdx j) w) := by
  have hn : X.length ≤ 4294967000 := hX.1
  rcases RowsAt.addr hX with h0 | ⟨b, o, rfl, hb⟩
  · omega
  go_enter Tryz.func69, Tryz.ntmps69
  go_wp2_with fail
  go_loopw [5, 6] (fun ov i wr => ∃ (k m : Nat) (so : Sl) (rows : List (Array Value)), k ≤ X.length ∧ m ≤ k ∧ i = .int .i64 k ∧ ov = .slice so.a m so.cap ∧ Hid (rows.length = m) ∧ Hid (rows = ((X.take k).eraseIdx j).map encX) ∧ Below w.heap.size w wr ∧ Go.WW.Own wr w.heap.size 31 17 so rows) (fun _ i _ => X.length - (intOf i).toNat)
  case atStart => exact ⟨0, 0, ⟨none, 0⟩, [], Nat.zero_le _, Nat.le_refl _, rfl, rfl, rfl, by simp [Hid], Below.refl _ _, Go.WW.Own.nil _ _ _ _⟩
  case round =>
    obtain ⟨k, m, so, rows, hk, hm, rfl, rfl, hlr, hrw, hbr, hO⟩ := hrel
    by_cases hlt : k < X.length
    · have hrow := hX.at k hlt
      obtain ⟨hcc, hff, hrr⟩ := bcell hbr
      have hki : (k : Int) < (X.length : Int) := by omega
      have hte := take_erase X j k hlt
      by_cases hkj : k = j
      · have hkj' : ((k : Int) != (j : Int)) = false := by simp [hkj]
        rw [if_pos hkj] at hte
        have HT := Lib.hid (show rows = ((X.take (k + 1)).eraseIdx j).map encX by rw [hte]; exact hrw.out)
        clear hte hkj
        go_wp2_with fail
        go_roundw
        case rel => exact ⟨k + 1, m, so, rows, by omega, by omega, by go_num, rfl, hlr.out, HT.out, hbr, hO⟩
        case measure => simp [intOf]; omega
      · have hkj' : ((k : Int) != (j : Int)) = true := by simp; omega
        rw [if_neg hkj] at hte
        have HT := Lib.hid (show rows ++ [encX X[k]] = ((X.take (k + 1)).eraseIdx j).map encX by rw [hte, hrw.out]; simp)
        clear hte hkj
        generalize hxk : X[k] = xk at *
        have hown : Go.WW.Own (wr.alloc (.cells (entC xk.1 xk.2) 31)) w.heap.size 31 17 so rows := hO.kept fun g hg => Below.heap_alloc _ _ _ (hO.base hg).2
        go_wp2_with (at_builtin; refine wpList_append_n rfl (.tmp 16) (.tmp 21) _ rfl elemEnt (n := m) rfl hlr.out.symm hown rfl rfl (SrcRows.new _ (entC xk.1 xk.2) _ _ (by simp [go_sem]) (by simp [go_sem])) (by have := hlr.out; rw [this]; simp; omega) (by have h9 := hbr.size; simp; omega) ?_; intro s3 w3 hown3 hg3 hat3)
        have hb3 := own_on hown (below_new hbr _) hg3
        have HL := Lib.hid (show (rows ++ [encX xk]).length = m + 1 by have := hlr.out; simp [this])
        clear hown hg3 hat3 hO hlr hcc hff hrr
        go_wp2_with fail
        go_roundw
        case rel => exact ⟨k + 1, m + 1, s3, _, by omega, by omega, by go_num, rfl, HL.out, HT.out, hb3, hown3⟩
        case measure => simp [intOf]; omega
    · obtain rfl : k = X.length := by omega
      have h1 := hrw.out
      rw [List.take_of_length_le (Nat.le_refl _)] at h1
      have h2 := hlr.out
      subst h1
      have HM := Lib.hid (show m = (X.eraseIdx j).length by rw [← h2]; simp)
      go_wp2_with fail
      go_ret
      exact ⟨so, by rw [← HM.out]; rfl, hbr, fun y hy => RowsX.of_own (hO.kept fun _ hg => hy _ (hO.base hg)) (by have := List.length_eraseIdx_le X j; have := hX.1; omega)⟩
end Go.Proofs.YtnpddjmjdpgohaaGreatDoor

namespace Go.WW
open Go.RowKit
abbrev nameX (x : EE) : Prin := x.2.name
def InsAt (e : EE) (X R : List EE) (k : Nat) (dn : Bool) : Prop := insertBy cmpPrin nameX e X = R ++ (if dn then X.drop k else insertBy cmpPrin nameX e (X.drop k))
theorem insAt_start (e : EE) (X : List EE) : InsAt e X [] 0 false := rfl
theorem insAt_here {e : EE} {X R : List EE} {k : Nat} (h : InsAt e X R k false) (hk : k < X.length) (hc : cmpPrin (nameX e) (nameX X[k]) < 0) : InsAt e X (R ++ [e] ++ [X[k]]) (k + 1) true := by
  unfold InsAt at *
  rw [h, List.drop_eq_getElem_cons hk]
  simp [insertBy, hc]
theorem insAt_next {e : EE} {X R : List EE} {k : Nat} (h : InsAt e X R k false) (hk : k < X.length) (hc : ¬ cmpPrin (nameX e) (nameX X[k]) < 0) : InsAt e X (R ++ [X[k]]) (k + 1) false := by
  unfold InsAt at *
  rw [h, List.drop_eq_getElem_cons hk]
  simp [insertBy, hc]
theorem insAt_then {e : EE} {X R : List EE} {k : Nat} (h : InsAt e X R k true) (hk : k < X.length) : InsAt e X (R ++ [X[k]]) (k + 1) true := by
  unfold InsAt at *
  rw [h, List.drop_eq_getElem_cons hk]
  simp
theorem insAt_end {e : EE} {X R : List EE} {k : Nat} (h : InsAt e X R k true) (hk : X.length ≤ k) : insertBy cmpPrin nameX e X = R := by
  unfold InsAt at h; rw [h, List.drop_of_length_le hk]; simp
theorem insAt_last {e : EE} {X R : List EE} {k : Nat} (h : InsAt e X R k false) (hk : X.length ≤ k) : insertBy cmpPrin nameX e X = R ++ [e] := by
  unfold InsAt at h; rw [h, List.drop_of_length_le hk]; rfl
theorem insertBy_len (e : EE) (X : List EE) : (insertBy cmpPrin nameX e X).length = X.length + 1 := by rw [(insertBy_perm nameX e X).length_eq]; simp
end Go.WW
namespace Go.Proofs.YtnpddjmjdpgohaaGreatDoor
open Go.RowKit Go.WW
set_option maxRecDepth 100000 in
set_option maxHeartbeats 1000000 in
theorem insert26_nil (a : Option Addr) (cap : Nat) (r : ERaw) (d : Entry) (w : World) : Calls Tryz.prog 70 #[.slice a 0 cap, .agg (entC r d)] w (OutX [(r, d)] w) := by
  have hB : Below w.heap.size w (w.alloc (.cells (entC r d) 31)) := (Below.refl _ _).alloc (Nat.le_refl _) _
  have hbox : (w.alloc (.cells (entC r d) 31)).heap[w.heap.size]? = some (.cells (entC r d) 31) := World.alloc_heap_new _ _
  have hW : w.heap.size < (w.alloc (.cells (entC r d) 31)).heap.size := by simp
  have hx17 : row? (w.alloc (.cells (entC r d) 31)) w.heap.size 0 17 = some (entC r d) := (row?_of_cells hbox).trans (by kernel_rfl)
  go_enter Tryz.func70, Tryz.ntmps70
  go_wp2_with fail
  generalize (w.alloc (.cells (entC r d) 31)) = W at *
  go_loopw [5, 6, 7] (fun ov dv iv wr => ∃ (so : Sl) (m : Nat) (rows : List (Array Value)), iv = .int .i64 0 ∧ dv = .bool false ∧ ov = .slice so.a m so.cap ∧ wr = W ∧ Hid (rows.length = m) ∧ Hid (rows = []) ∧ Go.WW.Own wr w.heap.size 31 17 so rows) (fun _ _ _ _ => 0)
  case atStart => exact ⟨⟨none, 0⟩, 0, [], rfl, rfl, rfl, rfl, rfl, rfl, Go.WW.Own.nil _ _ _ _⟩
  case round =>
    obtain ⟨so, m, rows, rfl, rfl, rfl, rfl, hlr, hr0, hO⟩ := hrel
    have hown : Go.WW.Own (wr.alloc (.cells (entC r d) 31)) w.heap.size 31 17 so rows := hO.kept fun g hg => Below.heap_alloc _ _ _ (hO.base hg).2
    go_wp2_with (at_builtin; refine wpList_append_n rfl (.tmp 40) (.tmp 42) _ rfl elemEnt (n := m) (s := so) rfl hlr.out.symm hown rfl rfl (SrcRows.new _ (entC r d) _ _ (by simp [go_sem]) (by simp [go_sem])) (by rw [hr0.out]; first | decide | simp) (by have h9 := hB.size; simp; omega) ?_; intro s3 w3 hown3 hg3 hat3)
    have hb3 := own_on hown (below_new hB _) hg3
    have HM := Lib.hid (show m = 0 by rw [← hlr.out, hr0.out]; rfl)
    have HO : Go.WW.Own w3 w.heap.size 31 17 s3 ([(r, d)].map encX) := by have := hown3; rw [hr0.out] at this; exact this
    go_wp2_with fail
    go_ret
    exact ⟨s3, by rw [HM.out]; rfl, hb3, fun y hy => RowsX.of_own (X := [(r, d)]) (HO.kept fun _ hg => hy _ (HO.base hg)) (by simp [lim])⟩
set_option maxRecDepth 100000 in
set_option maxHeartbeats 2000000 in
theorem insert26_c (a : Option Addr) (cap : Nat) (X : List EE) (r : ERaw) (d : Entry) (w : World) (hX : RowsX w a X) (hm : ∀ x ∈ X, EntAt w x.1 x.2) (he : EntAt w r d) (hn : X.length ≤ 1000000) : Calls Tryz.prog 70 #[.slice a X.length cap, .agg (entC r d)] w (OutX (insertBy cmpPrin nameX (r, d) X) w) := by
  rcases RowsAt.addr hX with h0 | ⟨b, o, rfl, hb⟩
  · obtain rfl : X = [] := List.eq_nil_of_length_eq_zero h0
    exact insert26_nil a cap r d w
  have hB : Below w.heap.size w (w.alloc (.cells (entC r d) 31)) := (Below.refl _ _).alloc (Nat.le_refl _) _
  have hbox : (w.alloc (.cells (entC r d) 31)).heap[w.heap.size]? = some (.cells (entC r d) 31) := World.alloc_heap_new _ _
  have hW : (w.alloc (.cells (entC r d) 31)).heap.size = w.heap.size + 1 := by simp
  go_enter Tryz.func70, Tryz.ntmps70
  go_wp2_with fail
  generalize (w.alloc (.cells (entC r d) 31)) = W at *
  go_loopw [5, 6, 7] (fun ov dv iv wr => ∃ (k m : Nat) (dn : Bool) (so : Sl) (R : List EE), k ≤ X.length ∧ m ≤ k + 1 ∧ Hid (dn = false → m ≤ k) ∧ iv = .int .i64 k ∧ dv = .bool dn ∧ ov = .slice so.a m so.cap ∧ Hid (R.length = m) ∧ Hid (InsAt (r, d) X R k dn) ∧ Below W.heap.size W wr ∧ Go.WW.Own wr W.heap.size 31 17 so (R.map encX)) (fun _ _ iv _ => X.length - (intOf iv).toNat)
  case atStart => exact ⟨0, 0, false, ⟨none, 0⟩, [], Nat.zero_le _, by omega, fun _ => Nat.le_refl _, rfl, rfl, rfl, rfl, insAt_start _ _, Below.refl _ _, Go.WW.Own.nil _ _ _ _⟩
  case round =>
    obtain ⟨k, m, dn, so, R, hk, hmk, hdn, rfl, rfl, rfl, hlr, hI, hbr, hO⟩ := hrel
    have hW2 : w.heap.size < wr.heap.size := by have := hbr.size; omega
    have hbw : b < wr.heap.size := by omega
    have hbx : wr.heap[w.heap.size]? = some (.cells (entC r d) 31) := (hbr.block _ (by omega)).trans hbox
    have hx17 : row? wr w.heap.size 0 17 = some (entC r d) := (row?_of_cells hbx).trans (by kernel_rfl)
    have hx2 : row? wr w.heap.size 0 2 = some (prinC r.parts d.name) := ent_name_row hx17
    by_cases hlt : k < X.length
    · have hki : (k : Int) < (X.length : Int) := by omega
      have hrow : row? wr b (o + k * 17) 17 = some (entC X[k].1 X[k].2) := (row?_of_block ((below_step hB hbr).block b hb) _ _).trans (hX.at k hlt)
      have hrow0 := hX.at k hlt
      have hrow2 := ent_name_row hrow
      have hmk' := hm X[k] (List.getElem_mem hlt)
      have hBr := below_step hB hbr
      cases dn
      · by_cases hc : cmpPrin d.name X[k].2.name < 0
        · have HI := Lib.hid (insAt_here hI.out hlt hc)
          generalize X[k] = x at *
          go_wp2_with fail
          refine wp_region_later (Below.refl _ wr) (by kernel_rfl) (by kernel_rfl) ?_
          repeat (go_big_quiet_step ((go_at_call 103; rename_i xw; exact Calls.later_of (compare26_c _ _ _ _ _ ((he.name.later hBr).later xw.b) ((hmk'.name.later hBr).later xw.b)))))
          refine wpQuiet_nil ?_
          intro w2 hb2
          have hy17 : row? w2 w.heap.size 0 17 = some (entC r d) := (row?_of_block (hb2.block _ hW2) _ _).trans hx17
          have hO2 : Go.WW.Own (w2.alloc (.cells (entC r d) 31)) W.heap.size 31 17 so (R.map encX) := hO.kept fun g hg => by rw [Below.heap_alloc _ _ _ (Nat.lt_of_lt_of_le (hO.base hg).2 hb2.size)]; exact hb2.block g (hO.base hg).2
          have hb2' := below_step hbr hb2
          have hW3 : w.heap.size < w2.heap.size := by have := hb2'.size; omega
          go_wp2_with (first
            | (at_builtin; refine wpList_append_n rfl (.tmp 27) (.tmp 29) _ rfl elemEnt (n := m) rfl (by have := hlr.out; simp [this]) hO2 rfl rfl (SrcRows.new _ (entC r d) _ _ (by simp [go_sem]) (by simp [go_sem])) (by have := hlr.out; simp [this]; omega) (by have h9 := hb2'.size; simp; omega) ?_; intro s3 w3 hown3 hg3 hat3; have hb3 := own_on hO2 (below_new hb2' _) hg3; have hrow3 := (row?_of_block ((below_step hB hb3).block b hb) (o + k * 17) 17).trans hrow0; have hbw3 := Nat.lt_of_lt_of_le hb (below_step hB hb3).size)
            | (have hO3 : Go.WW.Own (w3.alloc (.cells (entC x.1 x.2) 31)) W.heap.size 31 17 s3 (R.map encX ++ [entC r d]) := hown3.kept fun g hg => Below.heap_alloc _ _ _ (hown3.base hg).2
               at_builtin; refine wpList_append_n rfl (.tmp 31) (.tmp 36) _ rfl elemEnt (n := m + 1) (s := s3) rfl (by have := hlr.out; simp [this]) hO3 rfl rfl (SrcRows.new _ (entC x.1 x.2) _ _ (by simp [go_sem]) (by simp [go_sem])) (by have := hlr.out; simp [this]; omega) (by have h9 := hb3.size; simp; omega) ?_; intro s4 w4 hown4 hg4 hat4; have hb4 := own_on hO3 (below_new hb3 _) hg4))
          have HL := Lib.hid (show (R ++ [(r, d)] ++ [x]).length = m + 1 + 1 by have := hlr.out; simp [this])
          have HO : Go.WW.Own w4 W.heap.size 31 17 s4 ((R ++ [(r, d)] ++ [x]).map encX) := by simpa [encX] using hown4
          go_roundw
          case rel => exact ⟨k + 1, m + 1 + 1, true, s4, _, by omega, by have := hdn.out (by trivial); omega, (fun h => by cases h), by go_num, rfl, rfl, HL.out, HI.out, hb4, HO⟩
          case measure => simp [intOf]; omega
        · have HI := Lib.hid (insAt_next hI.out hlt hc)
          generalize X[k] = x at *
          go_wp2_with fail
          refine wp_region_later (Below.refl _ wr) (by kernel_rfl) (by kernel_rfl) ?_
          repeat (go_big_quiet_step ((go_at_call 103; rename_i xw; exact Calls.later_of (compare26_c _ _ _ _ _ ((he.name.later hBr).later xw.b) ((hmk'.name.later hBr).later xw.b)))))
          refine wpQuiet_nil ?_
          intro w2 hb2
          have hb2' := below_step hbr hb2
          have hrow3 := (row?_of_block ((below_step hB hb2').block b hb) (o + k * 17) 17).trans hrow0
          have hbw3 := Nat.lt_of_lt_of_le hb (below_step hB hb2').size
          have hO3 : Go.WW.Own (w2.alloc (.cells (entC x.1 x.2) 31)) W.heap.size 31 17 so (R.map encX) := hO.kept fun g hg => by rw [Below.heap_alloc _ _ _ (Nat.lt_of_lt_of_le (hO.base hg).2 hb2.size)]; exact hb2.block g (hO.base hg).2
          clear hx17 hx2 hrow hrow2
          go_wp2_with (at_builtin; refine wpList_append_n rfl (.tmp 31) (.tmp 36) _ rfl elemEnt (n := m) (s := so) rfl (by have := hlr.out; simp [this]) hO3 rfl rfl (SrcRows.new _ (entC x.1 x.2) _ _ (by simp [go_sem]) (by simp [go_sem])) (by have := hlr.out; simp [this]; omega) (by have h9 := hb2'.size; simp; omega) ?_; intro s4 w4 hown4 hg4 hat4; have hb4 := own_on hO3 (below_new hb2' _) hg4)
          have HL := Lib.hid (show (R ++ [x]).length = m + 1 by have := hlr.out; simp [this])
          have HO : Go.WW.Own w4 W.heap.size 31 17 s4 ((R ++ [x]).map encX) := by simpa [encX] using hown4
          go_roundw
          case rel => exact ⟨k + 1, m + 1, false, s4, _, by omega, by omega, (fun _ => by have := hdn.out (by trivial); omega), by go_num, rfl, rfl, HL.out, HI.out, hb4, HO⟩
          case measure => simp [intOf]; omega
      · have HI := Lib.hid (insAt_then hI.out hlt)
        generalize X[k] = x at *
        go_wp2_with fail
        refine wp_region_later (Below.refl _ wr) (by kernel_rfl) (by kernel_rfl) ?_
        repeat (go_big_quiet_step (fail))
        refine wpQuiet_nil ?_
        intro w2 hb2
        have hb2' := below_step hbr hb2
        have hrow3 := (row?_of_block ((below_step hB hb2').block b hb) (o + k * 17) 17).trans hrow0
        have hbw3 := Nat.lt_of_lt_of_le hb (below_step hB hb2').size
        have hO3 : Go.WW.Own (w2.alloc (.cells (entC x.1 x.2) 31)) W.heap.size 31 17 so (R.map encX) := hO.kept fun g hg => by rw [Below.heap_alloc _ _ _ (Nat.lt_of_lt_of_le (hO.base hg).2 hb2.size)]; exact hb2.block g (hO.base hg).2
        clear hx17 hx2 hrow hrow2
        go_wp2_with (at_builtin; refine wpList_append_n rfl (.tmp 31) (.tmp 36) _ rfl elemEnt (n := m) (s := so) rfl (by have := hlr.out; simp [this]) hO3 rfl rfl (SrcRows.new _ (entC x.1 x.2) _ _ (by simp [go_sem]) (by simp [go_sem])) (by have := hlr.out; simp [this]; omega) (by have h9 := hb2'.size; simp; omega) ?_; intro s4 w4 hown4 hg4 hat4; have hb4 := own_on hO3 (below_new hb2' _) hg4)
        have HL := Lib.hid (show (R ++ [x]).length = m + 1 by have := hlr.out; simp [this])
        have HO : Go.WW.Own w4 W.heap.size 31 17 s4 ((R ++ [x]).map encX) := by simpa [encX] using hown4
        go_roundw
        case rel => exact ⟨k + 1, m + 1, true, s4, _, by omega, by omega, (fun h => by cases h), by go_num, rfl, rfl, HL.out, HI.out, hb4, HO⟩
        case measure => simp [intOf]; omega
    · have hBr := below_step hB hbr
      cases dn
      · have HI := Lib.hid (insAt_last hI.out (by omega))
        have hown : Go.WW.Own (wr.alloc (.cells (entC r d) 31)) W.heap.size 31 17 so (R.map encX) := hO.kept fun g hg => Below.heap_alloc _ _ _ (hO.base hg).2
        go_wp2_with (at_builtin; refine wpList_append_n rfl (.tmp 40) (.tmp 42) _ rfl elemEnt (n := m) (s := so) rfl (by have := hlr.out; simp [this]) hown rfl rfl (SrcRows.new _ (entC r d) _ _ (by simp [go_sem]) (by simp [go_sem])) (by have := hlr.out; simp [this]; omega) (by have h9 := hbr.size; simp; omega) ?_; intro s3 w3 hown3 hg3 hat3)
        have hb3 := own_on hown (below_new hbr _) hg3
        have HL := Lib.hid (show (R ++ [(r, d)]).length = m + 1 by have := hlr.out; simp [this])
        have HO : Go.WW.Own w3 W.heap.size 31 17 s3 ((R ++ [(r, d)]).map encX) := by simpa [encX] using hown3
        go_wp2_with fail
        go_ret
        refine ⟨s3, by rw [HI.out, HL.out]; rfl, below_step hB hb3, ?_⟩
        rw [HI.out]
        exact fun y hy => RowsX.of_own (HO.kept fun _ hg => hy _ ⟨by have := (HO.base hg).1; omega, (HO.base hg).2⟩) (by rw [HL.out]; unfold lim; omega)
      · have HI := Lib.hid (insAt_end hI.out (by omega))
        go_wp2_with fail
        go_ret
        refine ⟨so, by rw [HI.out, hlr.out]; rfl, hBr, ?_⟩
        rw [HI.out]
        exact fun y hy => RowsX.of_own (hO.kept fun _ hg => hy _ ⟨by have := (hO.base hg).1; omega, (hO.base hg).2⟩) (by rw [hlr.out]; unfold lim; omega)
end Go.Proofs.YtnpddjmjdpgohaaGreatDoor
