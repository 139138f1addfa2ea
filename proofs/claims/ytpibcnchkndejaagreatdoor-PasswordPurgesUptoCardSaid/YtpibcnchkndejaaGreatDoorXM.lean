/- password.purgeable. -/
import Derived.Test.YtpibcnchkndejaaGreatDoorXL
import Derived.Test.YtpibcnchkndejaaGreatDoorXE
namespace Go.WW
open Go.RowKit
theorem Own.freshI {w w' : World} {base : Nat} {e : TypeId} {k : Nat} {s : Sl} {rows : List (Array Value)} (h : Own w base e k s rows) (hw : ∀ j, fresh base w j → w'.heap[j]? = w.heap[j]?) : Own w' base e k s rows :=
  h.kept fun _ hg => hw _ (h.base hg)
theorem Own.lower {w : World} {b0 b1 : Nat} {e : TypeId} {k : Nat} {s : Sl} {rows : List (Array Value)} (h : Own w b1 e k s rows) (hb : b0 ≤ b1) : Own w b0 e k s rows :=
  ⟨⟨h.own.1, h.own.2.imp id fun ⟨g, cap, cur, h1, h2, h3⟩ => ⟨g, cap, cur, h1, Nat.le_trans hb h2, h3⟩⟩, h.size⟩
theorem own_belowI {W w w' : World} {E : TypeId} {k : Nat} {s : Sl} {rows : List (Array Value)} (h : Own w W.heap.size E k s rows) (hb : Below W.heap.size W w) (hg : w.grownBy w' s.blk) : Below W.heap.size W w' := hb.grown hg hb.size (fun _ e => (h.base e).1)
theorem Own.allocI {w : World} {base : Nat} {e : TypeId} {k : Nat} {s : Sl} {rows : List (Array Value)} (h : Own w base e k s rows) (o : Obj) : Own (w.alloc o) base e k s rows := h.kept fun _ hg => Below.heap_alloc _ _ _ (h.base hg).2
/-- The version of the key set with a number, if it can be purged. -/
def purgAt (ks : List KeySet) (now life : Int) (i : Nat) : List Int :=
  match ks[i - 1]?, ks[i]? with
  | some b, some k => if 1 ≤ i ∧ now > wrap64 (b.created + life) then [k.version] else []
  | _, _ => []
def purgUp (ks : List KeySet) (now life : Int) : Nat → List Int
  | 0 => []
  | n + 1 => purgUp ks now life n ++ purgAt ks now life n
/-- The versions that can be purged. -/
def purgL (ks : List KeySet) (now life : Int) : List Int := purgUp ks now life ks.length
theorem purgUp_one (ks : List KeySet) (now life : Int) : purgUp ks now life 1 = [] := by
  unfold purgUp purgUp purgAt
  split
  · rw [if_neg (by omega)]; rfl
  · rfl
theorem purgUp_le (ks : List KeySet) (now life : Int) : ∀ n, (purgUp ks now life n).length ≤ n := by
  intro n
  induction n with
  | zero => exact Nat.le_refl _
  | succ n ih =>
    show (purgUp ks now life n ++ purgAt ks now life n).length ≤ _
    have : (purgAt ks now life n).length ≤ 1 := by
      unfold purgAt
      split
      · split <;> simp
      · simp
    simp; omega
theorem purgUp_yes (ks : List KeySet) (now life : Int) (i : Nat) (h0 : 1 ≤ i) (h1 : i < ks.length) (h : now > wrap64 (ks[i - 1].created + life)) : purgUp ks now life (i + 1) = purgUp ks now life i ++ [ks[i].version] := by
  show _ ++ purgAt ks now life i = _
  unfold purgAt
  rw [List.getElem?_eq_getElem (show i - 1 < ks.length by omega), List.getElem?_eq_getElem h1]
  simp only
  rw [if_pos ⟨h0, h⟩]
theorem purgUp_no (ks : List KeySet) (now life : Int) (i : Nat) (h1 : i < ks.length) (h : ¬ now > wrap64 (ks[i - 1].created + life)) : purgUp ks now life (i + 1) = purgUp ks now life i := by
  show _ ++ purgAt ks now life i = _
  unfold purgAt
  rw [List.getElem?_eq_getElem (show i - 1 < ks.length by omega), List.getElem?_eq_getElem h1]
  simp only
  rw [if_neg (fun hh => h hh.2), List.append_nil]
theorem purgL_small (ks : List KeySet) (now life : Int) (h : ks.length ≤ 1) : purgL ks now life = [] := by
  unfold purgL
  rcases Nat.lt_or_ge ks.length 1 with h1 | h1
  · obtain rfl : ks = [] := List.eq_nil_of_length_eq_zero (by omega)
    rfl
  · have : ks.length = 1 := by omega
    rw [this]; exact purgUp_one _ _ _
def intRow (v : Int) : Array Value := #[.int .i64 v]
/-- Numbers made by a call. -/
def MadeInts (w : World) (L : List Int) (e : Ending) (w' : World) : Prop :=
  ∃ s : Sl, e = .returned (.slice s.a L.length s.cap) ∧ Below w.heap.size w w' ∧ Dep w' (fresh w.heap.size w') (fun x => IntsAt x s.a L)
theorem madeInts_nil (w w' : World) (h : Below w.heap.size w w') : MadeInts w [] (.returned (.slice none 0 0)) w' :=
  ⟨⟨none, 0⟩, rfl, h, fun _ _ => ⟨by simp [lim], fun i hi => by simp at hi⟩⟩
theorem madeInts_own {w w' : World} {e : TypeId} {s : Sl} {L : List Int} (h : Own w' w.heap.size e 1 s (L.map intRow)) (hn : L.length ≤ lim) (hb : Below w.heap.size w w') : MadeInts w L (.returned (.slice s.a L.length s.cap)) w' :=
  ⟨s, rfl, hb, fun _ hx => CellsAt.of_own (h.freshI hx) (by simp) hn (fun i hi => ⟨.int .i64 (L[i]'(by simpa using hi)), by simp [intRow], L[i]'(by simpa using hi), List.getElem?_eq_getElem (by simpa using hi), rfl⟩)⟩
end Go.WW
namespace Go.Proofs.YtpibcnchkndejaaGreatDoor
open Go.RowKit Go.WW
theorem elemInt : ElemOk Tryz.prog 40 3 1 8 := ElemOk.of Tryz.underlying40 (by kernel_rfl)
set_option maxRecDepth 100000 in
set_option maxHeartbeats 1000000 in
theorem purg_c (r : ERaw) (d : Entry) (now life : Int) (w : World) (hk : SetsAt w r.keys.a d.keys) :
    Calls Tryz.prog 27 #[.agg (entC r d), .int .i64 now, .int .i64 life] w (MadeInts w (purgL d.keys now life)) := by
  have hn : d.keys.length ≤ 4294967000 := hk.1
  have hB : Below w.heap.size w (w.alloc (.cells (entC r d) 31)) := (Below.refl _ w).alloc (Nat.le_refl _) _
  go_enter Tryz.func27, Tryz.ntmps27
  rcases Nat.lt_or_ge 1 d.keys.length with h1 | h1
  case inr =>
    have hlt : ¬ (1 : Int) < (d.keys.length : Int) := by omega
    have e := Lib.hid (purgL_small d.keys now life h1)
    clear h1
    go_wp2_with fail
    refine wp_loop_rounds 1 ?_
    rw [rounds_succ]
    go_wp2_with fail
    go_ret
    rw [e.out]
    exact madeInts_nil _ _ hB
  rcases RowsAt.addr hk with h0 | ⟨b, o, hba, hbw⟩
  · omega
  have HK := Lib.hid hk
  rw [hba] at HK
  clear hk
  go_wp2_with fail
  go_loopw [7, 8] (fun ov i wr => ∃ (k : Nat) (so : Sl) (m : Nat), 1 ≤ k ∧ k ≤ d.keys.length ∧ i = .int .i64 k ∧ ov = .slice so.a m so.cap ∧ Hid (m = (purgUp d.keys now life k).length ∧ m ≤ k) ∧ Below (w.alloc (.cells (entC r d) 31)).heap.size (w.alloc (.cells (entC r d) 31)) wr ∧ Go.WW.Own wr (w.alloc (.cells (entC r d) 31)).heap.size 3 1 so ((purgUp d.keys now life k).map intRow)) (fun _ i _ => d.keys.length - (intOf i).toNat)
  case atStart => exact ⟨1, ⟨none, 0⟩, 0, Nat.le_refl _, by omega, rfl, rfl, ⟨by rw [purgUp_one]; rfl, Nat.zero_le _⟩, Below.refl _ _, by rw [purgUp_one]; exact Go.WW.Own.nil _ _ _ _⟩
  case round =>
    obtain ⟨k, so, m, hk1, hk2, rfl, rfl, hm, hbr, hown⟩ := hrel
    have hBr := below_step hB hbr
    obtain ⟨hcc, hff, hrr⟩ := bcell hbr
    have hsz : w.heap.size < wr.heap.size := by have := hbr.size; simp at this; omega
    by_cases hlt : k < d.keys.length
    · have hltI : (k : Int) < (d.keys.length : Int) := by omega
      obtain ⟨s1, hq1, -⟩ := HK.out.at (k - 1) (by omega)
      obtain ⟨s2, hq2, -⟩ := HK.out.at k hlt
      have hgb : b < wr.heap.size := by omega
      have hy1 : w.cell? ⟨b, o + (k - 1) * 5 + 4, none⟩ = some (.int .i64 d.keys[k - 1].created) := by
        have := row?_cell hq1 4 (by omega); simpa [go_sem] using this
      have hy2 : w.cell? ⟨b, o + k * 5, none⟩ = some (.int .i64 d.keys[k].version) := by
        have := row?_cell hq2 0 (by omega); simpa [go_sem] using this
      clear hq1 hq2
      by_cases hc : now > wrap64 (d.keys[k - 1].created + life)
      · have HY := Lib.hid (purgUp_yes d.keys now life k hk1 hlt hc)
        have hownA := hown.allocI (.cells #[.int .i64 d.keys[k].version] 3)
        have hbA : Below (w.alloc (.cells (entC r d) 31)).heap.size (w.alloc (.cells (entC r d) 31)) (wr.alloc (.cells #[.int .i64 d.keys[k].version] 3)) := below_new hbr _
        clear hown
        go_wp2_with (at_builtin; refine wpList_append_n rfl (.tmp 27) (.tmp 34) _ rfl elemInt (n := m) rfl (by have := hm.out.1; simp [this]) hownA rfl rfl (SrcRows.new _ #[.int .i64 d.keys[k].version] _ _ (by simp [go_sem]) (by simp [go_sem, allOne, Value.oneCell'])) (by have := hm.out; simp; omega) (by have := hbA.size; exact this) ?_; intro s3 w3 hown3 hg3 hat3)
        have hb3 := own_belowI hownA hbA hg3
        have HO := Lib.hid (show Go.WW.Own w3 (w.alloc (.cells (entC r d) 31)).heap.size 3 1 s3 ((purgUp d.keys now life (k + 1)).map intRow) by rw [HY.out, List.map_append]; exact hown3)
        clear hown3 hg3 hat3 hownA hbA hcc hff hrr hy1 hy2
        go_wp2_with fail
        go_roundw
        case rel => exact ⟨k + 1, s3, m + 1, by omega, by omega, by go_num, rfl, ⟨by rw [HY.out]; have := hm.out.1; simp [this], by have := hm.out.2; omega⟩, hb3, HO.out⟩
        case measure => simp [intOf]; omega
      · have HY := Lib.hid (purgUp_no d.keys now life k hlt hc)
        have HO := Lib.hid hown
        clear hown
        go_wp2_with fail
        go_roundw
        case rel => exact ⟨k + 1, so, m, by omega, by omega, by go_num, rfl, ⟨by rw [HY.out]; exact hm.out.1, by have := hm.out.2; omega⟩, hbr, by rw [HY.out]; exact HO.out⟩
        case measure => simp [intOf]; omega
    · obtain rfl : k = d.keys.length := by omega
      go_wp2_with fail
      go_ret
      rw [hm.out.1]
      exact madeInts_own (hown.lower (by simp)) (by have := hm.out; unfold purgL at *; unfold lim; omega) hBr
end Go.Proofs.YtpibcnchkndejaaGreatDoor
/- password.Purgeable and the reference's. -/
namespace Go.WW
open Go.RowKit
def allOk (d : Entry) (now life : Int) : Bool := entryOk d && (isTime now && isTime life)
/-- The versions that are wanted. -/
def wantL (d : Entry) (now life : Int) : List Int := bif allOk d now life then purgL d.keys now life else []
theorem wantL_yes {d : Entry} {now life : Int} (h : allOk d now life = true) : wantL d now life = purgL d.keys now life := by unfold wantL; rw [h]; rfl
theorem wantL_no {d : Entry} {now life : Int} (h : allOk d now life = false) : wantL d now life = [] := by unfold wantL; rw [h]; rfl
end Go.WW
namespace Go.Proofs.YtpibcnchkndejaaGreatDoor
open Go.RowKit Go.WW
theorem pwTime_c (v : Int) (w : World) : Calls Tryz.prog 26 #[.int .i64 v] w fun e w' => e = .returned (.bool (isTime v)) ∧ w = w' := by
  go_enter Tryz.func26, Tryz.ntmps26
  go_wp2
  all_goals go_ret
  all_goals exact ⟨by first | (simp [isTime, btw, *]; done) | (simp [isTime, btw]; omega), rfl⟩
set_option maxRecDepth 100000 in
set_option maxHeartbeats 1000000 in
theorem purgeable_c (r : ERaw) (d : Entry) (now life : Int) (w : World) (he : EntAt w r d) :
    Calls Tryz.prog 7 #[.agg (entC r d), .int .i64 now, .int .i64 life] w fun e w' => ∃ (b : Nat) (s : Sl), e = .returned (.func (.func 28) #[] #[.pointer (some ⟨b, 0, none⟩)]) ∧ Below w.heap.size w w' ∧ w.heap.size ≤ b ∧
      w'.heap[b]? = some (.cells #[.slice s.a (wantL d now life).length s.cap] 40) ∧ Dep w' (fresh w.heap.size w') (fun x => IntsAt x s.a (wantL d now life)) := by
  obtain ⟨W0, hW0⟩ : ∃ W0, W0 = (w.alloc (.cells (entC r d) 31)).alloc (.cells #[.slice none 0 0] 40) := ⟨_, rfl⟩
  have hB : Below w.heap.size w W0 := by rw [hW0]; exact ((Below.refl _ w).alloc (Nat.le_refl _) _).alloc (by simp) _
  have hs0 : W0.heap.size = w.heap.size + 2 := by rw [hW0]; simp
  have hbx : W0.heap[w.heap.size + 1]? = some (.cells #[.slice none 0 0] 40) := by rw [hW0]; have := World.alloc_heap_new (w.alloc (.cells (entC r d) 31)) (.cells #[.slice none 0 0] 40); simpa using this
  have hb0 : row? W0 w.heap.size 0 17 = some (entC r d) := by rw [hW0, row?_alloc_past (by simp), row?_alloc_whole rfl (entC_size r d)]
  have HNO := Lib.hid (show allOk d now life = false → wantL d now life = [] from wantL_no)
  have HYES := Lib.hid (show allOk d now life = true → wantL d now life = purgL d.keys now life from wantL_yes)
  obtain ⟨L, hL⟩ : ∃ L, L = wantL d now life := ⟨_, rfl⟩
  rw [← hL] at HNO HYES ⊢
  clear hL
  have HE := Lib.hid he
  clear he
  go_enter Tryz.func7, Tryz.ntmps7
  go_wp2_with fail
  rw [← hW0]
  clear hW0
  refine (eValid_c r d W0 (HE.out.later hB)).mono ?_
  rintro e w1 ⟨rfl, hb1⟩
  have hB1 := below_step hB hb1
  have hbx1 := still_blk hb1 hbx
  have fin : ∀ X : World, Below W0.heap.size W0 X → allOk d now life = false → ∃ (b : Nat) (s : Sl), Ending.returned (.func (.func 28) #[] #[.pointer (some ⟨w.heap.size + 1, 0, none⟩)]) = .returned (.func (.func 28) #[] #[.pointer (some ⟨b, 0, none⟩)]) ∧ Below w.heap.size w X ∧ w.heap.size ≤ b ∧
      X.heap[b]? = some (.cells #[.slice s.a L.length s.cap] 40) ∧ Dep X (fresh w.heap.size X) (fun x => IntsAt x s.a L) := fun X hX h => by
    rw [HNO.out h]
    exact ⟨w.heap.size + 1, ⟨none, 0⟩, rfl, below_step hB hX, by omega, still_blk hX hbx, fun _ _ => ⟨by simp [lim], fun i hi => by simp at hi⟩⟩
  have FIN := Lib.hid fin
  clear fin
  by_cases c1 : entryOk d = true
  case neg =>
    have c1' : entryOk d = false := by simpa using c1
    rw [c1']
    go_wp2_with fail
    go_ret
    exact FIN.out _ hb1 (by simp [allOk, c1'])
  rw [c1]
  go_wp2_with fail
  refine (pwTime_c now _).mono ?_
  rintro e w' ⟨rfl, rfl⟩
  by_cases c2 : isTime now = true
  case neg =>
    have c2' : isTime now = false := by simpa using c2
    rw [c2']
    go_wp2_with fail
    go_ret
    exact FIN.out _ hb1 (by simp [allOk, c1, c2'])
  rw [c2]
  go_wp2_with fail
  refine (pwTime_c life _).mono ?_
  rintro e w' ⟨rfl, rfl⟩
  by_cases c3 : isTime life = true
  case neg =>
    have c3' : isTime life = false := by simpa using c3
    rw [c3']
    go_wp2_with fail
    go_ret
    exact FIN.out _ hb1 (by simp [allOk, c1, c2, c3'])
  rw [c3]
  have HL := Lib.hid (HYES.out (by simp [allOk, c1, c2, c3]))
  obtain ⟨hcc, hff, hrr⟩ := bcell hb1
  have hsz : w.heap.size + 1 < w1.heap.size := by have := hb1.size; omega
  go_wp2_with fail
  refine (purg_c r d now life w1 (HE.out.keys.later hB1)).mono ?_
  rintro e w2 ⟨s, rfl, hb2, hd2⟩
  rw [← HL.out] at hd2 ⊢
  have hbx2 := still_blk hb2 hbx1
  have hb2' := below_step hb1 hb2
  clear hcc hff hrr
  obtain ⟨hbc, hbf, hbr, hbl⟩ := box_facts hbx2
  have HD := Lib.hid hd2
  have HB2 := Lib.hid hb2
  clear hd2
  go_wp2_with fail
  go_ret
  have hlt2 := hb2.size
  have hoth : ∀ k, k ≠ w.heap.size + 1 → (w2.setCell ⟨w.heap.size + 1, 0, none⟩ (.slice s.a L.length s.cap)).heap[k]? = w2.heap[k]? := fun k hk => by
    simp only [World.setCell]; rw [Array.getElem?_modify, if_neg (Ne.symm hk)]
  have hsame : (w2.setCell ⟨w.heap.size + 1, 0, none⟩ (.slice s.a L.length s.cap)).heap[w.heap.size + 1]? = some (.cells #[.slice s.a L.length s.cap] 40) := by
    simp only [World.setCell]; rw [Array.getElem?_modify, if_pos rfl, hbx2]; rfl
  have hszs : (w2.setCell ⟨w.heap.size + 1, 0, none⟩ (.slice s.a L.length s.cap)).heap.size = w2.heap.size := by simp [World.setCell]
  refine ⟨w.heap.size + 1, s, rfl, (below_step hB hb2').setCell (p := ⟨w.heap.size + 1, 0, none⟩) (Nat.le_succ _) _, by omega, hsame, fun x hx => HD.out x fun k hk => ?_⟩
  have h1 : w1.heap.size ≤ k := hk.1
  have h2 : k < w2.heap.size := hk.2
  rw [hx k ⟨by omega, by rw [hszs]; exact h2⟩, hoth k (by omega)]
set_option maxRecDepth 100000 in
set_option maxHeartbeats 1000000 in
theorem refPurg_c (r : ERaw) (d : Entry) (now life : Int) (w : World) (he : EntAt w r d) :
    Calls Tryz.prog 8 #[.agg (entC r d), .int .i64 now, .int .i64 life] w (MadeInts w (wantL d now life)) := by
  obtain ⟨W0, hW0⟩ : ∃ W0, W0 = w.alloc (.cells (entC r d) 31) := ⟨_, rfl⟩
  have hB : Below w.heap.size w W0 := by rw [hW0]; exact (Below.refl _ w).alloc (Nat.le_refl _) _
  have hs0 : W0.heap.size = w.heap.size + 1 := by rw [hW0]; simp
  have hcell0 : ∀ j, W0.cell? ⟨w.heap.size, j, none⟩ = (entC r d)[j]? := by rw [hW0]; exact (box_facts (World.alloc_heap_new w _)).1
  have hrow0 : row? W0 w.heap.size 0 17 = some (entC r d) := by rw [hW0, row?_alloc_whole rfl (entC_size r d)]
  have HNO := Lib.hid (show allOk d now life = false → wantL d now life = [] from wantL_no)
  have HYES := Lib.hid (show allOk d now life = true → wantL d now life = purgL d.keys now life from wantL_yes)
  obtain ⟨L, hL⟩ : ∃ L, L = wantL d now life := ⟨_, rfl⟩
  rw [← hL] at HNO HYES ⊢
  clear hL
  have HE := Lib.hid he
  have hn : d.keys.length ≤ 4294967000 := he.keys.1
  clear he
  go_enter Tryz.func8, Tryz.ntmps8
  go_wp2_with fail
  rw [← hW0]
  clear hW0
  refine (valid24_c r d W0 (HE.out.later hB)).mono ?_
  rintro e w1 ⟨rfl, hb1⟩
  have hB1 := below_step hB hb1
  have FIN := Lib.hid (show allOk d now life = false → MadeInts w L (.returned (.slice none 0 0)) w1 from fun h => by rw [HNO.out h]; exact madeInts_nil _ _ hB1)
  by_cases c1 : entryOk d = true
  case neg =>
    have c1' : entryOk d = false := by simpa using c1
    rw [c1']
    go_wp2_with fail
    go_ret
    exact FIN.out (by simp [allOk, c1'])
  rw [c1]
  go_wp2_with fail
  refine (in16_c now 0 1099511627776 _).mono ?_
  rintro e w' ⟨rfl, rfl⟩
  by_cases c2 : btw now 0 1099511627776 = true
  case neg =>
    have c2' : btw now 0 1099511627776 = false := by simpa using c2
    rw [c2']
    go_wp2_with fail
    go_ret
    exact FIN.out (by simp [allOk, c1, isTime, c2'])
  rw [c2]
  go_wp2_with fail
  refine (in16_c life 0 1099511627776 _).mono ?_
  rintro e w' ⟨rfl, rfl⟩
  by_cases c3 : btw life 0 1099511627776 = true
  case neg =>
    have c3' : btw life 0 1099511627776 = false := by simpa using c3
    rw [c3']
    go_wp2_with fail
    go_ret
    exact FIN.out (by simp [allOk, c1, c2, isTime, c3'])
  rw [c3]
  have HL := Lib.hid (HYES.out (by simp [allOk, c1, c2, isTime, c3]))
  have HK0 := Lib.hid HE.out.keys
  clear FIN HNO HYES
  rcases Nat.lt_or_ge 1 d.keys.length with h1 | h1
  case inr =>
    have hlt : ¬ (1 : Int) < (d.keys.length : Int) := by omega
    have e := Lib.hid (purgL_small d.keys now life h1)
    clear h1
    obtain ⟨hcc, hff, hrr⟩ := bcell hb1
    have hsz : w.heap.size < w1.heap.size := by have := hb1.size; omega
    go_wp2_with fail
    refine wp_loop_rounds 1 ?_
    rw [rounds_succ]
    go_wp2_with fail
    go_ret
    rw [HL.out, e.out]
    exact madeInts_nil _ _ hB1
  rcases RowsAt.addr HK0.out with h0 | ⟨b, o, hba, hbw⟩
  · omega
  have HK := Lib.hid (HK0.out)
  rw [hba] at HK
  clear HK0
  obtain ⟨hcc, hff, hrr⟩ := bcell hb1
  have hsz : w.heap.size < w1.heap.size := by have := hb1.size; omega
  go_wp2_with fail
  clear hcc hff hrr
  go_loopw [7, 8] (fun ov i wr => ∃ (k : Nat) (so : Sl) (m : Nat), 1 ≤ k ∧ k ≤ d.keys.length ∧ i = .int .i64 k ∧ ov = .slice so.a m so.cap ∧ Hid (m = (purgUp d.keys now life k).length ∧ m ≤ k) ∧ Below w1.heap.size w1 wr ∧ Go.WW.Own wr w1.heap.size 3 1 so ((purgUp d.keys now life k).map intRow)) (fun _ i _ => d.keys.length - (intOf i).toNat)
  case atStart => exact ⟨1, ⟨none, 0⟩, 0, Nat.le_refl _, by omega, rfl, rfl, ⟨by rw [purgUp_one]; rfl, Nat.zero_le _⟩, Below.refl _ _, by rw [purgUp_one]; exact Go.WW.Own.nil _ _ _ _⟩
  case round =>
    obtain ⟨k, so, m, hk1, hk2, rfl, rfl, hm, hbr, hown⟩ := hrel
    have hBr := below_step hB1 hbr
    have hb0r := below_step hb1 hbr
    obtain ⟨hcc, hff, hrr⟩ := bcell hb0r
    have hsz2 : w.heap.size < wr.heap.size := by have := hb0r.size; omega
    by_cases hlt : k < d.keys.length
    · have hltI : (k : Int) < (d.keys.length : Int) := by omega
      obtain ⟨s1, hq1, -⟩ := HK.out.at (k - 1) (by omega)
      obtain ⟨s2, hq2, -⟩ := HK.out.at k hlt
      have hgb : b < W0.heap.size := by omega
      have hy1 : W0.cell? ⟨b, o + (k - 1) * 5 + 4, none⟩ = some (.int .i64 d.keys[k - 1].created) := by
        rw [hB.cell (p := ⟨b, o + (k - 1) * 5 + 4, none⟩) hbw]
        have := row?_cell hq1 4 (by omega); simpa [go_sem] using this
      have hy2 : W0.cell? ⟨b, o + k * 5, none⟩ = some (.int .i64 d.keys[k].version) := by
        rw [hB.cell (p := ⟨b, o + k * 5, none⟩) hbw]
        have := row?_cell hq2 0 (by omega); simpa [go_sem] using this
      clear hq1 hq2
      by_cases hc : now > wrap64 (d.keys[k - 1].created + life)
      · have HY := Lib.hid (purgUp_yes d.keys now life k hk1 hlt hc)
        have hownA := hown.allocI (.cells #[.int .i64 d.keys[k].version] 3)
        have hbA : Below w1.heap.size w1 (wr.alloc (.cells #[.int .i64 d.keys[k].version] 3)) := below_new hbr _
        clear hown
        go_wp2_with (at_builtin; refine wpList_append_n rfl (.tmp 40) (.tmp 47) _ rfl elemInt (n := m) rfl (by have := hm.out.1; simp [this]) hownA rfl rfl (SrcRows.new _ #[.int .i64 d.keys[k].version] _ _ (by simp [go_sem]) (by simp [go_sem, allOne, Value.oneCell'])) (by have := hm.out; simp; omega) (by have := hbA.size; exact this) ?_; intro s3 w3 hown3 hg3 hat3)
        have hb3 := own_belowI hownA hbA hg3
        have HO := Lib.hid (show Go.WW.Own w3 w1.heap.size 3 1 s3 ((purgUp d.keys now life (k + 1)).map intRow) by rw [HY.out, List.map_append]; exact hown3)
        clear hown3 hg3 hat3 hownA hbA hcc hff hrr hy1 hy2
        go_wp2_with fail
        go_roundw
        case rel => exact ⟨k + 1, s3, m + 1, by omega, by omega, by go_num, rfl, ⟨by rw [HY.out]; have := hm.out.1; simp [this], by have := hm.out.2; omega⟩, hb3, HO.out⟩
        case measure => simp [intOf]; omega
      · have HY := Lib.hid (purgUp_no d.keys now life k hlt hc)
        have HO := Lib.hid hown
        clear hown
        go_wp2_with fail
        go_roundw
        case rel => exact ⟨k + 1, so, m, by omega, by omega, by go_num, rfl, ⟨by rw [HY.out]; exact hm.out.1, by have := hm.out.2; omega⟩, hbr, by rw [HY.out]; exact HO.out⟩
        case measure => simp [intOf]; omega
    · obtain rfl : k = d.keys.length := by omega
      go_wp2_with fail
      go_ret
      rw [hm.out.1, HL.out]
      exact madeInts_own (hown.lower (by have := hb1.size; omega)) (by have := hm.out; unfold purgL at *; unfold lim; omega) hBr
end Go.Proofs.YtpibcnchkndejaaGreatDoor
/- law27.over. -/
namespace Go.Proofs.YtpibcnchkndejaaGreatDoor
open Go.RowKit Go.WW
attribute [local go_sem] Oper.semAt_some
theorem seqNe27 (b : Nat) (w : World) : (binOp .eql 35 (.func (.func 28) #[] #[.pointer (some ⟨b, 0, none⟩)]) .nilFunc).run Tryz.prog w = .ok (.bool false) w := by kernel_rfl
set_option maxRecDepth 100000 in
set_option maxHeartbeats 1000000 in
theorem over_c (b cap : Nat) (a : Option Addr) (L : List Int) (wa : Option Addr) (wcap : Nat) (many : Int) (w : World) (hc : w.heap[b]? = some (.cells #[.slice a L.length cap] 40)) (ha : IntsAt w a L) (hw : IntsAt w wa L) :
    Calls Tryz.prog 9 #[.func (.func 28) #[] #[.pointer (some ⟨b, 0, none⟩)], .slice wa L.length wcap, .int .i64 many] w fun e w' => e = .returned (.bool true) ∧ Below w.heap.size w w' := by
  have hne := fun w => seqNe27 b w
  refine (callsIn_wide (n := 0)).1 ?_
  refine callsIn_of_wp_marks Tryz.func9 rfl trivial ?_ rfl
  simp only [Tryz.ntmps9, List.size_toArray, List.length_cons, List.length_nil, Nat.reduceAdd, Nat.reduceSub, Array.replicate_succ, Array.replicate_zero, List.push_toArray, List.append_toArray, List.nil_append, List.cons_append]
  gi_wp2
  obtain ⟨W0, hW0⟩ : ∃ W0, W0 = (((w.alloc (.cells #[.slice wa L.length wcap] 40)).alloc (.cells #[.int .i64 many] 3)).alloc (.cells #[.bool false] 4)).alloc (.cells #[.int .i64 0] 3) := ⟨_, rfl⟩
  have hs0 : W0.heap.size = w.heap.size + 4 := by rw [hW0]; simp
  have hB : Below w.heap.size w W0 := by rw [hW0]; exact ((((Below.refl _ w).alloc (Nat.le_refl _) _).alloc (by simp) _).alloc (by simp; omega) _).alloc (by simp; omega) _
  have h0w : W0.heap[w.heap.size]? = some (.cells #[.slice wa L.length wcap] 40) := by
    rw [hW0, Below.heap_alloc _ _ _ (by simp; omega), Below.heap_alloc _ _ _ (by simp; omega), Below.heap_alloc _ _ _ (by simp)]; exact World.alloc_heap_new _ _
  have h0m : W0.heap[w.heap.size + 1]? = some (.cells #[.int .i64 many] 3) := by
    rw [hW0, Below.heap_alloc _ _ _ (by simp), Below.heap_alloc _ _ _ (by simp)]
    have := World.alloc_heap_new (w.alloc (.cells #[.slice wa L.length wcap] 40)) (.cells #[.int .i64 many] 3)
    simpa using this
  have h0r : W0.heap[w.heap.size + 2]? = some (.cells #[.bool false] 4) := by
    rw [hW0, Below.heap_alloc _ _ _ (by simp)]
    have := World.alloc_heap_new ((w.alloc (.cells #[.slice wa L.length wcap] 40)).alloc (.cells #[.int .i64 many] 3)) (.cells #[.bool false] 4)
    simpa [Nat.add_assoc] using this
  have h0k : W0.heap[w.heap.size + 3]? = some (.cells #[.int .i64 0] 3) := by
    rw [hW0]
    have := World.alloc_heap_new (((w.alloc (.cells #[.slice wa L.length wcap] 40)).alloc (.cells #[.int .i64 many] 3)).alloc (.cells #[.bool false] 4)) (.cells #[.int .i64 0] 3)
    simpa [Nat.add_assoc] using this
  have eb : w.heap.size + 1 + 1 + 1 = w.heap.size + 3 := by omega
  have eb2 : w.heap.size + 1 + 1 = w.heap.size + 2 := by omega
  rw [eb, eb2, ← hW0]
  clear hW0 hne
  refine (wpIn_wide (n := 0)).2 ?_
  have hbl : b < w.heap.size := (Array.getElem?_eq_some_iff.1 hc).1
  have hstill : ∀ y, But (OffI (fun k => k = w.heap.size + 3) W0) W0 y → Below w.heap.size w y := fun y hy => hB.trans ⟨hy.os, hy.tape, hy.output, hy.size, fun k hk => hy.block k (by omega) (by rintro (h | h) <;> omega)⟩
  have HW := Lib.hid hw
  have HA := Lib.hid ha
  clear hw ha
  refine wp_range_but (gf := 28) (lb := #[.pointer (some ⟨b, 0, none⟩)]) (by simp [go_sem]) (enters_of Tryz.func28 (by kernel_rfl) rfl) (S := fun k => k = w.heap.size + 3) ?_ (xs := L) (V := VI) ?_
    (purg1_seq b cap a L _ W0 (still_blk hB hc) (fun k hk => by omega) (fun y hy => HA.out.later (hstill y hy)))
    (fun c1 k Wc => Wc.heap[w.heap.size + 3]? = some (.cells #[.int .i64 k] 3) ∧ (k = 0 ∨ (k : Int) < many) ∧ But (OffI (fun k => k = w.heap.size + 3) W0) W0 Wc ∧ W0.heap.size < c1)
    (fun c c1 k Wc => c = .exit 0 ∧ Wc.heap[w.heap.size + 3]? = some (.cells #[.int .i64 k] 3) ∧ ((k : Int) ≥ many ∧ (k = 1 ∨ (k : Int) - 1 < many) ∧ 1 ≤ k ∧ k ≤ L.length) ∧ But (OffI (fun k => k = w.heap.size + 3) W0) W0 Wc ∧ W0.heap.size < c1) ?_ ?_ ?_ ?_ ?_ ?_
  · intro k hk; omega
  · rintro c1 x v W0 Wc rfl; rfl
  · intro c1 Wc h1 h2 hb
    exact ⟨still_blk hb h0k, .inl rfl, But.of_below hb, h1⟩
  · rintro c1 k Wc Wc' ⟨h1, h2, h3, h4⟩ hb
    exact ⟨(hb.block _ (Array.getElem?_eq_some_iff.1 h1).1 (fun h => by have := h.1; omega)).trans h1, h2, h3.trans (hb.mono fun k hk => .inr (by have := hk.1; omega)), h4⟩
  · rintro c c1 k Wc Wc' ⟨h0, h1, h2, h3, h4⟩ hb
    exact ⟨h0, (hb.block _ (Array.getElem?_eq_some_iff.1 h1).1 (fun h => by have := h.1; omega)).trans h1, h2, h3.trans (hb.mono fun k hk => .inr (by have := hk.1; omega)), h4⟩
  · rintro c1 k x v W1 Wc hx rfl ⟨hk0, hlt0, hbu0, hc0⟩ hbs hc1 hc20
    have hkc := (hbs.block _ (Array.getElem?_eq_some_iff.1 hk0).1 (fun h => by have := h.1; omega)).trans hk0
    have hbu := hbu0.trans (hbs.mono fun k hk => (.inr (by have := hk.1; omega) : OffI (fun k => k = w.heap.size + 3) W0 k))
    have hsW := hbs.size
    gi_wp2
    refine ⟨Below.refl _ _, fun U hU => ?_⟩
    have hkl : k < L.length := (List.getElem?_eq_some_iff.1 hx).1
    have hUk : U.heap[w.heap.size + 3]? = some (.cells #[.int .i64 k] 3) := (hU.block _ (Array.getElem?_eq_some_iff.1 hkc).1 (not_one (by omega))).trans hkc
    have hbuU : But (OffI (fun k => k = w.heap.size + 3) W0) W0 U := hbu.trans (hU.mono fun k hk => .inr (by have : k = _ := hk; omega))
    have hUw : U.heap[w.heap.size]? = some (.cells #[.slice wa L.length wcap] 40) := (hbuU.block _ (by omega) (by rintro (h | h) <;> omega)).trans h0w
    have hUm : U.heap[w.heap.size + 1]? = some (.cells #[.int .i64 many] 3) := (hbuU.block _ (by omega) (by rintro (h | h) <;> omega)).trans h0m
    obtain ⟨p, q, rfl, hcell⟩ := (HW.out.later (hstill U hbuU)).get k hkl
    have hxe : L[k] = x := (List.getElem?_eq_some_iff.1 hx).2
    rw [hxe] at hcell
    obtain ⟨kc, kf, -, kl⟩ := box_facts hUk
    obtain ⟨wc', wf', -, wl⟩ := box_facts hUw
    obtain ⟨mc, mf, -, ml⟩ := box_facts hUm
    have hgk : ¬ (k : Int) ≥ (L.length : Int) := by omega
    have hkn : (L.length : Int) ≤ 4294967000 := by have := HW.out.1; unfold lim at this; omega
    gi_wp2
    all_goals
      have hX : But (fun b => b = w.heap.size + 3 ∨ c1 ≤ b) U (U.setCell ⟨w.heap.size + 3, 0, none⟩ (.int .i64 (↑k + 1))) := ⟨rfl, rfl, rfl, by simp [World.setCell], fun j _ hj => Below.heap_setCell _ _ _ _ (fun e => hj (.inl e))⟩
      have hXk : (U.setCell ⟨w.heap.size + 3, 0, none⟩ (.int .i64 (↑k + 1))).heap[w.heap.size + 3]? = some (.cells #[.int .i64 ((k + 1 : Nat) : Int)] 3) := by
        simp only [World.setCell]; rw [Array.getElem?_modify, if_pos rfl, hUk]; simp
      have hXb : But (OffI (fun k => k = w.heap.size + 3) W0) W0 (U.setCell ⟨w.heap.size + 3, 0, none⟩ (.int .i64 (↑k + 1))) := hbuU.trans (hX.mono fun j hj => hj.imp id (fun h => by omega))
    · exact ⟨hX, rfl, hXk, ⟨by omega, by omega, by omega, by omega⟩, hXb, by omega⟩
    · exact ⟨hX, hXk, .inr (by omega), hXb, by omega⟩
  · intro c1 Wc ⟨hk, hlt, hbu, hc0⟩ hD
    obtain ⟨kc, kf, -, kl⟩ := box_facts hk
    have hUw : Wc.heap[w.heap.size]? = some (.cells #[.slice wa L.length wcap] 40) := (hbu.block _ (by omega) (by rintro (h | h) <;> omega)).trans h0w
    have hUm : Wc.heap[w.heap.size + 1]? = some (.cells #[.int .i64 many] 3) := (hbu.block _ (by omega) (by rintro (h | h) <;> omega)).trans h0m
    obtain ⟨wc', wf', -, wl⟩ := box_facts hUw
    obtain ⟨mc, mf, -, ml⟩ := box_facts hUm
    have hUr : Wc.heap[w.heap.size + 2]? = some (.cells #[.bool false] 4) := (hbu.block _ (by omega) (by rintro (h | h) <;> omega)).trans h0r
    obtain ⟨rc, rf, -, rl⟩ := box_facts hUr
    have hfin := Lib.hid (hstill Wc hbu)
    have hq : ((L.length : Int) == min (L.length : Int) (max 1 many)) = true := by
      simp only [beq_iff_eq]; omega
    have hD9 : (Wc.setCell ⟨w.heap.size + 2, 0, none⟩ (.bool true)).heap[w.heap.size + 4]? = some (.deferred (some [])) := by
      rw [← hs0]; exact (Below.heap_setCell _ _ _ _ (by show W0.heap.size ≠ w.heap.size + 2; omega)).trans hD
    obtain ⟨F, hF⟩ : ∃ F, F = (Wc.setCell ⟨w.heap.size + 2, 0, none⟩ (.bool true)).putObj (w.heap.size + 4) (.deferred none) := ⟨_, rfl⟩
    have hFr : F.heap[w.heap.size + 2]? = some (.cells #[.bool true] 4) := by
      rw [hF, World.putObj_heap_other (by omega)]; simp only [World.setCell]; rw [Array.getElem?_modify, if_pos rfl, hUr]; rfl
    have hFc : F.cell? ⟨w.heap.size + 2, 0, none⟩ = some (.bool true) := (box_facts hFr).1 0
    have hFb : Below w.heap.size w F := by
      rw [hF]
      have h1 := (hstill Wc hbu).setCell (p := ⟨w.heap.size + 2, 0, none⟩) (by show w.heap.size ≤ w.heap.size + 2; omega) (.bool true)
      exact h1.trans ⟨rfl, rfl, rfl, by simp [World.putObj], fun k hk => World.putObj_heap_other (by omega)⟩
    gi_wp2
    refine ⟨by simp, .inl ⟨_, _, rfl, run_takeDeferred hD9, ?_⟩⟩
    rw [← hF]
    exact ⟨.bool true, by simp [results, Tryz.f9, go_sem, hFc], rfl, hFb⟩
  · rintro c c1 k Wc ⟨rfl, hk, hlt, hbu, hc0⟩ hD
    obtain ⟨kc, kf, -, kl⟩ := box_facts hk
    have hUw : Wc.heap[w.heap.size]? = some (.cells #[.slice wa L.length wcap] 40) := (hbu.block _ (by omega) (by rintro (h | h) <;> omega)).trans h0w
    have hUm : Wc.heap[w.heap.size + 1]? = some (.cells #[.int .i64 many] 3) := (hbu.block _ (by omega) (by rintro (h | h) <;> omega)).trans h0m
    obtain ⟨wc', wf', -, wl⟩ := box_facts hUw
    obtain ⟨mc, mf, -, ml⟩ := box_facts hUm
    have hUr : Wc.heap[w.heap.size + 2]? = some (.cells #[.bool false] 4) := (hbu.block _ (by omega) (by rintro (h | h) <;> omega)).trans h0r
    obtain ⟨rc, rf, -, rl⟩ := box_facts hUr
    have hfin := Lib.hid (hstill Wc hbu)
    have hq : ((k : Int) == min (L.length : Int) (max 1 many)) = true := by
      simp only [beq_iff_eq]; omega
    have hD9 : (Wc.setCell ⟨w.heap.size + 2, 0, none⟩ (.bool true)).heap[w.heap.size + 4]? = some (.deferred (some [])) := by
      rw [← hs0]; exact (Below.heap_setCell _ _ _ _ (by show W0.heap.size ≠ w.heap.size + 2; omega)).trans hD
    obtain ⟨F, hF⟩ : ∃ F, F = (Wc.setCell ⟨w.heap.size + 2, 0, none⟩ (.bool true)).putObj (w.heap.size + 4) (.deferred none) := ⟨_, rfl⟩
    have hFr : F.heap[w.heap.size + 2]? = some (.cells #[.bool true] 4) := by
      rw [hF, World.putObj_heap_other (by omega)]; simp only [World.setCell]; rw [Array.getElem?_modify, if_pos rfl, hUr]; rfl
    have hFc : F.cell? ⟨w.heap.size + 2, 0, none⟩ = some (.bool true) := (box_facts hFr).1 0
    have hFb : Below w.heap.size w F := by
      rw [hF]
      have h1 := (hstill Wc hbu).setCell (p := ⟨w.heap.size + 2, 0, none⟩) (by show w.heap.size ≤ w.heap.size + 2; omega) (.bool true)
      exact h1.trans ⟨rfl, rfl, rfl, by simp [World.putObj], fun k hk => World.putObj_heap_other (by omega)⟩
    refine (wpIn_wide (n := 0)).1 ?_
    gi_wp2
    refine ⟨by simp, .inl ⟨_, _, rfl, run_takeDeferred hD9, ?_⟩⟩
    rw [← hF]
    exact ⟨.bool true, by simp [results, Tryz.f9, go_sem, hFc], rfl, hFb⟩
end Go.Proofs.YtpibcnchkndejaaGreatDoor
