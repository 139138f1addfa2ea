/- law26.small at a list of one act. -/
import Derived.Test.YtjjdjncdlfnhkaaGreatDoorWB
import Derived.Test.YtjjdjncdlfnhkaaGreatDoorWC
namespace Go.WW
open Go.RowKit
def setP (k : KeySet) : Prop := k.keys.length ≤ 4 ∧ k.salt.size ≤ 300 ∧ ∀ j (h : j < k.keys.length), k.keys[j].bytes.length ≤ 300
structure SmallP (p : Prin) (d : Entry) (q : Policy) : Prop where
  name : shortP p
  own : shortP d.name
  aliases : d.aliases.length ≤ 4
  keys : d.keys.length ≤ 4
  targets : d.targets.length ≤ 4
  delegates : d.delegates.length ≤ 4
  history : d.history.length ≤ 4
  policy : d.policy.size ≤ 40
  pol : q.name.size ≤ 40
  names : ∀ x ∈ d.aliases ++ d.targets ++ d.delegates, shortP x
  sets : ∀ x ∈ d.keys, setP x
theorem wp_append_n {P : Program} {o : Oper} {a : Act} {w : World} {K : Act → World → Prop} {Q : Exit → Act → World → Prop} (x y : Operand) (t : TypeId) (ho : o.op = .call { callee := .builtin .append, args := #[x, y], argTypes := #[t, t] })
    {e : TypeId} {k bytes : Nat} (he : ElemOk P t e k bytes) {base : Nat} {s : Sl} {n : Nat} {rows : List (Array Value)} (hx : a.eval x = .slice s.a n s.cap) (hn : n = rows.length) (h : Own w base e k s rows) {A : Option Addr} {news : List (Array Value)} {m c : Nat}
    (hy : a.eval y = .slice A m c) (hm : m = news.length) (hs : SrcRows w k A news) (hlen : (rows.length + news.length) * (bytes + 1) ≤ 140737488355328) (hbase : base ≤ w.heap.size)
    (hK : ∀ (s' : Sl) w', Own w' base e k s' (rows ++ news) → w.grownBy w' s.blk → (s'.blk = s.blk ∨ s'.blk = some w.heap.size) → K (a.put o.dst (.slice s'.a (n + m) s'.cap)) w') : o.wp P a w K Q := by
  subst hn hm
  exact wp_append_rows x y t ho he hx h hy rfl hs hlen hbase hK
theorem own_below {W w w' : World} {E : TypeId} {k : Nat} {s : Sl} {rows : List (Array Value)} (h : Own w W.heap.size E k s rows) (hb : Below W.heap.size W w) (hg : w.grownBy w' s.blk) : Below W.heap.size W w' := hb.grown hg hb.size (fun _ e => (h.base e).1)
theorem SrcRows.later {w w' : World} {k : Nat} {A : Option Addr} {rows : List (Array Value)} (h : SrcRows w k A rows) (hb : Below w.heap.size w w') : SrcRows w' k A rows :=
  ⟨h.size, h.one, fun i hi => by obtain ⟨b, o, h1, h2⟩ := h.at_ i hi; exact ⟨b, o, h1, by rw [row?_of_block (hb.block b (row?_lt h2))]; exact h2⟩⟩
/-- Rows that are principals in memory, one for one. -/
structure RowsOf (w : World) (rows : List (Array Value)) (l : List Prin) : Prop where
  len : rows.length = l.length
  at_ : ∀ i (hi : i < rows.length), ∃ p s, l[i]? = some p ∧ rows[i] = prinC s p ∧ PrinAt w s p
theorem RowsOf.nil (w : World) : RowsOf w [] [] := ⟨rfl, fun _ hi => absurd hi (Nat.not_lt_zero _)⟩
theorem RowsOf.append {w : World} {r1 r2 : List (Array Value)} {l1 l2 : List Prin} (h1 : RowsOf w r1 l1) (h2 : RowsOf w r2 l2) : RowsOf w (r1 ++ r2) (l1 ++ l2) := by
  refine ⟨by simp [h1.len, h2.len], fun i hi => ?_⟩
  by_cases hlt : i < r1.length
  · obtain ⟨p, s, e1, e2, e3⟩ := h1.at_ i hlt
    exact ⟨p, s, by rw [List.getElem?_append_left (by have := h1.len; omega)]; exact e1, by rw [List.getElem_append_left hlt]; exact e2, e3⟩
  · obtain ⟨p, s, e1, e2, e3⟩ := h2.at_ (i - r1.length) (by simp at hi; omega)
    exact ⟨p, s, by rw [List.getElem?_append_right (by have := h1.len; omega), ← h1.len]; exact e1, by rw [List.getElem_append_right (by omega)]; exact e2, e3⟩
theorem RowsOf.later {w w' : World} {r : List (Array Value)} {l : List Prin} (h : RowsOf w r l) (hb : Below w.heap.size w w') : RowsOf w' r l :=
  ⟨h.len, fun i hi => by obtain ⟨p, s, e1, e2, e3⟩ := h.at_ i hi; exact ⟨p, s, e1, e2, e3.later hb⟩⟩
theorem RowsOf.prins {w : World} {base : Nat} {e : TypeId} {s : Sl} {r : List (Array Value)} {l : List Prin} (h : RowsOf w r l) (ho : Own w base e 2 s r) (hl : l.length ≤ lim) : PrinsAt w s.a l :=
  RowsAt.of_own ho h.len hl h.at_
/-- An empty slice just made. -/
theorem Own.none (w : World) (t : TypeId) (k : Nat) : Own (w.alloc (.cells #[] t)) w.heap.size t k ⟨some ⟨w.heap.size, 0, none⟩, 0⟩ [] := by
  refine ⟨⟨by simp [flat], .inr ⟨w.heap.size, 0, #[], rfl, Nat.le_refl _, World.alloc_heap_new w _, Nat.le_refl _, by unfold maxLen; omega, by simp, ?_⟩⟩, by simp⟩
  simp [flat]
end Go.WW
namespace Go.Proofs.YtjjdjncdlfnhkaaGreatDoor
open Go.RowKit Go.WW
theorem elemPrin : ElemOk Tryz.prog 25 24 2 40 := ElemOk.of Tryz.underlying25 (by kernel_rfl)
set_option maxRecDepth 100000 in
set_option maxHeartbeats 4000000 in
theorem small_c (blk off cap : Nat) (r : ERaw) (d : Entry) (s : Sl) (p : Prin) (q : Policy) (w : World) (hr0 : row? w blk (off + 1) 17 = some (entC r d)) (hr1 : row? w blk (off + 18) 2 = some (prinC s p)) (hr2 : w.cell? ⟨blk, off + 23, none⟩ = some (.string q.name))
    (he : EntAt w r d) (hp : PrinAt w s p) (_hq : q.name.size ≤ lim) :
    Calls Tryz.prog 4 #[.slice (some ⟨blk, off, none⟩) 1 cap, .int .i64 1] w fun e w' => e = .returned (.bool (boolOf (SmallP p d q))) ∧ Below w.heap.size w w' := by
  have hgb : blk < w.heap.size := row?_lt hr0
  obtain ⟨rA, lA, sA, qA⟩ := RowsAt.src he.aliases prinR_ok
  obtain ⟨rT, lT, sT, qT⟩ := RowsAt.src he.targets prinR_ok
  obtain ⟨rD, lD, sD, qD⟩ := RowsAt.src he.delegates prinR_ok
  have LA := Lib.hid lA
  have LT := Lib.hid lT
  have LD := Lib.hid lD
  have QA := Lib.hid qA
  have QT := Lib.hid qT
  have QD := Lib.hid qD
  have SA := Lib.hid sA
  have ST := Lib.hid sT
  have SD := Lib.hid sD
  clear lA lT lD qA qT qD sA sT sD
  go_enter Tryz.func4, Tryz.ntmps4
  go_wp2_with fail
  refine wp_loop_rounds 2 ?_
  rw [rounds_succ]
  go_wp2_with fail
  have hB : Below w.heap.size w (w.alloc (.cells (entC r d) 31)) := below_box _ _
  refine (short_c _ _ _ (hp.later hB)).mono ?_
  rintro e w1 ⟨rfl, hb1⟩
  have hB1 := below_step hB hb1
  obtain ⟨hcc, hff, hrr⟩ := bcell hb1
  have hsz : w.heap.size < w1.heap.size := by have := hb1.size; simp at this; omega
  by_cases c1 : shortP p
  case neg =>
    have HN := Lib.hid (boolOf_f (fun h : SmallP p d q => c1 h.name))
    rw [boolOf_f c1]
    go_wp2_with fail
    go_ret
    exact ⟨by rw [HN.out]; rfl, hB1⟩
  rw [boolOf_t c1]
  go_wp2_with fail
  refine (short_c _ _ _ (he.name.later hB1)).mono ?_
  rintro e w2 ⟨rfl, hb2⟩
  have hB2 := below_step hB1 hb2
  have hb2' := below_step hb1 hb2
  clear hcc hff hrr hsz
  obtain ⟨hcc, hff, hrr⟩ := bcell hb2'
  have hsz : w.heap.size < w2.heap.size := by have := hb2'.size; simp at this; omega
  have hgb2 : blk < w2.heap.size := by omega
  have hr2' : w2.cell? ⟨blk, off + 23, none⟩ = some (.string q.name) := by rw [hB2.cell (p := ⟨blk, off + 23, none⟩) hgb]; exact hr2
  by_cases c2 : shortP d.name
  case neg =>
    have HN := Lib.hid (boolOf_f (fun h : SmallP p d q => c2 h.own))
    rw [boolOf_f c2]
    go_wp2_with fail
    go_ret
    exact ⟨by rw [HN.out]; rfl, hB2⟩
  rw [boolOf_t c2]
  go_wp2_with fail
  all_goals first
    | (go_ret; exact ⟨by rw [boolOf_f (fun h : SmallP p d q => by have h1 := h.aliases; have h2 := h.keys; have h3 := h.targets; have h4 := h.delegates; have h5 := h.history; have h6 := h.policy; have h7 := h.pol; omega)]; rfl, hB2⟩)
    | skip
  have nA : d.aliases.length ≤ 4 := by omega
  have nK : d.keys.length ≤ 4 := by omega
  have nT : d.targets.length ≤ 4 := by omega
  have nD : d.delegates.length ≤ 4 := by omega
  have HOK := Lib.hid (show d.history.length ≤ 4 ∧ d.policy.size ≤ 40 ∧ q.name.size ≤ 40 from ⟨by omega, by omega, by omega⟩)
  clear hr2'
  refine wp_region_since hb2' (by kernel_rfl) (by kernel_rfl) ?_
  intro w3 hb3
  clear hcc hff hrr hsz
  obtain ⟨hcc, hff, hrr⟩ := bcell hb3
  have hsz : w.heap.size < w3.heap.size := by have := hb3.size; simp at this; omega
  repeat (first | (refine text_skip (by rfl) ?_) | (refine text_look (by rfl) (by rfl) (fun K hK => ?_); go_big_quiet_op; refine hK _ ?_; clear hK K))
  refine text_act (by rfl) (by rfl) (fun K hK => ?_)
  go_wp2_with fail
  have hb4 := below_new hb3 (.cells #[] 24)
  have hown : Go.WW.Own (w3.alloc (.cells #[] 24)) (w.alloc (.cells (entC r d) 31)).heap.size 24 2 ⟨some ⟨w3.heap.size, 0, none⟩, 0⟩ [] := by
    have h := Own.none w3 24 2
    exact ⟨⟨h.own.1, h.own.2.imp id fun ⟨g, cap, cur, h1, h2, h3⟩ => ⟨g, cap, cur, h1, Nat.le_trans hb3.size h2, h3⟩⟩, h.size⟩
  refine hK _ _ (since_of hb4) ?_
  clear hK K
  repeat (first | (refine text_skip (by rfl) ?_) | (refine text_look (by rfl) (by rfl) (fun K hK => ?_); go_big_quiet_op; refine hK _ ?_; clear hK K))
  refine text_act (by rfl) (by rfl) (fun K hK => ?_)
  refine wp_append_n (.tmp 85) (.tmp 87) _ rfl elemPrin (n := 0) (s := ⟨some ⟨w3.heap.size, 0, none⟩, 0⟩) rfl rfl hown rfl LA.out.symm (SA.out.later (below_step hB hb4)) (by rw [LA.out]; simp; omega) (by have := hb4.size; exact this) ?_
  intro s5 w5 hown5 hg5 hat5
  have hb5 := own_below hown hb4 hg5
  go_wp2_with fail
  refine hK _ _ (since_of hb5) ?_
  clear hK K
  repeat (first | (refine text_skip (by rfl) ?_) | (refine text_look (by rfl) (by rfl) (fun K hK => ?_); go_big_quiet_op; refine hK _ ?_; clear hK K))
  refine text_act (by rfl) (by rfl) (fun K hK => ?_)
  refine wp_append_n (.tmp 88) (.tmp 90) _ rfl elemPrin (n := d.aliases.length) (s := s5) rfl (by have := LA.out; simp [this]) hown5 rfl LT.out.symm (ST.out.later (below_step hB hb5)) (by have := LA.out; rw [LT.out]; simp [this]; omega) (by have := hb5.size; exact this) ?_
  intro s6 w6 hown6 hg6 hat6
  have hb6 := own_below hown5 hb5 hg6
  go_wp2_with fail
  refine hK _ _ (since_of hb6) ?_
  clear hK K
  repeat (first | (refine text_skip (by rfl) ?_) | (refine text_look (by rfl) (by rfl) (fun K hK => ?_); go_big_quiet_op; refine hK _ ?_; clear hK K))
  refine text_act (by rfl) (by rfl) (fun K hK => ?_)
  refine wp_append_n (.tmp 91) (.tmp 93) _ rfl elemPrin (n := d.aliases.length + d.targets.length) (s := s6) rfl (by have := LA.out; have := LT.out; simp [*]) hown6 rfl LD.out.symm (SD.out.later (below_step hB hb6)) (by have h1 := LA.out; have h2 := LT.out; rw [LD.out]; simp [h1, h2]; omega) (by have := hb6.size; exact this) ?_
  intro s7 w7 hown7 hg7 hat7
  have hb7 := own_below hown6 hb6 hg7
  go_wp2_with fail
  refine hK _ _ (since_of hb7) ?_
  clear hK K
  repeat (first | (refine text_skip (by rfl) ?_) | (refine text_look (by rfl) (by rfl) (fun K hK => ?_); go_big_quiet_op; refine hK _ ?_; clear hK K))
  refine text_nil ?_
  have hB7 := below_step hB hb7
  have hBW : Below (w.alloc (.cells (entC r d) 31)).heap.size (w.alloc (.cells (entC r d) 31)) w7 := hb7
  obtain ⟨L, hL⟩ : ∃ L, L = d.aliases ++ d.targets ++ d.delegates := ⟨_, rfl⟩
  have hLn : d.aliases.length + d.targets.length + d.delegates.length = L.length := by rw [hL]; simp; omega
  rw [hLn]
  have hN : L.length ≤ 12 := by omega
  have HP := Lib.hid (show PrinsAt w7 s7.a L by
    have h := (((RowsOf.nil w).append ⟨LA.out, QA.out⟩).append ⟨LT.out, QT.out⟩).append ⟨LD.out, QD.out⟩
    rw [hL]
    exact (h.later hB7).prins hown7 (by unfold lim; simp; omega))
  have HL := Lib.hid hL
  clear hL hLn hcc hff hrr hsz hown hown5 hown6 hown7 hg5 hg6 hg7 hat5 hat6 hat7
  obtain ⟨hcc, hff, hrr⟩ := bcell hBW
  have hsz : w.heap.size < w7.heap.size := by have := hBW.size; simp at this; omega
  have hkeys := Lib.hid (he.keys.later hB7)
  go_wp2_with fail
  go_loopw [8] (fun i wr => Below w7.heap.size w7 wr ∧ ∃ k : Nat, k ≤ L.length ∧ i = .int .i64 k ∧ Hid (∀ j (h : j < L.length), j < k → shortP L[j])) (fun i _ => L.length - (intOf i).toNat)
  case atStart => exact ⟨Below.refl _ _, 0, Nat.zero_le _, rfl, fun j h hj => absurd hj (Nat.not_lt_zero _)⟩
  case round =>
    obtain ⟨hbr, k, hk, rfl, hall⟩ := hrel
    have hBr := below_step hB7 hbr
    have hbW := below_step hBW hbr
    clear hcc hff hrr hsz
    by_cases hlt : k < L.length
    · obtain ⟨g, o, t, ha, hrow, hpa⟩ := HP.out.get k hlt
      have hltI : (k : Int) < (L.length : Int) := by omega
      have hgb7 : g < w7.heap.size := row?_lt hrow
      obtain ⟨s7a, s7c⟩ := s7
      dsimp only at ha
      subst ha
      obtain ⟨hcc, hff, hrr⟩ := bcell hbr
      go_wp2_with fail
      refine (short_c _ _ _ (hpa.later hbr)).mono ?_
      rintro e w8 ⟨rfl, hb8⟩
      have hb8' := below_step hbr hb8
      have hB8 := below_step hBr hb8
      clear hcc hff hrr
      by_cases c3 : shortP L[k]
      case neg =>
        have HN := Lib.hid (boolOf_f (fun h : SmallP p d q => c3 (h.names _ (by rw [← HL.out]; exact List.getElem_mem hlt))))
        rw [boolOf_f c3]
        go_wp2_with fail
        go_ret
        exact ⟨by rw [HN.out]; rfl, hB8⟩
      rw [boolOf_t c3]
      have HS := Lib.hid (show ∀ j (h : j < L.length), j < k + 1 → shortP L[j] from fun j h hj => by
        rcases Nat.lt_or_ge j k with h1 | h1
        · exact hall.out j h h1
        · obtain rfl : j = k := by omega
          exact c3)
      go_wp2_with fail
      go_roundw
      case rel => exact ⟨hb8', k + 1, by omega, by go_num, HS.out⟩
      case measure => simp [intOf]; omega
    · have hltI : ¬ (k : Int) < (L.length : Int) := by omega
      have HA := Lib.hid (show ∀ x ∈ d.aliases ++ d.targets ++ d.delegates, shortP x by
        intro x hx
        rw [← HL.out] at hx
        obtain ⟨i, hi, rfl⟩ := List.mem_iff_getElem.1 hx
        exact hall.out i hi (by omega))
      obtain ⟨hcc, hff, hrr⟩ := bcell hbW
      have hsz := Nat.lt_of_lt_of_le (show w.heap.size < (w.alloc (.cells (entC r d) 31)).heap.size by simp) hbW.size
      have hkeys2 := Lib.hid (hkeys.out.later hbr)
      go_wp2_with fail
      go_loop [9] (fun i => ∃ k : Nat, k ≤ d.keys.length ∧ i = .int .i64 k ∧ Hid (∀ j (h : j < d.keys.length), j < k → setP d.keys[j])) (fun i => d.keys.length - (intOf i).toNat)
      case atStart => exact ⟨0, Nat.zero_le _, rfl, fun j h hj => absurd hj (Nat.not_lt_zero _)⟩
      case round =>
        obtain ⟨j, hj, rfl, hset⟩ := hrel
        by_cases hjt : j < d.keys.length
        · obtain ⟨b2, o2, s2, ha2, hq2, hs2⟩ := hkeys2.out.get j hjt
          have hgb2 := row?_lt hq2
          have hy1 : wr.cell? ⟨b2, o2 + j * 5 + 1, none⟩ = some (.slice s2.a d.keys[j].keys.length s2.cap) := by have := row?_cell hq2 1 (by omega); simpa [go_sem] using this
          have hy2 : wr.cell? ⟨b2, o2 + j * 5 + 2, none⟩ = some (.string d.keys[j].salt) := by have := row?_cell hq2 2 (by omega); simpa [go_sem] using this
          have hkl : d.keys[j].keys.length ≤ 9223372036854775807 := hs2.1.1
          have hsl : d.keys[j].salt.size ≤ 9223372036854775807 := hs2.2
          have HNO := Lib.hid (show ¬ setP d.keys[j] → boolOf (SmallP p d q) = false from fun h => boolOf_f (fun hh => h (hh.sets _ (List.getElem_mem hjt))))
          by_cases hz1 : d.keys[j].keys.length ≤ 4
          case neg =>
            go_wp2_with fail
            go_ret
            exact ⟨by rw [HNO.out (fun h => hz1 h.1)]; rfl, hBr⟩
          by_cases hz2 : d.keys[j].salt.size ≤ 300
          case neg =>
            go_wp2_with fail
            go_ret
            exact ⟨by rw [HNO.out (fun h => hz2 h.2.1)]; rfl, hBr⟩
          go_wp2_with fail
          go_loop [10] (fun i => ∃ n : Nat, n ≤ d.keys[j].keys.length ∧ i = .int .i64 n ∧ Hid (∀ l (h : l < d.keys[j].keys.length), l < n → d.keys[j].keys[l].bytes.length ≤ 300)) (fun i => d.keys[j].keys.length - (intOf i).toNat)
          case atStart => exact ⟨0, Nat.zero_le _, rfl, fun j h hj => absurd hj (Nat.not_lt_zero _)⟩
          case round =>
            obtain ⟨n, hn, rfl, hby⟩ := hrel
            by_cases hnt : n < d.keys[j].keys.length
            · obtain ⟨b3, o3, s3, ha3, hq3, hs3⟩ := hs2.1.get n hnt
              have hgb3 := row?_lt hq3
              have hy3 : wr.cell? ⟨b3, o3 + n * 3 + 2, none⟩ = some (.slice s3.a d.keys[j].keys[n].bytes.length s3.cap) := by have := row?_cell hq3 2 (by omega); simpa [go_sem] using this
              have hbl : d.keys[j].keys[n].bytes.length ≤ 9223372036854775807 := hs3.1
              rw [ha3] at hy1
              go_wp2_with fail
              all_goals first
                | (go_ret; exact ⟨by rw [HNO.out (fun h => by have := h.2.2 n hnt; omega)]; rfl, hBr⟩)
                | (go_round
                   case rel => exact ⟨n + 1, by omega, by go_num, fun l h hl => by
                     rcases Nat.lt_or_ge l n with h1 | h1
                     · exact hby.out l h h1
                     · obtain rfl : l = n := by omega
                       omega⟩
                   case measure => simp [intOf]; omega)
            · have HS := Lib.hid (show ∀ l (h : l < d.keys.length), l < j + 1 → setP d.keys[l] from fun l h hl => by
                rcases Nat.lt_or_ge l j with h1 | h1
                · exact hset.out l h h1
                · obtain rfl : l = j := by omega
                  exact ⟨hz1, hz2, fun m hm => hby.out m hm (by omega)⟩)
              go_wp2_with fail
              go_round
              case rel => exact ⟨j + 1, by omega, by go_num, HS.out⟩
              case measure => simp [intOf]; omega
        · have HN := Lib.hid (boolOf_t (show SmallP p d q from ⟨c1, c2, nA, nK, nT, nD, HOK.out.1, HOK.out.2.1, HOK.out.2.2, HA.out, fun x hx => by
            obtain ⟨i, hi, rfl⟩ := List.mem_iff_getElem.1 hx
            exact hset.out i hi (by omega)⟩))
          go_wp2_with fail
          rw [rounds_succ]
          go_wp2_with fail
          go_ret
          exact ⟨by rw [HN.out]; rfl, hBr⟩
end Go.Proofs.YtjjdjncdlfnhkaaGreatDoor
