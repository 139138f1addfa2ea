/- Part f of the proof about watchword's lockout: texts Y17 Y18 Y20. -/
import Derived.Test.YtnpddjmjdpgohaaGreatDoorGe
import Derived.Test.YtnpddjmjdpgohaaGreatDoorGS
import Derived.Test.YtnpddjmjdpgohaaGreatDoorGd
import Derived.Test.YtnpddjmjdpgohaaGreatDoorGQ

namespace Go.WW
open Go.RowKit
def polRef (L : List Policy) (d : Entry) : Policy := if d.policy = ⟨#[]⟩ then zeroP else (L.find? fun x => decide (x.name = d.policy)).getD zeroP
theorem polRef_none {L : List Policy} {d : Entry} (h : L.any (fun x => decide (x.name = d.policy)) = false) : polRef L d = zeroP := by
  unfold polRef
  split
  · rfl
  · have : L.find? (fun x => decide (x.name = d.policy)) = none := List.find?_eq_none.2 fun x hx => by have := List.any_eq_false.1 h x hx; simpa using this
    rw [this]; rfl
theorem polRef_empty {L : List Policy} {d : Entry} (h : d.policy = ⟨#[]⟩) : polRef L d = zeroP := by unfold polRef; rw [if_pos h]
theorem polRef_idx {L : List Policy} {d : Entry} (h : ¬ d.policy = ⟨#[]⟩) {i : Nat} (hi : i < L.length) (hx : idxOf (fun z => decide (z.name = d.policy)) L = (i : Int)) : polRef L d = L[i] := by
  unfold polRef
  rw [if_neg h]
  unfold idxOf at hx
  cases hf : L.findIdx? (fun z => decide (z.name = d.policy)) with
  | none => rw [hf] at hx; simp at hx
  | some j =>
    rw [hf] at hx
    have hji : j = i := by simp at hx; omega
    subst hji
    obtain ⟨hj, h1, h2⟩ := List.findIdx?_eq_some_iff_getElem.1 hf
    have : L.find? (fun x => decide (x.name = d.policy)) = some L[j] := List.find?_eq_some_iff_getElem.2 ⟨h1, j, hj, rfl, fun k hk => by have := h2 k hk; simpa using this⟩
    rw [this]; rfl
def FewPost (PL : List Policy) (X : List EE) (w : World) (z : Ending) (w' : World) : Prop := Below w.heap.size w w' ∧ ∃ bl : Bool, z = .returned (.bool bl) ∧ (bl = true → PL.length ≤ 4 ∧ X.length ≤ 6)
end Go.WW
namespace Go.Proofs.YtnpddjmjdpgohaaGreatDoor
open Go.RowKit Go.WW
set_option maxRecDepth 100000 in
set_option maxHeartbeats 1000000 in
theorem few_00 (a : Option Addr) (a2 : Option Addr) (cap cap' : Nat) (w : World) :
    Calls Tryz.prog 15 #[.slice a 0 cap, .slice a2 0 cap'] w (FewPost [] [] w) := by
  have h1 : ([] : List Policy).length ≤ 4 := by simp
  have h2 : ([] : List EE).length ≤ 6 := by simp
  go_enter Tryz.func15, Tryz.ntmps15
  go_wp2_with fail
  refine wp_loop_rounds 1 ?_
  rw [rounds_succ]
  go_wp2_with fail
  refine wp_loop_rounds 1 ?_
  rw [rounds_succ]
  go_wp2_with fail
  go_ret
  exact ⟨Below.refl _ _, true, rfl, fun _ => ⟨h1, h2⟩⟩
set_option maxRecDepth 100000 in
set_option maxHeartbeats 1000000 in
theorem few_01 (a : Option Addr) (b2 o2 : Nat) (cap cap' : Nat) (X : List EE) (w : World) (hx : RowsXE w (some ⟨b2, o2, none⟩) X) (h2 : X.length ≤ 6) :
    Calls Tryz.prog 15 #[.slice a 0 cap, .slice (some ⟨b2, o2, none⟩) X.length cap'] w (FewPost [] X w) := by
  have h1 : ([] : List Policy).length ≤ 4 := by simp
  have g2 : ¬ (6 : Int) < (X.length : Int) := by omega
  go_enter Tryz.func15, Tryz.ntmps15
  go_wp2_with fail
  refine wp_loop_rounds 1 ?_
  rw [rounds_succ]
  go_wp2_with fail
  go_loopw [6] (fun i wr => Below w.heap.size w wr ∧ ∃ k : Nat, k ≤ X.length ∧ i = .int .i64 k) (fun i _ => X.length - (intOf i).toNat)
  case atStart => exact ⟨Below.refl _ _, 0, Nat.zero_le _, rfl⟩
  case round =>
    obtain ⟨hbr, k, hk, rfl⟩ := hrel
    by_cases hlt : k < X.length
    · have hki : (k : Int) < (X.length : Int) := by omega
      have hr0 := (hx.rows.at k hlt)
      have hr : row? wr b2 (o2 + k * 17) 17 = some (entC X[k].1 X[k].2) := (row?_of_block (hbr.block _ (row?_lt hr0)) _ _).trans hr0
      have he := (hx.each X[k] (List.getElem_mem hlt)).later hbr
      clear hr0
      go_wp2_with fail
      refine (large_c _ _ _ he).mono ?_
      rintro z w2 ⟨bl, rfl, hb2⟩
      cases bl
      · dsimp only
        go_wp2_with fail
        go_roundw
        case rel => exact ⟨below_step hbr hb2, k + 1, by omega, by go_num⟩
        case measure => simp [intOf]; omega
      · dsimp only
        go_wp2_with fail
        go_ret
        exact ⟨below_step hbr hb2, false, rfl, by simp⟩
    · obtain rfl : k = X.length := by omega
      go_wp2_with fail
      go_ret
      exact ⟨hbr, true, rfl, fun _ => ⟨h1, h2⟩⟩
set_option maxRecDepth 100000 in
set_option maxHeartbeats 1000000 in
theorem few_10 (b o : Nat) (a2 : Option Addr) (cap cap' : Nat) (PL : List Policy) (w : World) (hp : PolsAt w (some ⟨b, o, none⟩) PL) (h1 : PL.length ≤ 4) :
    Calls Tryz.prog 15 #[.slice (some ⟨b, o, none⟩) PL.length cap, .slice a2 0 cap'] w (FewPost PL [] w) := by
  have g1 : ¬ (4 : Int) < (PL.length : Int) := by omega
  have h2 : ([] : List EE).length ≤ 6 := by simp
  go_enter Tryz.func15, Tryz.ntmps15
  go_wp2_with fail
  go_loop [5] (fun i => ∃ k : Nat, k ≤ PL.length ∧ i = .int .i64 k) (fun i => PL.length - (intOf i).toNat)
  case atStart => exact ⟨0, Nat.zero_le _, rfl⟩
  case round =>
    obtain ⟨k, hk, rfl⟩ := hrel
    by_cases hlt : k < PL.length
    · have hki : (k : Int) < (PL.length : Int) := by omega
      obtain ⟨hc, hpl⟩ := hp.at k hlt
      have hb : b < w.heap.size := row?_lt hc
      have hc2 : w.cell? ⟨b, o + k * 10, none⟩ = some (.string PL[k].name) := by have := row?_cell hc 0 (by omega); simpa [go_sem] using this
      clear hc
      by_cases h60 : 60 < PL[k].name.size
      · have h60' : (60 : Int) < (PL[k].name.size : Int) := by omega
        go_wp2_with fail
        go_ret
        exact ⟨Below.refl _ _, false, rfl, by simp⟩
      · have h60' : ¬ (60 : Int) < (PL[k].name.size : Int) := by omega
        go_wp2_with fail
        go_round
        case rel => exact ⟨k + 1, by omega, by go_num⟩
        case measure => simp [intOf]; omega
    · obtain rfl : k = PL.length := by omega
      go_wp2_with fail
      refine wp_loop_rounds 1 ?_
      rw [rounds_succ]
      go_wp2_with fail
      go_ret
      exact ⟨Below.refl _ _, true, rfl, fun _ => ⟨h1, h2⟩⟩
set_option maxRecDepth 100000 in
set_option maxHeartbeats 1000000 in
theorem few_11 (b o : Nat) (b2 o2 : Nat) (cap cap' : Nat) (PL : List Policy) (X : List EE) (w : World) (hp : PolsAt w (some ⟨b, o, none⟩) PL) (hx : RowsXE w (some ⟨b2, o2, none⟩) X) (h1 : PL.length ≤ 4) (h2 : X.length ≤ 6) :
    Calls Tryz.prog 15 #[.slice (some ⟨b, o, none⟩) PL.length cap, .slice (some ⟨b2, o2, none⟩) X.length cap'] w (FewPost PL X w) := by
  have g1 : ¬ (4 : Int) < (PL.length : Int) := by omega
  have g2 : ¬ (6 : Int) < (X.length : Int) := by omega
  go_enter Tryz.func15, Tryz.ntmps15
  go_wp2_with fail
  go_loop [5] (fun i => ∃ k : Nat, k ≤ PL.length ∧ i = .int .i64 k) (fun i => PL.length - (intOf i).toNat)
  case atStart => exact ⟨0, Nat.zero_le _, rfl⟩
  case round =>
    obtain ⟨k, hk, rfl⟩ := hrel
    by_cases hlt : k < PL.length
    · have hki : (k : Int) < (PL.length : Int) := by omega
      obtain ⟨hc, hpl⟩ := hp.at k hlt
      have hb : b < w.heap.size := row?_lt hc
      have hc2 : w.cell? ⟨b, o + k * 10, none⟩ = some (.string PL[k].name) := by have := row?_cell hc 0 (by omega); simpa [go_sem] using this
      clear hc
      by_cases h60 : 60 < PL[k].name.size
      · have h60' : (60 : Int) < (PL[k].name.size : Int) := by omega
        go_wp2_with fail
        go_ret
        exact ⟨Below.refl _ _, false, rfl, by simp⟩
      · have h60' : ¬ (60 : Int) < (PL[k].name.size : Int) := by omega
        go_wp2_with fail
        go_round
        case rel => exact ⟨k + 1, by omega, by go_num⟩
        case measure => simp [intOf]; omega
    · obtain rfl : k = PL.length := by omega
      go_wp2_with fail
      go_loopw [6] (fun i wr => Below w.heap.size w wr ∧ ∃ k : Nat, k ≤ X.length ∧ i = .int .i64 k) (fun i _ => X.length - (intOf i).toNat)
      case atStart => exact ⟨Below.refl _ _, 0, Nat.zero_le _, rfl⟩
      case round =>
        obtain ⟨hbr, k, hk, rfl⟩ := hrel
        by_cases hlt : k < X.length
        · have hki : (k : Int) < (X.length : Int) := by omega
          have hr0 := (hx.rows.at k hlt)
          have hr : row? wr b2 (o2 + k * 17) 17 = some (entC X[k].1 X[k].2) := (row?_of_block (hbr.block _ (row?_lt hr0)) _ _).trans hr0
          have he := (hx.each X[k] (List.getElem_mem hlt)).later hbr
          clear hr0
          go_wp2_with fail
          refine (large_c _ _ _ he).mono ?_
          rintro z w2 ⟨bl, rfl, hb2⟩
          cases bl
          · dsimp only
            go_wp2_with fail
            go_roundw
            case rel => exact ⟨below_step hbr hb2, k + 1, by omega, by go_num⟩
            case measure => simp [intOf]; omega
          · dsimp only
            go_wp2_with fail
            go_ret
            exact ⟨below_step hbr hb2, false, rfl, by simp⟩
        · obtain rfl : k = X.length := by omega
          go_wp2_with fail
          go_ret
          exact ⟨hbr, true, rfl, fun _ => ⟨h1, h2⟩⟩
set_option maxRecDepth 100000 in
theorem few_no1 (a a2 : Option Addr) (cap cap' n m : Nat) (w : World) (hn : 4 < n) : Calls Tryz.prog 15 #[.slice a n cap, .slice a2 m cap'] w fun z w' => z = .returned (.bool false) ∧ w = w' := by
  have g1 : (4 : Int) < (n : Int) := by omega
  go_enter Tryz.func15, Tryz.ntmps15
  go_wp2_with fail
  go_ret
  exact ⟨rfl, rfl⟩
set_option maxRecDepth 100000 in
theorem few_no2 (a a2 : Option Addr) (cap cap' n m : Nat) (w : World) (hn : ¬ 4 < n) (hm : 6 < m) : Calls Tryz.prog 15 #[.slice a n cap, .slice a2 m cap'] w fun z w' => z = .returned (.bool false) ∧ w = w' := by
  have g1 : ¬ (4 : Int) < (n : Int) := by omega
  have g2 : (6 : Int) < (m : Int) := by omega
  go_enter Tryz.func15, Tryz.ntmps15
  go_wp2_with fail
  go_ret
  exact ⟨rfl, rfl⟩
theorem few_c (a a2 : Option Addr) (cap cap' : Nat) (PL : List Policy) (X : List EE) (w : World) (hp : PolsAt w a PL) (hx : RowsXE w a2 X) :
    Calls Tryz.prog 15 #[.slice a PL.length cap, .slice a2 X.length cap'] w (FewPost PL X w) := by
  by_cases h1 : 4 < PL.length
  · refine (few_no1 a a2 cap cap' _ _ w h1).mono ?_
    rintro z w' ⟨rfl, rfl⟩
    exact ⟨Below.refl _ _, false, rfl, by simp⟩
  by_cases h2 : 6 < X.length
  · refine (few_no2 a a2 cap cap' _ _ w h1 h2).mono ?_
    rintro z w' ⟨rfl, rfl⟩
    exact ⟨Below.refl _ _, false, rfl, by simp⟩
  have h1 : PL.length ≤ 4 := by omega
  have h2 : X.length ≤ 6 := by omega
  rcases RowsAt.addr hp with n1 | ⟨b, o, rfl, -⟩ <;> rcases RowsAt.addr hx.rows with n2 | ⟨b2, o2, rfl, -⟩
  · obtain rfl := List.eq_nil_of_length_eq_zero n1
    obtain rfl := List.eq_nil_of_length_eq_zero n2
    exact few_00 _ _ _ _ _
  · obtain rfl := List.eq_nil_of_length_eq_zero n1
    exact few_01 _ _ _ _ _ _ _ hx h2
  · obtain rfl := List.eq_nil_of_length_eq_zero n2
    exact few_10 _ _ _ _ _ _ _ hp h1
  · exact few_11 _ _ _ _ _ _ _ _ _ hp hx h1 h2
theorem execOp_buildZP (ρ : Operand → Value) (dst : Option Tmp) (ty : TypeId) (pos : String) (after : Array Edge) (guard : Option (Nat × Bool)) :
    execOp ρ { dst, op := .build 33 #[], type := ty, pos, after, guard } = structBuild 33 #[] := by simp [execOp, structBuild]
theorem buildZP (w : World) : (structBuild 33 #[]).run Tryz.prog w = .ok (.value (.agg (polC zeroP))) w := by kernel_rfl
attribute [go_sem] buildZP
attribute [go_sem ↓] execOp_buildZP
set_option maxRecDepth 100000 in
set_option maxHeartbeats 1000000 in
theorem policyL_c (e p : Sl) (D : Db) (r : ERaw) (d : Entry) (w : World) (hp : PolsAt w p.a D.policies) : Calls Tryz.prog 18 #[.agg (rdbC e p D), .agg (entC r d)] w fun z w' => z = .returned (.agg (polC (polRef D.policies d))) ∧ Below w.heap.size w w' := by
  have hB : Below w.heap.size w (((w.alloc (.cells (rdbC e p D) 50)).alloc (.cells (entC r d) 31)).alloc (.cells (polC zeroP) 33)) := below_new (below_new (below_new (Below.refl _ _) _) _) _
  have hd3 : (((w.alloc (.cells (rdbC e p D) 50)).alloc (.cells (entC r d) 31)).alloc (.cells (polC zeroP) 33)).heap[w.heap.size]? = some (.cells (rdbC e p D) 50) := (Below.heap_alloc _ _ _ (by simp; omega)).trans (second_blk _ _ _)
  have hx3 : (((w.alloc (.cells (rdbC e p D) 50)).alloc (.cells (entC r d) 31)).alloc (.cells (polC zeroP) 33)).heap[w.heap.size + 1]? = some (.cells (entC r d) 31) := by have := second_blk (w.alloc (.cells (rdbC e p D) 50)) (.cells (entC r d) 31) (.cells (polC zeroP) 33); rwa [World.size_alloc] at this
  have hz3 : canPut (((w.alloc (.cells (rdbC e p D) 50)).alloc (.cells (entC r d) 31)).alloc (.cells (polC zeroP) 33)) (w.heap.size + 1 + 1) 0 10 = true := by simp [go_sem]
  have hl : w.heap.size + 1 + 1 < (((w.alloc (.cells (rdbC e p D) 50)).alloc (.cells (entC r d) 31)).alloc (.cells (polC zeroP) 33)).heap.size := by simp
  have HC := Lib.hid (policy26_c e p D d.policy _ (hp.later hB))
  have HQ := Lib.hid (hp.later hB)
  clear hp
  rw [zeroP_lit] at hB hd3 hx3 hz3 hl HC HQ
  obtain ⟨q, hq⟩ : ∃ q, polRef D.policies d = q := ⟨_, rfl⟩
  rw [hq]
  go_enter Tryz.func18, Tryz.ntmps18
  obtain ⟨xc, xf, xr, xl⟩ := box_facts hx3
  obtain ⟨dc, df, dr, dl⟩ := box_facts hd3
  go_wp2_with fail
  generalize (((w.alloc (.cells (rdbC e p D) 50)).alloc (.cells (entC r d) 31)).alloc (.cells #[.string ⟨#[]⟩, .int .i64 0, .int .i64 0, .int .i64 0, .int .i64 0, .int .i64 0, .int .i64 0, .int .i64 0, .int .i64 0, .int .i64 0] 33)) = W at *
  refine HC.out.mono ?_
  rintro z w2 ⟨rfl, hb2⟩
  have hx2 := still_blk hb2 hx3
  have hd2 := still_blk hb2 hd3
  have hz2 := (bput hb2 (w.heap.size + 1 + 1) 0 10 hl).trans hz3
  have hl2 : w.heap.size + 1 + 1 < w2.heap.size := by have := hb2.size; omega
  have HQ2 := HQ.out.later hb2
  clear xc xf xr xl dc df dr dl
  obtain ⟨xc, xf, xr, xl⟩ := box_facts hx2
  obtain ⟨dc, df, dr, dl⟩ := box_facts hd2
  dsimp only
  by_cases he : d.policy = ⟨#[]⟩
  · have h0 := str_eq _ _ he
    have h2 : d.policy.toList.isEmpty = true := by rw [he]; simp [ByteArray.toList_eq]
    obtain rfl : zeroP = q := (polRef_empty he).symm.trans hq
    go_wp2_with fail
    have hrow := row?_putRow_whole (w := w2) (polC_size zeroP) hz2
    exact bodyPost_ret (results_row (by rfl) Tryz.underlying33 rfl (by kernel_rfl) rfl hrow) rfl ⟨rfl, Go.WW.Below.putRow (below_step hB hb2) (by omega)⟩
  · have h0 := str_ne _ _ he
    have h1 : ¬ d.policy.toList = [] := fun h => he (toList_inj (b := ⟨#[]⟩) (by rw [h, ByteArray.toList_eq]))
    have h2 : d.policy.toList.isEmpty = false := by cases h : d.policy.toList <;> simp_all
    rcases polIdx_cases D.policies d.policy with ⟨hi, hn⟩ | ⟨i, hil, hi, hn, ha⟩
    · obtain rfl : zeroP = q := (polRef_none hn).symm.trans hq
      rw [hi]
      go_wp2_with fail
      have hrow := row?_putRow_whole (w := w2) (polC_size zeroP) hz2
      exact bodyPost_ret (results_row (by rfl) Tryz.underlying33 rfl (by kernel_rfl) rfl hrow) rfl ⟨rfl, Go.WW.Below.putRow (below_step hB hb2) (by omega)⟩
    · obtain rfl : D.policies[i] = q := (polRef_idx he hil hi).symm.trans hq
      rw [hi]
      obtain ⟨bq, oq, haq, hrq, -⟩ := HQ2.get i hil
      have hll : D.policies.length ≤ 4294967000 := HQ2.1
      have hi0 : (0 : Int) ≤ (i : Int) := by omega
      have hki : (i : Int) < (D.policies.length : Int) := by omega
      go_wp2_with fail
      have hrow := row?_putRow_whole (w := w2) (polC_size D.policies[i]) hz2
      exact bodyPost_ret (results_row (by rfl) Tryz.underlying33 rfl (by kernel_rfl) rfl hrow) rfl ⟨rfl, Go.WW.Below.putRow (below_step hB hb2) (by omega)⟩
end Go.Proofs.YtnpddjmjdpgohaaGreatDoor

namespace Go.WW
open Go.RowKit
theorem map_erase {α β : Type} (f : α → β) (l : List α) (i : Nat) : (l.eraseIdx i).map f = (l.map f).eraseIdx i := by
  simp only [List.eraseIdx_eq_take_drop_succ, List.map_append, List.map_take, List.map_drop]
def Keeps (S : Nat → Prop) (w : World) (Φ : World → Prop) : Prop := ∀ y, But S w y → Φ y
theorem Keeps.on {S : Nat → Prop} {w w' : World} {Φ : World → Prop} (h : Keeps S w Φ) (hb : But S w w') : Keeps S w' Φ := fun y hy => h y (hb.trans hy)
theorem Keeps.later {S : Nat → Prop} {w w' : World} {Φ : World → Prop} (h : Keeps S w Φ) (hb : Below w.heap.size w w') : Keeps S w' Φ := h.on (But.of_below hb)
theorem Keeps.out {S : Nat → Prop} {w : World} {Φ : World → Prop} (h : Keeps S w Φ) : Φ w := h w (But.refl _ _)
theorem Keeps.of_dep {S : Nat → Prop} {w : World} {base : Nat} {Φ : World → Prop} (h : Dep w (fresh base w) Φ) (hS : ∀ k, S k → k < base) : Keeps S w Φ :=
  fun y hy => h y fun k hk => hy.block k hk.2 fun hs => by have := hS k hs; have := hk.1; omega
structure RefAt (S : Nat → Prop) (es ps : Sl) (D : Db) (X : List EE) (w : World) : Prop where
  ents : Keeps S w (fun y => RowsXE y es.a X)
  pols : Keeps S w (fun y => PolsAt y ps.a D.policies)
theorem RefAt.on {S : Nat → Prop} {es ps : Sl} {D : Db} {X : List EE} {w w' : World} (h : RefAt S es ps D X w) (hb : But S w w') : RefAt S es ps D X w' := ⟨h.ents.on hb, h.pols.on hb⟩
theorem RefAt.later {S : Nat → Prop} {es ps : Sl} {D : Db} {X : List EE} {w w' : World} (h : RefAt S es ps D X w) (hb : Below w.heap.size w w') : RefAt S es ps D X w' := h.on (But.of_below hb)
inductive PolStep (D : Db) (q : Policy) : Int → Db → Prop where
  | bad (hv : polOk q = false) : PolStep D q 2 D
  | new (hv : polOk q = true) (hn : D.policies.any (fun x => decide (x.name = q.name)) = false) : PolStep D q 0 { D with policies := putPol q (-1) 0 false D.policies, serial := D.serial + 1 }
  | old (hv : polOk q = true) (i : Nat) (hi : i < D.policies.length) (hn : D.policies[i].name = q.name) : PolStep D q 0 { D with policies := putPol q (i : Int) 0 false D.policies, serial := D.serial + 1 }
inductive EntStep (D : Db) (X : List EE) (r : ERaw) (d : Entry) : Int → Db → List EE → Prop where
  | bad (hv : entryOk d = false ∨ ¬ d.name.realm = D.realm) : EntStep D X r d 2 D X
  | nopol (hv : entryOk d = true) (hre : d.name.realm = D.realm) (hpe : ¬ d.policy = ⟨#[]⟩) (hn : D.policies.any (fun x => decide (x.name = d.policy)) = false) : EntStep D X r d 9 D X
  | busy (hv : entryOk d = true) (hre : d.name.realm = D.realm) (hp : HasPol D.policies d) (hx : ∃ x ∈ X.map (·.2), bsy x d = true ∧ textOf x.name ≠ textOf d.name) : EntStep D X r d 11 D X
  | put (hv : entryOk d = true) (hre : d.name.realm = D.realm) (hp : HasPol D.policies d) (hx : ∀ x ∈ X.map (·.2), bsy x d = true → textOf x.name = textOf d.name) (X1 : List EE) (hs : X1.Sublist X) (h1 : X1.map (·.2) = dropE (X.map (·.2)) (textOf d.name)) :
      EntStep D X r d 0 { D with entries := (insertBy cmpPrin nameX (r, d) X1).map (·.2), serial := D.serial + 1 } (insertBy cmpPrin nameX (r, d) X1)
structure PlainRel (D : Db) (X : List EE) (NL : List (ByteArray × ByteArray)) (E : List EE) (P : List Policy) : Prop where
  eq : D.entries = X.map (·.2)
  names : NamesRel NL (E.map (·.2))
  good : GoodE (E.map (·.2))
  perm : (E.map (·.2)).Perm (X.map (·.2))
  sorted : Sorted cmpPrin nameX X
  pols : PolRel P D.policies
  has : ∀ x ∈ X, HasPol D.policies x.2
theorem PlainRel.goodX {D : Db} {X : List EE} {NL : List (ByteArray × ByteArray)} {E : List EE} {P : List Policy} (h : PlainRel D X NL E P) : GoodE (X.map (·.2)) := h.good.perm h.perm.symm
theorem HasPol.mono {L L' : List Policy} {d : Entry} (h : HasPol L d) (hL : ∀ x ∈ L, ∃ y ∈ L', y.name = x.name) : HasPol L' d := by
  rcases h with h | h
  · exact .inl h
  · obtain ⟨x, hx, e⟩ := List.any_eq_true.1 h
    obtain ⟨y, hy, e'⟩ := hL x hx
    exact .inr (List.any_eq_true.2 ⟨y, hy, by simpa [e'] using e⟩)
theorem polStep_keep {D D' : Db} {q : Policy} {no : Int} (h : PolStep D q no D') (hn : (D.policies.map (·.name)).Nodup) : ∀ x ∈ D.policies, ∃ y ∈ D'.policies, y.name = x.name := by
  intro x hx
  cases h with
  | bad hv => exact ⟨x, hx, rfl⟩
  | new hv hn =>
    have hp := putPol_perm q (-1) D.policies 0 false
    rw [restAt_none] at hp
    exact ⟨x, hp.mem_iff.2 (by simp [hx]), rfl⟩
  | old hv i hi hnm =>
    have hp := putPol_perm q (i : Int) D.policies 0 false
    have hr := restAt_some D.policies 0 i
    rw [Nat.zero_add] at hr
    rw [hr, erase_key (·.name) hn hi, hnm] at hp
    by_cases e : x.name = q.name
    · exact ⟨q, hp.mem_iff.2 (by simp), e.symm⟩
    · exact ⟨x, hp.mem_iff.2 (by simp [hx, e]), rfl⟩
theorem polStep_rest {D D' : Db} {q : Policy} {no : Int} (h : PolStep D q no D') : D'.entries = D.entries ∧ D'.realm = D.realm ∧ D.serial ≤ D'.serial ∧ D'.serial ≤ D.serial + 1 ∧ D'.policies.length ≤ D.policies.length + 1 := by
  cases h with
  | bad hv => exact ⟨rfl, rfl, by omega, by omega, by omega⟩
  | new hv hn => exact ⟨rfl, rfl, by simp; omega, by simp, putPol_len _ _ _ _ _⟩
  | old hv i hi hnm => exact ⟨rfl, rfl, by simp; omega, by simp, putPol_len _ _ _ _ _⟩
theorem entStep_rest {D D' : Db} {X X' : List EE} {r : ERaw} {d : Entry} {no : Int} (h : EntStep D X r d no D' X') : D'.policies = D.policies ∧ D'.realm = D.realm ∧ D.serial ≤ D'.serial ∧ D'.serial ≤ D.serial + 1 ∧ X'.length ≤ X.length + 1 ∧ (D.entries = X.map (·.2) → D'.entries = X'.map (·.2)) ∧ (∀ x ∈ X', x = (r, d) ∨ x ∈ X) := by
  cases h with
  | bad hv => exact ⟨rfl, rfl, by omega, by omega, by omega, id, fun x hx => .inr hx⟩
  | nopol hv hre hpe hn => exact ⟨rfl, rfl, by omega, by omega, by omega, id, fun x hx => .inr hx⟩
  | busy hv hre hp hx => exact ⟨rfl, rfl, by omega, by omega, by omega, id, fun x hx => .inr hx⟩
  | put hv hre hp hx X1 hs h1 =>
    refine ⟨rfl, rfl, by simp; omega, by simp, ?_, fun _ => rfl, fun x hx => ?_⟩
    · rw [insertBy_len]; have := hs.length_le; omega
    · rcases List.mem_cons.1 ((insertBy_perm nameX (r, d) X1).mem_iff.1 hx) with e | hx
      · exact .inl e
      · exact .inr (hs.mem hx)
theorem PlainRel.polStep {D D' : Db} {X : List EE} {NL : List (ByteArray × ByteArray)} {E : List EE} {P P' : List Policy} {q : Policy} {no : Int} (h : PlainRel D X NL E P) (hs : PolStep D q no D') (hp : PolRel P' D'.policies) : PlainRel D' X NL E P' :=
  ⟨(polStep_rest hs).1.trans h.eq, h.names, h.good, h.perm, h.sorted, hp, fun x hx => (h.has x hx).mono (polStep_keep hs h.pols.nodup)⟩
theorem PlainRel.put {D : Db} {X : List EE} {NL : List (ByteArray × ByteArray)} {E : List EE} {P : List Policy} {r r' : ERaw} {d : Entry} (h : PlainRel D X NL E P) (hv : entryOk d = true) (hp : HasPol D.policies d) (hx : ∀ x ∈ X.map (·.2), bsy x d = true → textOf x.name = textOf d.name) (X1 : List EE) (hs : X1.Sublist X) (h1 : X1.map (·.2) = dropE (X.map (·.2)) (textOf d.name))
    {N1 : List (ByteArray × Value)} {E1 : List EE} (hR : RemoveTo (strM NL) E (textOf d.name) N1 E1) :
    freeN NL (textOf d.name) (nmsOf d) ∧ ∃ NL', setAll N1 (textOf d.name) (nmsOf d) = strM NL' ∧ PlainRel { D with entries := (insertBy cmpPrin nameX (r, d) X1).map (·.2), serial := D.serial + 1 } (insertBy cmpPrin nameX (r, d) X1) NL' (E1 ++ [(r', d)]) P := by
  have hf : freeN NL (textOf d.name) (nmsOf d) := free_iff.2 fun hb => by
    obtain ⟨x, hxE, hxb, hxn⟩ := (busy_iff h.names h.good hv).1 hb
    exact hxn (hx x (h.perm.mem_iff.1 hxE) hxb)
  have hE1 : ∃ NL1, N1 = strM NL1 ∧ E1.map (·.2) = dropE (E.map (·.2)) (textOf d.name) ∧ NamesRel NL1 (E1.map (·.2)) := by
    rcases hR with ⟨x, hxE, hxn, rfl, rfl⟩ | ⟨hno, rfl, rfl⟩
    · have e1 : (delE E (textOf d.name)).map (·.2) = dropE (E.map (·.2)) (textOf d.name) := by
        unfold delE dropE
        rw [List.filter_map]; rfl
      refine ⟨delAllS NL (nmsOf x.2), delAll_strM _ _, e1, ?_⟩
      rw [e1, ← hxn]
      exact names_del h.names h.good (List.mem_map.2 ⟨x, hxE, rfl⟩)
    · refine ⟨NL, rfl, (dropE_none fun x hx' => ?_).symm, h.names⟩
      obtain ⟨y, hy, rfl⟩ := List.mem_map.1 hx'
      exact hno y hy
  obtain ⟨NL1, rfl, e1, hn1⟩ := hE1
  have hm : ∀ x ∈ E1.map (·.2), x ∈ E.map (·.2) ∧ textOf x.name ≠ textOf d.name := fun x hx' => by rw [e1] at hx'; exact mem_dropE.1 hx'
  refine ⟨hf, setAllS NL1 (textOf d.name) (nmsOf d), setAll_strM _ _ _, rfl, ?_, ?_, ?_, ?_, h.pols, fun x hx' => ?_⟩
  · rw [List.map_append]
    exact names_put h.names hn1 hm hf
  · rw [List.map_append]
    refine good_put h.names h.good hv hm ?_ hf
    rw [e1]
    exact (List.filter_sublist.map _).nodup h.good.nodup
  · rw [List.map_append, e1]
    refine ((h.perm.filter _).append_right [d]).trans ?_
    show (dropE (X.map (·.2)) (textOf d.name) ++ [d]).Perm _
    rw [← h1]
    have hi := (insertBy_perm (c := cmpPrin) nameX (r, d) X1).map (fun x : EE => x.2)
    rw [List.map_cons] at hi
    exact (List.perm_append_singleton _ _).trans hi.symm
  · refine insertBy_sorted nameX cmpPrin_total (r, d) X1 (h.sorted.sublist hs) fun x hx' e => ?_
    have : x.2 ∈ dropE (X.map (·.2)) (textOf d.name) := by rw [← h1]; exact List.mem_map.2 ⟨x, hx', rfl⟩
    exact (mem_dropE.1 this).2 (congrArg textOf e)
  · rcases List.mem_cons.1 ((insertBy_perm nameX (r, d) X1).mem_iff.1 hx') with rfl | hx'
    · exact hp
    · exact h.has x (hs.mem hx')
end Go.WW
namespace Go.Proofs.YtnpddjmjdpgohaaGreatDoor
open Go.RowKit Go.WW
structure ProgAt (S : Nat → Prop) (b n e p : Nat) (re : ByteArray) (s : Int) (NL : List (ByteArray × ByteArray)) (E : List EE) (P : List Policy) (w : World) : Prop where
  db : DbAt w b n e p re s (strM NL) E P
  keep : ∀ x ∈ E, KeptE S w x
  sub : ∀ k, ofDb b n e p k → S k
theorem ProgAt.later {S : Nat → Prop} {b n e p : Nat} {re : ByteArray} {s : Int} {NL : List (ByteArray × ByteArray)} {E : List EE} {P : List Policy} {w w' : World} (h : ProgAt S b n e p re s NL E P w) (hb : Below w.heap.size w w') : ProgAt S b n e p re s NL E P w' := ⟨h.db.later hb, fun x hx => (h.keep x hx).on (But.of_below hb), h.sub⟩
theorem ProgAt.lt {S : Nat → Prop} {b n e p : Nat} {re : ByteArray} {s : Int} {NL : List (ByteArray × ByteArray)} {E : List EE} {P : List Policy} {w : World} (h : ProgAt S b n e p re s NL E P w) : ∀ k, ofDb b n e p k → k < w.heap.size := fun k hk => Classical.byContradiction fun hn => not_ofDb h.db k (by omega) hk
theorem refPutPol_c (S : Nat → Prop) (es ps : Sl) (D : Db) (X : List EE) (q : Policy) (w : World) (h : RefAt S es ps D X w) (hS : ∀ k, S k → k < w.heap.size) (hs : q.name.size ≤ lim) (hn : D.policies.length < 64) (hs0 : 0 ≤ D.serial) (hs1 : D.serial < 1000000) :
    Calls Tryz.prog 36 #[.agg (rdbC es ps D), .agg (polC q)] w fun z w' => ∃ (no : Int) (ps' : Sl) (D' : Db), z = .returned (.tuple #[.agg (rdbC es ps' D'), .int .i64 no]) ∧ Below w.heap.size w w' ∧ RefAt S es ps' D' X w' ∧ PolStep D q no D' := by
  have out : ∀ (k : Int), PolStep D q 0 { D with policies := putPol q k 0 false D.policies, serial := D.serial + 1 } → ∀ (z : Ending) (w' : World), OutP es { D with policies := putPol q k 0 false D.policies, serial := D.serial + 1 } 0 w z w' →
      ∃ (no : Int) (ps' : Sl) (D' : Db), z = .returned (.tuple #[.agg (rdbC es ps' D'), .int .i64 no]) ∧ Below w.heap.size w w' ∧ RefAt S es ps' D' X w' ∧ PolStep D q no D' := by
    rintro k hk z w' ⟨s, rfl, hb, hd⟩
    exact ⟨0, s, _, rfl, hb, ⟨h.ents.later hb, Keeps.of_dep hd hS⟩, hk⟩
  cases hv : polOk q with
  | false =>
    refine (putPolicy26_bad es ps D q w hs hv).mono ?_
    rintro z w' ⟨rfl, hb⟩
    exact ⟨2, ps, D, rfl, hb, h.later hb, .bad hv⟩
  | true =>
    have hp := h.pols.out
    obtain ⟨pa, pc⟩ := ps
    rcases RowsAt.addr hp with h0 | ⟨b, o, rfl, hb⟩
    · have hnil := List.eq_nil_of_length_eq_zero h0
      refine (putPolicy26_nil es ⟨pa, pc⟩ D q w hs hv hp h0 hs0 hs1 (by rw [hnil]; rfl)).mono (out (-1) (.new hv (by rw [hnil]; rfl)))
    · rcases polIdx_cases D.policies q.name with ⟨hi, ha⟩ | ⟨i, hil, hi, hnm, -⟩
      · exact (putPolicy26_new es b o pc D q w hs hv hp hn hb hs0 hs1 hi).mono (out (-1) (.new hv ha))
      · exact (putPolicy26_old es b o pc D q w hs hv hp hn hb hs0 hs1 i hi).mono (out i (.old hv i hil hnm))
theorem dbPutPol_c (S : Nat → Prop) (b n e p : Nat) (re : ByteArray) (s : Int) (NL : List (ByteArray × ByteArray)) (E : List EE) (P : List Policy) (D D' : Db) (no : Int) (q : Policy) (w : World) (h : ProgAt S b n e p re s NL E P w) (hre : ¬ re = ⟨#[]⟩) (hr : PolRel P D.policies) (hst : PolStep D q no D') (hs : q.name.size ≤ lim) (hn : P.length < 64) (hs0 : 0 ≤ s) (hs1 : s < 1000000) :
    Calls Tryz.prog 37 #[.pointer (some ⟨b, 0, none⟩), .agg (polC q)] w fun z w' => z = .returned (.int .i64 no) ∧ But (ofDb b n e p) w w' ∧ ∃ s' P', s ≤ s' ∧ s' ≤ s + 1 ∧ ProgAt S b n e p re s' NL E P' w' ∧ PolRel P' D'.policies := by
  have out : ∀ (D' : Db), PolRel (setP P q) D'.policies → ∀ (z : Ending) (w' : World), (z = .returned (.int .i64 0) ∧ But (ofDb b n e p) w w' ∧ DbAt w' b n e p re (s + 1) (strM NL) E (setP P q)) →
      z = .returned (.int .i64 0) ∧ But (ofDb b n e p) w w' ∧ ∃ s' P', s ≤ s' ∧ s' ≤ s + 1 ∧ ProgAt S b n e p re s' NL E P' w' ∧ PolRel P' D'.policies := by
    rintro D' hk z w' ⟨rfl, hb, hd⟩
    exact ⟨rfl, hb, s + 1, _, by omega, Int.le_refl _, ⟨hd, fun x hx => (h.keep x hx).on (hb.mono h.sub), h.sub⟩, hk⟩
  cases hst with
  | bad hv =>
    refine (dbPutPolicy_bad b n e p re s _ E P q w h.db hre hs hv).mono ?_
    rintro z w' ⟨rfl, hb⟩
    exact ⟨rfl, But.of_below hb, s, P, Int.le_refl _, by omega, h.later hb, hr⟩
  | new hv ha =>
    exact (dbPutPolicy_new b n e p re s _ E P q w h.db hre hs hv (by rw [hr.any]; exact ha) hn hs0 hs1).mono (out { D with policies := putPol q (-1) 0 false D.policies, serial := D.serial + 1 } (hr.new hv ha))
  | old hv i hi hnm =>
    exact (dbPutPolicy_old b n e p re s _ E P q w h.db hre hs hv D.policies[i] (hr.perm.mem_iff.2 (List.getElem_mem hi)) hnm hs0 hs1).mono (out { D with policies := putPol q (i : Int) 0 false D.policies, serial := D.serial + 1 } (hr.old hv hi hnm))
theorem refPut_c (S : Nat → Prop) (es ps : Sl) (D : Db) (X : List EE) (r : ERaw) (d : Entry) (w : World) (h : RefAt S es ps D X w) (hS : ∀ k, S k → k < w.heap.size) (hk : KeptE S w (r, d)) (hD : D.entries = X.map (·.2)) (hg : GoodE (X.map (·.2))) (hn : X.length ≤ 1000) (hs0 : 0 ≤ D.serial) (hs1 : D.serial < 1000000) :
    Calls Tryz.prog 38 #[.agg (rdbC es ps D), .agg (entC r d)] w fun z w' => ∃ (no : Int) (es' : Sl) (D' : Db) (X' : List EE), z = .returned (.tuple #[.agg (rdbC es' ps D'), .int .i64 no]) ∧ Below w.heap.size w w' ∧ RefAt S es' ps D' X' w' ∧ EntStep D X r d no D' X' := by
  have he := hk.out
  have hX := h.ents.out.rows
  have hm := h.ents.out.each
  have hp := h.pols.out
  have same : ∀ (no : Int), EntStep D X r d no D X → ∀ (z : Ending) (w' : World), (z = .returned (.tuple #[.agg (rdbC es ps D), .int .i64 no]) ∧ Below w.heap.size w w') →
      ∃ (no : Int) (es' : Sl) (D' : Db) (X' : List EE), z = .returned (.tuple #[.agg (rdbC es' ps D'), .int .i64 no]) ∧ Below w.heap.size w w' ∧ RefAt S es' ps D' X' w' ∧ EntStep D X r d no D' X' := by
    rintro no hst z w' ⟨rfl, hb⟩
    exact ⟨no, es, D, X, rfl, hb, h.later hb, hst⟩
  have out : ∀ (X' : List EE), (∀ x ∈ X', x = (r, d) ∨ x ∈ X) → EntStep D X r d 0 { D with entries := X'.map (·.2), serial := D.serial + 1 } X' → ∀ (z : Ending) (w' : World), OutE ps D X' w z w' →
      ∃ (no : Int) (es' : Sl) (D' : Db) (X' : List EE), z = .returned (.tuple #[.agg (rdbC es' ps D'), .int .i64 no]) ∧ Below w.heap.size w w' ∧ RefAt S es' ps D' X' w' ∧ EntStep D X r d no D' X' := by
    rintro X' hX' hst z w' ⟨s, rfl, hb, hd⟩
    refine ⟨0, s, _, X', rfl, hb, ⟨fun y hy => ⟨Keeps.of_dep hd hS y hy, fun x hx => ?_⟩, h.pols.later hb⟩, hst⟩
    rcases hX' x hx with rfl | hx
    · exact hk y ((But.of_below hb).trans hy)
    · exact (h.ents y ((But.of_below hb).trans hy)).each x hx
  cases hv : entryOk d with
  | false => exact (put26_bad es ps D r d w he hv).mono (same 2 (.bad (.inl hv)))
  | true =>
    by_cases hre : d.name.realm = D.realm
    · by_cases hpe : d.policy = ⟨#[]⟩
      · have hp0 : HasPol D.policies d := .inl hpe
        rcases put_cases hg hv with ⟨at0, jb, hj, hat, hb, hpre, hna, hx⟩ | ⟨hat, hnb, hno, hx⟩ | ⟨i0, hi0, hat, hnb, hen, hx⟩
        · have hj' : jb < X.length := by simpa using hj
          exact (put26_busy_none es ps D r d w he X hX hm hD hn hv hre hpe at0 (by rw [hD]; exact hat) jb hj' (by simpa using hb) (fun i hi hij hbi => hpre i (by simpa using hi) hij (by simpa using hbi)) hna).mono (same 11 (.busy hv hre hp0 hx))
        · refine (put26_new_none es ps D r d w he X hX hm hD hn hv hre hpe (by rw [hD]; exact hat) (fun i hi hbi => hnb i (by simpa using hi) (by simpa using hbi)) hs0 hs1).mono (out _ ?_ (.put hv hre hp0 hx X (List.Sublist.refl _) (dropE_none hno).symm))
          intro x hx'
          rcases List.mem_cons.1 ((insertBy_perm nameX (r, d) X).mem_iff.1 hx') with e | hx'
          all_goals first | exact .inl e | exact .inr hx'
        · have hi0' : i0 < X.length := by simpa using hi0
          have hsub := List.eraseIdx_sublist X i0
          refine (put26_old_none es ps D r d w he X hX hm hD hn hv hre hpe i0 hi0' (by rw [hD]; exact hat) (fun i hi hbi => hnb i (by simpa using hi) (by simpa using hbi)) hs0 hs1).mono (out _ ?_ (.put hv hre hp0 hx (X.eraseIdx i0) hsub ?_))
          · intro x hx'
            rcases List.mem_cons.1 ((insertBy_perm nameX (r, d) _).mem_iff.1 hx') with e | hx'
            all_goals first | exact .inl e | exact .inr (hsub.mem hx')
          · have := erase_drop hg.nodup hi0
            rw [hen] at this
            rw [← this, map_erase]
      · cases ha : D.policies.any (fun x => decide (x.name = d.policy)) with
        | false =>
          rcases polIdx_cases D.policies d.policy with ⟨hi, -⟩ | ⟨i, hil, hi, hnm, ha'⟩
          · exact (put26_nopol es ps D r d w he hv hre hp hpe hi).mono (same 9 (.nopol hv hre hpe ha))
          · rw [ha] at ha'; cases ha'
        | true =>
          have hp0 : HasPol D.policies d := .inr ha
          rcases polIdx_cases D.policies d.policy with ⟨-, ha'⟩ | ⟨jp, hjp, hi, hnm, -⟩
          · rw [ha] at ha'; cases ha'
          rcases put_cases hg hv with ⟨at0, jb, hj, hat, hb, hpre, hna, hx⟩ | ⟨hat, hnb, hno, hx⟩ | ⟨i0, hi0, hat, hnb, hen, hx⟩
          · have hj' : jb < X.length := by simpa using hj
            exact (put26_busy_some es ps D r d w he X hX hm hD hn hv hre hp hpe jp hi at0 (by rw [hD]; exact hat) jb hj' (by simpa using hb) (fun i hi hij hbi => hpre i (by simpa using hi) hij (by simpa using hbi)) hna).mono (same 11 (.busy hv hre hp0 hx))
          · refine (put26_new_some es ps D r d w he X hX hm hD hn hv hre hp hpe jp hi (by rw [hD]; exact hat) (fun i hi hbi => hnb i (by simpa using hi) (by simpa using hbi)) hs0 hs1).mono (out _ ?_ (.put hv hre hp0 hx X (List.Sublist.refl _) (dropE_none hno).symm))
            intro x hx'
            rcases List.mem_cons.1 ((insertBy_perm nameX (r, d) X).mem_iff.1 hx') with e | hx'
            all_goals first | exact .inl e | exact .inr hx'
          · have hi0' : i0 < X.length := by simpa using hi0
            have hsub := List.eraseIdx_sublist X i0
            refine (put26_old_some es ps D r d w he X hX hm hD hn hv hre hp hpe jp hi i0 hi0' (by rw [hD]; exact hat) (fun i hi hbi => hnb i (by simpa using hi) (by simpa using hbi)) hs0 hs1).mono (out _ ?_ (.put hv hre hp0 hx (X.eraseIdx i0) hsub ?_))
            · intro x hx'
              rcases List.mem_cons.1 ((insertBy_perm nameX (r, d) _).mem_iff.1 hx') with e | hx'
              all_goals first | exact .inl e | exact .inr (hsub.mem hx')
            · have := erase_drop hg.nodup hi0
              rw [hen] at this
              rw [← this, map_erase]
    · exact (put26_realm es ps D r d w he hv hre).mono (same 2 (.bad (.inr hre)))
theorem dbPut_c (S : Nat → Prop) (b n e p : Nat) (re : ByteArray) (s : Int) (NL : List (ByteArray × ByteArray)) (E : List EE) (P : List Policy) (D D' : Db) (X X' : List EE) (no : Int) (r : ERaw) (d : Entry) (w : World) (h : ProgAt S b n e p re s NL E P w) (hre : ¬ re = ⟨#[]⟩) (hDr : D.realm = re) (hr : PlainRel D X NL E P) (hst : EntStep D X r d no D' X') (he : EntAt w r d) (hlt : ∀ k, S k → k < w.heap.size) (hn : X.length < 4096) (hs0 : 0 ≤ s) (hs1 : s < 1000000) :
    Calls Tryz.prog 39 #[.pointer (some ⟨b, 0, none⟩), .agg (entC r d)] w fun z w' => z = .returned (.int .i64 no) ∧ But (ofDb b n e p) w w' ∧ ∃ s' NL' E', s ≤ s' ∧ s' ≤ s + 1 ∧ ProgAt S b n e p re s' NL' E' P w' ∧ PlainRel D' X' NL' E' P := by
  have same : ∀ (no : Int), ∀ (z : Ending) (w' : World), (z = .returned (.int .i64 no) ∧ Below w.heap.size w w') → z = .returned (.int .i64 no) ∧ But (ofDb b n e p) w w' ∧ ∃ s' NL' E', s ≤ s' ∧ s' ≤ s + 1 ∧ ProgAt S b n e p re s' NL' E' P w' ∧ PlainRel D X NL' E' P := by
    rintro no z w' ⟨rfl, hb⟩
    exact ⟨rfl, But.of_below hb, s, NL, E, Int.le_refl _, by omega, h.later hb, hr⟩
  have hEl : E.length < 4096 := by have := hr.perm.length_eq; simp at this; omega
  have main : entryOk d = true → d.name.realm = D.realm → HasPol D.policies d → ∃ N1 E1, RemoveTo (strM NL) E (textOf d.name) N1 E1 ∧ Calls Tryz.prog 39 #[.pointer (some ⟨b, 0, none⟩), .agg (entC r d)] w (PutPost b n e p re s NL N1 E1 P d w) := by
    intro hv hrl hp
    have hR : ∃ N1 E1, RemoveTo (strM NL) E (textOf d.name) N1 E1 := by
      by_cases hx : ∃ x ∈ E, textOf x.2.name = textOf d.name
      · obtain ⟨x, hx, e'⟩ := hx
        exact ⟨_, _, .inl ⟨x, hx, e', rfl, rfl⟩⟩
      · exact ⟨_, _, .inr ⟨fun x hx' e' => hx ⟨x, hx', e'⟩, rfl, rfl⟩⟩
    obtain ⟨N1, E1, hR⟩ := hR
    refine ⟨N1, E1, hR, dput_c b n e p re s NL N1 E E1 P r d w h.db hre he (fun x hx => ⟨fun y hy => h.keep x hx y (hy.mono h.sub), fun q hq => entryOk_nms (hr.good.ok x.2 (List.mem_map.2 ⟨x, hx, rfl⟩)) q hq⟩) hR (fun q hq => entryOk_nms hv q hq) hv (hrl.trans hDr) ?_ ?_ hEl hs0 hs1⟩
    · rcases hp with hp | hp
      · exact .inl hp
      · exact .inr (by rw [hr.pols.any]; exact hp)
    · intro k o o' ho ho'
      obtain ⟨x, hx, rfl, q, hq, hk⟩ := (hr.names k o).1 ho
      obtain ⟨y, hy, rfl, q', hq', hk'⟩ := (hr.names k o').1 ho'
      exact hr.good.apart x hx y hy q hq q' hq' (hk.symm.trans hk')
  cases hst with
  | bad hv =>
    rcases hv with hv | hv
    · exact (dput_bad b n e p re s _ E P r d w h.db hre he hv).mono (same 2)
    · cases hv2 : entryOk d with
      | false => exact (dput_bad b n e p re s _ E P r d w h.db hre he hv2).mono (same 2)
      | true => exact (dput_realm b n e p re s _ E P r d w h.db hre he hv2 (by rw [← hDr]; exact hv)).mono (same 2)
  | nopol hv hrl hpe ha => exact (dput_nopol b n e p re s _ E P r d w h.db hre he hv (hrl.trans hDr) hpe (by rw [hr.pols.any]; exact ha)).mono (same 9)
  | busy hv hrl hp hx =>
    obtain ⟨N1, E1, hR, hc⟩ := main hv hrl hp
    refine hc.mono ?_
    rintro z w' (⟨rfl, -, hb⟩ | ⟨-, hf, -⟩)
    · exact same 11 _ _ ⟨rfl, hb⟩
    · obtain ⟨x, hxE, hxb, hxn⟩ := hx
      exact absurd ((busy_iff hr.names hr.good hv).2 ⟨x, hr.perm.mem_iff.2 hxE, hxb, hxn⟩) (free_iff.1 hf)
  | put hv hrl hp hx X1 hs1' h1 =>
    obtain ⟨N1, E1, hR, hc⟩ := main hv hrl hp
    refine hc.mono ?_
    rintro z w' (⟨rfl, hbz, -⟩ | ⟨rfl, -, hb, r', hk', hdb⟩)
    · have hf := (hr.put (r := r) (r' := r) hv hp hx X1 hs1' h1 hR).1
      exact absurd hbz (free_iff.1 hf)
    · obtain ⟨-, NL', e1, hpl⟩ := hr.put (r := r) (r' := r') hv hp hx X1 hs1' h1 hR
      rw [show d.name :: d.aliases = nmsOf d from rfl, e1] at hdb
      refine ⟨rfl, hb, s + 1, NL', _, by omega, Int.le_refl _, ⟨hdb, fun x hx' => ?_, h.sub⟩, hpl⟩
      rcases List.mem_append.1 hx' with hx' | hx'
      · have : x ∈ E := removeTo_sub hR x hx'
        exact (h.keep x this).on (hb.mono h.sub)
      · simp only [List.mem_singleton] at hx'; subst hx'; exact fun y hy => hk' y (hy.mono hlt)
end Go.Proofs.YtnpddjmjdpgohaaGreatDoor

namespace Go.WW
open Go.RowKit
theorem Keeps.wide {S S' : Nat → Prop} {w w' : World} {Φ : World → Prop} (h : Keeps S w Φ) (hb : Below w.heap.size w w') (hS : ∀ k, S' k → S k ∨ w.heap.size ≤ k) : Keeps S' w' Φ :=
  fun y hy => h y ⟨hy.os.trans hb.os, hy.tape.trans hb.tape, hy.output.trans hb.output, Nat.le_trans hb.size hy.size, fun k hk hn => (hy.block k (Nat.lt_of_lt_of_le hk hb.size) fun hs => by
    rcases hS k hs with h1 | h1
    · exact hn h1
    · omega).trans (hb.block k hk)⟩
theorem Keeps.less {S S' : Nat → Prop} {w : World} {Φ : World → Prop} (h : Keeps S w Φ) (hS : ∀ k, S' k → S k) : Keeps S' w Φ := fun y hy => h y (hy.mono hS)
theorem RefAt.wide {S S' : Nat → Prop} {es ps : Sl} {D : Db} {X : List EE} {w w' : World} (h : RefAt S es ps D X w) (hb : Below w.heap.size w w') (hS : ∀ k, S' k → S k ∨ w.heap.size ≤ k) : RefAt S' es ps D X w' := ⟨h.ents.wide hb hS, h.pols.wide hb hS⟩
theorem RefAt.less {S S' : Nat → Prop} {es ps : Sl} {D : Db} {X : List EE} {w : World} (h : RefAt S es ps D X w) (hS : ∀ k, S' k → S k) : RefAt S' es ps D X w := ⟨h.ents.less hS, h.pols.less hS⟩
theorem wp_midF {ι κ μ ν ξ : Type} {c : Code} {P : Program} {Q : Exit → Act → World → Prop} {a : Act} {w : World} (M : ι → κ → μ → ν → ξ → World → Prop) (F : ι → κ → μ → ν → ξ → Act)
    (h1 : c.wp P (fun e a' w' => e = .normal ∧ ∃ i j k l x, a' = F i j k l x ∧ M i j k l x w') a w) (h2 : ∀ i j k l x w', M i j k l x w' → Q .normal (F i j k l x) w') : c.wp P Q a w := by
  refine wp_mono h1 ?_
  rintro e a' w' ⟨rfl, i, j, k, l, x, rfl, h⟩
  exact h2 i j k l x w' h
theorem results_trt {P : Program} {fn : Func} {a t c : Tmp} {T : TypeId} {d : TypeDesc} {n : Nat} (hf : fn.results = #[.tmp a, .cell t T, .tmp c]) (hu : P.underlying T = some d) (hd : d.isRow = true) (hi : (P.info? T).map (·.size) = some n) {tmps : Array Value} {w : World} {b o : Nat} {cs : Array Value} (ha : tmps.getD t undef = .pointer (some ⟨b, o, none⟩)) (h : row? w b o n = some cs) :
    (results fn tmps).run P w = .ok (.tuple #[tmps.getD a undef, .agg cs, tmps.getD c undef]) w := by
  have hl := run_loadVar_row hu hd hi h
  have ha' : (asAddr (tmps.getD t undef)).run P w = .ok ⟨b, o, none⟩ w := by rw [ha]; rfl
  rw [Array.getD_eq_getD_getElem?] at ha'
  unfold results
  rw [hf]
  simp [Sem.run_bind, ha', hl, Result.andThen]
abbrev re82 : ByteArray := ⟨#[82]⟩
theorem re82_ne : ¬ re82 = ⟨#[]⟩ := by intro h; have := congrArg ByteArray.size h; simp [ByteArray.size] at this
theorem re82_ok : realmOk re82 = true := by decide +kernel
def zeroDb : Db := ⟨⟨#[]⟩, 0, [], []⟩
def newDb (re : ByteArray) : Db := ⟨re, 0, [], []⟩
abbrev nilSl : Sl := ⟨Option.none, 0⟩
theorem zeroDb_lit : rdbC nilSl nilSl zeroDb = #[.string ⟨#[]⟩, .int .i64 0, .slice Option.none 0 0, .slice Option.none 0 0] := rfl
theorem new_rel : PlainRel (newDb re82) [] [] [] [] := ⟨rfl, fun k o => by simp, GoodE.nil, List.Perm.refl _, List.Pairwise.nil, PolRel.nil, by simp⟩
end Go.WW
namespace Go.Proofs.YtnpddjmjdpgohaaGreatDoor
open Go.RowKit Go.WW
theorem execOp_buildDb1 (ρ : Operand → Value) (dst : Option Tmp) (x : Operand) (ty : TypeId) (pos : String) (after : Array Edge) (guard : Option (Nat × Bool)) :
    execOp ρ { dst, op := .build 50 #[(0, x)], type := ty, pos, after, guard } = structBuild 50 #[(0, ρ x)] := by simp [execOp, structBuild]
theorem buildDb1 (re : ByteArray) (w : World) : (structBuild 50 #[(0, .string re)]).run Tryz.prog w = .ok (.value (.agg (rdbC nilSl nilSl (newDb re)))) w := by kernel_rfl
attribute [go_sem] buildDb1
attribute [go_sem ↓] execOp_buildDb1
set_option maxRecDepth 100000 in
set_option maxHeartbeats 1000000 in
theorem refNew_c (re : ByteArray) (w : World) (hs : re.size ≤ lim) (hok : realmOk re = true) : Calls Tryz.prog 35 #[.string re] w fun z w' => z = .returned (.tuple #[.agg (rdbC nilSl nilSl (newDb re)), .int .i64 0]) ∧ Below w.heap.size w w' := by
  have hz3 : canPut (w.alloc (.cells (rdbC nilSl nilSl zeroDb) 50)) w.heap.size 0 4 = true := by simp [go_sem]
  have hB : Below w.heap.size w (w.alloc (.cells (rdbC nilSl nilSl zeroDb) 50)) := below_new (Below.refl _ _) _
  have hR := realm15_c re (w.alloc (.cells (rdbC nilSl nilSl zeroDb) 50)) hs
  rw [hok] at hR
  rw [zeroDb_lit] at hz3 hB hR
  have HR := Lib.hid hR
  clear hok hs hR
  go_enter Tryz.func35, Tryz.ntmps35
  go_wp2_with fail
  refine HR.out.mono ?_
  rintro z w' ⟨rfl, rfl⟩
  dsimp only
  go_wp2_with fail
  have hrow : row? (w.alloc (.cells (rdbC nilSl nilSl (newDb re)) 50)) w.heap.size 0 4 = some (rdbC nilSl nilSl (newDb re)) := by rw [row?_alloc_at rfl]; exact subRow_whole (rdbC_size _ _ _)
  exact bodyPost_ret (results_row2 (by rfl) Tryz.underlying50 rfl (by kernel_rfl) rfl hrow) rfl ⟨rfl, below_new (Below.refl _ _) _⟩
end Go.Proofs.YtnpddjmjdpgohaaGreatDoor
