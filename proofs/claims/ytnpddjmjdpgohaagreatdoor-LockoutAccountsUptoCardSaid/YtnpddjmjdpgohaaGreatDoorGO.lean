/- Part O of the proof about watchword's lockout: texts B3. -/
import Derived.Test.YtnpddjmjdpgohaaGreatDoorGN
import Derived.OwnWalk

namespace Go.WW
open Go.RowKit
structure CopR (E : TypeId) (kk : Nat) (R : World → Nat → Array Value → Prop) (wr : World) (base : Nat) (so : Sl) (rows : List (Array Value)) : Prop where
  own : Own wr base E kk so rows
  each : ∀ i (hi : i < rows.length), Dep wr (freshBut base wr so.blk) (fun x => R x i rows[i])
theorem CopR.nil (E : TypeId) (kk : Nat) (R : World → Nat → Array Value → Prop) (w : World) (base : Nat) : CopR E kk R w base ⟨none, 0⟩ [] := ⟨Own.nil w base E kk, fun i hi => by simp at hi⟩
theorem CopR.carry {E : TypeId} {kk : Nat} {R : World → Nat → Array Value → Prop} {wr w2 : World} {base : Nat} {so : Sl} {rows : List (Array Value)} (h : CopR E kk R wr base so rows) (hb : Below wr.heap.size wr w2) (o : Obj) : Own (w2.alloc o) base E kk so rows :=
  h.own.kept fun g hg => by rw [Below.heap_alloc _ _ _ (Nat.lt_of_lt_of_le (h.own.base hg).2 hb.size)]; exact hb.block g (h.own.base hg).2
theorem CopR.step {E : TypeId} {kk : Nat} {R : World → Nat → Array Value → Prop} {wr w1 w2 w3 : World} {base : Nat} {so s3 : Sl} {rows : List (Array Value)} {cs : Array Value} {o : Obj} (h : CopR E kk R wr base so rows) (hb1 : Below wr.heap.size wr w1) (hb : Below w1.heap.size w1 w2)
    (hnew : Dep w2 (fresh w1.heap.size w2) (fun x => R x rows.length cs)) (hown : Own w3 base E kk s3 (rows ++ [cs])) (hg : (w2.alloc o).grownBy w3 so.blk) (hat : s3.blk = so.blk ∨ s3.blk = some (w2.alloc o).heap.size) (hbase : base ≤ wr.heap.size) : CopR E kk R w3 base s3 (rows ++ [cs]) := by
  have hs1 := hb1.size
  have hs2 := hb.size
  have hs3 := hg.size
  have hsa : (w2.alloc o).heap.size = w2.heap.size + 1 := by simp
  have hso : ∀ g, so.blk = some g → g < wr.heap.size := fun g hg => (h.own.base hg).2
  refine ⟨hown, fun i hi => ?_⟩
  by_cases hlt : i < rows.length
  · rw [List.getElem_append_left hlt]
    refine (h.each i hlt).to (fun k hk => ?_) (fun k hk => ⟨hk.1, by have := hk.2.1; omega, ?_⟩)
    · have hk1 := hk.2.1
      rw [hg.block k (by omega) hk.2.2, Below.heap_alloc _ _ _ (by omega), hb.block k (by omega), hb1.block k hk1]
    · have hk1 := hk.2.1
      rcases hat with e | e
      · rw [e]; exact hk.2.2
      · rw [e]; intro h'; cases h'; omega
  · obtain rfl : i = rows.length := by simp at hi; omega
    rw [List.getElem_append_right (by omega)]
    simp only [Nat.sub_self, List.getElem_cons_zero]
    refine hnew.to (fun k hk => ?_) (fun k hk => ⟨by have := hk.1; omega, by have := hk.2; omega, ?_⟩)
    · have hk1 := hk.1
      have hk2 := hk.2
      rw [hg.block k (by omega) (fun e => by have := hso k e.symm; omega), Below.heap_alloc _ _ _ hk2]
    · have hk1 := hk.1
      have hk2 := hk.2
      rcases hat with e | e
      · intro h'; have := hso k (e ▸ h'.symm); omega
      · rw [e]; intro h'; cases h'; omega
theorem CopR.done {E : TypeId} {kk n : Nat} {R : World → Nat → Array Value → Prop} {w' : World} {base : Nat} {so : Sl} {rows : List (Array Value)} (h : CopR E kk R w' base so rows) (hn : rows.length = n) (hl : n ≤ lim) : Dep w' (fresh base w') (fun x => RowsAt x kk so.a n (R x)) := fun x hx =>
  RowsAt.of_own (h.own.fresh hx) hn hl (fun i hi => h.each i hi x (fun k hk => hx k ⟨hk.1, hk.2.1⟩))
def Copied (Φ : World → Sl → Prop) (n : Nat) (w : World) (e : Ending) (w' : World) : Prop := ∃ s : Sl, e = .returned (.slice s.a n s.cap) ∧ Below w.heap.size w w' ∧ Dep w' (fresh w.heap.size w') (fun x => Φ x s)
theorem step_below {W wr w1 w2 w3 : World} {so : Sl} {o : Obj} {E : TypeId} {kk : Nat} {R : World → Nat → Array Value → Prop} {rows : List (Array Value)} (h : CopR E kk R wr W.heap.size so rows) (hb : Below W.heap.size W wr) (hb1 : Below wr.heap.size wr w1) (hb2 : Below w1.heap.size w1 w2) (hg : (w2.alloc o).grownBy w3 so.blk) : Below W.heap.size W w3 :=
  have h2 := below_step (below_step hb hb1) hb2
  (h2.alloc h2.size o).grown hg (by have := h2.size; simp; omega) (fun _ e => (h.own.base e).1)
end Go.WW
namespace Go.Proofs.YtnpddjmjdpgohaaGreatDoor
open Go.RowKit Go.WW


theorem elemPrin2 : ElemOk Tryz.prog 25 24 2 40 := ElemOk.of Tryz.underlying25 (by kernel_rfl)
def RPrin (l : List Prin) (x : World) (i : Nat) (cs : Array Value) : Prop := ∃ p s, l[i]? = some p ∧ cs = prinC s p ∧ PrinAt x s p
set_option maxRecDepth 100000 in
set_option maxHeartbeats 1000000 in
theorem copiesPrin_c (a : Option Addr) (cap : Nat) (l : List Prin) (w : World) (hl : PrinsAt w a l) :
    Calls Tryz.prog 80 #[.slice a l.length cap, .func (.func 45) #[] #[]] w (Copied (fun x s => PrinsAt x s.a l) l.length w) := by
  have hn : l.length ≤ 4294967000 := hl.1
  rcases RowsAt.addr hl with h0 | ⟨b, o, rfl, hb⟩
  · obtain rfl : l = [] := List.eq_nil_of_length_eq_zero h0
    go_enter Tryz.func80, Tryz.ntmps80
    go_wp2_with fail
    refine wp_loop_rounds 1 ?_
    rw [rounds_succ]
    go_wp2_with fail
    go_ret
    exact ⟨⟨none, 0⟩, rfl, Below.refl _ _, fun x _ => ⟨by simp [lim], fun i hi => by simp at hi⟩⟩
  go_enter Tryz.func80, Tryz.ntmps80
  go_wp2_with fail
  go_loopw [5, 10] (fun ov i wr => ∃ (k : Nat) (so : Sl) (rows : List (Array Value)), k ≤ l.length ∧ i = .int .i64 k ∧ ov = .slice so.a k so.cap ∧ Hid (rows.length = k) ∧ Below w.heap.size w wr ∧ CopR 24 2 (RPrin l) wr w.heap.size so rows) (fun _ i _ => l.length - (intOf i).toNat)
  case atStart => exact ⟨0, ⟨none, 0⟩, [], Nat.zero_le _, rfl, rfl, rfl, Below.refl _ _, CopR.nil _ _ _ _ _⟩
  case round =>
    obtain ⟨k, so, rows, hk, rfl, rfl, hlr, hbr, hC⟩ := hrel
    by_cases hlt : k < l.length
    · obtain ⟨t, hc, hp⟩ := hl.at k hlt
      obtain ⟨hcc, hff, hrr⟩ := bcell hbr
      go_wp2_with fail
      have hb1 : Below wr.heap.size wr (wr.alloc (.cells (prinC t l[k]) 24)) := (Below.refl _ wr).alloc (Nat.le_refl _) _
      refine (nameCopy_c _ _ _ (hp.later (below_step hbr hb1))).mono ?_
      rintro e w2 ⟨s', rfl, hb2, hd2⟩
      have hr2 := below_step hb1 hb2
      have hown := hC.carry hr2 (.cells (prinC s' l[k]) 24)
      clear hcc hff hrr
      go_wp2_with (at_builtin; refine wpList_append_n rfl (.tmp 14) (.tmp 18) _ rfl elemPrin2 (n := k) rfl hlr.out.symm hown rfl rfl (SrcRows.new _ (prinC s' l[k]) _ _ (by simp [go_sem]) (by simp [go_sem])) (by have := hlr.out; rw [this]; simp; omega) (by have h9 := hbr.size; have h8 := hr2.size; simp; omega) ?_; intro s3 w3 hown3 hg3 hat3)
      have hC3 := hC.step hb1 hb2 (o := .cells (prinC s' l[k]) 24) (R := RPrin l) (fun x hx => ⟨l[k], s', by rw [hlr.out]; exact List.getElem?_eq_getElem hlt, rfl, hd2 x hx⟩) hown3 hg3 hat3 hbr.size
      have hb3 := step_below hC hbr hb1 hb2 hg3
      have HL := Lib.hid (show (rows ++ [(prinC s' l[k])]).length = k + 1 by have := hlr.out; simp [this])
      clear hown hown3 hg3 hat3 hC hd2 hr2 hb1 hb2 hlr
      go_wp2_with fail
      go_roundw
      case rel => exact ⟨k + 1, s3, _, by omega, by go_num, rfl, HL.out, hb3, hC3⟩
      case measure => simp [intOf]; omega
    · obtain rfl : k = l.length := by omega
      go_wp2_with fail
      go_ret
      exact ⟨so, rfl, hbr, hC.done hlr.out hl.1⟩


theorem elemKey : ElemOk Tryz.prog 61 143 3 40 := ElemOk.of Tryz.underlying61 (by kernel_rfl)
def RKey (l : List Key) (x : World) (i : Nat) (cs : Array Value) : Prop := ∃ p s, l[i]? = some p ∧ cs = keyC s p ∧ KeyAt x s p
set_option maxRecDepth 100000 in
set_option maxHeartbeats 1000000 in
theorem copiesKey_c (a : Option Addr) (cap : Nat) (l : List Key) (w : World) (hl : KeysAt w a l) :
    Calls Tryz.prog 112 #[.slice a l.length cap, .func (.func 113) #[] #[]] w (Copied (fun x s => KeysAt x s.a l) l.length w) := by
  have hn : l.length ≤ 4294967000 := hl.1
  rcases RowsAt.addr hl with h0 | ⟨b, o, rfl, hb⟩
  · obtain rfl : l = [] := List.eq_nil_of_length_eq_zero h0
    go_enter Tryz.func112, Tryz.ntmps112
    go_wp2_with fail
    refine wp_loop_rounds 1 ?_
    rw [rounds_succ]
    go_wp2_with fail
    go_ret
    exact ⟨⟨none, 0⟩, rfl, Below.refl _ _, fun x _ => ⟨by simp [lim], fun i hi => by simp at hi⟩⟩
  go_enter Tryz.func112, Tryz.ntmps112
  go_wp2_with fail
  go_loopw [5, 10] (fun ov i wr => ∃ (k : Nat) (so : Sl) (rows : List (Array Value)), k ≤ l.length ∧ i = .int .i64 k ∧ ov = .slice so.a k so.cap ∧ Hid (rows.length = k) ∧ Below w.heap.size w wr ∧ CopR 143 3 (RKey l) wr w.heap.size so rows) (fun _ i _ => l.length - (intOf i).toNat)
  case atStart => exact ⟨0, ⟨none, 0⟩, [], Nat.zero_le _, rfl, rfl, rfl, Below.refl _ _, CopR.nil _ _ _ _ _⟩
  case round =>
    obtain ⟨k, so, rows, hk, rfl, rfl, hlr, hbr, hC⟩ := hrel
    by_cases hlt : k < l.length
    · obtain ⟨t, hc, hp⟩ := hl.at k hlt
      obtain ⟨hcc, hff, hrr⟩ := bcell hbr
      go_wp2_with fail
      have hb1 : Below wr.heap.size wr (wr.alloc (.cells (keyC t l[k]) 143)) := (Below.refl _ wr).alloc (Nat.le_refl _) _
      refine (keyCopy_c _ _ _ (hp.later (below_step hbr hb1))).mono ?_
      rintro e w2 ⟨s', rfl, hb2, hd2⟩
      have hr2 := below_step hb1 hb2
      have hown := hC.carry hr2 (.cells (keyC s' l[k]) 143)
      clear hcc hff hrr
      go_wp2_with (at_builtin; refine wpList_append_n rfl (.tmp 14) (.tmp 18) _ rfl elemKey (n := k) rfl hlr.out.symm hown rfl rfl (SrcRows.new _ (keyC s' l[k]) _ _ (by simp [go_sem]) (by simp [go_sem])) (by have := hlr.out; rw [this]; simp; omega) (by have h9 := hbr.size; have h8 := hr2.size; simp; omega) ?_; intro s3 w3 hown3 hg3 hat3)
      have hC3 := hC.step hb1 hb2 (o := .cells (keyC s' l[k]) 143) (R := RKey l) (fun x hx => ⟨l[k], s', by rw [hlr.out]; exact List.getElem?_eq_getElem hlt, rfl, hd2 x hx⟩) hown3 hg3 hat3 hbr.size
      have hb3 := step_below hC hbr hb1 hb2 hg3
      have HL := Lib.hid (show (rows ++ [(keyC s' l[k])]).length = k + 1 by have := hlr.out; simp [this])
      clear hown hown3 hg3 hat3 hC hd2 hr2 hb1 hb2 hlr
      go_wp2_with fail
      go_roundw
      case rel => exact ⟨k + 1, s3, _, by omega, by go_num, rfl, HL.out, hb3, hC3⟩
      case measure => simp [intOf]; omega
    · obtain rfl : k = l.length := by omega
      go_wp2_with fail
      go_ret
      exact ⟨so, rfl, hbr, hC.done hlr.out hl.1⟩


def CopiedSet (w : World) (k : KeySet) (e : Ending) (w' : World) : Prop :=
  ∃ s : Sl, e = .returned (.agg (setC s k)) ∧ Below w.heap.size w w' ∧ Dep w' (fresh w.heap.size w') (fun x => SetAt x s k)
set_option maxRecDepth 100000 in
set_option maxHeartbeats 1000000 in
theorem copySet_c (s : Sl) (p : KeySet) (w : World) (hp : SetAt w s p) : Calls Tryz.prog 82 #[.agg (setC s p)] w (CopiedSet w p) := by
  obtain ⟨Z, hZ⟩ : ∃ Z : Array Value, Z = #[.int .i64 0, .slice none 0 0, .string ⟨#[]⟩, .int .i64 0, .int .i64 0] := ⟨_, rfl⟩
  have hB : Below w.heap.size w ((w.alloc (.cells (setC s p) 63)).alloc (.cells Z 63)) := ((Below.refl _ w).alloc (Nat.le_refl _) _).alloc (by simp) _
  have hq : KeysAt ((w.alloc (.cells (setC s p) 63)).alloc (.cells Z 63)) s.a p.keys := hp.1.later hB
  have hrl := hp.2
  subst hZ
  go_enter Tryz.func82, Tryz.ntmps82
  go_wp2_with fail
  refine (copiesKey_c _ _ _ _ hq).mono ?_
  rintro e w2 ⟨s', rfl, hb2, hd2⟩
  have hblk := setCell_blk (o := 1) (.slice s'.a p.keys.length s'.cap) ((hb2.block w.heap.size (by simp; omega)).trans (second_blk w _ _))
  have hrow : row? (w2.setCell ⟨w.heap.size, 1, none⟩ (.slice s'.a p.keys.length s'.cap)) w.heap.size 0 5 = some (setC s' p) := by rw [row?_of_cells hblk]; rfl
  obtain ⟨hcc, hff, hrr⟩ := bcell hb2
  have hpp := bput hb2
  have hsz : w.heap.size + 1 < w2.heap.size := by have := hb2.size; simp at this; omega
  have hsz0 : w.heap.size < w2.heap.size := by omega
  have hne : w.heap.size + 1 ≠ w.heap.size := by omega
  clear hblk
  go_wp2_with fail
  refine bodyPost_ret (v := .agg (setC s' p)) (by simp [results, Tryz.results82, go_sem, *]; rfl) rfl ⟨s', rfl, ?_, ?_⟩
  · exact Go.WW.Below.putRow ((hB.trans (hb2.mono hB.size)).setCell (by simp) _) (by omega)
  · refine Dep.to (fun x hx => ⟨hd2 x hx, hrl⟩) (fun j hj => ?_) (fun j hj => ?_)
    · have h1 := hj.1
      simp at h1
      rw [putRow_other (by omega), Below.heap_setCell _ _ _ _ (by simp; omega)]
    · have h1 := hj.1
      have h2 := hj.2
      simp at h1
      exact ⟨by omega, by rw [putRow_size]; simpa [World.setCell] using h2⟩


theorem elemSet : ElemOk Tryz.prog 28 63 5 64 := ElemOk.of Tryz.underlying28 (by kernel_rfl)
def RSet (l : List KeySet) (x : World) (i : Nat) (cs : Array Value) : Prop := ∃ p s, l[i]? = some p ∧ cs = setC s p ∧ SetAt x s p
set_option maxRecDepth 100000 in
set_option maxHeartbeats 1000000 in
theorem copiesSet_c (a : Option Addr) (cap : Nat) (l : List KeySet) (w : World) (hl : SetsAt w a l) :
    Calls Tryz.prog 81 #[.slice a l.length cap, .func (.func 82) #[] #[]] w (Copied (fun x s => SetsAt x s.a l) l.length w) := by
  have hn : l.length ≤ 4294967000 := hl.1
  rcases RowsAt.addr hl with h0 | ⟨b, o, rfl, hb⟩
  · obtain rfl : l = [] := List.eq_nil_of_length_eq_zero h0
    go_enter Tryz.func81, Tryz.ntmps81
    go_wp2_with fail
    refine wp_loop_rounds 1 ?_
    rw [rounds_succ]
    go_wp2_with fail
    go_ret
    exact ⟨⟨none, 0⟩, rfl, Below.refl _ _, fun x _ => ⟨by simp [lim], fun i hi => by simp at hi⟩⟩
  go_enter Tryz.func81, Tryz.ntmps81
  go_wp2_with fail
  go_loopw [5, 10] (fun ov i wr => ∃ (k : Nat) (so : Sl) (rows : List (Array Value)), k ≤ l.length ∧ i = .int .i64 k ∧ ov = .slice so.a k so.cap ∧ Hid (rows.length = k) ∧ Below w.heap.size w wr ∧ CopR 63 5 (RSet l) wr w.heap.size so rows) (fun _ i _ => l.length - (intOf i).toNat)
  case atStart => exact ⟨0, ⟨none, 0⟩, [], Nat.zero_le _, rfl, rfl, rfl, Below.refl _ _, CopR.nil _ _ _ _ _⟩
  case round =>
    obtain ⟨k, so, rows, hk, rfl, rfl, hlr, hbr, hC⟩ := hrel
    by_cases hlt : k < l.length
    · obtain ⟨t, hc, hp⟩ := hl.at k hlt
      obtain ⟨hcc, hff, hrr⟩ := bcell hbr
      go_wp2_with fail
      have hb1 : Below wr.heap.size wr (wr.alloc (.cells (setC t l[k]) 63)) := (Below.refl _ wr).alloc (Nat.le_refl _) _
      refine (copySet_c _ _ _ (hp.later (below_step hbr hb1))).mono ?_
      rintro e w2 ⟨s', rfl, hb2, hd2⟩
      have hr2 := below_step hb1 hb2
      have hown := hC.carry hr2 (.cells (setC s' l[k]) 63)
      clear hcc hff hrr
      go_wp2_with (at_builtin; refine wpList_append_n rfl (.tmp 14) (.tmp 18) _ rfl elemSet (n := k) rfl hlr.out.symm hown rfl rfl (SrcRows.new _ (setC s' l[k]) _ _ (by simp [go_sem]) (by simp [go_sem])) (by have := hlr.out; rw [this]; simp; omega) (by have h9 := hbr.size; have h8 := hr2.size; simp; omega) ?_; intro s3 w3 hown3 hg3 hat3)
      have hC3 := hC.step hb1 hb2 (o := .cells (setC s' l[k]) 63) (R := RSet l) (fun x hx => ⟨l[k], s', by rw [hlr.out]; exact List.getElem?_eq_getElem hlt, rfl, hd2 x hx⟩) hown3 hg3 hat3 hbr.size
      have hb3 := step_below hC hbr hb1 hb2 hg3
      have HL := Lib.hid (show (rows ++ [(setC s' l[k])]).length = k + 1 by have := hlr.out; simp [this])
      clear hown hown3 hg3 hat3 hC hd2 hr2 hb1 hb2 hlr
      go_wp2_with fail
      go_roundw
      case rel => exact ⟨k + 1, s3, _, by omega, by go_num, rfl, HL.out, hb3, hC3⟩
      case measure => simp [intOf]; omega
    · obtain rfl : k = l.length := by omega
      go_wp2_with fail
      go_ret
      exact ⟨so, rfl, hbr, hC.done hlr.out hl.1⟩


theorem elemHist : ElemOk Tryz.prog 29 111 1 24 := ElemOk.of Tryz.underlying29 (by kernel_rfl)
def RHist (l : List (List UInt8)) (x : World) (i : Nat) (cs : Array Value) : Prop := ∃ v, cs = #[v] ∧ ∃ p, ∃ s : Sl, l[i]? = some p ∧ v = .slice s.a p.length s.cap ∧ BytesAt x s.a p
set_option maxRecDepth 100000 in
set_option maxHeartbeats 1000000 in
theorem copiesHist_c (a : Option Addr) (cap : Nat) (l : List (List UInt8)) (w : World) (hl : HistAt w a l) :
    Calls Tryz.prog 83 #[.slice a l.length cap, .func (.func 84) #[] #[]] w (Copied (fun x s => HistAt x s.a l) l.length w) := by
  have hn : l.length ≤ 4294967000 := hl.1
  rcases CellsAt.addr hl with h0 | ⟨b, o, rfl, hb⟩
  · obtain rfl : l = [] := List.eq_nil_of_length_eq_zero h0
    go_enter Tryz.func83, Tryz.ntmps83
    go_wp2_with fail
    refine wp_loop_rounds 1 ?_
    rw [rounds_succ]
    go_wp2_with fail
    go_ret
    exact ⟨⟨none, 0⟩, rfl, Below.refl _ _, fun x _ => ⟨by simp [lim], fun i hi => by simp at hi⟩⟩
  go_enter Tryz.func83, Tryz.ntmps83
  go_wp2_with fail
  go_loopw [5, 10] (fun ov i wr => ∃ (k : Nat) (so : Sl) (rows : List (Array Value)), k ≤ l.length ∧ i = .int .i64 k ∧ ov = .slice so.a k so.cap ∧ Hid (rows.length = k) ∧ Below w.heap.size w wr ∧ CopR 111 1 (RHist l) wr w.heap.size so rows) (fun _ i _ => l.length - (intOf i).toNat)
  case atStart => exact ⟨0, ⟨none, 0⟩, [], Nat.zero_le _, rfl, rfl, rfl, Below.refl _ _, CopR.nil _ _ _ _ _⟩
  case round =>
    obtain ⟨k, so, rows, hk, rfl, rfl, hlr, hbr, hC⟩ := hrel
    by_cases hlt : k < l.length
    · obtain ⟨t, hc, hp⟩ := hl.at k hlt
      obtain ⟨hcc, hff, hrr⟩ := bcell hbr
      go_wp2_with fail
      have hb1 : Below wr.heap.size wr wr := Below.refl _ _
      refine (copyBytes_c _ _ _ _ (hp.later (below_step hbr hb1))).mono ?_
      rintro e w2 ⟨s', rfl, hb2, hd2⟩
      have hr2 := below_step hb1 hb2
      have hown := hC.carry hr2 (.cells #[Value.slice s'.a l[k].length s'.cap] 111)
      clear hcc hff hrr
      go_wp2_with (at_builtin; refine wpList_append_n rfl (.tmp 14) (.tmp 18) _ rfl elemHist (n := k) rfl hlr.out.symm hown rfl rfl (SrcRows.new _ #[Value.slice s'.a l[k].length s'.cap] _ _ (by simp [go_sem]) (by simp [go_sem, allOne, Value.oneCell'])) (by have := hlr.out; rw [this]; simp; omega) (by have h9 := hbr.size; have h8 := hr2.size; simp; omega) ?_; intro s3 w3 hown3 hg3 hat3)
      have hC3 := hC.step hb1 hb2 (o := .cells #[Value.slice s'.a l[k].length s'.cap] 111) (R := RHist l) (fun x hx => ⟨_, rfl, l[k], s', by rw [hlr.out]; exact List.getElem?_eq_getElem hlt, rfl, hd2 x hx⟩) hown3 hg3 hat3 hbr.size
      have hb3 := step_below hC hbr hb1 hb2 hg3
      have HL := Lib.hid (show (rows ++ [#[Value.slice s'.a l[k].length s'.cap]]).length = k + 1 by have := hlr.out; simp [this])
      clear hown hown3 hg3 hat3 hC hd2 hr2 hb1 hb2 hlr
      go_wp2_with fail
      go_roundw
      case rel => exact ⟨k + 1, s3, _, by omega, by go_num, rfl, HL.out, hb3, hC3⟩
      case measure => simp [intOf]; omega
    · obtain rfl : k = l.length := by omega
      go_wp2_with fail
      go_ret
      exact ⟨so, rfl, hbr, fun x hx => CellsAt.of_own (hC.own.fresh hx) hlr.out hl.1 (fun i hi => hC.each i hi x (fun j hj => hx j ⟨hj.1, hj.2.1⟩))⟩

end Go.Proofs.YtnpddjmjdpgohaaGreatDoor
