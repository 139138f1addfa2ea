/- Part Y of the proof about watchword's lockout: texts Q5 Q6. -/
import Derived.Test.YtknppbjbnpddaaaGreatDoorGX
import Derived.Test.YtknppbjbnpddaaaGreatDoorGS
import Derived.Test.YtknppbjbnpddaaaGreatDoorGT
import Derived.Test.YtknppbjbnpddaaaGreatDoorGV

namespace Go.WW
open Go.RowKit
/-- An attempt at a time. -/
structure Trial where
  unlock : Bool
  success : Bool
  time : Int
def tryC (t : Trial) : Array Value := #[.bool t.unlock, .bool t.success, .int .i64 t.time]
def TriesAt (w : World) (a : Option Addr) (l : List Trial) : Prop := RowsAt w 3 a l.length fun i cs => ∃ t, l[i]? = some t ∧ cs = tryC t
theorem TriesAt.later {w w' : World} (h : Below w.heap.size w w') {a : Option Addr} {l : List Trial} (x : TriesAt w a l) : TriesAt w' a l := RowsAt.later h (fun _ _ y => y) x
theorem TriesAt.cells {w : World} {b o : Nat} {l : List Trial} (x : TriesAt w (some ⟨b, o, none⟩) l) (i : Nat) (h : i < l.length) :
    w.cell? ⟨b, o + i * 3, none⟩ = some (.bool l[i].unlock) ∧ w.cell? ⟨b, o + i * 3 + 1, none⟩ = some (.bool l[i].success) ∧ w.cell? ⟨b, o + i * 3 + 2, none⟩ = some (.int .i64 l[i].time) := by
  obtain ⟨b', o', cs, ha, hr, t, ht, rfl⟩ := x.2 i h
  cases ha
  rw [List.getElem?_eq_getElem h] at ht
  cases ht
  exact ⟨row?_cell hr 0 (by omega), row?_cell hr 1 (by omega), row?_cell hr 2 (by omega)⟩
end Go.WW
namespace Go.Proofs.YtknppbjbnpddaaaGreatDoor
open Go.ChangeShapes Go.WideShapes Go.ChangeAt Go.RowKit Go.WW Go.Deep
theorem cellsTry : Tryz.prog.cellsOf 47 = 3 := by kernel_rfl
theorem cellsBool : Tryz.prog.cellsOf 4 = 1 := by kernel_rfl
theorem readTries : Tryz.prog.readableRec 45 = true := by kernel_rfl
theorem ltTries : 45 < Tryz.prog.types.size := of_decide_eq_true (by kernel_rfl)
section
variable {H : Type} {enc : TypeId × Value → H} {w : World} {base : Nat} {spare : Nat → Bool} {held : Bool} {fuel : Nat} {x : DataW H × List MemPlace}
theorem read_bool {v : Value} (h : DataW.trod enc Tryz.prog w base spare held fuel 4 [v] = some x) : ∃ b : Bool, v = .bool b := by
  obtain ⟨b, hs, _⟩ := DataW.trod_bool Tryz.underlying4 h
  exact ⟨b, by simpa using hs⟩
theorem read_try {cs : List Value} (h : DataW.trod enc Tryz.prog w base spare held fuel 47 cs = some x) (hb : Rows.uptoBulk x.1 ≤ 1048576) : ∃ t : Trial, cs = (tryC t).toList := by
  obtain ⟨hl, n, hf⟩ := field_of Tryz.underlying47 h hb
  rw [cellsTry] at hl
  obtain ⟨c0, c1, c2, rfl⟩ := list_3 hl
  obtain ⟨y0, t0, b0⟩ := hf 0 _ rfl
  replace t0 : DataW.trod enc Tryz.prog w base spare held n 4 (([c0, c1, c2].drop 0).take (Tryz.prog.cellsOf 4)) = some y0 := t0
  rw [cellsBool, take_one (c := c0) rfl] at t0
  obtain ⟨y1, t1, b1⟩ := hf 1 _ rfl
  replace t1 : DataW.trod enc Tryz.prog w base spare held n 4 (([c0, c1, c2].drop 1).take (Tryz.prog.cellsOf 4)) = some y1 := t1
  rw [cellsBool, take_one (c := c1) rfl] at t1
  obtain ⟨y2, t2, b2⟩ := hf 2 _ rfl
  replace t2 : DataW.trod enc Tryz.prog w base spare held n 3 (([c0, c1, c2].drop 2).take (Tryz.prog.cellsOf 3)) = some y2 := t2
  rw [cellsInt, take_one (c := c2) rfl] at t2
  obtain ⟨n0, rfl⟩ := read_bool t0
  obtain ⟨n1, rfl⟩ := read_bool t1
  obtain ⟨n2, rfl⟩ := read_int t2
  exact ⟨⟨n0, n1, n2⟩, rfl⟩
theorem read_tries {v : Value} (h : DataW.trod enc Tryz.prog w base spare held fuel 45 [v] = some x) (hb : Rows.uptoBulk x.1 ≤ 1048576) : ∃ (s : Sl) (l : List Trial), v = .slice s.a l.length s.cap ∧ TriesAt w s.a l := by
  obtain ⟨s, n, hv, hn, hel⟩ := read_slice Tryz.underlying45 cellsTry (by omega) h hb
  obtain ⟨l, hl, hr⟩ := list_of (R := fun i (a : Trial) => ∃ b o, s.a = some ⟨b, o, none⟩ ∧ row? w b (o + i * 3) 3 = some (tryC a)) (n := n) (fun i hi => by
    obtain ⟨b, o, cs, f', y, ha, hrow, ht, hby⟩ := hel i hi
    obtain ⟨p, hcs⟩ := read_try ht hby
    exact ⟨p, b, o, ha, by rw [hrow, ← Array.toList_inj.1 hcs]⟩)
  refine ⟨s, l, by rw [hl]; exact hv, by rw [hl]; exact lim_of hn, fun i hi => ?_⟩
  obtain ⟨b, o, h1, h2⟩ := hr i l[i] (List.getElem?_eq_getElem hi)
  exact ⟨b, o, _, h1, h2, l[i], List.getElem?_eq_getElem hi, rfl⟩
set_option maxRecDepth 2000000 in
theorem arg_tries {W : World} {b0 : Nat} {v : Value} {d : DataW H} {p : List MemPlace} (_hv : Value.okWide Tryz.prog W .any b0 45 v) (h : DataW.Trod enc Tryz.prog W 0 (fun _ => true) true 45 v d p) (hb : Rows.uptoBulk d ≤ 1048576) :
    ∃ (s : Sl) (l : List Trial), v = .slice s.a l.length s.cap ∧ TriesAt W s.a l := by
  obtain ⟨a, len, cap, rfl⟩ := okWide_slice Tryz.underlying45 _hv
  obtain ⟨fuel, hf⟩ := h
  exact read_tries hf hb
end
end Go.Proofs.YtknppbjbnpddaaaGreatDoor

namespace Go.Proofs.YtknppbjbnpddaaaGreatDoor
open Go.RowKit Go.WW
theorem valid24_is (r : ERaw) (d : Entry) (w : World) (he : EntAt w r d) (b : Bool) (h : entryOk d = b) : Calls Tryz.prog 17 #[.agg (entC r d)] w fun e w' => e = .returned (.bool b) ∧ Below w.heap.size w w' := by
  have x := valid24_c r d w he; rw [h] at x; exact x
theorem dep_since {n m : Nat} {v : World} {Φ : World → Prop} (hd : Dep v (fresh m v) Φ) (h : n ≤ m) : Dep v (fresh n v) Φ := hd.to (fun _ _ => rfl) (fun _ hk => ⟨Nat.le_trans h hk.1, hk.2⟩)
/-- A box of its own with an entry, since a world. -/
structure AB (V v : World) (T : Nat) (r : ERaw) (d : Entry) : Prop where
  wb : Below V.heap.size V v
  x : v.heap[T]? = some (.cells (entC r d) 31)
  d : Dep v (fun k => V.heap.size ≤ k ∧ k ≠ T ∧ k < v.heap.size) (fun y => EntAt y r d)
  ge : V.heap.size ≤ T
theorem AB.later {V v v' : World} {T : Nat} {r : ERaw} {d : Entry} (h : AB V v T r d) (hb : Below v.heap.size v v') : AB V v' T r d :=
  ⟨below_step h.wb hb, still_blk hb h.x, h.d.to (fun k hk => hb.block k hk.2.2) (fun _ hk => ⟨hk.1, hk.2.1, Nat.lt_of_lt_of_le hk.2.2 hb.size⟩), h.ge⟩
theorem AB.ent {V v : World} {T : Nat} {r : ERaw} {d : Entry} (h : AB V v T r d) : EntAt v r d := h.d.out
theorem AB.new {V v : World} {r : ERaw} {d : Entry} (hb : Below V.heap.size V v) (hd : Dep v (fresh V.heap.size v) (fun x => EntAt x r d)) : AB V (v.alloc (.cells (entC r d) 31)) v.heap.size r d :=
  ⟨hb.alloc hb.size _, World.alloc_heap_new _ _, hd.to (fun k hk => Below.heap_alloc _ _ _ hk.2) (fun k hk => ⟨hk.1, by have := hk.2; omega, by have := hk.2; simp; omega⟩), hb.size⟩
/-- The box was made ahead of the call that filled it. -/
theorem AB.early {V u v : World} {Z : Array Value} {r : ERaw} {d : Entry} (hu : Below V.heap.size V u) (hZ : Z.size = 17) (hb : Below (u.alloc (.cells Z 31)).heap.size (u.alloc (.cells Z 31)) v) (hd : Dep v (fresh (u.alloc (.cells Z 31)).heap.size v) (fun x => EntAt x r d)) :
    AB V (putRow v u.heap.size 0 (entC r d)) u.heap.size r d := by
  have hk : v.heap[u.heap.size]? = some (.cells Z 31) := still_blk hb (World.alloc_heap_new _ _)
  have hs := hb.size
  simp at hs
  refine ⟨Go.WW.Below.putRow (below_step (below_new hu _) hb) hu.size, ?_, ?_, hu.size⟩
  · rw [putRow_blk hk (by simp [go_sem, hZ]), splice_whole (by simp [go_sem, hZ])]
  · refine hd.to (fun k h => putRow_other ?_) (fun k h => ⟨?_, ?_, ?_⟩)
    · have := h.1; simp at this; omega
    · have := h.1; have := hu.size; simp at *; omega
    · have := h.1; simp at this; omega
    · rw [putRow_size]; exact h.2
theorem HS.take {V v : World} {B X T : Nat} {p : Policy} {r r' : ERaw} {d d' : Entry} (h : HS V B X p r d) (ha : AB V v T r' d') : HS (putRow v X 0 (entC r' d')) B X p r' d' := by
  have hX : X < V.heap.size := (Array.getElem?_eq_some_iff.1 h.x).1
  have h2 := h.later ha.wb
  refine ⟨?_, ?_, ?_, h.ne⟩
  · rw [putRow_other h.ne]; exact h2.p
  · rw [putRow_blk h2.x (by simp [go_sem]), splice_whole (by simp [go_sem])]
  · exact ha.d.to (fun k hk => putRow_other (by have := hk.1; omega)) (fun k hk => ⟨by have := hk.1; omega, by rw [putRow_size]; exact hk.2.2⟩)
theorem HS.own {V : World} {B : Nat} {p : Policy} {r : ERaw} {d : Entry} (hp : V.heap[B]? = some (.cells (polC p) 33)) (he : EntAt V r d) : HS (V.alloc (.cells (entC r d) 31)) B V.heap.size p r d := by
  have hP : B < V.heap.size := (Array.getElem?_eq_some_iff.1 hp).1
  refine ⟨?_, World.alloc_heap_new _ _, ?_, by omega⟩
  · rw [Below.heap_alloc _ _ _ (by omega)]; exact hp
  · exact he.dep.to (fun k hk => Below.heap_alloc _ _ _ hk) (fun k hk => ⟨by omega, by simp; omega⟩)
set_option maxRecDepth 100000 in
set_option maxHeartbeats 16000000 in
theorem attempts_long (r : ERaw) (d : Entry) (p : Policy) (a : Option Addr) (cap : Nat) (l : List Trial) (w : World) (he : EntAt w r d) (h30 : (30 : Int) < (l.length : Int)) : Calls Tryz.prog 4 #[.agg (entC r d), .agg (polC p), .slice a l.length cap] w fun e w' => e = .returned (.bool true) ∧ Below w.heap.size w w' := by
  have hB : Below w.heap.size w ((w.alloc (.cells (entC r d) 31)).alloc (.cells (polC p) 33)) := ((Below.refl _ _).alloc (Nat.le_refl _) _).alloc (by simp) _
  have hb0 : Below ((w.alloc (.cells (entC r d) 31)).alloc (.cells (polC p) 33)).heap.size ((w.alloc (.cells (entC r d) 31)).alloc (.cells (polC p) 33)) ((w.alloc (.cells (entC r d) 31)).alloc (.cells (polC p) 33)) := Below.refl _ _
  go_enter Tryz.func4, Tryz.ntmps4
  go_wp2_with fail
  refine (large_c _ _ _ (he.later hB)).mono ?_
  rintro e v1 ⟨bb, rfl, hy⟩
  have hb1 := below_step hb0 hy
  obtain ⟨hc, hf, hr⟩ := bcell hb1
  have hsz : w.heap.size + 1 < v1.heap.size := by have := hb1.size; simp at this; omega
  cases bb
  case true =>
    dsimp only
    go_wp2_with fail
    refine (known_c _).mono ?_
    rintro e v9 ⟨rfl, hy9⟩
    dsimp only
    go_wp2_with fail
    go_ret
    exact ⟨rfl, below_step (below_step hB hb1) hy9⟩
  dsimp only
  go_wp2_with fail
  refine (known_c _).mono ?_
  rintro e v9 ⟨rfl, hy9⟩
  dsimp only
  go_wp2_with fail
  go_ret
  exact ⟨rfl, below_step (below_step hB hb1) hy9⟩
set_option maxRecDepth 100000 in
set_option maxHeartbeats 16000000 in
theorem attempts_nil (r : ERaw) (d : Entry) (p : Policy) (a : Option Addr) (cap : Nat) (l : List Trial) (w : World) (he : EntAt w r d) (h0 : l.length = 0) : Calls Tryz.prog 4 #[.agg (entC r d), .agg (polC p), .slice a l.length cap] w fun e w' => e = .returned (.bool true) ∧ Below w.heap.size w w' := by
  have hB : Below w.heap.size w ((w.alloc (.cells (entC r d) 31)).alloc (.cells (polC p) 33)) := ((Below.refl _ _).alloc (Nat.le_refl _) _).alloc (by simp) _
  have hb0 : Below ((w.alloc (.cells (entC r d) 31)).alloc (.cells (polC p) 33)).heap.size ((w.alloc (.cells (entC r d) 31)).alloc (.cells (polC p) 33)) ((w.alloc (.cells (entC r d) 31)).alloc (.cells (polC p) 33)) := Below.refl _ _
  rw [h0]
  go_enter Tryz.func4, Tryz.ntmps4
  go_wp2_with fail
  refine (large_c _ _ _ (he.later hB)).mono ?_
  rintro e v1 ⟨bb, rfl, hy⟩
  have hb1 := below_step hb0 hy
  obtain ⟨hc, hf, hr⟩ := bcell hb1
  have hsz : w.heap.size + 1 < v1.heap.size := by have := hb1.size; simp at this; omega
  cases bb
  case true =>
    dsimp only
    go_wp2_with fail
    refine (known_c _).mono ?_
    rintro e v9 ⟨rfl, hy9⟩
    dsimp only
    go_wp2_with fail
    go_ret
    exact ⟨rfl, below_step (below_step hB hb1) hy9⟩
  dsimp only
  go_wp2_with fail
  have hbp : v1.heap[w.heap.size + 1]? = some (.cells (polC p) 33) := still_blk hb1 (by have := World.alloc_heap_new (w.alloc (.cells (entC r d) 31)) (.cells (polC p) 33); simpa using this)
  have hB1 := below_step hB hb1
  have hsn := HS.own hbp (he.later hB1)
  have hBn : Below w.heap.size w (v1.alloc (.cells (entC r d) 31)) := hB1.alloc hB1.size _
  have hX : w.heap.size ≤ v1.heap.size := hB1.size
  generalize (v1.alloc (.cells (entC r d) 31)) = V0 at *
  clear hc hf hr hsz hbp hy hb1 hb0 hB1 hB
  generalize v1.heap.size = X at *
  generalize w.heap.size + 1 = B at *
  refine wp_loop_rounds 1 ?_
  rw [rounds_succ]
  go_wp2_with fail
  refine (known_c _).mono ?_
  rintro e v9 ⟨rfl, hy9⟩
  dsimp only
  go_wp2_with fail
  go_ret
  exact ⟨rfl, below_step hBn hy9⟩
set_option maxRecDepth 100000 in
set_option maxHeartbeats 16000000 in
theorem attempts_go (r : ERaw) (d : Entry) (p : Policy) (b o : Nat) (cap : Nat) (l : List Trial) (w : World) (he : EntAt w r d) (hs : p.name.size ≤ lim) (ht : TriesAt w (some ⟨b, o, none⟩) l) (hbw : b < w.heap.size) (h30 : (l.length : Int) ≤ 30) : Calls Tryz.prog 4 #[.agg (entC r d), .agg (polC p), .slice (some ⟨b, o, none⟩) l.length cap] w fun e w' => e = .returned (.bool true) ∧ Below w.heap.size w w' := by
  have hB : Below w.heap.size w ((w.alloc (.cells (entC r d) 31)).alloc (.cells (polC p) 33)) := ((Below.refl _ _).alloc (Nat.le_refl _) _).alloc (by simp) _
  have hb0 : Below ((w.alloc (.cells (entC r d) 31)).alloc (.cells (polC p) 33)).heap.size ((w.alloc (.cells (entC r d) 31)).alloc (.cells (polC p) 33)) ((w.alloc (.cells (entC r d) 31)).alloc (.cells (polC p) 33)) := Below.refl _ _
  go_enter Tryz.func4, Tryz.ntmps4
  go_wp2_with fail
  refine (large_c _ _ _ (he.later hB)).mono ?_
  rintro e v1 ⟨bb, rfl, hy⟩
  have hb1 := below_step hb0 hy
  obtain ⟨hc, hf, hr⟩ := bcell hb1
  have hsz : w.heap.size + 1 < v1.heap.size := by have := hb1.size; simp at this; omega
  cases bb
  case true =>
    dsimp only
    go_wp2_with fail
    refine (known_c _).mono ?_
    rintro e v9 ⟨rfl, hy9⟩
    dsimp only
    go_wp2_with fail
    go_ret
    exact ⟨rfl, below_step (below_step hB hb1) hy9⟩
  dsimp only
  go_wp2_with fail
  have hbp : v1.heap[w.heap.size + 1]? = some (.cells (polC p) 33) := still_blk hb1 (by have := World.alloc_heap_new (w.alloc (.cells (entC r d) 31)) (.cells (polC p) 33); simpa using this)
  have hB1 := below_step hB hb1
  have hsn := HS.own hbp (he.later hB1)
  have hBn : Below w.heap.size w (v1.alloc (.cells (entC r d) 31)) := hB1.alloc hB1.size _
  have hX : w.heap.size ≤ v1.heap.size := hB1.size
  generalize (v1.alloc (.cells (entC r d) 31)) = V0 at *
  clear hc hf hr hsz hbp hy hb1 hb0 hB1 hB
  generalize v1.heap.size = X at *
  generalize w.heap.size + 1 = B at *
  go_loopw [8] (fun i wr => Below w.heap.size w wr ∧ ∃ k : Nat, k ≤ l.length ∧ i = .int .i64 k ∧ ∃ r' d', HS wr B X p r' d') (fun i _ => l.length - (intOf i).toNat)
  case atStart => exact ⟨hBn, 0, Nat.zero_le _, rfl, r, d, hsn⟩
  case round =>
    obtain ⟨hBr, k, hk, rfl, r2, d2, hsr⟩ := hrel
    clear hsn hBn
    obtain ⟨hc, hf, hr, hlt1⟩ := box_facts hsr.x
    obtain ⟨hc2, hf2, hr2, hlt2⟩ := box_facts hsr.p
    by_cases hlt : k < l.length
    · have hki : (k : Int) < (l.length : Int) := by omega
      have hkj : k + 1 ≤ l.length := by omega
      have hms := Lib.hid (show l.length - (k + 1) < l.length - k by omega)
      obtain ⟨q0, q1, q2⟩ := (ht.later hBr).cells k hlt
      have hbr : b < wr.heap.size := Nat.lt_of_lt_of_le hbw hBr.size
      generalize l[k] = tr at *
      obtain ⟨u, s, now⟩ := tr
      dsimp only at q0 q1 q2
      cases u
      · cases hv : okAll d2 p now
        · have hx := hv
          go_wp2_with fail
          refine wp_region_since2 12 8 [0, 1, 2, 3, 4, 5, 6, 7, 12, 8, 9, 10, 11, 13, 14] (Below.refl _ wr) (by kernel_rfl) (by kernel_rfl) (by rfl) ?_ ?_
          · intro w4 hb4
            have hs4 := hsr.later hb4
            repeat (first | (refine text_skip (by rfl) ?_) | (refine text_look (by rfl) (by rfl) (fun K hK => ?_); go_big_quiet_op; refine hK _ ?_; clear hK K))
            refine text_act (by rfl) (by rfl) (fun K hK => ?_)
            go_wp2_with fail
            refine (lAttempt_bad _ _ _ _ _ _ hs4.ent hs hv).mono ?_
            rintro e w5 ⟨r5, rfl, hb5, hd5⟩
            have hb5' := below_step hb4 hb5
            have hab0 := AB.new hb5' (dep_since hd5 hb4.size)
            go_wp2_with fail
            refine hK _ _ (since_of hb5') ?_
            clear hK K
            repeat (first | (refine text_skip (by rfl) ?_) | (refine text_look (by rfl) (by rfl) (fun K hK => ?_); go_big_quiet_op; refine hK _ ?_; clear hK K))
            refine text_act (by rfl) (by rfl) (fun K hK => ?_)
            go_wp2_with fail
            refine hK _ _ (since_of (below_new hb5' _)) ?_
            clear hK K
            repeat (first | (refine text_skip (by rfl) ?_) | (refine text_look (by rfl) (by rfl) (fun K hK => ?_); go_big_quiet_op; refine hK _ ?_; clear hK K))
            refine text_act (by rfl) (by rfl) (fun K hK => ?_)
            go_wp2_with fail
            refine hK _ _ (since_of (below_new hb5' (.cells (entC r5 zeroD) 31))) ?_
            clear hK K
            repeat (first | (refine text_skip (by rfl) ?_) | (refine text_look (by rfl) (by rfl) (fun K hK => ?_); go_big_quiet_op; refine hK _ ?_; clear hK K))
            refine text_nil ?_
            clear hc hf hr hlt1 hc2 hf2 hr2 hlt2
            generalize (w5.alloc (.cells (entC r5 zeroD) 31)) = V at *
            generalize w5.heap.size = T at *
            have hs6 := hsr.later hab0.wb
            have hB6 := below_step hBr hab0.wb
            clear hb4 hs4 hb5 hb5' hd5
            obtain ⟨hc, hf, hr, hlt1⟩ := box_facts hs6.x
            obtain ⟨hc2, hf2, hr2, hlt2⟩ := box_facts hs6.p
            obtain ⟨hc3, hf3, hr3, hlt3⟩ := box_facts hab0.x
            go_wp2_with fail
            refine (cValid _ _ _ _ _ hs6.ent hs false hv).mono ?_
            rintro e v11 ⟨rfl, hb11⟩
            clear hc hf hr hlt1 hc2 hf2 hr2 hlt2 hc3 hf3 hr3 hlt3
            have hs11 := hs6.later hb11
            have hB11 := below_step hB6 hb11
            have ha11 := hab0.later hb11
            obtain ⟨hc, hf, hr, hlt1⟩ := box_facts hs11.x
            obtain ⟨hc2, hf2, hr2, hlt2⟩ := box_facts hs11.p
            obtain ⟨hc3, hf3, hr3, hlt3⟩ := box_facts ha11.x
            dsimp only
            go_wp2_with fail
            refine (same_eq _ _ _ _ ha11.ent (zeroE_at _)).mono ?_
            rintro e v12 ⟨rfl, hb12⟩
            clear hc hf hr hlt1 hc2 hf2 hr2 hlt2 hc3 hf3 hr3 hlt3
            have hs12 := hs11.later hb12
            have hB12 := below_step hB11 hb12
            have ha12 := ha11.later hb12
            obtain ⟨hc, hf, hr, hlt1⟩ := box_facts hs12.x
            obtain ⟨hc2, hf2, hr2, hlt2⟩ := box_facts hs12.p
            obtain ⟨hc3, hf3, hr3, hlt3⟩ := box_facts ha12.x
            dsimp only
            go_wp2_with fail
            go_roundw
            case rel => exact ⟨hB12, k + 1, hkj, by go_num, _, _, hs12⟩
            case measure => simp [intOf]; exact hms.out
          · intro w4 hb4
            change wpText _ _ _ _ _ [_, _, _, _, _, _, _, _, _, _, _, _, _, _, _] _ _
            have hs4 := hsr.later hb4
            repeat (first | (refine text_skip (by rfl) ?_) | (refine text_look (by rfl) (by rfl) (fun K hK => ?_); go_big_quiet_op; refine hK _ ?_; clear hK K))
            refine text_act (by rfl) (by rfl) (fun K hK => ?_)
            go_wp2_with fail
            refine hK _ _ (since_of (below_new hb4 _)) ?_
            clear hK K
            have hs4' := hs4.later (below_new (Below.refl _ w4) (.cells #[.slice none 0 0, .string ⟨#[]⟩, .slice none 0 0, .int .u32 0, .int .i64 0, .slice none 0 0, .string ⟨#[]⟩, .int .i64 0, .int .i64 0, .int .i64 0, .int .i64 0, .int .i64 0, .int .i64 0, .int .i64 0, .slice none 0 0, .slice none 0 0, .slice none 0 0] 31))
            repeat (first | (refine text_skip (by rfl) ?_) | (refine text_look (by rfl) (by rfl) (fun K hK => ?_); go_big_quiet_op; refine hK _ ?_; clear hK K))
            refine text_act (by rfl) (by rfl) (fun K hK => ?_)
            go_wp2_with fail
            refine (lAttempt_bad _ _ _ _ _ _ hs4'.ent hs hv).mono ?_
            rintro e w5 ⟨r5, rfl, hb5, hd5⟩
            have hb5' := below_step (below_new hb4 (.cells #[.slice none 0 0, .string ⟨#[]⟩, .slice none 0 0, .int .u32 0, .int .i64 0, .slice none 0 0, .string ⟨#[]⟩, .int .i64 0, .int .i64 0, .int .i64 0, .int .i64 0, .int .i64 0, .int .i64 0, .int .i64 0, .slice none 0 0, .slice none 0 0, .slice none 0 0] 31)) hb5
            have hab0 := AB.early hb4 (by rfl) hb5 hd5
            have hcp5 : canPut w5 w4.heap.size 0 17 = true := canPut_of_cells (still_blk hb5 (World.alloc_heap_new _ _)) (by simp)
            go_wp2_with fail
            refine hK _ _ (since_of hb5') ?_
            clear hK K
            repeat (first | (refine text_skip (by rfl) ?_) | (refine text_look (by rfl) (by rfl) (fun K hK => ?_); go_big_quiet_op; refine hK _ ?_; clear hK K))
            refine text_act (by rfl) (by rfl) (fun K hK => ?_)
            go_wp2_with fail
            refine hK _ _ (since_of hab0.wb) ?_
            clear hK K
            repeat (first | (refine text_skip (by rfl) ?_) | (refine text_look (by rfl) (by rfl) (fun K hK => ?_); go_big_quiet_op; refine hK _ ?_; clear hK K))
            refine text_nil ?_
            clear hc hf hr hlt1 hc2 hf2 hr2 hlt2
            clear hcp5
            generalize (putRow w5 w4.heap.size 0 (entC r5 zeroD)) = V at *
            generalize w4.heap.size = T at *
            have hs6 := hsr.later hab0.wb
            have hB6 := below_step hBr hab0.wb
            clear hb4 hs4 hb5 hb5' hd5 hs4'
            obtain ⟨hc, hf, hr, hlt1⟩ := box_facts hs6.x
            obtain ⟨hc2, hf2, hr2, hlt2⟩ := box_facts hs6.p
            obtain ⟨hc3, hf3, hr3, hlt3⟩ := box_facts hab0.x
            go_wp2_with fail
            refine (cValid _ _ _ _ _ hs6.ent hs false hv).mono ?_
            rintro e v11 ⟨rfl, hb11⟩
            clear hc hf hr hlt1 hc2 hf2 hr2 hlt2 hc3 hf3 hr3 hlt3
            have hs11 := hs6.later hb11
            have hB11 := below_step hB6 hb11
            have ha11 := hab0.later hb11
            obtain ⟨hc, hf, hr, hlt1⟩ := box_facts hs11.x
            obtain ⟨hc2, hf2, hr2, hlt2⟩ := box_facts hs11.p
            obtain ⟨hc3, hf3, hr3, hlt3⟩ := box_facts ha11.x
            dsimp only
            go_wp2_with fail
            refine (same_eq _ _ _ _ ha11.ent (zeroE_at _)).mono ?_
            rintro e v12 ⟨rfl, hb12⟩
            clear hc hf hr hlt1 hc2 hf2 hr2 hlt2 hc3 hf3 hr3 hlt3
            have hs12 := hs11.later hb12
            have hB12 := below_step hB11 hb12
            have ha12 := ha11.later hb12
            obtain ⟨hc, hf, hr, hlt1⟩ := box_facts hs12.x
            obtain ⟨hc2, hf2, hr2, hlt2⟩ := box_facts hs12.p
            obtain ⟨hc3, hf3, hr3, hlt3⟩ := box_facts ha12.x
            dsimp only
            go_wp2_with fail
            go_roundw
            case rel => exact ⟨hB12, k + 1, hkj, by go_num, _, _, hs12⟩
            case measure => simp [intOf]; exact hms.out
        · have hsm := (okAll_small hv).1
          cases hw : lockedAt d2 p now
          · have hx := hw
            go_wp2_with fail
            refine wp_region_since2 12 8 [0, 1, 2, 3, 4, 5, 6, 7, 12, 8, 9, 10, 11, 13, 14] (Below.refl _ wr) (by kernel_rfl) (by kernel_rfl) (by rfl) ?_ ?_
            · intro w4 hb4
              have hs4 := hsr.later hb4
              repeat (first | (refine text_skip (by rfl) ?_) | (refine text_look (by rfl) (by rfl) (fun K hK => ?_); go_big_quiet_op; refine hK _ ?_; clear hK K))
              refine text_act (by rfl) (by rfl) (fun K hK => ?_)
              go_wp2_with fail
              refine (lAttempt_ok _ _ _ _ _ _ hs4.ent hs hv hw).mono ?_
              rintro e w5 ⟨r5, rfl, hb5, hd5⟩
              have hb5' := below_step hb4 hb5
              have hab0 := AB.new hb5' (dep_since hd5 hb4.size)
              go_wp2_with fail
              refine hK _ _ (since_of hb5') ?_
              clear hK K
              repeat (first | (refine text_skip (by rfl) ?_) | (refine text_look (by rfl) (by rfl) (fun K hK => ?_); go_big_quiet_op; refine hK _ ?_; clear hK K))
              refine text_act (by rfl) (by rfl) (fun K hK => ?_)
              go_wp2_with fail
              refine hK _ _ (since_of (below_new hb5' _)) ?_
              clear hK K
              repeat (first | (refine text_skip (by rfl) ?_) | (refine text_look (by rfl) (by rfl) (fun K hK => ?_); go_big_quiet_op; refine hK _ ?_; clear hK K))
              refine text_act (by rfl) (by rfl) (fun K hK => ?_)
              go_wp2_with fail
              refine hK _ _ (since_of (below_new hb5' (.cells (entC r5 (attempted d2 p s now)) 31))) ?_
              clear hK K
              repeat (first | (refine text_skip (by rfl) ?_) | (refine text_look (by rfl) (by rfl) (fun K hK => ?_); go_big_quiet_op; refine hK _ ?_; clear hK K))
              refine text_nil ?_
              clear hc hf hr hlt1 hc2 hf2 hr2 hlt2
              generalize (w5.alloc (.cells (entC r5 (attempted d2 p s now)) 31)) = V at *
              generalize w5.heap.size = T at *
              have hs6 := hsr.later hab0.wb
              have hB6 := below_step hBr hab0.wb
              clear hb4 hs4 hb5 hb5' hd5
              obtain ⟨hc, hf, hr, hlt1⟩ := box_facts hs6.x
              obtain ⟨hc2, hf2, hr2, hlt2⟩ := box_facts hs6.p
              obtain ⟨hc3, hf3, hr3, hlt3⟩ := box_facts hab0.x
              go_wp2_with fail
              refine (cValid _ _ _ _ _ hs6.ent hs true hv).mono ?_
              rintro e v11 ⟨rfl, hb11⟩
              clear hc hf hr hlt1 hc2 hf2 hr2 hlt2 hc3 hf3 hr3 hlt3
              have hs11 := hs6.later hb11
              have hB11 := below_step hB6 hb11
              have ha11 := hab0.later hb11
              obtain ⟨hc, hf, hr, hlt1⟩ := box_facts hs11.x
              obtain ⟨hc2, hf2, hr2, hlt2⟩ := box_facts hs11.p
              obtain ⟨hc3, hf3, hr3, hlt3⟩ := box_facts ha11.x
              dsimp only
              go_wp2_with fail
              refine (cIsLocked _ _ _ _ _ hsm false hw).mono ?_
              rintro e v12 ⟨rfl, hb12⟩
              clear hc hf hr hlt1 hc2 hf2 hr2 hlt2 hc3 hf3 hr3 hlt3
              have hs12 := hs11.later hb12
              have hB12 := below_step hB11 hb12
              have ha12 := ha11.later hb12
              obtain ⟨hc, hf, hr, hlt1⟩ := box_facts hs12.x
              obtain ⟨hc2, hf2, hr2, hlt2⟩ := box_facts hs12.p
              obtain ⟨hc3, hf3, hr3, hlt3⟩ := box_facts ha12.x
              dsimp only
              go_wp2_with fail
              refine wp_region_since (Below.refl _ v12) (by kernel_rfl) (by kernel_rfl) ?_
              intro w7 hb7
              have q1' := ((bcell ha12.wb).1 b (o + k * 3 + 1) hbr).trans q1
              have hbr7 : b < v12.heap.size := Nat.lt_of_lt_of_le hbr ha12.wb.size
              repeat (first | (refine text_skip (by rfl) ?_) | (refine text_look (by rfl) (by rfl) (fun K hK => ?_); go_big_quiet_op; refine hK _ ?_; clear hK K))
              refine text_act (by rfl) (by rfl) (fun K hK => ?_)
              go_wp2_with fail
              refine (num_c _ _).mono ?_
              rintro e w' ⟨rfl, rfl⟩
              go_wp2_with fail
              refine hK _ _ (since_of hb7) ?_
              clear hK K
              repeat (first | (refine text_skip (by rfl) ?_) | (refine text_look (by rfl) (by rfl) (fun K hK => ?_); go_big_quiet_op; refine hK _ ?_; clear hK K))
              refine text_act (by rfl) (by rfl) (fun K hK => ?_)
              go_wp2_with fail
              refine (attempted28_c _ _ _ _ _ _ hsm).mono ?_
              rintro e w8 ⟨rfl, hb8⟩
              have hb8' := below_step hb7 hb8
              go_wp2_with fail
              refine hK _ _ (since_of hb8') ?_
              clear hK K
              repeat (first | (refine text_skip (by rfl) ?_) | (refine text_look (by rfl) (by rfl) (fun K hK => ?_); go_big_quiet_op; refine hK _ ?_; clear hK K))
              refine text_act (by rfl) (by rfl) (fun K hK => ?_)
              go_wp2_with fail
              refine (same_eq _ _ _ _ (ha12.later hb8').ent (EntAt.upd (hs12.later hb8').ent)).mono ?_
              rintro e w9 ⟨rfl, hb9⟩
              have hb9' := below_step hb8' hb9
              go_wp2_with fail
              refine hK _ _ (since_of hb9') ?_
              clear hK K
              repeat (first | (refine text_skip (by rfl) ?_) | (refine text_look (by rfl) (by rfl) (fun K hK => ?_); go_big_quiet_op; refine hK _ ?_; clear hK K))
              refine text_nil ?_
              clear hc hf hr hlt1 hc2 hf2 hr2 hlt2 hc3 hf3 hr3 hlt3
              have hs9 := hs12.later hb9'
              have hB9 := below_step hB12 hb9'
              have ha9 := ha12.later hb9'
              obtain ⟨hc, hf, hr, hlt1⟩ := box_facts hs9.x
              obtain ⟨hc2, hf2, hr2, hlt2⟩ := box_facts hs9.p
              obtain ⟨hc3, hf3, hr3, hlt3⟩ := box_facts ha9.x
              clear q1' hbr7
              have hcp : canPut w9 X 0 17 = true := canPut_of_cells hs9.x (by simp [go_sem])
              go_wp2_with fail
              go_roundw
              case rel => exact ⟨Go.WW.Below.putRow hB9 hX, k + 1, hkj, by go_num, _, _, hsr.take ha9⟩
              case measure => simp [intOf]; exact hms.out
            · intro w4 hb4
              change wpText _ _ _ _ _ [_, _, _, _, _, _, _, _, _, _, _, _, _, _, _] _ _
              have hs4 := hsr.later hb4
              repeat (first | (refine text_skip (by rfl) ?_) | (refine text_look (by rfl) (by rfl) (fun K hK => ?_); go_big_quiet_op; refine hK _ ?_; clear hK K))
              refine text_act (by rfl) (by rfl) (fun K hK => ?_)
              go_wp2_with fail
              refine hK _ _ (since_of (below_new hb4 _)) ?_
              clear hK K
              have hs4' := hs4.later (below_new (Below.refl _ w4) (.cells #[.slice none 0 0, .string ⟨#[]⟩, .slice none 0 0, .int .u32 0, .int .i64 0, .slice none 0 0, .string ⟨#[]⟩, .int .i64 0, .int .i64 0, .int .i64 0, .int .i64 0, .int .i64 0, .int .i64 0, .int .i64 0, .slice none 0 0, .slice none 0 0, .slice none 0 0] 31))
              repeat (first | (refine text_skip (by rfl) ?_) | (refine text_look (by rfl) (by rfl) (fun K hK => ?_); go_big_quiet_op; refine hK _ ?_; clear hK K))
              refine text_act (by rfl) (by rfl) (fun K hK => ?_)
              go_wp2_with fail
              refine (lAttempt_ok _ _ _ _ _ _ hs4'.ent hs hv hw).mono ?_
              rintro e w5 ⟨r5, rfl, hb5, hd5⟩
              have hb5' := below_step (below_new hb4 (.cells #[.slice none 0 0, .string ⟨#[]⟩, .slice none 0 0, .int .u32 0, .int .i64 0, .slice none 0 0, .string ⟨#[]⟩, .int .i64 0, .int .i64 0, .int .i64 0, .int .i64 0, .int .i64 0, .int .i64 0, .int .i64 0, .slice none 0 0, .slice none 0 0, .slice none 0 0] 31)) hb5
              have hab0 := AB.early hb4 (by rfl) hb5 hd5
              have hcp5 : canPut w5 w4.heap.size 0 17 = true := canPut_of_cells (still_blk hb5 (World.alloc_heap_new _ _)) (by simp)
              go_wp2_with fail
              refine hK _ _ (since_of hb5') ?_
              clear hK K
              repeat (first | (refine text_skip (by rfl) ?_) | (refine text_look (by rfl) (by rfl) (fun K hK => ?_); go_big_quiet_op; refine hK _ ?_; clear hK K))
              refine text_act (by rfl) (by rfl) (fun K hK => ?_)
              go_wp2_with fail
              refine hK _ _ (since_of hab0.wb) ?_
              clear hK K
              repeat (first | (refine text_skip (by rfl) ?_) | (refine text_look (by rfl) (by rfl) (fun K hK => ?_); go_big_quiet_op; refine hK _ ?_; clear hK K))
              refine text_nil ?_
              clear hc hf hr hlt1 hc2 hf2 hr2 hlt2
              clear hcp5
              generalize (putRow w5 w4.heap.size 0 (entC r5 (attempted d2 p s now))) = V at *
              generalize w4.heap.size = T at *
              have hs6 := hsr.later hab0.wb
              have hB6 := below_step hBr hab0.wb
              clear hb4 hs4 hb5 hb5' hd5 hs4'
              obtain ⟨hc, hf, hr, hlt1⟩ := box_facts hs6.x
              obtain ⟨hc2, hf2, hr2, hlt2⟩ := box_facts hs6.p
              obtain ⟨hc3, hf3, hr3, hlt3⟩ := box_facts hab0.x
              go_wp2_with fail
              refine (cValid _ _ _ _ _ hs6.ent hs true hv).mono ?_
              rintro e v11 ⟨rfl, hb11⟩
              clear hc hf hr hlt1 hc2 hf2 hr2 hlt2 hc3 hf3 hr3 hlt3
              have hs11 := hs6.later hb11
              have hB11 := below_step hB6 hb11
              have ha11 := hab0.later hb11
              obtain ⟨hc, hf, hr, hlt1⟩ := box_facts hs11.x
              obtain ⟨hc2, hf2, hr2, hlt2⟩ := box_facts hs11.p
              obtain ⟨hc3, hf3, hr3, hlt3⟩ := box_facts ha11.x
              dsimp only
              go_wp2_with fail
              refine (cIsLocked _ _ _ _ _ hsm false hw).mono ?_
              rintro e v12 ⟨rfl, hb12⟩
              clear hc hf hr hlt1 hc2 hf2 hr2 hlt2 hc3 hf3 hr3 hlt3
              have hs12 := hs11.later hb12
              have hB12 := below_step hB11 hb12
              have ha12 := ha11.later hb12
              obtain ⟨hc, hf, hr, hlt1⟩ := box_facts hs12.x
              obtain ⟨hc2, hf2, hr2, hlt2⟩ := box_facts hs12.p
              obtain ⟨hc3, hf3, hr3, hlt3⟩ := box_facts ha12.x
              dsimp only
              go_wp2_with fail
              refine wp_region_since (Below.refl _ v12) (by kernel_rfl) (by kernel_rfl) ?_
              intro w7 hb7
              have q1' := ((bcell ha12.wb).1 b (o + k * 3 + 1) hbr).trans q1
              have hbr7 : b < v12.heap.size := Nat.lt_of_lt_of_le hbr ha12.wb.size
              repeat (first | (refine text_skip (by rfl) ?_) | (refine text_look (by rfl) (by rfl) (fun K hK => ?_); go_big_quiet_op; refine hK _ ?_; clear hK K))
              refine text_act (by rfl) (by rfl) (fun K hK => ?_)
              go_wp2_with fail
              refine (num_c _ _).mono ?_
              rintro e w' ⟨rfl, rfl⟩
              go_wp2_with fail
              refine hK _ _ (since_of hb7) ?_
              clear hK K
              repeat (first | (refine text_skip (by rfl) ?_) | (refine text_look (by rfl) (by rfl) (fun K hK => ?_); go_big_quiet_op; refine hK _ ?_; clear hK K))
              refine text_act (by rfl) (by rfl) (fun K hK => ?_)
              go_wp2_with fail
              refine (attempted28_c _ _ _ _ _ _ hsm).mono ?_
              rintro e w8 ⟨rfl, hb8⟩
              have hb8' := below_step hb7 hb8
              go_wp2_with fail
              refine hK _ _ (since_of hb8') ?_
              clear hK K
              repeat (first | (refine text_skip (by rfl) ?_) | (refine text_look (by rfl) (by rfl) (fun K hK => ?_); go_big_quiet_op; refine hK _ ?_; clear hK K))
              refine text_act (by rfl) (by rfl) (fun K hK => ?_)
              go_wp2_with fail
              refine (same_eq _ _ _ _ (ha12.later hb8').ent (EntAt.upd (hs12.later hb8').ent)).mono ?_
              rintro e w9 ⟨rfl, hb9⟩
              have hb9' := below_step hb8' hb9
              go_wp2_with fail
              refine hK _ _ (since_of hb9') ?_
              clear hK K
              repeat (first | (refine text_skip (by rfl) ?_) | (refine text_look (by rfl) (by rfl) (fun K hK => ?_); go_big_quiet_op; refine hK _ ?_; clear hK K))
              refine text_nil ?_
              clear hc hf hr hlt1 hc2 hf2 hr2 hlt2 hc3 hf3 hr3 hlt3
              have hs9 := hs12.later hb9'
              have hB9 := below_step hB12 hb9'
              have ha9 := ha12.later hb9'
              obtain ⟨hc, hf, hr, hlt1⟩ := box_facts hs9.x
              obtain ⟨hc2, hf2, hr2, hlt2⟩ := box_facts hs9.p
              obtain ⟨hc3, hf3, hr3, hlt3⟩ := box_facts ha9.x
              clear q1' hbr7
              have hcp : canPut w9 X 0 17 = true := canPut_of_cells hs9.x (by simp [go_sem])
              go_wp2_with fail
              go_roundw
              case rel => exact ⟨Go.WW.Below.putRow hB9 hX, k + 1, hkj, by go_num, _, _, hsr.take ha9⟩
              case measure => simp [intOf]; exact hms.out
          · have hx := hw
            go_wp2_with fail
            refine wp_region_since2 12 8 [0, 1, 2, 3, 4, 5, 6, 7, 12, 8, 9, 10, 11, 13, 14] (Below.refl _ wr) (by kernel_rfl) (by kernel_rfl) (by rfl) ?_ ?_
            · intro w4 hb4
              have hs4 := hsr.later hb4
              repeat (first | (refine text_skip (by rfl) ?_) | (refine text_look (by rfl) (by rfl) (fun K hK => ?_); go_big_quiet_op; refine hK _ ?_; clear hK K))
              refine text_act (by rfl) (by rfl) (fun K hK => ?_)
              go_wp2_with fail
              refine (lAttempt_locked _ _ _ _ _ _ hs4.ent hs hv hw).mono ?_
              rintro e w5 ⟨r5, rfl, hb5, hd5⟩
              have hb5' := below_step hb4 hb5
              have hab0 := AB.new hb5' (dep_since hd5 hb4.size)
              go_wp2_with fail
              refine hK _ _ (since_of hb5') ?_
              clear hK K
              repeat (first | (refine text_skip (by rfl) ?_) | (refine text_look (by rfl) (by rfl) (fun K hK => ?_); go_big_quiet_op; refine hK _ ?_; clear hK K))
              refine text_act (by rfl) (by rfl) (fun K hK => ?_)
              go_wp2_with fail
              refine hK _ _ (since_of (below_new hb5' _)) ?_
              clear hK K
              repeat (first | (refine text_skip (by rfl) ?_) | (refine text_look (by rfl) (by rfl) (fun K hK => ?_); go_big_quiet_op; refine hK _ ?_; clear hK K))
              refine text_act (by rfl) (by rfl) (fun K hK => ?_)
              go_wp2_with fail
              refine hK _ _ (since_of (below_new hb5' (.cells (entC r5 zeroD) 31))) ?_
              clear hK K
              repeat (first | (refine text_skip (by rfl) ?_) | (refine text_look (by rfl) (by rfl) (fun K hK => ?_); go_big_quiet_op; refine hK _ ?_; clear hK K))
              refine text_nil ?_
              clear hc hf hr hlt1 hc2 hf2 hr2 hlt2
              generalize (w5.alloc (.cells (entC r5 zeroD) 31)) = V at *
              generalize w5.heap.size = T at *
              have hs6 := hsr.later hab0.wb
              have hB6 := below_step hBr hab0.wb
              clear hb4 hs4 hb5 hb5' hd5
              obtain ⟨hc, hf, hr, hlt1⟩ := box_facts hs6.x
              obtain ⟨hc2, hf2, hr2, hlt2⟩ := box_facts hs6.p
              obtain ⟨hc3, hf3, hr3, hlt3⟩ := box_facts hab0.x
              go_wp2_with fail
              refine (cValid _ _ _ _ _ hs6.ent hs true hv).mono ?_
              rintro e v11 ⟨rfl, hb11⟩
              clear hc hf hr hlt1 hc2 hf2 hr2 hlt2 hc3 hf3 hr3 hlt3
              have hs11 := hs6.later hb11
              have hB11 := below_step hB6 hb11
              have ha11 := hab0.later hb11
              obtain ⟨hc, hf, hr, hlt1⟩ := box_facts hs11.x
              obtain ⟨hc2, hf2, hr2, hlt2⟩ := box_facts hs11.p
              obtain ⟨hc3, hf3, hr3, hlt3⟩ := box_facts ha11.x
              dsimp only
              go_wp2_with fail
              refine (cIsLocked _ _ _ _ _ hsm true hw).mono ?_
              rintro e v12 ⟨rfl, hb12⟩
              clear hc hf hr hlt1 hc2 hf2 hr2 hlt2 hc3 hf3 hr3 hlt3
              have hs12 := hs11.later hb12
              have hB12 := below_step hB11 hb12
              have ha12 := ha11.later hb12
              obtain ⟨hc, hf, hr, hlt1⟩ := box_facts hs12.x
              obtain ⟨hc2, hf2, hr2, hlt2⟩ := box_facts hs12.p
              obtain ⟨hc3, hf3, hr3, hlt3⟩ := box_facts ha12.x
              dsimp only
              go_wp2_with fail
              refine (same_eq _ _ _ _ ha12.ent (zeroE_at _)).mono ?_
              rintro e v13 ⟨rfl, hb13⟩
              clear hc hf hr hlt1 hc2 hf2 hr2 hlt2 hc3 hf3 hr3 hlt3
              have hs13 := hs12.later hb13
              have hB13 := below_step hB12 hb13
              have ha13 := ha12.later hb13
              obtain ⟨hc, hf, hr, hlt1⟩ := box_facts hs13.x
              obtain ⟨hc2, hf2, hr2, hlt2⟩ := box_facts hs13.p
              obtain ⟨hc3, hf3, hr3, hlt3⟩ := box_facts ha13.x
              dsimp only
              go_wp2_with fail
              go_roundw
              case rel => exact ⟨hB13, k + 1, hkj, by go_num, _, _, hs13⟩
              case measure => simp [intOf]; exact hms.out
            · intro w4 hb4
              change wpText _ _ _ _ _ [_, _, _, _, _, _, _, _, _, _, _, _, _, _, _] _ _
              have hs4 := hsr.later hb4
              repeat (first | (refine text_skip (by rfl) ?_) | (refine text_look (by rfl) (by rfl) (fun K hK => ?_); go_big_quiet_op; refine hK _ ?_; clear hK K))
              refine text_act (by rfl) (by rfl) (fun K hK => ?_)
              go_wp2_with fail
              refine hK _ _ (since_of (below_new hb4 _)) ?_
              clear hK K
              have hs4' := hs4.later (below_new (Below.refl _ w4) (.cells #[.slice none 0 0, .string ⟨#[]⟩, .slice none 0 0, .int .u32 0, .int .i64 0, .slice none 0 0, .string ⟨#[]⟩, .int .i64 0, .int .i64 0, .int .i64 0, .int .i64 0, .int .i64 0, .int .i64 0, .int .i64 0, .slice none 0 0, .slice none 0 0, .slice none 0 0] 31))
              repeat (first | (refine text_skip (by rfl) ?_) | (refine text_look (by rfl) (by rfl) (fun K hK => ?_); go_big_quiet_op; refine hK _ ?_; clear hK K))
              refine text_act (by rfl) (by rfl) (fun K hK => ?_)
              go_wp2_with fail
              refine (lAttempt_locked _ _ _ _ _ _ hs4'.ent hs hv hw).mono ?_
              rintro e w5 ⟨r5, rfl, hb5, hd5⟩
              have hb5' := below_step (below_new hb4 (.cells #[.slice none 0 0, .string ⟨#[]⟩, .slice none 0 0, .int .u32 0, .int .i64 0, .slice none 0 0, .string ⟨#[]⟩, .int .i64 0, .int .i64 0, .int .i64 0, .int .i64 0, .int .i64 0, .int .i64 0, .int .i64 0, .slice none 0 0, .slice none 0 0, .slice none 0 0] 31)) hb5
              have hab0 := AB.early hb4 (by rfl) hb5 hd5
              have hcp5 : canPut w5 w4.heap.size 0 17 = true := canPut_of_cells (still_blk hb5 (World.alloc_heap_new _ _)) (by simp)
              go_wp2_with fail
              refine hK _ _ (since_of hb5') ?_
              clear hK K
              repeat (first | (refine text_skip (by rfl) ?_) | (refine text_look (by rfl) (by rfl) (fun K hK => ?_); go_big_quiet_op; refine hK _ ?_; clear hK K))
              refine text_act (by rfl) (by rfl) (fun K hK => ?_)
              go_wp2_with fail
              refine hK _ _ (since_of hab0.wb) ?_
              clear hK K
              repeat (first | (refine text_skip (by rfl) ?_) | (refine text_look (by rfl) (by rfl) (fun K hK => ?_); go_big_quiet_op; refine hK _ ?_; clear hK K))
              refine text_nil ?_
              clear hc hf hr hlt1 hc2 hf2 hr2 hlt2
              clear hcp5
              generalize (putRow w5 w4.heap.size 0 (entC r5 zeroD)) = V at *
              generalize w4.heap.size = T at *
              have hs6 := hsr.later hab0.wb
              have hB6 := below_step hBr hab0.wb
              clear hb4 hs4 hb5 hb5' hd5 hs4'
              obtain ⟨hc, hf, hr, hlt1⟩ := box_facts hs6.x
              obtain ⟨hc2, hf2, hr2, hlt2⟩ := box_facts hs6.p
              obtain ⟨hc3, hf3, hr3, hlt3⟩ := box_facts hab0.x
              go_wp2_with fail
              refine (cValid _ _ _ _ _ hs6.ent hs true hv).mono ?_
              rintro e v11 ⟨rfl, hb11⟩
              clear hc hf hr hlt1 hc2 hf2 hr2 hlt2 hc3 hf3 hr3 hlt3
              have hs11 := hs6.later hb11
              have hB11 := below_step hB6 hb11
              have ha11 := hab0.later hb11
              obtain ⟨hc, hf, hr, hlt1⟩ := box_facts hs11.x
              obtain ⟨hc2, hf2, hr2, hlt2⟩ := box_facts hs11.p
              obtain ⟨hc3, hf3, hr3, hlt3⟩ := box_facts ha11.x
              dsimp only
              go_wp2_with fail
              refine (cIsLocked _ _ _ _ _ hsm true hw).mono ?_
              rintro e v12 ⟨rfl, hb12⟩
              clear hc hf hr hlt1 hc2 hf2 hr2 hlt2 hc3 hf3 hr3 hlt3
              have hs12 := hs11.later hb12
              have hB12 := below_step hB11 hb12
              have ha12 := ha11.later hb12
              obtain ⟨hc, hf, hr, hlt1⟩ := box_facts hs12.x
              obtain ⟨hc2, hf2, hr2, hlt2⟩ := box_facts hs12.p
              obtain ⟨hc3, hf3, hr3, hlt3⟩ := box_facts ha12.x
              dsimp only
              go_wp2_with fail
              refine (same_eq _ _ _ _ ha12.ent (zeroE_at _)).mono ?_
              rintro e v13 ⟨rfl, hb13⟩
              clear hc hf hr hlt1 hc2 hf2 hr2 hlt2 hc3 hf3 hr3 hlt3
              have hs13 := hs12.later hb13
              have hB13 := below_step hB12 hb13
              have ha13 := ha12.later hb13
              obtain ⟨hc, hf, hr, hlt1⟩ := box_facts hs13.x
              obtain ⟨hc2, hf2, hr2, hlt2⟩ := box_facts hs13.p
              obtain ⟨hc3, hf3, hr3, hlt3⟩ := box_facts ha13.x
              dsimp only
              go_wp2_with fail
              go_roundw
              case rel => exact ⟨hB13, k + 1, hkj, by go_num, _, _, hs13⟩
              case measure => simp [intOf]; exact hms.out
      · cases hv : entryOk d2
        · have hx := hv
          go_wp2_with fail
          refine (lUnlock_no _ _ _ hsr.ent hv).mono ?_
          rintro e v3 ⟨r3, rfl, hb3, hd3⟩
          clear hc hf hr hlt1 hc2 hf2 hr2 hlt2
          have hab0 := AB.new hb3 hd3
          have hs6 := hsr.later hab0.wb
          have hB6 := below_step hBr hab0.wb
          obtain ⟨hc, hf, hr, hlt1⟩ := box_facts hs6.x
          obtain ⟨hc2, hf2, hr2, hlt2⟩ := box_facts hs6.p
          obtain ⟨hc3, hf3, hr3, hlt3⟩ := box_facts hab0.x
          dsimp only
          go_wp2_with fail
          clear hb3 hd3
          generalize (v3.alloc (.cells (entC r3 zeroD) 31)) = V at *
          generalize v3.heap.size = T at *
          refine (valid24_is _ _ _ hs6.ent false hv).mono ?_
          rintro e v11 ⟨rfl, hb11⟩
          clear hc hf hr hlt1 hc2 hf2 hr2 hlt2 hc3 hf3 hr3 hlt3
          have hs11 := hs6.later hb11
          have hB11 := below_step hB6 hb11
          have ha11 := hab0.later hb11
          obtain ⟨hc, hf, hr, hlt1⟩ := box_facts hs11.x
          obtain ⟨hc2, hf2, hr2, hlt2⟩ := box_facts hs11.p
          obtain ⟨hc3, hf3, hr3, hlt3⟩ := box_facts ha11.x
          dsimp only
          go_wp2_with (go_at_call 12; refine (num_c _ _).mono ?_; rintro e w' ⟨rfl, rfl⟩)
          refine (same_eq _ _ _ _ ha11.ent (zeroE_at _)).mono ?_
          rintro e v12 ⟨rfl, hb12⟩
          clear hc hf hr hlt1 hc2 hf2 hr2 hlt2 hc3 hf3 hr3 hlt3
          have hs12 := hs11.later hb12
          have hB12 := below_step hB11 hb12
          have ha12 := ha11.later hb12
          obtain ⟨hc, hf, hr, hlt1⟩ := box_facts hs12.x
          obtain ⟨hc2, hf2, hr2, hlt2⟩ := box_facts hs12.p
          obtain ⟨hc3, hf3, hr3, hlt3⟩ := box_facts ha12.x
          dsimp only
          go_wp2_with fail
          refine (known_c _).mono ?_
          rintro e v13 ⟨rfl, hb13⟩
          clear hc hf hr hlt1 hc2 hf2 hr2 hlt2 hc3 hf3 hr3 hlt3
          have hs13 := hs12.later hb13
          have hB13 := below_step hB12 hb13
          have ha13 := ha12.later hb13
          obtain ⟨hc, hf, hr, hlt1⟩ := box_facts hs13.x
          obtain ⟨hc2, hf2, hr2, hlt2⟩ := box_facts hs13.p
          obtain ⟨hc3, hf3, hr3, hlt3⟩ := box_facts ha13.x
          dsimp only
          go_wp2_with fail
          go_ret
          exact ⟨rfl, hB13⟩
        · have hx := hv
          go_wp2_with fail
          refine (lUnlock_yes _ _ _ hsr.ent hv).mono ?_
          rintro e v3 ⟨r3, rfl, hb3, hd3⟩
          clear hc hf hr hlt1 hc2 hf2 hr2 hlt2
          have hab0 := AB.new hb3 hd3
          have hs6 := hsr.later hab0.wb
          have hB6 := below_step hBr hab0.wb
          obtain ⟨hc, hf, hr, hlt1⟩ := box_facts hs6.x
          obtain ⟨hc2, hf2, hr2, hlt2⟩ := box_facts hs6.p
          obtain ⟨hc3, hf3, hr3, hlt3⟩ := box_facts hab0.x
          dsimp only
          go_wp2_with fail
          clear hb3 hd3
          generalize (v3.alloc (.cells (entC r3 { d2 with fails := 0 }) 31)) = V at *
          generalize v3.heap.size = T at *
          refine (valid24_is _ _ _ hs6.ent true hv).mono ?_
          rintro e v11 ⟨rfl, hb11⟩
          clear hc hf hr hlt1 hc2 hf2 hr2 hlt2 hc3 hf3 hr3 hlt3
          have hs11 := hs6.later hb11
          have hB11 := below_step hB6 hb11
          have ha11 := hab0.later hb11
          obtain ⟨hc, hf, hr, hlt1⟩ := box_facts hs11.x
          obtain ⟨hc2, hf2, hr2, hlt2⟩ := box_facts hs11.p
          obtain ⟨hc3, hf3, hr3, hlt3⟩ := box_facts ha11.x
          dsimp only
          go_wp2_with (go_at_call 12; refine (num_c _ _).mono ?_; rintro e w' ⟨rfl, rfl⟩)
          have hnw := below_new (Below.refl _ v11) (.cells (entC r2 { d2 with fails := 0 }) 31)
          refine (same_eq _ _ _ _ (ha11.ent.later hnw) ((EntAt.upd hs11.ent).later hnw)).mono ?_
          rintro e v20 ⟨rfl, hb20⟩
          have hb20' := below_step hnw hb20
          clear hc hf hr hlt1 hc2 hf2 hr2 hlt2 hc3 hf3 hr3 hlt3
          have hs20 := hs11.later hb20'
          have hB20 := below_step hB11 hb20'
          have ha20 := ha11.later hb20'
          obtain ⟨hc, hf, hr, hlt1⟩ := box_facts hs20.x
          obtain ⟨hc2, hf2, hr2, hlt2⟩ := box_facts hs20.p
          obtain ⟨hc3, hf3, hr3, hlt3⟩ := box_facts ha20.x
          have hcp : canPut v20 X 0 17 = true := canPut_of_cells hs20.x (by simp [go_sem])
          dsimp only
          go_wp2_with fail
          go_roundw
          case rel => exact ⟨Go.WW.Below.putRow hB20 hX, k + 1, hkj, by go_num, _, _, hsr.take ha20⟩
          case measure => simp [intOf]; exact hms.out
    · go_wp2_with fail
      refine (known_c _).mono ?_
      rintro e v9 ⟨rfl, hy9⟩
      dsimp only
      go_wp2_with fail
      go_ret
      exact ⟨rfl, below_step hBr hy9⟩
theorem attempts_c (r : ERaw) (d : Entry) (p : Policy) (a : Option Addr) (cap : Nat) (l : List Trial) (w : World) (he : EntAt w r d) (hs : p.name.size ≤ lim) (ht : TriesAt w a l) : Calls Tryz.prog 4 #[.agg (entC r d), .agg (polC p), .slice a l.length cap] w fun e w' => e = .returned (.bool true) ∧ Below w.heap.size w w' := by
  by_cases h30 : (30 : Int) < (l.length : Int)
  · exact attempts_long r d p a cap l w he h30
  · rcases RowsAt.addr ht with h0 | ⟨b, o, rfl, hb⟩
    · exact attempts_nil r d p a cap l w he h0
    · exact attempts_go r d p b o cap l w he hs ht hb (by omega)
end Go.Proofs.YtknppbjbnpddaaaGreatDoor
