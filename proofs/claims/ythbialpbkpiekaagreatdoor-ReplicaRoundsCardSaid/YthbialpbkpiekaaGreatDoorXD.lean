/- strings.Compare, laid by the shelf's own program. -/
import Derived.Test.YthbialpbkpiekaaGreatDoorProg
import Derived.Shelf.Small.Strs
import Derived.Test.YthbialpbkpiekaaGreatDoorXC
import Derived.Test.YthbialpbkpiekaaGreatDoorXB
namespace Go.Proofs
open Go.Shelf
def Tryz.lays106_ren : Go.Shelf.Ren := ⟨fun | 106 => 132 | 213 => 169 | 265 => 212 | n => n, fun | 9 => 9 | 3 => 3 | n => n, fun | n => n⟩
theorem Tryz.lays106 : Go.Proofs.Lays.n106 Tryz.prog Tryz.lays106_ren := {
  mixed := by kernel_rfl
  f106 := Tryz.func132.trans (congrArg some (by kernel_rfl))
  f213 := Tryz.func169.trans (congrArg some (by kernel_rfl))
  f265 := Tryz.func212.trans (congrArg some (by kernel_rfl))
  t3 := Tryz.underlying3
  a3 := Tryz.isAgg3
  z3 := Tryz.sizeOf3
  v3 := Tryz.zeroValue3
  t9 := Tryz.underlying9
  a9 := Tryz.isAgg9
  z9 := Tryz.sizeOf9
  v9 := Tryz.zeroValue9 }
open Go.RowKit in
theorem Tryz.strings_Compare (a b : ByteArray) (w : World) :
    Calls Tryz.prog 132 #[.string a, .string b] w fun e w' => e = .returned (.int .i64 (Lib.compareBytes a.data.toList b.data.toList)) ∧ w' = w := Any.strings_Compare Tryz.lays106 a b w
end Go.Proofs
/- The order of policies; rows of policies in a block that is written. -/
namespace Go.WW
open Go.RowKit
theorem cmpB_eq : ∀ a b : List UInt8, Lib.compareBytes a b = if Op.bytesLess a b then -1 else if Op.bytesLess b a then 1 else 0
  | [], [] => by simp [Lib.compareBytes, Op.bytesLess]
  | [], _ :: _ => by simp [Lib.compareBytes, Op.bytesLess]
  | _ :: _, [] => by simp [Lib.compareBytes, Op.bytesLess]
  | a :: l, b :: m => by
    have ih := cmpB_eq l m
    unfold Lib.compareBytes Op.bytesLess
    by_cases h1 : a < b
    · simp [h1]
    · by_cases h2 : b < a
      · have hne : ¬ a = b := fun e => by subst e; exact h1 h2
        simp [h1, h2, hne]
      · have e : a = b := by
          apply UInt8.le_antisymm
          · exact UInt8.not_lt.1 h2
          · exact UInt8.not_lt.1 h1
        subst e
        simp [h1, ih]
theorem cmpB_T (a b : ByteArray) : Lib.compareBytes a.data.toList b.data.toList = cmpT a b := by
  unfold cmpT; rw [ByteArray.toList_eq, ByteArray.toList_eq]; exact cmpB_eq _ _
/-- Rows of policies. -/
def RowsP (w : World) (a : Option Addr) (X : List Policy) : Prop := RowsAt w 10 a X.length fun i cs => ∃ x, X[i]? = some x ∧ cs = polC x
theorem RowsP.later {w w' : World} (h : Below w.heap.size w w') {a : Option Addr} {X : List Policy} (x : RowsP w a X) : RowsP w' a X := RowsAt.later h (fun _ _ y => y) x
theorem RowsP.at {w : World} {b o : Nat} {X : List Policy} (x : RowsP w (some ⟨b, o, none⟩) X) (i : Nat) (h : i < X.length) : row? w b (o + i * 10) 10 = some (polC X[i]) := by
  obtain ⟨b', o', cs, ha, hr, y, hy, rfl⟩ := x.2 i h
  cases ha
  rw [List.getElem?_eq_getElem h] at hy
  cases hy; exact hr
theorem RowsP.of_own {w : World} {base : Nat} {e : TypeId} {s : Sl} {X : List Policy} (h : Own w base e 10 s (X.map polC)) (hn : X.length ≤ lim) : RowsP w s.a X :=
  RowsAt.of_own h (by simp) hn (fun i hi => ⟨X[i]'(by simpa using hi), List.getElem?_eq_getElem (by simpa using hi), by simp⟩)
theorem RowsP.put {w : World} {g : Nat} {Y : List Policy} (h : RowsP w (some ⟨g, 0, none⟩) Y) (ho : Open w g (Y.length * 10)) {i : Nat} (hi : i < Y.length) (x : Policy) : RowsP (putRow w g (0 + i * 10) (polC x)) (some ⟨g, 0, none⟩) (Y.set i x) := by
  refine ⟨by simpa using h.1, fun j hj => ?_⟩
  have hj' : j < Y.length := by simpa using hj
  have hs := polC_size x
  by_cases e : j = i
  · subst e
    exact ⟨g, 0, _, rfl, row_put ho (polC_size x) (by omega), x, by simp [hj'], rfl⟩
  · obtain ⟨b, o, cs, ha, hr, y, hy, rfl⟩ := h.2 j hj'
    cases ha
    refine ⟨g, 0, _, rfl, (row_set ho (by omega) (by omega)).trans hr, y, by rw [List.getElem?_set_ne (by omega)]; exact hy, rfl⟩
theorem RowsP.block {w x : World} {g : Nat} {Y : List Policy} (h : RowsP w (some ⟨g, 0, none⟩) Y) (e : x.heap[g]? = w.heap[g]?) : RowsP x (some ⟨g, 0, none⟩) Y := by
  refine ⟨h.1, fun i hi => ?_⟩
  obtain ⟨b, o, cs, ha, hr, hy⟩ := h.2 i hi
  cases ha
  exact ⟨g, 0, cs, rfl, (row?_of_block e _ _).trans hr, hy⟩
theorem Own.openP {w : World} {base : Nat} {e : TypeId} {s : Sl} {rows : List (Array Value)} {g : Nat} (h : Own w base e 10 s rows) (hg : s.a = some ⟨g, 0, none⟩) : Open w g (rows.length * 10) := by
  rcases h.own.2 with ⟨hv, _⟩ | ⟨g', cap, cur, hv, _, hh, hle, _, hsz, _⟩
  · rw [hg] at hv; cases hv
  · have ha : s.a = some ⟨g', 0, none⟩ := by injection hv
    rw [hg] at ha; cases ha
    exact ⟨cur, e, hh, by rw [hsz]; exact Nat.mul_le_mul_right _ hle⟩
abbrev nameP (q : Policy) : ByteArray := q.name
end Go.WW
namespace Go.Proofs.YthbialpbkpiekaaGreatDoor
open Go.RowKit Go.WW
theorem elemPol27 : ElemOk Tryz.prog 148 46 10 88 := ElemOk.of Tryz.underlying148 (by kernel_rfl)
theorem policyLess_c (p q : Policy) (w : World) : Calls Tryz.prog 131 #[.agg (polC p), .agg (polC q)] w fun e w' => e = .returned (.int .i64 (cmpT p.name q.name)) ∧ Below w.heap.size w w' := by
  have hB : Below w.heap.size w ((w.alloc (.cells (polC p) 46)).alloc (.cells (polC q) 46)) := ((Below.refl _ _).alloc (Nat.le_refl _) _).alloc (by simp) _
  go_enter Tryz.func131, Tryz.ntmps131
  go_wp2_with fail
  refine (Tryz.strings_Compare _ _ _).mono ?_
  rintro e w' ⟨rfl, rfl⟩
  go_wp2_with fail
  go_ret
  exact ⟨by rw [cmpB_T]; rfl, hB⟩
end Go.Proofs.YthbialpbkpiekaaGreatDoor
/- The sort of few policies: slices.insertionSortCmpFunc. -/
namespace Go.WW
open Go.RowKit
/-- The type of a block's cells. -/
def TypAt (w : World) (g : Nat) (T : TypeId) : Prop := ∃ c, w.heap[g]? = some (.cells c T)
theorem TypAt.put {w : World} {g n o : Nat} {T : TypeId} {cs : Array Value} (h : TypAt w g T) (ho : Open w g n) (hc : o + cs.size ≤ n) : TypAt (putRow w g o cs) g T := by
  obtain ⟨c, hc1⟩ := h
  obtain ⟨c', t', hc2, hn⟩ := ho
  rw [hc1] at hc2
  cases hc2
  exact ⟨_, putRow_blk hc1 (by omega)⟩
/-- What the sort needs and keeps: the rows Y, in a block g that may be written, and nothing but g is changed. -/
structure SortP (g : Nat) (X Y : List Policy) (w0 w : World) : Prop where
  perm : Y.Perm X
  but : But (· = g) w0 w
  rows : RowsP w (some ⟨g, 0, none⟩) Y
  opn : Open w g (Y.length * 10)
  typ : TypAt w g 46
theorem SortP.step {g : Nat} {X Y : List Policy} {w0 w w' : World} (h : SortP g X Y w0 w) (hb : Below w.heap.size w w') : SortP g X Y w0 w' := by
  obtain ⟨c, t, hc, _⟩ := h.opn
  have e := hb.block g (Array.getElem?_eq_some_iff.1 hc).1
  exact ⟨h.perm, h.but.trans (But.of_below hb), h.rows.later hb, h.opn.at e, by obtain ⟨c, hc⟩ := h.typ; exact ⟨c, e.trans hc⟩⟩
theorem SortP.drew {g : Nat} {X Y : List Policy} {w0 w : World} (h : SortP g X Y w0 w) : SortP g X Y w0 w.drew := h.step (Below.refl _ _).drew
theorem SortP.swap {g : Nat} {X Y : List Policy} {w0 w : World} (h : SortP g X Y w0 w) {j : Nat} (h1 : j + 1 < Y.length) : SortP g X ((Y.set (j + 1) Y[j]).set j Y[j + 1]) w0 (putRow (putRow w g ((j + 1) * 10) (polC Y[j])) g (j * 10) (polC Y[j + 1])) := by
  have r1 := h.rows.put h.opn h1 Y[j]
  have s1 := polC_size Y[j]
  have s2 := polC_size Y[j + 1]
  have o1 : Open (putRow w g (0 + (j + 1) * 10) (polC Y[j])) g (Y.length * 10) := h.opn.put (by omega)
  have r2 := r1.put (by simpa using o1) (i := j) (by simp; omega) Y[j + 1]
  rw [Nat.zero_add] at r2 o1
  rw [Nat.zero_add] at r2
  exact ⟨(swap_perm h1).trans h.perm, (h.but.put rfl).put rfl, r2, by simpa using o1.put (by omega), (h.typ.put h.opn (by omega)).put o1 (by omega)⟩
end Go.WW
namespace Go.Proofs.YthbialpbkpiekaaGreatDoor
open Go.RowKit Go.WW
set_option maxRecDepth 100000 in
set_option maxHeartbeats 2000000 in
theorem insertionP_c (g cap : Nat) (X : List Policy) (w : World) (hn : X.length ≤ 12) (hX : SortP g X X w w) (hD : (X.map nameP).Nodup) :
    Calls Tryz.prog 252 #[.slice (some ⟨g, 0, none⟩) X.length cap, .int .i64 0, .int .i64 X.length, .func (.func 131) #[] #[]] w fun e w' => e = .returned (.tuple #[]) ∧ ∃ Y, SortP g X Y w w' ∧ Sorted cmpT nameP Y := by
  have HD := Lib.hid hD
  clear hD
  go_enter Tryz.func252, Tryz.ntmps252
  go_wp2_with fail
  go_loopw [8] (fun iv wr => ∃ (i : Nat) (Y : List Policy), 1 ≤ i ∧ i ≤ 13 ∧ iv = .int .i64 i ∧ Hid (SortP g X Y w wr) ∧ Hid (Sorted cmpT nameP (Y.take i))) (fun iv _ => 13 - (intOf iv).toNat)
  case atStart => exact ⟨1, X, Nat.le_refl _, by omega, rfl, hX, by cases X <;> simp [Hid, Sorted]⟩
  case round =>
    obtain ⟨i, Y, h1, h13, rfl, hS, hso⟩ := hrel
    have HL := Lib.hid (hS.out.perm.length_eq)
    by_cases hlt : i < X.length
    · have hki : (i : Int) < (X.length : Int) := by omega
      have HM := Lib.hid (mid_start hso.out (by rw [HL.out]; exact hlt))
      go_wp2_with fail
      clear hso HL
      go_loopw [9] (fun jv wr => ∃ (j : Nat) (Y : List Policy), j ≤ i ∧ jv = .int .i64 j ∧ Hid (SortP g X Y w wr) ∧ Hid (Mid cmpT nameP Y i j)) (fun jv _ => (intOf jv).toNat)
      case atStart => exact ⟨i, Y, Nat.le_refl _, rfl, hS, HM⟩
      case round =>
        clear hS HM
        obtain ⟨j, Y, hj, rfl, hS, hM⟩ := hrel
        have HL := Lib.hid (hS.out.perm.length_eq)
        cases j with
        | zero =>
          have HZ := Lib.hid (mid_zero hM.out)
          go_wp2_with fail
          refine wp_region_later (Below.refl _ wr) (by kernel_rfl) (by kernel_rfl) ?_
          repeat (go_big_quiet_step (fail))
          refine wpQuiet_nil ?_
          intro w2 hb2
          have HS2 := Lib.hid (hS.out.step hb2)
          go_wp2_with fail
          go_roundw
          case rel => exact ⟨i + 1, Y, by omega, by omega, by go_num, HS2.out, HZ.out⟩
          case measure => simp [intOf]; omega
        | succ j =>
          have hjl : j + 1 < Y.length := by rw [HL.out]; omega
          have hji : (0 : Int) < ((j + 1 : Nat) : Int) := by omega
          have hjx : ((j + 1 : Nat) : Int) < (X.length : Int) := by omega
          have hr1 := hS.out.rows.at (j + 1) hjl
          have hr0 := hS.out.rows.at j (by omega)
          rw [Nat.zero_add] at hr1 hr0
          have hgw : g < wr.heap.size := row?_lt hr1
          by_cases hc : cmpT Y[j + 1].name Y[j].name < 0
          · have HM2 := Lib.hid (mid_step hM.out hjl hc)
            have HS2 := Lib.hid (fun w2 hb2 => ((hS.out.step (w' := w2) hb2)).drew.swap hjl)
            generalize Y[j + 1] = x at *
            generalize Y[j] = z at *
            go_wp2_with fail
            refine wp_region_later (Below.refl _ wr) (by kernel_rfl) (by kernel_rfl) ?_
            repeat (go_big_quiet_step ((go_at_call 131; rename_i xw; exact Calls.later_of (policyLess_c _ _ _))))
            refine wpQuiet_nil ?_
            intro w2 hb2
            go_wp2_with fail
            have hr1' : row? w2 g ((j + 1) * 10) 10 = some (polC x) := (row?_of_block (hb2.block g hgw) _ _).trans hr1
            have hr0' : row? w2 g (j * 10) 10 = some (polC z) := (row?_of_block (hb2.block g hgw) _ _).trans hr0
            have HO := Lib.hid (hS.out.step hb2).opn
            have hp1 : canPut w2 g ((j + 1) * 10) 10 = true := HO.out.can (by omega)
            have hp0 : canPut (putRow w2.drew g ((j + 1) * 10) (polC z)) g (j * 10) 10 = true := Open.can (n := Y.length * 10) (Open.put (HO.out.at rfl) (by show (j + 1) * 10 + 10 ≤ _; omega)) (by omega)
            have HS3 : Hid (SortP g X ((Y.set (j + 1) z).set j x) w (putRow (putRow w2.drew g ((j + 1) * 10) (polC z)) g (j * 10) (polC x))) := HS2.out w2 hb2
            clear hr1 hr0 HS2 HO
            refine T3.wp_region_sinceR (· = g) (But.refl _ w2) (by kernel_rfl) (by kernel_rfl) ?_
            repeat (first | (refine T3.text_skip (by rfl) ?_) | (refine T3.text_look (by rfl) (by rfl) (fun K hK => ?_); go_big_quiet_op; refine hK _ ?_; clear hK K) | (refine T3.text_read (by rfl) (by rfl) (fun K hK => ?_); go_wp2_with fail))
            refine T3.text_act (by rfl) (by rfl) (fun K hK => ?_)
            go_wp2_with fail
            have HB1 := Lib.hid (But.put (g := g) (o := (j + 1) * 10) (cs := polC z) (S := (· = g)) (But.refl _ w2).drew rfl)
            generalize putRow w2.drew g ((j + 1) * 10) (polC z) = V at *
            refine hK _ _ (sinceB_of HB1.out) ?_
            clear hK K
            repeat (first | (refine T3.text_skip (by rfl) ?_) | (refine T3.text_look (by rfl) (by rfl) (fun K hK => ?_); go_big_quiet_op; refine hK _ ?_; clear hK K) | (refine T3.text_read (by rfl) (by rfl) (fun K hK => ?_); go_wp2_with fail))
            refine T3.text_act (by rfl) (by rfl) (fun K hK => ?_)
            go_wp2_with fail
            have HB2 := Lib.hid (But.put (g := g) (o := j * 10) (cs := polC x) HB1.out rfl)
            generalize putRow V g (j * 10) (polC x) = U at *
            refine hK _ _ (sinceB_of HB2.out) ?_
            clear hK K
            repeat (first | (refine T3.text_skip (by rfl) ?_) | (refine T3.text_look (by rfl) (by rfl) (fun K hK => ?_); go_big_quiet_op; refine hK _ ?_; clear hK K) | (refine T3.text_read (by rfl) (by rfl) (fun K hK => ?_); go_wp2_with fail))
            refine T3.text_nil ?_
            go_wp2_with fail
            go_roundw
            case rel => exact ⟨j, (Y.set (j + 1) z).set j x, by omega, rfl, HS3, HM2⟩
            case measure => simp [intOf]
          · have HZ := Lib.hid (mid_stop cmpT_total hM.out hjl ((hS.out.perm.map nameP).nodup_iff.2 HD.out) hc)
            generalize Y[j + 1] = x at *
            generalize Y[j] = z at *
            go_wp2_with fail
            refine wp_region_later (Below.refl _ wr) (by kernel_rfl) (by kernel_rfl) ?_
            repeat (go_big_quiet_step ((go_at_call 131; rename_i xw; exact Calls.later_of (policyLess_c _ _ _))))
            refine wpQuiet_nil ?_
            intro w2 hb2
            have HS2 := Lib.hid (hS.out.step hb2)
            go_wp2_with fail
            go_roundw
            case rel => exact ⟨i + 1, Y, by omega, by omega, by go_num, HS2.out, HZ.out⟩
            case measure => simp [intOf]; omega
    · have hki : ¬ (i : Int) < (X.length : Int) := by omega
      go_wp2_with fail
      go_end0
      exact ⟨rfl, Y, hS.out, by have := hso.out; rwa [List.take_of_length_le (by rw [HL.out]; omega)] at this⟩
end Go.Proofs.YthbialpbkpiekaaGreatDoor
/- slices.SortFunc of few entries. -/
namespace Go.Proofs.YthbialpbkpiekaaGreatDoor
open Go.RowKit Go.WW
set_option maxRecDepth 100000 in
set_option maxHeartbeats 4000000 in
theorem len64_c (n : Nat) (hn : n ≤ 12) (w : World) : Calls Tryz.prog 261 #[.int .u64 (n : Int)] w fun e w' => (∃ k, e = .returned (.int .i64 k)) ∧ w = w' := by
  have h : n = 0 ∨ n = 1 ∨ n = 2 ∨ n = 3 ∨ n = 4 ∨ n = 5 ∨ n = 6 ∨ n = 7 ∨ n = 8 ∨ n = 9 ∨ n = 10 ∨ n = 11 ∨ n = 12 := by omega
  rcases h with rfl | rfl | rfl | rfl | rfl | rfl | rfl | rfl | rfl | rfl | rfl | rfl | rfl
  all_goals
    go_enter Tryz.func261, Tryz.ntmps261
    go_wp2
    go_ret
    exact ⟨⟨_, rfl⟩, rfl⟩
set_option maxRecDepth 100000 in
theorem blen_c (n : Nat) (hn : n ≤ 12) (w : World) : Calls Tryz.prog 211 #[.int .u64 (n : Int)] w fun e w' => (∃ k, e = .returned (.int .i64 k)) ∧ w = w' := by
  go_enter Tryz.func211, Tryz.ntmps211
  go_wp2_with fail
  refine (len64_c n hn w).mono ?_
  rintro e w' ⟨⟨k, rfl⟩, rfl⟩
  dsimp only
  go_wp2_with fail
  go_ret
  exact ⟨⟨_, rfl⟩, rfl⟩
set_option maxRecDepth 100000 in
set_option maxHeartbeats 1000000 in
theorem pdqP_c (g cap : Nat) (X : List Policy) (lm : Int) (w : World) (hn : X.length ≤ 12) (hX : SortP g X X w w) (hD : (X.map nameP).Nodup) :
    Calls Tryz.prog 210 #[.slice (some ⟨g, 0, none⟩) X.length cap, .int .i64 0, .int .i64 X.length, .int .i64 lm, .func (.func 131) #[] #[]] w fun e w' => e = .returned (.tuple #[]) ∧ ∃ Y, SortP g X Y w w' ∧ Sorted cmpT nameP Y := by
  have HI := Lib.hid (insertionP_c g cap X w hn hX hD)
  clear hX hD
  have h12 : (X.length : Int) ≤ 12 := by omega
  go_enter Tryz.func210, Tryz.ntmps210
  go_wp2_with fail
  refine wp_loop_rounds 1 ?_
  rw [rounds_succ]
  go_wp2_with fail
  refine HI.out.mono ?_
  rintro e w' ⟨rfl, hY⟩
  dsimp only
  go_wp2_with fail
  refine bodyPost_ret (results_none rfl _ _ _) rfl ⟨rfl, hY⟩
set_option maxRecDepth 100000 in
set_option maxHeartbeats 1000000 in
theorem sortFuncP_c (g cap : Nat) (X : List Policy) (w : World) (hn : X.length ≤ 12) (hX : SortP g X X w w) (hD : (X.map nameP).Nodup) :
    Calls Tryz.prog 168 #[.slice (some ⟨g, 0, none⟩) X.length cap, .func (.func 131) #[] #[]] w fun e w' => e = .returned (.tuple #[]) ∧ ∃ Y, SortP g X Y w w' ∧ Sorted cmpT nameP Y := by
  have HI := Lib.hid (fun lm => pdqP_c g cap X lm w hn hX hD)
  clear hX hD
  go_enter Tryz.func168, Tryz.ntmps168
  go_wp2_with fail
  refine (blen_c _ hn w).mono ?_
  rintro e w' ⟨⟨k, rfl⟩, rfl⟩
  dsimp only
  go_wp2_with fail
  refine (HI.out k).mono ?_
  rintro e w' ⟨rfl, hY⟩
  dsimp only
  go_wp2_with fail
  go_end0
  exact ⟨rfl, hY⟩
set_option maxRecDepth 100000 in
theorem insP_nil (w : World) : Calls Tryz.prog 252 #[.slice none 0 0, .int .i64 0, .int .i64 0, .func (.func 131) #[] #[]] w fun e w' => e = .returned (.tuple #[]) ∧ w = w' := by
  go_enter Tryz.func252, Tryz.ntmps252
  go_wp2_with fail
  refine wp_loop_rounds 1 ?_
  rw [rounds_succ]
  go_wp2_with fail
  go_end0
  exact ⟨rfl, rfl⟩
set_option maxRecDepth 100000 in
theorem pdqP_nil (lm : Int) (w : World) : Calls Tryz.prog 210 #[.slice none 0 0, .int .i64 0, .int .i64 0, .int .i64 lm, .func (.func 131) #[] #[]] w fun e w' => e = .returned (.tuple #[]) ∧ w = w' := by
  go_enter Tryz.func210, Tryz.ntmps210
  go_wp2_with fail
  refine wp_loop_rounds 1 ?_
  rw [rounds_succ]
  go_wp2_with fail
  refine (insP_nil w).mono ?_
  rintro e w' ⟨rfl, rfl⟩
  dsimp only
  go_wp2_with fail
  refine bodyPost_ret (results_none rfl _ _ _) rfl ⟨rfl, rfl⟩
set_option maxRecDepth 100000 in
theorem sortFuncP_nil (w : World) : Calls Tryz.prog 168 #[.slice none 0 0, .func (.func 131) #[] #[]] w fun e w' => e = .returned (.tuple #[]) ∧ w = w' := by
  go_enter Tryz.func168, Tryz.ntmps168
  go_wp2_with fail
  refine (blen_c 0 (by omega) w).mono ?_
  rintro e w' ⟨⟨k, rfl⟩, rfl⟩
  dsimp only
  go_wp2_with fail
  refine (pdqP_nil k w).mono ?_
  rintro e w' ⟨rfl, rfl⟩
  dsimp only
  go_wp2_with fail
  go_end0
  exact ⟨rfl, rfl⟩
end Go.Proofs.YthbialpbkpiekaaGreatDoor
/- database.inOrder[api.Policy], (*database.tables).entryList. -/
namespace Go.WW
open Go.RowKit
theorem But.past {S T : Nat → Prop} {w a b : World} (h : But S w a) (k : But T a b) (hT : ∀ j, T j → w.heap.size ≤ j) : But S w b :=
  ⟨k.os.trans h.os, k.tape.trans h.tape, k.output.trans h.output, Nat.le_trans h.size k.size, fun j hj hn => (k.block j (Nat.lt_of_lt_of_le hj h.size) (fun t => by have := hT j t; omega)).trans (h.block j hj hn)⟩
theorem lim_le : 12 ≤ lim := by simp [lim]
theorem below_but {S : Nat → Prop} {w a b : World} (h : Below w.heap.size w a) (k : But S a b) (hS : ∀ j, S j → w.heap.size ≤ j) : Below w.heap.size w b :=
  (((But.of_below (S := fun _ => False) h)).past k hS).below (Nat.le_refl _) (fun _ hf => hf.elim)
/-- The map's elements of some policies. -/
abbrev polM (E : List Policy) : List (ByteArray × Value) := E.map fun x => (x.name, Value.agg (polC x))
end Go.WW
namespace Go.Proofs.YthbialpbkpiekaaGreatDoor
open Go.RowKit Go.WW
/-- The entries in order, in a list of the call's own. -/
def OutSortP (E : List Policy) (w : World) (z : Ending) (w' : World) : Prop := ∃ (s : Sl) (Y : List Policy), z = .returned (.slice s.a Y.length s.cap) ∧ Below w.heap.size w w' ∧ Y.Perm E ∧ Sorted cmpT nameP Y ∧ Dep w' (fresh w.heap.size w') (fun x => RowsP x s.a Y) ∧ (0 < Y.length → Y.length ≤ s.cap ∧ ∃ g, s.a = some ⟨g, 0, none⟩ ∧ w.heap.size ≤ g ∧ TypAt w' g 46)
set_option maxRecDepth 100000 in
set_option maxHeartbeats 2000000 in
theorem inOrderP_c (e : Nat) (E : List Policy) (w : World) (hm : MapOf w e (polM E)) (hn : E.length ≤ 12) (hD : (E.map nameP).Nodup) :
    Calls Tryz.prog 130 #[.map (some e), .func (.func 131) #[] #[]] w (OutSortP E w) := by
  obtain ⟨w1, hrange, hit, hb1, hs1⟩ := iter_start (P := Tryz.prog) Tryz.underlying110 hm
  have HD := Lib.hid hD
  have hel := hm.lt
  have hd0 : (polM E).length = E.length := by simp
  clear hD
  go_enter Tryz.func130, Tryz.ntmps130
  go_wp2_with fail
  clear hrange
  go_loopw [5] (fun lv wr => ∃ (so : Sl) (T left : List Policy), lv = .slice so.a T.length so.cap ∧ Hid (IterOf wr w.heap.size e (polM E) (polM left)) ∧ Hid ((T ++ left).Perm E) ∧ Go.WW.Own wr w1.heap.size 46 10 so (T.map polC) ∧ Below w.heap.size w wr ∧ w1.heap.size ≤ wr.heap.size ∧ (T = [] → so = ⟨none, 0⟩)) (fun lv _ => 13 - (match lv with | .slice _ k _ => k | _ => 0))
  case atStart => exact ⟨⟨none, 0⟩, [], E, rfl, hit, List.Perm.refl _, Go.WW.Own.nil _ _ _ _, hb1, Nat.le_refl _, fun _ => rfl⟩
  case round =>
    obtain ⟨so, T, left, rfl, hI, hp, hO, hbr, hsr, hnil⟩ := hrel
    have hlen : T.length + left.length = E.length := by have := hp.out.length_eq; simpa using this
    rcases iter_next (P := Tryz.prog) 0 hI.out with ⟨hl0, hrun⟩ | ⟨l1, x, l2, w2, hl, hrun, hent, hI2, hb2, hs2⟩
    · obtain rfl : left = [] := by cases left <;> simp_all
      have hTE : T.Perm E := by simpa using hp.out
      rcases Nat.eq_zero_or_pos T.length with hT0 | hT0
      · obtain rfl : T = [] := List.eq_nil_of_length_eq_zero hT0
        obtain rfl := hnil rfl
        go_wp2_with fail
        refine (sortFuncP_nil wr).mono ?_
        rintro z w' ⟨rfl, rfl⟩
        dsimp only
        go_wp2_with fail
        go_ret
        exact ⟨⟨none, 0⟩, [], rfl, hbr, hTE, List.Pairwise.nil, fun x _ => ⟨by simp [lim], fun i hi => by simp at hi⟩, fun h => absurd h (Nat.lt_irrefl _)⟩
      · obtain ⟨g, hga, hgb, hg0⟩ := hO.row 0 (by simpa using hT0)
        have hge := hO.base hgb
        obtain ⟨sa, sc⟩ := so
        obtain rfl : sa = some ⟨g, 0, none⟩ := hga
        have hSO : SortP g T T wr wr := ⟨List.Perm.refl _, But.refl _ _, RowsP.of_own hO (by have := lim_le; omega), by simpa using hO.openP rfl, by
          rcases hO.own.2 with ⟨hv, _⟩ | ⟨g', cap, cur, hv, _, hh, _⟩
          · cases hv
          · cases hv; exact ⟨cur, hh⟩⟩
        have hcap : T.length ≤ sc := by
          rcases hO.own.2 with ⟨hv, _⟩ | ⟨g', cap, cur, hv, _, hh, hle, _⟩
          · cases hv
          · cases hv; simpa using hle
        have HS := Lib.hid (sortFuncP_c g sc T wr (by omega) hSO ((hTE.map nameP).nodup_iff.2 HD.out) )
        clear hSO
        go_wp2_with fail
        refine HS.out.mono ?_
        rintro z w' ⟨rfl, Y, hY, hso⟩
        dsimp only
        go_wp2_with fail
        have hbw := below_but hbr hY.but (fun j (hj : j = g) => by omega)
        have hlY := hY.perm.length_eq
        have hg' : g < w'.heap.size := by have := hY.but.size; omega
        go_ret
        exact ⟨⟨some ⟨g, 0, none⟩, sc⟩, Y, by rw [hlY]; rfl, hbw, hY.perm.trans hTE, hso, fun x hx => hY.rows.block (hx g ⟨by omega, hg'⟩), fun _ => ⟨by rw [hlY]; exact hcap, g, rfl, by omega, hY.typ⟩⟩
    · obtain ⟨L1, L', hL, e1, e2⟩ := List.map_eq_append_iff.1 hl
      obtain ⟨y, L2, rfl, e3, e4⟩ := List.map_eq_cons_iff.1 e2
      subst e3 e1 e4 hL
      have hbw2 : Below w.heap.size w w2 := below_but hbr hb2 (fun j (hj : j = w.heap.size) => by omega)
      have hown : Go.WW.Own ((w2.alloc (.cells (polC y) 46)).alloc (.cells (polC y) 46)) w1.heap.size 46 10 so (T.map polC) := hO.kept fun g hg => by
        have hgb := hO.base hg
        rw [Below.heap_alloc _ _ _ (by simp; omega), Below.heap_alloc _ _ _ (by omega)]
        exact hb2.block g hgb.2 (show ¬ g = w.heap.size by omega)
      have hrun' : (Instr.next (.pointer (some ⟨w.heap.size, 0, none⟩)) false 0).run Tryz.prog wr = .ok (.tuple #[.bool true, .string (y.name), .agg (polC y)]) w2 := hrun
      have hent' : (Instr.entry (.pointer (some ⟨w.heap.size, 0, none⟩))).run Tryz.prog w2 = .ok (.tuple #[.string (y.name), .agg (polC y)]) w2 := hent
      have hsrc : SrcRows ((w2.alloc (.cells (polC y) 46)).alloc (.cells (polC y) 46)) 10 (some ⟨w2.heap.size + 1, 0, none⟩) [polC y] := by
        have := SrcRows.new (w2.alloc (.cells (polC y) 46)) (polC y) 46 10 (by simp [go_sem]) (by simp [go_sem])
        rwa [World.size_alloc] at this
      have HS2 := Lib.hid hs2
      clear hrun hent hs2
      go_wp2_with (at_builtin; refine wpList_append_n rfl (.tmp 14) (.tmp 16) _ rfl elemPol27 (n := T.length) (rows := T.map polC) (news := [polC y]) rfl (by simp) hown rfl rfl hsrc (by rw [List.length_map]; simp; omega) (by have := HS2.out; simp; omega) ?_; intro s3 w3 hown3 hg3 hat3)
      have hs2 := HS2.out
      have hbA : Below w.heap.size w ((w2.alloc (.cells (polC y) 46)).alloc (.cells (polC y) 46)) := below_new (below_new hbw2 _) _
      have hb3 : Below w.heap.size w w3 := hbA.grown hg3 hbA.size (fun g hg => by have := (hown.base hg).1; omega)
      have hs3 := hg3.size
      have hkp : ∀ k, k < w1.heap.size → w3.heap[k]? = w2.heap[k]? := fun k hk => by
        rw [hg3.block k (by simp; omega) (fun e => by have := (hown.base e.symm).1; omega), Below.heap_alloc _ _ _ (by simp; omega), Below.heap_alloc _ _ _ (by omega)]
      have HI3 := Lib.hid (hI2.at (hkp w.heap.size (by omega)) (hkp e (by omega)))
      have HP3 := Lib.hid (show ((T ++ [y]) ++ (L1 ++ L2)).Perm E from List.Perm.trans (by simpa using List.perm_middle.symm.append_left T) hp.out)
      have HO3 : Go.WW.Own w3 w1.heap.size 46 10 s3 ((T ++ [y]).map polC) := by rw [List.map_append]; exact hown3
      have hsz3 : w1.heap.size ≤ w3.heap.size := by simp at hs3; omega
      have hTl : T.length + 1 ≤ 12 := by simp at hlen; omega
      clear hown hown3 hg3 hat3 hI2 hb2 hbw2 hkp hbA hs3 HS2 hs2
      go_wp2_with fail
      go_roundw
      case rel => exact ⟨s3, T ++ [y], L1 ++ L2, by simp, by simpa [Hid] using HI3.out, HP3.out, HO3, hb3, hsz3, by simp⟩
      case measure => simp; omega
set_option maxRecDepth 100000 in
theorem policyList_c (b o p : Nat) (E : List Policy) (w : World) (hc : w.cell? ⟨b, o + 4, none⟩ = some (.map (some p))) (hm : MapOf w p (polM E)) (hn : E.length ≤ 12) (hD : (E.map nameP).Nodup) :
    Calls Tryz.prog 80 #[.pointer (some ⟨b, o, none⟩)] w (OutSortP E w) := by
  have HI := Lib.hid (inOrderP_c p E w hm hn hD)
  have hlt := World.block_lt_of_cell? w _ hc
  clear hD hm
  go_enter Tryz.func80, Tryz.ntmps80
  go_wp2_with fail
  refine HI.out.mono ?_
  rintro z w' ⟨sl, Y, rfl, hY⟩
  dsimp only
  go_wp2_with fail
  go_ret
  exact ⟨sl, Y, rfl, hY⟩
end Go.Proofs.YthbialpbkpiekaaGreatDoor
