/- law27.short. -/
import Derived.Test.YtpibcnchkndejaaGreatDoorWB
import Derived.Test.YtpibcnchkndejaaGreatDoorWC
import Derived.Carry
import Derived.Deep.DeepHandedRow
namespace Go.WW
open Go.RowKit
/-- At most 6 components and a realm, each of at most 40 bytes. -/
def shortP (p : Prin) : Prop := (∀ i (h : i < p.parts.length), p.parts[i].size ≤ 40) ∧ p.parts.length ≤ 6 ∧ p.realm.size ≤ 40
noncomputable def boolOf (p : Prop) : Bool := @decide p (Classical.propDecidable p)
theorem boolOf_t {p : Prop} (h : p) : boolOf p = true := @decide_eq_true p (Classical.propDecidable p) h
theorem boolOf_f {p : Prop} (h : ¬ p) : boolOf p = false := @decide_eq_false p (Classical.propDecidable p) h
theorem below_box {w : World} (cs : Array Value) (t : TypeId) : Below w.heap.size w (w.alloc (.cells cs t)) := (Below.refl _ _).alloc (Nat.le_refl _) _
end Go.WW
namespace Go.Proofs.YtpibcnchkndejaaGreatDoor
open Go.RowKit Go.WW
set_option maxRecDepth 100000 in
theorem short_c (s : Sl) (p : Prin) (w : World) (hp : PrinAt w s p) : Calls Tryz.prog 16 #[.agg (prinC s p)] w fun e w' => e = .returned (.bool (boolOf (shortP p))) ∧ Below w.heap.size w w' := by
  have hB : Below w.heap.size w (w.alloc (.cells (prinC s p) 24)) := below_box _ _
  have hn : p.parts.length ≤ 9223372036854775807 := hp.1.1
  have hr : p.realm.size ≤ 9223372036854775807 := hp.2
  go_enter Tryz.func16, Tryz.ntmps16
  go_wp2_with fail
  go_loop [3] (fun i => ∃ k : Nat, k ≤ p.parts.length ∧ i = .int .i64 k ∧ Hid (∀ j (h : j < p.parts.length), j < k → p.parts[j].size ≤ 40)) (fun i => p.parts.length - (intOf i).toNat)
  case atStart => exact ⟨0, Nat.zero_le _, rfl, fun j h hj => absurd hj (Nat.not_lt_zero _)⟩
  case round =>
    obtain ⟨k, hk, rfl, hall⟩ := hrel
    by_cases hlt : k < p.parts.length
    · obtain ⟨b2, o2, ha2, hc2, hs2⟩ := hp.1.get k hlt
      have hs2' : p.parts[k].size ≤ 9223372036854775807 := hs2
      have hgb2 : b2 < w.heap.size := World.block_lt_of_cell? w _ hc2
      obtain ⟨sa, sc⟩ := s
      dsimp only at ha2
      subst ha2
      go_wp2_with fail
      all_goals first
        | (go_ret; exact ⟨by rw [boolOf_f (fun h => by have := h.1 k hlt; omega)]; rfl, hB⟩)
        | (go_round
           case rel => exact ⟨k + 1, by omega, by go_num, fun j h hj => by
             rcases Nat.lt_or_ge j k with h1 | h1
             · exact hall.out j h h1
             · obtain rfl : j = k := by omega
               omega⟩
           case measure => simp [intOf]; omega)
    · by_cases h6 : p.parts.length ≤ 6
      · have h6' : (p.parts.length : Int) ≤ 6 := by omega
        by_cases h40 : p.realm.size ≤ 40
        · have h40' : (p.realm.size : Int) ≤ 40 := by omega
          have e := Lib.hid (boolOf_t (p := shortP p) ⟨fun i h => hall.out i h (by omega), h6, h40⟩)
          go_wp2_with fail
          go_ret
          exact ⟨by rw [e.out]; first | rfl | (simp [h40']), hB⟩
        · have h40' : ¬ (p.realm.size : Int) ≤ 40 := by omega
          have e := Lib.hid (boolOf_f (p := shortP p) (fun h => h40 h.2.2))
          go_wp2_with fail
          go_ret
          exact ⟨by rw [e.out]; first | rfl | (simp [h40']), hB⟩
      · have h6' : ¬ (p.parts.length : Int) ≤ 6 := by omega
        have e := Lib.hid (boolOf_f (p := shortP p) (fun h => h6 h.2.1))
        go_wp2_with fail
        all_goals go_ret
        all_goals exact ⟨by rw [e.out]; first | rfl | (simp [h6']), hB⟩
def planP (n : Nat) (it : Int) : Prop := n ≤ 6 ∧ (it ≤ 16 ∨ it > 65536)
theorem plan_c (a : Option Addr) (n cap : Nat) (it : Int) (w : World) (_hn : n ≤ 9223372036854775807) : Calls Tryz.prog 32 #[.agg #[.slice a n cap, .int .i64 it]] w fun e w' => e = .returned (.bool (boolOf (planP n it))) ∧ Below w.heap.size w w' := by
  have hB : Below w.heap.size w (w.alloc (.cells #[.slice a n cap, .int .i64 it] 46)) := below_box _ _
  go_enter Tryz.func32, Tryz.ntmps32
  by_cases h1 : n ≤ 6
  · have h1' : (n : Int) ≤ 6 := by omega
    by_cases h2 : it ≤ 16
    · have e := Lib.hid (boolOf_t (p := planP n it) ⟨h1, .inl h2⟩)
      go_wp2_with fail
      all_goals go_ret
      all_goals exact ⟨by rw [e.out]; first | rfl | (simp [h1', h2]), hB⟩
    · by_cases h3 : it > 65536
      · have e := Lib.hid (boolOf_t (p := planP n it) ⟨h1, .inr h3⟩)
        go_wp2_with fail
        all_goals go_ret
        all_goals exact ⟨by rw [e.out]; first | rfl | (simp [h1', h3]), hB⟩
      · have e := Lib.hid (boolOf_f (p := planP n it) (fun h => by rcases h.2 with h | h <;> omega))
        go_wp2_with fail
        all_goals go_ret
        all_goals exact ⟨by rw [e.out]; first | rfl | (simp [h2, h3]), hB⟩
  · have h1' : ¬ (n : Int) ≤ 6 := by omega
    have e := Lib.hid (boolOf_f (p := planP n it) (fun h => h1 h.1))
    go_wp2_with fail
    all_goals go_ret
    all_goals exact ⟨by rw [e.out]; first | rfl | (simp [h1']), hB⟩
/-- The cells of an act. -/
structure ActD where
  kind : Int
  s : Sl
  p : Prin
  o : Sl
  lo : Nat
  n : Sl
  ln : Nat
  now : Int
  life : Int
  pr : Sl
  lp : Nat
  it : Int
  must : Bool
  ks : Sl
  keys : List Key
def actD (x : ActD) : Array Value := #[.int .u8 x.kind, .slice x.s.a x.p.parts.length x.s.cap, .string x.p.realm, .slice x.o.a x.lo x.o.cap, .slice x.n.a x.ln x.n.cap, .int .i64 x.now, .int .i64 x.life, .slice x.pr.a x.lp x.pr.cap, .int .i64 x.it, .bool x.must, .slice x.ks.a x.keys.length x.ks.cap]
structure ActAt (w : World) (x : ActD) : Prop where
  name : PrinAt w x.s x.p
  lo : x.lo ≤ 9223372036854775807
  ln : x.ln ≤ 9223372036854775807
  lp : x.lp ≤ 9223372036854775807
  keys : KeysAt w x.ks.a x.keys
def fitsP (x : ActD) : Prop := (∀ i (h : i < x.keys.length), x.keys[i].bytes.length ≤ 100) ∧ shortP x.p ∧ x.lo ≤ 100 ∧ x.ln ≤ 100 ∧ planP x.lp x.it ∧ x.keys.length ≤ 6
set_option maxRecDepth 100000 in
set_option maxHeartbeats 2000000 in
theorem fits_c (x : ActD) (w : World) (hx : ActAt w x) : Calls Tryz.prog 10 #[.agg (actD x)] w fun e w' => e = .returned (.bool (boolOf (fitsP x))) ∧ Below w.heap.size w w' := by
  have hB : Below w.heap.size w (w.alloc (.cells (actD x) 48)) := below_box _ _
  obtain ⟨hname, hlo, hln, hlp, hkeys⟩ := hx
  have hnk : x.keys.length ≤ 9223372036854775807 := hkeys.1
  have HNO := Lib.hid (show ¬ fitsP x → boolOf (fitsP x) = false from boolOf_f)
  have HYES := Lib.hid (show fitsP x → boolOf (fitsP x) = true from boolOf_t)
  obtain ⟨Q, hQ⟩ : ∃ Q, Q = boolOf (fitsP x) := ⟨_, rfl⟩
  rw [← hQ] at HNO HYES ⊢
  clear hQ
  unfold fitsP at HNO HYES
  unfold actD at hB ⊢
  obtain ⟨kd, s, p, o, lo, n, ln, now, life, pr, lp, it, must, ⟨ka, kc⟩, keys⟩ := x
  dsimp only at hname hlo hln hlp hkeys hnk HNO HYES hB ⊢
  have HK := Lib.hid hkeys
  have HN := Lib.hid hname
  clear hkeys hname
  go_enter Tryz.func10, Tryz.ntmps10
  go_wp2_with fail
  go_loop [3] (fun i => ∃ k : Nat, k ≤ keys.length ∧ i = .int .i64 k ∧ Hid (∀ j (h : j < keys.length), j < k → keys[j].bytes.length ≤ 100)) (fun i => keys.length - (intOf i).toNat)
  case atStart => exact ⟨0, Nat.zero_le _, rfl, fun j h hj => absurd hj (Nat.not_lt_zero _)⟩
  case round =>
    obtain ⟨k, hk, rfl, hall⟩ := hrel
    by_cases hlt : k < keys.length
    · obtain ⟨b2, o2, s2, ha2, hq2, hs2⟩ := HK.out.get k hlt
      have hgb2 := row?_lt hq2
      have hy3 : w.cell? ⟨b2, o2 + k * 3 + 2, none⟩ = some (.slice s2.a keys[k].bytes.length s2.cap) := by have := row?_cell hq2 2 (by omega); simpa [go_sem] using this
      have hbl : keys[k].bytes.length ≤ 9223372036854775807 := hs2.1
      subst ha2
      by_cases h100 : keys[k].bytes.length ≤ 100
      · have h100' : ¬ (keys[k].bytes.length : Int) > 100 := by omega
        go_wp2_with fail
        go_round
        case rel => exact ⟨k + 1, by omega, by go_num, fun j h hj => by
          rcases Nat.lt_or_ge j k with h1 | h1
          · exact hall.out j h h1
          · obtain rfl : j = k := by omega
            exact h100⟩
        case measure => simp [intOf]; omega
      · have h100' : (keys[k].bytes.length : Int) > 100 := by omega
        have e := Lib.hid (HNO.out (fun h => h100 (h.1 k hlt)))
        go_wp2_with fail
        go_ret
        exact ⟨by rw [e.out]; rfl, hB⟩
    · have hlt' : ¬ (k : Int) < (keys.length : Int) := by omega
      have hA := Lib.hid (show ∀ i (h : i < keys.length), keys[i].bytes.length ≤ 100 from fun i h => hall.out i h (by omega))
      clear hall
      have hrow : row? (w.alloc (.cells #[.int .u8 kd, .slice s.a p.parts.length s.cap, .string p.realm, .slice o.a lo o.cap, .slice n.a ln n.cap, .int .i64 now, .int .i64 life, .slice pr.a lp pr.cap, .int .i64 it, .bool must, .slice ka keys.length kc] 48)) w.heap.size 1 2 = some (prinC s p) := (row?_alloc_at rfl).trans (by kernel_rfl)
      go_wp2_with fail
      refine (short_c s p _ (HN.out.later hB)).mono ?_
      rintro e w1 ⟨rfl, hb1⟩
      have hB1 := below_step hB hb1
      obtain ⟨hcc, hff, hrr⟩ := bcell hb1
      have hsz : w.heap.size < w1.heap.size := by have := hb1.size; simp at this; omega
      by_cases c1 : shortP p
      case neg =>
        have e := Lib.hid (HNO.out (fun h => c1 h.2.1))
        rw [boolOf_f c1]
        go_wp2_with fail
        go_ret
        exact ⟨by rw [e.out]; rfl, hB1⟩
      rw [boolOf_t c1]
      by_cases c2 : lo ≤ 100
      case neg =>
        have c2' : ¬ (lo : Int) ≤ 100 := by omega
        have e := Lib.hid (HNO.out (fun h => c2 h.2.2.1))
        go_wp2_with fail
        go_ret
        exact ⟨by rw [e.out]; first | rfl | simp [c2'], hB1⟩
      have c2' : (lo : Int) ≤ 100 := by omega
      by_cases c3 : ln ≤ 100
      case neg =>
        have c3' : ¬ (ln : Int) ≤ 100 := by omega
        have e := Lib.hid (HNO.out (fun h => c3 h.2.2.2.1))
        go_wp2_with fail
        go_ret
        exact ⟨by rw [e.out]; first | rfl | simp [c3'], hB1⟩
      have c3' : (ln : Int) ≤ 100 := by omega
      go_wp2_with fail
      refine (plan_c _ _ _ _ _ hlp).mono ?_
      rintro e w2 ⟨rfl, hb2⟩
      have hB2 := below_step hB1 hb2
      have hb2' := below_step hb1 hb2
      clear hcc hff hrr hsz
      obtain ⟨hcc, hff, hrr⟩ := bcell hb2'
      have hsz : w.heap.size < w2.heap.size := by have := hb2'.size; simp at this; omega
      by_cases c4 : planP lp it
      case neg =>
        have e := Lib.hid (HNO.out (fun h => c4 h.2.2.2.2.1))
        rw [boolOf_f c4]
        go_wp2_with fail
        go_ret
        exact ⟨by rw [e.out]; rfl, hB2⟩
      rw [boolOf_t c4]
      by_cases c5 : keys.length ≤ 6
      · have c5' : (keys.length : Int) ≤ 6 := by omega
        have e := Lib.hid (HYES.out ⟨hA.out, c1, c2, c3, c4, c5⟩)
        go_wp2_with fail
        go_ret
        exact ⟨by rw [e.out]; first | rfl | simp [c5'], hB2⟩
      · have c5' : ¬ (keys.length : Int) ≤ 6 := by omega
        have e := Lib.hid (HNO.out (fun h => c5 h.2.2.2.2.2))
        go_wp2_with fail
        go_ret
        exact ⟨by rw [e.out]; first | rfl | simp [c5'], hB2⟩
end Go.Proofs.YtpibcnchkndejaaGreatDoor
/- The reading of an act of law27. -/
namespace Go.Proofs.YtpibcnchkndejaaGreatDoor
open Go.ChangeShapes Go.WideShapes Go.ChangeAt Go.RowKit Go.WW Go.Deep
theorem list_11 : ∀ {cs : List Value}, cs.length = 11 → ∃ c0 c1 c2 c3 c4 c5 c6 c7 c8 c9 c10, cs = [c0, c1, c2, c3, c4, c5, c6, c7, c8, c9, c10]
  | [c0, c1, c2, c3, c4, c5, c6, c7, c8, c9, c10], _ => ⟨c0, c1, c2, c3, c4, c5, c6, c7, c8, c9, c10, rfl⟩
theorem cellsAct : Tryz.prog.cellsOf 48 = 11 := by kernel_rfl
theorem cellsPlan : Tryz.prog.cellsOf 46 = 2 := by kernel_rfl
theorem cellsInts : Tryz.prog.cellsOf 40 = 1 := by kernel_rfl
theorem cellsBool : Tryz.prog.cellsOf 4 = 1 := by kernel_rfl
section
variable {H : Type} {enc : TypeId × Value → H} {w : World} {base : Nat} {spare : Nat → Bool} {held : Bool} {fuel : Nat} {x : DataW H × List MemPlace}
theorem read_bool {v : Value} (h : DataW.trod enc Tryz.prog w base spare held fuel 4 [v] = some x) : ∃ b : Bool, v = .bool b := by
  obtain ⟨b, hs, _⟩ := DataW.trod_bool Tryz.underlying4 h
  exact ⟨b, by simpa using hs⟩
theorem read_plan {cs : List Value} (h : DataW.trod enc Tryz.prog w base spare held fuel 46 cs = some x) : ∃ (s : Sl) (n : Nat) (it : Int), cs = [.slice s.a n s.cap, .int .i64 it] ∧ n ≤ lim := by
  obtain ⟨hl, n, hf⟩ := field_of Tryz.underlying46 h trivial
  rw [cellsPlan] at hl
  obtain ⟨c0, c1, rfl⟩ := list_2 hl
  obtain ⟨y0, t0, _⟩ := hf 0 _ rfl
  replace t0 : DataW.trod enc Tryz.prog w base spare held n 40 (([c0, c1].drop 0).take (Tryz.prog.cellsOf 40)) = some y0 := t0
  rw [cellsInts, take_one (c := c0) rfl] at t0
  obtain ⟨y1, t1, _⟩ := hf 1 _ rfl
  replace t1 : DataW.trod enc Tryz.prog w base spare held n 3 (([c0, c1].drop 1).take (Tryz.prog.cellsOf 3)) = some y1 := t1
  rw [cellsInt, take_one (c := c1) rfl] at t1
  obtain ⟨s, m, rfl, hm, _⟩ := read_slice Tryz.underlying40 cellsInt (by omega) t0 trivial
  obtain ⟨it, rfl⟩ := read_int t1
  exact ⟨s, m, it, rfl, lim_of hm⟩
set_option maxRecDepth 100000 in
theorem read_act {cs : List Value} (h : DataW.trod enc Tryz.prog w base spare held fuel 48 cs = some x) : ∃ a : ActD, cs = (actD a).toList ∧ ActAt w a := by
  obtain ⟨hl, n, hf⟩ := field_of Tryz.underlying48 h trivial
  rw [cellsAct] at hl
  obtain ⟨c0, c1, c2, c3, c4, c5, c6, c7, c8, c9, c10, rfl⟩ := list_11 hl
  obtain ⟨y0, t0, _⟩ := hf 0 _ rfl
  obtain ⟨y1, t1, _⟩ := hf 1 _ rfl
  obtain ⟨y2, t2, _⟩ := hf 2 _ rfl
  obtain ⟨y3, t3, _⟩ := hf 3 _ rfl
  obtain ⟨y4, t4, _⟩ := hf 4 _ rfl
  obtain ⟨y5, t5, _⟩ := hf 5 _ rfl
  obtain ⟨y6, t6, _⟩ := hf 6 _ rfl
  obtain ⟨y7, t7, _⟩ := hf 7 _ rfl
  obtain ⟨y8, t8, _⟩ := hf 8 _ rfl
  replace t0 : DataW.trod enc Tryz.prog w base spare held n 5 (([c0, c1, c2, c3, c4, c5, c6, c7, c8, c9, c10].drop 0).take (Tryz.prog.cellsOf 5)) = some y0 := t0
  replace t1 : DataW.trod enc Tryz.prog w base spare held n 24 (([c0, c1, c2, c3, c4, c5, c6, c7, c8, c9, c10].drop 1).take (Tryz.prog.cellsOf 24)) = some y1 := t1
  replace t2 : DataW.trod enc Tryz.prog w base spare held n 44 (([c0, c1, c2, c3, c4, c5, c6, c7, c8, c9, c10].drop 3).take (Tryz.prog.cellsOf 44)) = some y2 := t2
  replace t3 : DataW.trod enc Tryz.prog w base spare held n 44 (([c0, c1, c2, c3, c4, c5, c6, c7, c8, c9, c10].drop 4).take (Tryz.prog.cellsOf 44)) = some y3 := t3
  replace t4 : DataW.trod enc Tryz.prog w base spare held n 3 (([c0, c1, c2, c3, c4, c5, c6, c7, c8, c9, c10].drop 5).take (Tryz.prog.cellsOf 3)) = some y4 := t4
  replace t5 : DataW.trod enc Tryz.prog w base spare held n 3 (([c0, c1, c2, c3, c4, c5, c6, c7, c8, c9, c10].drop 6).take (Tryz.prog.cellsOf 3)) = some y5 := t5
  replace t6 : DataW.trod enc Tryz.prog w base spare held n 46 (([c0, c1, c2, c3, c4, c5, c6, c7, c8, c9, c10].drop 7).take (Tryz.prog.cellsOf 46)) = some y6 := t6
  replace t7 : DataW.trod enc Tryz.prog w base spare held n 4 (([c0, c1, c2, c3, c4, c5, c6, c7, c8, c9, c10].drop 9).take (Tryz.prog.cellsOf 4)) = some y7 := t7
  replace t8 : DataW.trod enc Tryz.prog w base spare held n 37 (([c0, c1, c2, c3, c4, c5, c6, c7, c8, c9, c10].drop 10).take (Tryz.prog.cellsOf 37)) = some y8 := t8
  rw [cellsU8, take_one (c := c0) rfl] at t0
  rw [cellsPrin] at t1
  replace t1 : DataW.trod enc Tryz.prog w base spare held n 24 [c1, c2] = some y1 := t1
  rw [cellsSl2, take_one (c := c3) rfl] at t2
  rw [cellsSl2, take_one (c := c4) rfl] at t3
  rw [cellsInt, take_one (c := c5) rfl] at t4
  rw [cellsInt, take_one (c := c6) rfl] at t5
  rw [cellsPlan] at t6
  replace t6 : DataW.trod enc Tryz.prog w base spare held n 46 [c7, c8] = some y6 := t6
  rw [cellsBool, take_one (c := c9) rfl] at t7
  rw [cellsSl5, take_one (c := c10) rfl] at t8
  obtain ⟨k, rfl⟩ := read_u8 t0
  obtain ⟨s, p, hp, hpa⟩ := read_prin t1 trivial
  obtain ⟨o, lo, rfl, ho⟩ := read_bytes t2 trivial
  obtain ⟨m, lm, rfl, hm⟩ := read_bytes t3 trivial
  obtain ⟨now, rfl⟩ := read_int t4
  obtain ⟨life, rfl⟩ := read_int t5
  obtain ⟨pr, lp, it, hpl, hlp⟩ := read_plan t6
  obtain ⟨must, rfl⟩ := read_bool t7
  obtain ⟨ks, keys, rfl, hk⟩ := read_keys t8 trivial
  have e1 : [c1, c2] = [.slice s.a p.parts.length s.cap, .string p.realm] := hp
  simp only [List.cons.injEq, and_true] at e1 hpl
  obtain ⟨rfl, rfl⟩ := e1
  obtain ⟨rfl, rfl⟩ := hpl
  exact ⟨⟨k.toNat, s, p, o, lo.length, m, lm.length, now, life, pr, lp, it, must, ks, keys⟩, rfl, ⟨hpa, ho.1, hm.1, hlp, hk⟩⟩
end
theorem ActAt.later {w w' : World} {x : ActD} (h : ActAt w x) (hb : Below w.heap.size w w') : ActAt w' x := ⟨h.name.later hb, h.lo, h.ln, h.lp, h.keys.later hb⟩
theorem actD_one (x : ActD) : ∀ v ∈ (actD x).toList, v.cells = #[v] ∧ v.oneCell' = true := by
  intro v hv
  simp only [actD, List.mem_cons, List.not_mem_nil, or_false] at hv
  rcases hv with rfl | rfl | rfl | rfl | rfl | rfl | rfl | rfl | rfl | rfl | rfl <;> exact ⟨rfl, rfl⟩
theorem laidOut : laidOutB Tryz.prog = true := by kernel_rfl
theorem readAct : Tryz.prog.readableRec 48 = true := by kernel_rfl
theorem readBool : Tryz.prog.readableRec 4 = true := by kernel_rfl
theorem ltAct : 48 < Tryz.prog.types.size := of_decide_eq_true (by kernel_rfl)
theorem ltBool : 4 < Tryz.prog.types.size := of_decide_eq_true (by kernel_rfl)
section
variable {H : Type} {enc : TypeId × Value → H}
set_option maxRecDepth 2000000 in
theorem arg_act {W : World} {b0 : Nat} {v : Value} {d : DataW H} {p : List MemPlace} (hv : Value.okWide Tryz.prog W .any b0 48 v) (h : DataW.Trod enc Tryz.prog W 0 (fun _ => true) true 48 v d p) :
    ∃ x : ActD, v = .agg (actD x) ∧ ActAt W x := by
  obtain ⟨cs, rfl, _⟩ := okWide_struct Tryz.underlying48 hv
  obtain ⟨fuel, hf⟩ := h
  obtain ⟨x, he, h1⟩ := read_act hf
  have h0 : cs = actD x := Array.toList_inj.1 he
  exact ⟨x, by rw [h0], h1⟩
theorem stays {W W' : World} {t : TypeId} {v : Value} {d : DataW H} {ps : List MemPlace} (hr : Tryz.prog.readableRec t = true) (hrow : t < Tryz.prog.types.size) (h : DataW.Trod enc Tryz.prog W 0 (fun _ => true) true t v d ps) (hb : Below W.heap.size W W') (hlt : ∀ x ∈ ps, x.block < W.heap.size)
    {sp : Nat → Bool} (hsp : ∀ x ∈ ps, sp x.block = true) : DataW.Trod enc Tryz.prog W' 0 sp true t v d ps :=
  WideElems.Trod_stays laidOut hr hrow h (fun x hx => hb.same (hlt x hx)) hsp
set_option maxRecDepth 2000000 in
/-- The row's last step for a law whose call leaves all that was there as it was. -/
theorem law_post {f : Func} {s : ChangeSpec} {fresh handsOn again apart : Bool} {W W' : World} {args : Array Value} {v : Value} {ds : List (DataW H)} {before : List MemPlace}
    (hW : DataW.Whole enc Tryz.prog f.params.toList s.vars apart W args.toList ds [] before)
    (hres : ∀ (b : Nat) (sp : Nat → Bool) (hd : Bool), DataW.TrodAll enc Tryz.prog W' b sp hd f.resultTypes.toList (v.resultList f.resultTypes.size) (s.fn H (ds ++ [])).results [])
    (hargs : ∀ sp : Nat → Bool, (∀ p ∈ before, sp p.block = true) → DataW.TrodAll enc Tryz.prog W' 0 sp true f.params.toList args.toList (s.fn H (ds ++ [])).args before)
    (hvars : ∀ sp : Nat → Bool, DataW.TrodVars enc Tryz.prog W' sp s.vars (s.fn H (ds ++ [])).vars [])
    (hb : Below W.heap.size W W') (hok : ∀ (j : Nat) (t : TypeId) (r : Value), f.resultTypes[j]? = some t → (v.resultList f.resultTypes.size)[j]? = some r → Value.okWide Tryz.prog W' .any 0 t r) :
    s.post enc Tryz.prog f apart fresh handsOn again W args v W' := by
  have hold : ∀ q ∈ before, decide (q.block < W.heap.size) = true := fun q hq => by simpa using hW.lt q hq
  have hlt := hW.lt
  refine ⟨ds, [], before, [], before, [], hW, hres _ _ _, hargs _ hold, hvars _, World.keptBut_mono (fun q hq => ⟨hq, .inr (.inl hq)⟩) (hb.frame (· ∈ before)), fun _ => ?_⟩
  obtain ⟨_, _, _, _, _, hz, hn⟩ := hW
  refine ⟨hok, _, _, ([] ++ before) ++ [], ⟨[] ++ before, [], trodAll_append (hargs _ (fun _ _ => rfl)) (hres _ _ _), hvars _, rfl, fun b off hq => ?_, fun ha => ?_⟩, fun q hq _ => ?_⟩
  · have hin : MemPlace.cell b off ∈ before := by simpa using hq
    rw [hb.frozen (hlt _ hin)]
    exact hz b off hin
  · simpa using hn ha
  · simpa using hq
end
end Go.Proofs.YtpibcnchkndejaaGreatDoor
