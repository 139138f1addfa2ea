/- law30.ReplicaRounds, the walk. -/
import Derived.Test.YthbialpbkpiekaaGreatDoorXH
import Derived.Test.YthbialpbkpiekaaGreatDoorXG
import Derived.BigRegionIn
namespace Go.WW
open Go.RowKit
theorem box_at {w : World} {c : Array Value} {t : TypeId} {k : Nat} (h : k = w.heap.size) : (w.alloc (.cells c t)).heap[k]? = some (.cells c t) := h ▸ World.alloc_heap_new _ _
theorem box_past {w : World} {o o' : Obj} {k : Nat} (h : w.heap[k]? = some o) : (w.alloc o').heap[k]? = some o := (Below.heap_alloc w o' k (Array.getElem?_eq_some_iff.1 h).1).trans h
end Go.WW
namespace Go.Proofs.YthbialpbkpiekaaGreatDoor
open Go.RowKit Go.WW
theorem seqNe30 (a b c : Nat) (w : World) : (binOp .eql 23 (.func (.func 6) #[] #[.pointer (some ⟨a, 0, none⟩), .pointer (some ⟨b, 0, none⟩), .pointer (some ⟨c, 0, none⟩)]) .nilFunc).run Tryz.prog w = .ok (.bool false) w := by kernel_rfl
attribute [local go_sem] seqNe30
attribute [local go_sem] Oper.semAt_some
theorem leave2 {F : Fence} {n : Nat} {P : Program} {fn : Func} {R : Ending → World → Prop} {tmps : Array Value} {w : World} {d1 d0 T : Nat} {v : Value} {ty : TypeId} {c0 : Value}
    (h1 : w.heap[d1]? = some (.deferred (some []))) (h0 : w.heap[d0]? = some (.deferred (some []))) (h8 : w.heap[T]? = some (.cells #[c0] ty)) (t1 : d1 ≠ T) (t0 : d0 ≠ T) (hne : d0 ≠ d1)
    (hr : ∀ X : World, X.cell? ⟨T, 0, none⟩ = some v → (results fn tmps).run P X = .ok v X)
    (hR : R (.returned v) (((w.setCell ⟨T, 0, none⟩ v).putObj d1 (.deferred none)).putObj d0 (.deferred none))) :
    bodyPostM F n P fn R .ret { tmps, defers := [{ target := .collected d1, args := #[] }, { target := .collected d0, args := #[] }] } (w.setCell ⟨T, 0, none⟩ v) := by
  have e1 := (Below.heap_setCell w ⟨T, 0, none⟩ v d1 t1).trans h1
  have e0 := (Below.heap_setCell w ⟨T, 0, none⟩ v d0 t0).trans h0
  have e8 := setCell_blk (o := 0) v h8
  generalize w.setCell ⟨T, 0, none⟩ v = X1 at *
  have f0 : (X1.putObj d1 (.deferred none)).heap[d0]? = some (.deferred (some [])) := (World.putObj_heap_other hne).trans e0
  have g8 : ((X1.putObj d1 (.deferred none)).putObj d0 (.deferred none)).heap[T]? = some (.cells (#[c0].setIfInBounds 0 v) ty) := (World.putObj_heap_other (Ne.symm t0)).trans ((World.putObj_heap_other (Ne.symm t1)).trans e8)
  refine ⟨by simp, .inl ⟨_, _, rfl, run_takeDeferred e1, by simp, .inl ⟨_, _, rfl, run_takeDeferred f0, ?_⟩⟩⟩
  exact ⟨v, hr _ ((box_facts g8).1 0), hR⟩
theorem setCell_but (w : World) (b o : Nat) (v : Value) : But (one b) w (w.setCell ⟨b, o, Option.none⟩ v) := ⟨rfl, rfl, rfl, by simp [World.setCell], fun k _ hn => Below.heap_setCell _ _ _ _ (show k ≠ b from hn)⟩
theorem leave2_below {w wf : World} {T d1 d0 : Nat} {v : Value} (h : Below w.heap.size w wf) (hT : w.heap.size ≤ T) (h1 : w.heap.size ≤ d1) (h0 : w.heap.size ≤ d0) : Below w.heap.size w (((wf.setCell ⟨T, 0, none⟩ v).putObj d1 (.deferred none)).putObj d0 (.deferred none)) :=
  ((((But.of_below (S := fun j => w.heap.size ≤ j) h).trans ((setCell_but wf T 0 v).mono fun j (hj : j = T) => by omega)).trans ((But.putObj _).mono fun j (hj : j = d1) => by omega)).trans ((But.putObj _).mono fun j (hj : j = d0) => by omega)).below (Nat.le_refl _) fun j hj => hj
theorem wp_mid2 {c : Code} {P : Program} {Q : Exit → Act → World → Prop} {a : Act} {w : World} (M : Nat → Nat → World → Prop) (F : Nat → Nat → Act)
    (h1 : c.wp P (fun e a' w' => e = .normal ∧ ∃ i j, a' = F i j ∧ M i j w') a w) (h2 : ∀ i j w', M i j w' → Q .normal (F i j) w') : c.wp P Q a w := by
  refine wp_mono h1 ?_
  rintro e a' w' ⟨rfl, i, j, rfl, h⟩
  exact h2 i j w' h
theorem inBlock_hx {id : Nat} {Q : Exit → Act → World → Prop} {a : Act} {w : World} (h : Exit.inBlock id Q .normal a w) : Exit.inBlock id Q (.exit id) a w := by
  simp only [Exit.inBlock] at h ⊢
  exact h
theorem wp_midX {c : Code} {P : Program} {Q : Exit → Act → World → Prop} {a : Act} {w : World} (m : Nat) (M : Nat → Int → World → Prop) (F : Act)
    (h1 : c.wp P (fun e a' w' => (e = .normal ∨ e = .exit m) ∧ a' = F ∧ ∃ k x, M k x w') a w) (hx : ∀ a w, Q .normal a w → Q (.exit m) a w) (h2 : ∀ k x w', M k x w' → Q .normal F w') : c.wp P Q a w := by
  refine wp_mono h1 ?_
  rintro e a' w' ⟨he, rfl, k, x, h⟩
  rcases he with rfl | rfl
  · exact h2 k x w' h
  · exact hx _ _ (h2 k x w' h)
set_option maxRecDepth 100000 in
set_option maxHeartbeats 16000000 in
theorem rounds_law (n i b many : Int) (w : World) (hn : i64 n) (hi : i64 i) (hb : i64 b) (hm : i64 many) (hv : VarsAt w) :
    Calls Tryz.prog 3 #[.int .i64 n, .int .i64 i, .int .i64 b, .int .i64 many] w fun z w' => z = .returned (.bool true) ∧ Below w.heap.size w w' := by
  have HV := Lib.hid hv
  have HN := Lib.hid hn
  have HI := Lib.hid hi
  have HB := Lib.hid hb
  have HM := Lib.hid hm
  clear hv hn hi hb hm
  obtain ⟨W, hW⟩ : ∃ W, W = ((((w.alloc (.cells #[.int .i64 n] 3)).alloc (.cells #[.int .i64 i] 3)).alloc (.cells #[.int .i64 b] 3)).alloc (.cells #[.int .i64 many] 3)).alloc (.cells #[.bool false] 4) := ⟨_, rfl⟩
  have hsW : W.heap.size = w.heap.size + 5 := by rw [hW]; simp
  have hB : Below w.heap.size w W := by rw [hW]; exact below_new (below_new (below_new (below_new (below_new (Below.refl _ _) _) _) _) _) _
  have g4 : W.heap[w.heap.size]? = some (.cells #[.int .i64 n] 3) := by rw [hW]; exact box_past (box_past (box_past (box_past (box_at rfl))))
  have g5 : W.heap[w.heap.size + 1]? = some (.cells #[.int .i64 i] 3) := by rw [hW]; exact box_past (box_past (box_past (box_at (by simp))))
  have g6 : W.heap[w.heap.size + 2]? = some (.cells #[.int .i64 b] 3) := by rw [hW]; exact box_past (box_past (box_at (by simp)))
  have g7 : W.heap[w.heap.size + 3]? = some (.cells #[.int .i64 many] 3) := by rw [hW]; exact box_past (box_at (by simp))
  have g8 : W.heap[w.heap.size + 4]? = some (.cells #[.bool false] 4) := by rw [hW]; exact box_at (by simp)
  refine (callsIn_wide (n := 0)).1 ?_
  refine callsIn_of_wp_marks Tryz.func3 rfl trivial ?_ rfl
  simp only [Tryz.ntmps3, List.size_toArray, List.length_cons, List.length_nil, Nat.reduceAdd, Nat.reduceSub, Array.replicate_succ, Array.replicate_zero, List.push_toArray, List.append_toArray, List.nil_append, List.cons_append]
  gi_wp2
  refine ⟨trivial, rfl, ?_⟩
  rw [← hW]
  refine (callsIn_wide.2 (rounds_c n i b W)).mono ?_
  rintro z W1 ⟨rfl, hW1⟩
  have hs1 : W1.heap.size = w.heap.size + 8 := by rw [hW1]; simp [hsW]
  have hb1 : Below W.heap.size W W1 := by rw [hW1]; exact below_new (below_new (below_new (Below.refl _ _) _) _) _
  have r1 : W1.heap[W.heap.size]? = some (.cells #[.int .i64 n] 3) := by rw [hW1]; exact box_past (box_past (box_at rfl))
  have r2 : W1.heap[W.heap.size + 1]? = some (.cells #[.int .i64 i] 3) := by rw [hW1]; exact box_past (box_at (by simp))
  have r3 : W1.heap[W.heap.size + 2]? = some (.cells #[.int .i64 b] 3) := by rw [hW1]; exact box_at (by simp)
  rw [hsW] at r1 r2 r3 ⊢
  clear hW hW1
  dsimp only
  gi_wp2
  have hB1 := below_step hB hb1
  have e4 := still_blk hb1 g4
  have e5 := still_blk hb1 g5
  have e6 := still_blk hb1 g6
  have e7 := still_blk hb1 g7
  have e8 := still_blk hb1 g8
  obtain ⟨V, hV⟩ : ∃ V, V = W1.alloc (.cells #[.int .i64 0] 3) := ⟨_, rfl⟩
  have hVs : V.heap.size = w.heap.size + 9 := by rw [hV]; simp [hs1]
  have hVB : Below w.heap.size w V := by rw [hV]; exact below_new hB1 _
  have q4 : V.heap[w.heap.size]? = some (.cells #[.int .i64 n] 3) := by rw [hV]; exact box_past e4
  have q5 : V.heap[w.heap.size + 1]? = some (.cells #[.int .i64 i] 3) := by rw [hV]; exact box_past e5
  have q6 : V.heap[w.heap.size + 2]? = some (.cells #[.int .i64 b] 3) := by rw [hV]; exact box_past e6
  have q7 : V.heap[w.heap.size + 3]? = some (.cells #[.int .i64 many] 3) := by rw [hV]; exact box_past e7
  have q8 : V.heap[w.heap.size + 4]? = some (.cells #[.bool false] 4) := by rw [hV]; exact box_past e8
  have s1 : V.heap[w.heap.size + 5]? = some (.cells #[.int .i64 n] 3) := by rw [hV]; exact box_past r1
  have s2 : V.heap[w.heap.size + 5 + 1]? = some (.cells #[.int .i64 i] 3) := by rw [hV]; exact box_past r2
  have s3 : V.heap[w.heap.size + 5 + 2]? = some (.cells #[.int .i64 b] 3) := by rw [hV]; exact box_past r3
  have q10 : V.heap[w.heap.size + 8]? = some (.cells #[.int .i64 0] 3) := by rw [hV]; exact box_at hs1.symm
  rw [← hV]
  have hTl : w.heap.size + 8 < V.heap.size := by omega
  clear hVs hV hB1 hb1 g4 g5 g6 g7 g8 r1 r2 r3 e4 e5 e6 e7 e8 hs1 W1 hB W hsW
  refine wpIn_loop_rounds 3 ?_
  by_cases cA : i < 0
  · rw [roundsIn_succ]
    obtain ⟨qc, qf, -, ql⟩ := box_facts q10
    obtain ⟨c5, f5, -, l5⟩ := box_facts q5
    gi_wp2
    have k1 : ∀ o1 : Obj, (V.alloc o1).cell? ⟨w.heap.size + 1, 0, none⟩ = some (.int .i64 i) := fun o1 => (box_facts (box_past (o' := o1) q5)).1 0
    have k2 : ∀ o1 o2 : Obj, ((V.alloc o1).alloc o2).cell? ⟨w.heap.size + 1, 0, none⟩ = some (.int .i64 i) := fun o1 o2 => (box_facts (box_past (o' := o2) (box_past (o' := o1) q5))).1 0
    refine (wpIn_wide (n := 0)).2 ?_
    apply wp_mid2 (M := fun Bk Ba U => Below V.heap.size V U ∧ V.heap.size ≤ Bk ∧ V.heap.size ≤ Ba ∧ Bk ≠ Ba ∧ Bk < U.heap.size ∧ Ba < U.heap.size ∧ U.heap[Bk]? = some (.cells #[.int .i64 0] 3) ∧ U.heap[Ba]? = some (.cells #[.int .i64 i] 3))
    · go_region
      · refine ⟨rfl, V.heap.size, V.heap.size + 1, ?_, (below_new (below_new (Below.refl _ _) _) _).drew, by omega, by omega, by omega, by simp <;> omega, by simp <;> omega, box_past (box_at rfl), box_at (by simp)⟩
        generalize V.heap.size + 1 = Ba
        generalize V.heap.size = Bk
        rfl
      · exact ⟨rfl, V.heap.size + 1, V.heap.size, rfl, (below_new (below_new (Below.refl _ _) _) _).drew, by omega, by omega, by omega, by simp <;> omega, by simp <;> omega, box_at (by simp), box_past (box_at rfl)⟩
    rintro Bk Ba U0 ⟨hbU, hk1, ha1, hka, hk2, ha2, hK0, hA0⟩
    have hU0 := hbU.size
    have u4 := still_blk hbU q4
    have u5 := still_blk hbU q5
    have u6 := still_blk hbU q6
    have u7 := still_blk hbU q7
    have u8 := still_blk hbU q8
    have v1 := still_blk hbU s1
    have v2 := still_blk hbU s2
    have v3 := still_blk hbU s3
    have uT := still_blk hbU q10
    have hUB := below_step hVB hbU
    gi_wp2
    refine (wpIn_wide (n := 0)).2 ?_
    apply wp_midX 2 (M := fun k x Wc => Wc.heap[Bk]? = some (.cells #[.int .i64 (k : Int)] 3) ∧ Wc.heap[Ba]? = some (.cells #[.int .i64 x] 3) ∧ But (OffI (fun j => j = Bk ∨ j = Ba) U0) U0 Wc ∧ k ≤ 60 ∧ 0 ≤ k ∧ ((n < 0 ∨ i < 0 ∨ b ≤ 0 ∨ n ≤ x) ∨ (1 ≤ k ∧ ((k : Int) ≥ many ∨ k = 60))) ∧ (n < 0 ∨ i < 0 ∨ b ≤ 0 → x = i ∧ k = 0) ∧ Wc.heap[U0.heap.size]? = some (.deferred (some [])) ∧ U0.heap.size < Wc.heap.size)
    · refine wp_range_but (gf := 6) (lb := #[.pointer (some ⟨w.heap.size + 5, 0, none⟩), .pointer (some ⟨w.heap.size + 5 + 1, 0, none⟩), .pointer (some ⟨w.heap.size + 5 + 2, 0, none⟩)]) (by simp [go_sem]) (enters_of Tryz.func6 (by kernel_rfl) rfl) (S := fun j => j = Bk ∨ j = Ba) ?_ (xs := rndL n i b) (V := VR) ?_ (rounds1_seq _ _ _ n i b _ U0 HN.out HI.out HB.out v1 v2 v3 (fun j hj => by omega))
        (fun c1 k Wc => ∃ x, Wc.heap[Bk]? = some (.cells #[.int .i64 (k : Int)] 3) ∧ Wc.heap[Ba]? = some (.cells #[.int .i64 x] 3) ∧ But (OffI (fun j => j = Bk ∨ j = Ba) U0) U0 Wc ∧ ((x < n ∧ x = i + (k : Int) * b) ∨ (n ≤ x ∧ k = (rndL n i b).length)) ∧ (k = 0 → x = i) ∧ k < 60 ∧ (k = 0 ∨ (k : Int) < many) ∧ (x < n → 0 ≤ x ∨ i < 0) ∧ U0.heap.size < c1 ∧ c1 ≤ Wc.heap.size)
        (fun c c1 k Wc => c = .exit 2 ∧ ∃ x, Wc.heap[Bk]? = some (.cells #[.int .i64 (k : Int)] 3) ∧ Wc.heap[Ba]? = some (.cells #[.int .i64 x] 3) ∧ But (OffI (fun j => j = Bk ∨ j = Ba) U0) U0 Wc ∧ 1 ≤ k ∧ k ≤ 60 ∧ ((k : Int) ≥ many ∨ k = 60) ∧ rndOk n i b ∧ U0.heap.size < c1 ∧ c1 ≤ Wc.heap.size) ?_ ?_ ?_ ?_ ?_ ?_
      · rintro j (rfl | rfl) <;> omega
      · rintro c1 x v W0 Wc rfl; rfl
      · intro c1 Wc h1 h2 hb
        refine ⟨i, still_blk hb hK0, still_blk hb hA0, But.of_below hb, ?_, fun _ => rfl, by omega, by first | exact .inl rfl | trivial, fun _ => by omega, h1, h2⟩
        by_cases hin : i < n
        · exact .inl ⟨hin, by simp⟩
        · refine .inr ⟨by omega, ?_⟩
          by_cases ho : rndOk n i b
          · rw [rndL_len ho]
            have hz : ¬ 0 < rndN n i b := fun h => hin (by simpa using (rndN_iff ho 0).1 h)
            omega
          · rw [rndL_no ho]; rfl
      · rintro c1 k Wc Wc' ⟨x, h1, h2, h3, h4⟩ hb
        have hs := hb.size
        exact ⟨x, (hb.block _ (Array.getElem?_eq_some_iff.1 h1).1 (fun h => by have := h.1; omega)).trans h1, (hb.block _ (Array.getElem?_eq_some_iff.1 h2).1 (fun h => by have := h.1; omega)).trans h2, h3.trans (hb.mono fun j hj => .inr hj.1), h4.1, h4.2.1, h4.2.2.1, h4.2.2.2.1, h4.2.2.2.2.1, h4.2.2.2.2.2.1, by have := h4.2.2.2.2.2.2; omega⟩
      · rintro c c1 k Wc Wc' ⟨h0, x, h1, h2, h3, h4⟩ hb
        have hs := hb.size
        exact ⟨h0, x, (hb.block _ (Array.getElem?_eq_some_iff.1 h1).1 (fun h => by have := h.1; omega)).trans h1, (hb.block _ (Array.getElem?_eq_some_iff.1 h2).1 (fun h => by have := h.1; omega)).trans h2, h3.trans (hb.mono fun j hj => .inr hj.1), h4.1, h4.2.1, h4.2.2.1, h4.2.2.2.1, h4.2.2.2.2.1, by have := h4.2.2.2.2.2; omega⟩
      · rintro c1 k v0 v W1 Wc hx rfl ⟨x, hk0, hx0, hbu0, hrel, hk00, hk60, hok, hpos, hc0, hc9⟩ hbs hc1 hc20
        have := (rndL_at hx).1
        exfalso
        unfold rndOk at this
        omega
      · rintro c1 Wc ⟨x, h1, h2, h3, h4, h5, h6, h7, h8, h9, h10⟩ hD
        refine ⟨.inl rfl, rfl, (rndL n i b).length, x, h1, h2, h3, by omega, Nat.zero_le _, .inl ?_, ?_, hD, by omega⟩
        · rcases h4 with h | h
          · refine Classical.byContradiction fun hq => ?_
            have ho : rndOk n i b := ⟨by omega, by omega, by omega⟩
            have := (rndN_iff ho (rndL n i b).length).2 (by omega)
            rw [rndL_len ho] at this
            omega
          · omega
        · intro hq
          have hz : (rndL n i b).length = 0 := by rw [rndL_no (fun ho : rndOk n i b => by have := ho.1; have := ho.2.1; have := ho.2.2; omega)]; rfl
          exact ⟨h5 hz, hz⟩
      · rintro c c1 k Wc ⟨rfl, x, h1, h2, h3, h4, h5, h6, ho, h7, h8⟩ hD
        exact wp_exit ⟨.inr rfl, rfl, k, x, h1, h2, h3, h5, Nat.zero_le _, .inr ⟨h4, h6⟩, fun hq => by have := ho.1; have := ho.2.1; have := ho.2.2; omega, hD, by omega⟩

    · exact fun _ _ h => inBlock_hx h
    rintro k x Wc ⟨hK1, hA1, hbW, hk60, hk0, hov, hxi, hD, hDs⟩
    have hWs := hbW.size
    have t4 := (hbW.block _ (by omega) (by rintro ((h | h) | h) <;> omega)).trans u4
    have t5 := (hbW.block _ (by omega) (by rintro ((h | h) | h) <;> omega)).trans u5
    have t6 := (hbW.block _ (by omega) (by rintro ((h | h) | h) <;> omega)).trans u6
    have t7 := (hbW.block _ (by omega) (by rintro ((h | h) | h) <;> omega)).trans u7
    have t8 := (hbW.block _ (by omega) (by rintro ((h | h) | h) <;> omega)).trans u8
    have y1 := (hbW.block _ (by omega) (by rintro ((h | h) | h) <;> omega)).trans v1
    have y2 := (hbW.block _ (by omega) (by rintro ((h | h) | h) <;> omega)).trans v2
    have y3 := (hbW.block _ (by omega) (by rintro ((h | h) | h) <;> omega)).trans v3
    have t10 := (hbW.block _ (by omega) (by rintro ((h | h) | h) <;> omega)).trans uT
    have hWB : Below w.heap.size w Wc := ((But.of_below (S := fun j => w.heap.size ≤ j) hUB).trans (hbW.mono fun j hj => by rcases hj with (h | h) | h <;> omega)).below (Nat.le_refl _) fun j hj => hj
    obtain ⟨d1, hd1⟩ : ∃ d, d = U0.heap.size := ⟨_, rfl⟩
    rw [← hd1] at hD hDs ⊢
    have hd1w : w.heap.size + 9 ≤ d1 := by omega
    have hd1l : V.heap.size ≤ d1 := by omega
    clear hd1
    obtain ⟨kc, kf, -, kl⟩ := box_facts hK1
    obtain ⟨ac, af, -, al⟩ := box_facts hA1
    obtain ⟨c4, f4, -, l4⟩ := box_facts t4
    obtain ⟨c5, f5, -, l5⟩ := box_facts t5
    obtain ⟨c6, f6, -, l6⟩ := box_facts t6
    obtain ⟨c7, f7, -, l7⟩ := box_facts t7
    obtain ⟨cT, fT, -, lT⟩ := box_facts t10
    clear hK0 hA0 hk1 ha1 hka hk2 ha2 hbU hbW u4 u5 u6 u7 u8 v1 v2 v3 uT q4 q5 q6 q7 q8 s1 s2 s3 hK1 hA1 hUB
    obtain ⟨hx0, rfl⟩ := hxi (by omega)
    have ha : (0 : Int) < max 1 many := by omega
    simp only [Int.natCast_zero] at kc
    gi_wp2
    obtain ⟨V, hV⟩ : ∃ V, V = Wc.alloc (.cells #[.int .i64 1] 3) := ⟨_, rfl⟩
    have hVs : V.heap.size = Wc.heap.size + 1 := by rw [hV]; simp
    have q4 : V.heap[w.heap.size]? = some (.cells #[.int .i64 n] 3) := by rw [hV]; exact box_past t4
    have q5 : V.heap[w.heap.size + 1]? = some (.cells #[.int .i64 i] 3) := by rw [hV]; exact box_past t5
    have q6 : V.heap[w.heap.size + 2]? = some (.cells #[.int .i64 b] 3) := by rw [hV]; exact box_past t6
    have q7 : V.heap[w.heap.size + 3]? = some (.cells #[.int .i64 many] 3) := by rw [hV]; exact box_past t7
    have q8 : V.heap[w.heap.size + 4]? = some (.cells #[.bool false] 4) := by rw [hV]; exact box_past t8
    have s1 : V.heap[w.heap.size + 5]? = some (.cells #[.int .i64 n] 3) := by rw [hV]; exact box_past y1
    have s2 : V.heap[w.heap.size + 5 + 1]? = some (.cells #[.int .i64 i] 3) := by rw [hV]; exact box_past y2
    have s3 : V.heap[w.heap.size + 5 + 2]? = some (.cells #[.int .i64 b] 3) := by rw [hV]; exact box_past y3
    have q10 : V.heap[Wc.heap.size]? = some (.cells #[.int .i64 1] 3) := by rw [hV]; exact box_at rfl
    have hd0 : V.heap[d1]? = some (.deferred (some [])) := by rw [hV]; exact box_past hD
    have hVB : Below w.heap.size w V := by rw [hV]; exact below_new hWB _
    rw [← hV]
    obtain ⟨BT, hBT⟩ : ∃ BT, BT = Wc.heap.size := ⟨_, rfl⟩
    rw [← hBT] at hVs q10 hDs ⊢
    have hTl : BT < V.heap.size := by omega
    have hT1 : w.heap.size + 8 < BT := by omega
    have hTl : w.heap.size + 8 < V.heap.size := by omega
    clear kc kf kl ac af al c4 f4 l4 c5 f5 l5 c6 f6 l6 c7 f7 l7 cT fT lT t4 t5 t6 t7 t8 t10 y1 y2 y3 hV hWB hD hBT hVs hWs hov hk60 hk0
    clear hd1l
    obtain ⟨d0, hd01⟩ : ∃ d0, d0 = d1 := ⟨_, rfl⟩
    rw [← hd01] at hd0 hDs hd1w ⊢
    clear hd01 d1
    rw [roundsIn_succ]
    obtain ⟨qc, qf, -, ql⟩ := box_facts q10
    obtain ⟨c5, f5, -, l5⟩ := box_facts q5
    gi_wp2
    have k1 : ∀ o1 : Obj, (V.alloc o1).cell? ⟨w.heap.size + 1, 0, none⟩ = some (.int .i64 i) := fun o1 => (box_facts (box_past (o' := o1) q5)).1 0
    have k2 : ∀ o1 o2 : Obj, ((V.alloc o1).alloc o2).cell? ⟨w.heap.size + 1, 0, none⟩ = some (.int .i64 i) := fun o1 o2 => (box_facts (box_past (o' := o2) (box_past (o' := o1) q5))).1 0
    refine (wpIn_wide (n := 0)).2 ?_
    apply wp_mid2 (M := fun Bk Ba U => Below V.heap.size V U ∧ V.heap.size ≤ Bk ∧ V.heap.size ≤ Ba ∧ Bk ≠ Ba ∧ Bk < U.heap.size ∧ Ba < U.heap.size ∧ U.heap[Bk]? = some (.cells #[.int .i64 0] 3) ∧ U.heap[Ba]? = some (.cells #[.int .i64 i] 3))
    · go_region
      · refine ⟨rfl, V.heap.size, V.heap.size + 1, ?_, (below_new (below_new (Below.refl _ _) _) _).drew, by omega, by omega, by omega, by simp <;> omega, by simp <;> omega, box_past (box_at rfl), box_at (by simp)⟩
        generalize V.heap.size + 1 = Ba
        generalize V.heap.size = Bk
        rfl
      · exact ⟨rfl, V.heap.size + 1, V.heap.size, rfl, (below_new (below_new (Below.refl _ _) _) _).drew, by omega, by omega, by omega, by simp <;> omega, by simp <;> omega, box_at (by simp), box_past (box_at rfl)⟩
    rintro Bk Ba U0 ⟨hbU, hk1, ha1, hka, hk2, ha2, hK0, hA0⟩
    have hU0 := hbU.size
    have u4 := still_blk hbU q4
    have u5 := still_blk hbU q5
    have u6 := still_blk hbU q6
    have u7 := still_blk hbU q7
    have u8 := still_blk hbU q8
    have v1 := still_blk hbU s1
    have v2 := still_blk hbU s2
    have v3 := still_blk hbU s3
    have uT := still_blk hbU q10
    have hUB := below_step hVB hbU
    gi_wp2
    refine (wpIn_wide (n := 0)).2 ?_
    apply wp_midX 2 (M := fun k x Wc => Wc.heap[Bk]? = some (.cells #[.int .i64 (k : Int)] 3) ∧ Wc.heap[Ba]? = some (.cells #[.int .i64 x] 3) ∧ But (OffI (fun j => j = Bk ∨ j = Ba) U0) U0 Wc ∧ k ≤ 60 ∧ 0 ≤ k ∧ ((n < 0 ∨ i < 0 ∨ b ≤ 0 ∨ n ≤ x) ∨ (1 ≤ k ∧ (k = 60))) ∧ (n < 0 ∨ i < 0 ∨ b ≤ 0 → x = i ∧ k = 0) ∧ Wc.heap[U0.heap.size]? = some (.deferred (some [])) ∧ U0.heap.size < Wc.heap.size)
    · refine wp_range_but (gf := 6) (lb := #[.pointer (some ⟨w.heap.size + 5, 0, none⟩), .pointer (some ⟨w.heap.size + 5 + 1, 0, none⟩), .pointer (some ⟨w.heap.size + 5 + 2, 0, none⟩)]) (by simp [go_sem]) (enters_of Tryz.func6 (by kernel_rfl) rfl) (S := fun j => j = Bk ∨ j = Ba) ?_ (xs := rndL n i b) (V := VR) ?_ (rounds1_seq _ _ _ n i b _ U0 HN.out HI.out HB.out v1 v2 v3 (fun j hj => by omega))
        (fun c1 k Wc => ∃ x, Wc.heap[Bk]? = some (.cells #[.int .i64 (k : Int)] 3) ∧ Wc.heap[Ba]? = some (.cells #[.int .i64 x] 3) ∧ But (OffI (fun j => j = Bk ∨ j = Ba) U0) U0 Wc ∧ ((x < n ∧ x = i + (k : Int) * b) ∨ (n ≤ x ∧ k = (rndL n i b).length)) ∧ (k = 0 → x = i) ∧ k < 60 ∧ True ∧ (x < n → 0 ≤ x ∨ i < 0) ∧ U0.heap.size < c1 ∧ c1 ≤ Wc.heap.size)
        (fun c c1 k Wc => c = .exit 2 ∧ ∃ x, Wc.heap[Bk]? = some (.cells #[.int .i64 (k : Int)] 3) ∧ Wc.heap[Ba]? = some (.cells #[.int .i64 x] 3) ∧ But (OffI (fun j => j = Bk ∨ j = Ba) U0) U0 Wc ∧ 1 ≤ k ∧ k ≤ 60 ∧ (k = 60) ∧ rndOk n i b ∧ U0.heap.size < c1 ∧ c1 ≤ Wc.heap.size) ?_ ?_ ?_ ?_ ?_ ?_
      · rintro j (rfl | rfl) <;> omega
      · rintro c1 x v W0 Wc rfl; rfl
      · intro c1 Wc h1 h2 hb
        refine ⟨i, still_blk hb hK0, still_blk hb hA0, But.of_below hb, ?_, fun _ => rfl, by omega, by first | exact .inl rfl | trivial, fun _ => by omega, h1, h2⟩
        by_cases hin : i < n
        · exact .inl ⟨hin, by simp⟩
        · refine .inr ⟨by omega, ?_⟩
          by_cases ho : rndOk n i b
          · rw [rndL_len ho]
            have hz : ¬ 0 < rndN n i b := fun h => hin (by simpa using (rndN_iff ho 0).1 h)
            omega
          · rw [rndL_no ho]; rfl
      · rintro c1 k Wc Wc' ⟨x, h1, h2, h3, h4⟩ hb
        have hs := hb.size
        exact ⟨x, (hb.block _ (Array.getElem?_eq_some_iff.1 h1).1 (fun h => by have := h.1; omega)).trans h1, (hb.block _ (Array.getElem?_eq_some_iff.1 h2).1 (fun h => by have := h.1; omega)).trans h2, h3.trans (hb.mono fun j hj => .inr hj.1), h4.1, h4.2.1, h4.2.2.1, h4.2.2.2.1, h4.2.2.2.2.1, h4.2.2.2.2.2.1, by have := h4.2.2.2.2.2.2; omega⟩
      · rintro c c1 k Wc Wc' ⟨h0, x, h1, h2, h3, h4⟩ hb
        have hs := hb.size
        exact ⟨h0, x, (hb.block _ (Array.getElem?_eq_some_iff.1 h1).1 (fun h => by have := h.1; omega)).trans h1, (hb.block _ (Array.getElem?_eq_some_iff.1 h2).1 (fun h => by have := h.1; omega)).trans h2, h3.trans (hb.mono fun j hj => .inr hj.1), h4.1, h4.2.1, h4.2.2.1, h4.2.2.2.1, h4.2.2.2.2.1, by have := h4.2.2.2.2.2; omega⟩
      · rintro c1 k v0 v W1 Wc hx rfl ⟨x, hk0, hx0, hbu0, hrel, hk00, hk60, hok, hpos, hc0, hc9⟩ hbs hc1 hc20
        have := (rndL_at hx).1
        exfalso
        unfold rndOk at this
        omega
      · rintro c1 Wc ⟨x, h1, h2, h3, h4, h5, h6, h7, h8, h9, h10⟩ hD
        refine ⟨.inl rfl, rfl, (rndL n i b).length, x, h1, h2, h3, by omega, Nat.zero_le _, .inl ?_, ?_, hD, by omega⟩
        · rcases h4 with h | h
          · refine Classical.byContradiction fun hq => ?_
            have ho : rndOk n i b := ⟨by omega, by omega, by omega⟩
            have := (rndN_iff ho (rndL n i b).length).2 (by omega)
            rw [rndL_len ho] at this
            omega
          · omega
        · intro hq
          have hz : (rndL n i b).length = 0 := by rw [rndL_no (fun ho : rndOk n i b => by have := ho.1; have := ho.2.1; have := ho.2.2; omega)]; rfl
          exact ⟨h5 hz, hz⟩
      · rintro c c1 k Wc ⟨rfl, x, h1, h2, h3, h4, h5, h6, ho, h7, h8⟩ hD
        exact wp_exit ⟨.inr rfl, rfl, k, x, h1, h2, h3, h5, Nat.zero_le _, .inr ⟨h4, h6⟩, fun hq => by have := ho.1; have := ho.2.1; have := ho.2.2; omega, hD, by omega⟩

    · exact fun _ _ h => inBlock_hx h
    rintro k x Wc ⟨hK1, hA1, hbW, hk60, hk0, hov, hxi, hD, hDs⟩
    have hWs := hbW.size
    have t4 := (hbW.block _ (by omega) (by rintro ((h | h) | h) <;> omega)).trans u4
    have t5 := (hbW.block _ (by omega) (by rintro ((h | h) | h) <;> omega)).trans u5
    have t6 := (hbW.block _ (by omega) (by rintro ((h | h) | h) <;> omega)).trans u6
    have t7 := (hbW.block _ (by omega) (by rintro ((h | h) | h) <;> omega)).trans u7
    have t8 := (hbW.block _ (by omega) (by rintro ((h | h) | h) <;> omega)).trans u8
    have y1 := (hbW.block _ (by omega) (by rintro ((h | h) | h) <;> omega)).trans v1
    have y2 := (hbW.block _ (by omega) (by rintro ((h | h) | h) <;> omega)).trans v2
    have y3 := (hbW.block _ (by omega) (by rintro ((h | h) | h) <;> omega)).trans v3
    have t10 := (hbW.block _ (by omega) (by rintro ((h | h) | h) <;> omega)).trans uT
    have hD0 := (hbW.block _ (by omega) (by rintro ((h | h) | h) <;> omega)).trans (still_blk hbU hd0)
    have hWB : Below w.heap.size w Wc := ((But.of_below (S := fun j => w.heap.size ≤ j) hUB).trans (hbW.mono fun j hj => by rcases hj with (h | h) | h <;> omega)).below (Nat.le_refl _) fun j hj => hj
    obtain ⟨d1, hd1⟩ : ∃ d, d = U0.heap.size := ⟨_, rfl⟩
    rw [← hd1] at hD hDs ⊢
    have hd1w : w.heap.size + 9 ≤ d1 := by omega
    have hd1l : V.heap.size ≤ d1 := by omega
    clear hd1
    obtain ⟨kc, kf, -, kl⟩ := box_facts hK1
    obtain ⟨ac, af, -, al⟩ := box_facts hA1
    obtain ⟨c4, f4, -, l4⟩ := box_facts t4
    obtain ⟨c5, f5, -, l5⟩ := box_facts t5
    obtain ⟨c6, f6, -, l6⟩ := box_facts t6
    obtain ⟨c7, f7, -, l7⟩ := box_facts t7
    obtain ⟨cT, fT, -, lT⟩ := box_facts t10
    have hd0l : d0 < V.heap.size := (Array.getElem?_eq_some_iff.1 hd0).1
    clear hd0
    clear hK0 hA0 hk1 ha1 hka hk2 ha2 hbU hbW u4 u5 u6 u7 u8 v1 v2 v3 uT q4 q5 q6 q7 q8 s1 s2 s3 hK1 hA1 hUB
    obtain ⟨hx0, rfl⟩ := hxi (by omega)
    have ha : (0 : Int) < max 1 many := by omega
    simp only [Int.natCast_zero] at kc
    gi_wp2
    rw [roundsIn_succ]
    gi_wp2
    refine ⟨trivial, rfl, (callsIn_wide.2 (known_c _ (HV.out.kept (below_new hWB _)))).mono ?_⟩
    rintro z wf ⟨rfl, hbf⟩
    have h8f := still_blk hbf (box_past (o' := .cells #[.int .i64 2] 3) t8)
    have hd1f := still_blk hbf (box_past (o' := .cells #[.int .i64 2] 3) hD)
    have hd0f := still_blk hbf (box_past (o' := .cells #[.int .i64 2] 3) hD0)
    obtain ⟨rc, rf, rr, rl⟩ := box_facts h8f
    have hBf := below_step (below_new hWB (.cells #[.int .i64 2] 3)) hbf
    dsimp only
    gi_wp2
    refine leave2 (v := .bool true) (T := w.heap.size + 4) hd1f hd0f h8f (by omega) (by omega) (by omega) (fun X hX => by simp [results, Tryz.f3, go_sem, hX]) ⟨rfl, ?_⟩
    exact leave2_below hBf (by omega) (by omega) (by omega)
  by_cases cB : b < 1
  · rw [roundsIn_succ]
    obtain ⟨qc, qf, -, ql⟩ := box_facts q10
    obtain ⟨c5, f5, -, l5⟩ := box_facts q5
    gi_wp2
    have k1 : ∀ o1 : Obj, (V.alloc o1).cell? ⟨w.heap.size + 1, 0, none⟩ = some (.int .i64 i) := fun o1 => (box_facts (box_past (o' := o1) q5)).1 0
    have k2 : ∀ o1 o2 : Obj, ((V.alloc o1).alloc o2).cell? ⟨w.heap.size + 1, 0, none⟩ = some (.int .i64 i) := fun o1 o2 => (box_facts (box_past (o' := o2) (box_past (o' := o1) q5))).1 0
    refine (wpIn_wide (n := 0)).2 ?_
    apply wp_mid2 (M := fun Bk Ba U => Below V.heap.size V U ∧ V.heap.size ≤ Bk ∧ V.heap.size ≤ Ba ∧ Bk ≠ Ba ∧ Bk < U.heap.size ∧ Ba < U.heap.size ∧ U.heap[Bk]? = some (.cells #[.int .i64 0] 3) ∧ U.heap[Ba]? = some (.cells #[.int .i64 i] 3))
    · go_region
      · refine ⟨rfl, V.heap.size, V.heap.size + 1, ?_, (below_new (below_new (Below.refl _ _) _) _).drew, by omega, by omega, by omega, by simp <;> omega, by simp <;> omega, box_past (box_at rfl), box_at (by simp)⟩
        generalize V.heap.size + 1 = Ba
        generalize V.heap.size = Bk
        rfl
      · exact ⟨rfl, V.heap.size + 1, V.heap.size, rfl, (below_new (below_new (Below.refl _ _) _) _).drew, by omega, by omega, by omega, by simp <;> omega, by simp <;> omega, box_at (by simp), box_past (box_at rfl)⟩
    rintro Bk Ba U0 ⟨hbU, hk1, ha1, hka, hk2, ha2, hK0, hA0⟩
    have hU0 := hbU.size
    have u4 := still_blk hbU q4
    have u5 := still_blk hbU q5
    have u6 := still_blk hbU q6
    have u7 := still_blk hbU q7
    have u8 := still_blk hbU q8
    have v1 := still_blk hbU s1
    have v2 := still_blk hbU s2
    have v3 := still_blk hbU s3
    have uT := still_blk hbU q10
    have hUB := below_step hVB hbU
    gi_wp2
    refine (wpIn_wide (n := 0)).2 ?_
    apply wp_midX 2 (M := fun k x Wc => Wc.heap[Bk]? = some (.cells #[.int .i64 (k : Int)] 3) ∧ Wc.heap[Ba]? = some (.cells #[.int .i64 x] 3) ∧ But (OffI (fun j => j = Bk ∨ j = Ba) U0) U0 Wc ∧ k ≤ 60 ∧ 0 ≤ k ∧ ((n < 0 ∨ i < 0 ∨ b ≤ 0 ∨ n ≤ x) ∨ (1 ≤ k ∧ ((k : Int) ≥ many ∨ k = 60))) ∧ (n < 0 ∨ i < 0 ∨ b ≤ 0 → x = i ∧ k = 0) ∧ Wc.heap[U0.heap.size]? = some (.deferred (some [])) ∧ U0.heap.size < Wc.heap.size)
    · refine wp_range_but (gf := 6) (lb := #[.pointer (some ⟨w.heap.size + 5, 0, none⟩), .pointer (some ⟨w.heap.size + 5 + 1, 0, none⟩), .pointer (some ⟨w.heap.size + 5 + 2, 0, none⟩)]) (by simp [go_sem]) (enters_of Tryz.func6 (by kernel_rfl) rfl) (S := fun j => j = Bk ∨ j = Ba) ?_ (xs := rndL n i b) (V := VR) ?_ (rounds1_seq _ _ _ n i b _ U0 HN.out HI.out HB.out v1 v2 v3 (fun j hj => by omega))
        (fun c1 k Wc => ∃ x, Wc.heap[Bk]? = some (.cells #[.int .i64 (k : Int)] 3) ∧ Wc.heap[Ba]? = some (.cells #[.int .i64 x] 3) ∧ But (OffI (fun j => j = Bk ∨ j = Ba) U0) U0 Wc ∧ ((x < n ∧ x = i + (k : Int) * b) ∨ (n ≤ x ∧ k = (rndL n i b).length)) ∧ (k = 0 → x = i) ∧ k < 60 ∧ (k = 0 ∨ (k : Int) < many) ∧ (x < n → 0 ≤ x ∨ i < 0) ∧ U0.heap.size < c1 ∧ c1 ≤ Wc.heap.size)
        (fun c c1 k Wc => c = .exit 2 ∧ ∃ x, Wc.heap[Bk]? = some (.cells #[.int .i64 (k : Int)] 3) ∧ Wc.heap[Ba]? = some (.cells #[.int .i64 x] 3) ∧ But (OffI (fun j => j = Bk ∨ j = Ba) U0) U0 Wc ∧ 1 ≤ k ∧ k ≤ 60 ∧ ((k : Int) ≥ many ∨ k = 60) ∧ rndOk n i b ∧ U0.heap.size < c1 ∧ c1 ≤ Wc.heap.size) ?_ ?_ ?_ ?_ ?_ ?_
      · rintro j (rfl | rfl) <;> omega
      · rintro c1 x v W0 Wc rfl; rfl
      · intro c1 Wc h1 h2 hb
        refine ⟨i, still_blk hb hK0, still_blk hb hA0, But.of_below hb, ?_, fun _ => rfl, by omega, by first | exact .inl rfl | trivial, fun _ => by omega, h1, h2⟩
        by_cases hin : i < n
        · exact .inl ⟨hin, by simp⟩
        · refine .inr ⟨by omega, ?_⟩
          by_cases ho : rndOk n i b
          · rw [rndL_len ho]
            have hz : ¬ 0 < rndN n i b := fun h => hin (by simpa using (rndN_iff ho 0).1 h)
            omega
          · rw [rndL_no ho]; rfl
      · rintro c1 k Wc Wc' ⟨x, h1, h2, h3, h4⟩ hb
        have hs := hb.size
        exact ⟨x, (hb.block _ (Array.getElem?_eq_some_iff.1 h1).1 (fun h => by have := h.1; omega)).trans h1, (hb.block _ (Array.getElem?_eq_some_iff.1 h2).1 (fun h => by have := h.1; omega)).trans h2, h3.trans (hb.mono fun j hj => .inr hj.1), h4.1, h4.2.1, h4.2.2.1, h4.2.2.2.1, h4.2.2.2.2.1, h4.2.2.2.2.2.1, by have := h4.2.2.2.2.2.2; omega⟩
      · rintro c c1 k Wc Wc' ⟨h0, x, h1, h2, h3, h4⟩ hb
        have hs := hb.size
        exact ⟨h0, x, (hb.block _ (Array.getElem?_eq_some_iff.1 h1).1 (fun h => by have := h.1; omega)).trans h1, (hb.block _ (Array.getElem?_eq_some_iff.1 h2).1 (fun h => by have := h.1; omega)).trans h2, h3.trans (hb.mono fun j hj => .inr hj.1), h4.1, h4.2.1, h4.2.2.1, h4.2.2.2.1, h4.2.2.2.2.1, by have := h4.2.2.2.2.2; omega⟩
      · rintro c1 k v0 v W1 Wc hx rfl ⟨x, hk0, hx0, hbu0, hrel, hk00, hk60, hok, hpos, hc0, hc9⟩ hbs hc1 hc20
        have := (rndL_at hx).1
        exfalso
        unfold rndOk at this
        omega
      · rintro c1 Wc ⟨x, h1, h2, h3, h4, h5, h6, h7, h8, h9, h10⟩ hD
        refine ⟨.inl rfl, rfl, (rndL n i b).length, x, h1, h2, h3, by omega, Nat.zero_le _, .inl ?_, ?_, hD, by omega⟩
        · rcases h4 with h | h
          · refine Classical.byContradiction fun hq => ?_
            have ho : rndOk n i b := ⟨by omega, by omega, by omega⟩
            have := (rndN_iff ho (rndL n i b).length).2 (by omega)
            rw [rndL_len ho] at this
            omega
          · omega
        · intro hq
          have hz : (rndL n i b).length = 0 := by rw [rndL_no (fun ho : rndOk n i b => by have := ho.1; have := ho.2.1; have := ho.2.2; omega)]; rfl
          exact ⟨h5 hz, hz⟩
      · rintro c c1 k Wc ⟨rfl, x, h1, h2, h3, h4, h5, h6, ho, h7, h8⟩ hD
        exact wp_exit ⟨.inr rfl, rfl, k, x, h1, h2, h3, h5, Nat.zero_le _, .inr ⟨h4, h6⟩, fun hq => by have := ho.1; have := ho.2.1; have := ho.2.2; omega, hD, by omega⟩

    · exact fun _ _ h => inBlock_hx h
    rintro k x Wc ⟨hK1, hA1, hbW, hk60, hk0, hov, hxi, hD, hDs⟩
    have hWs := hbW.size
    have t4 := (hbW.block _ (by omega) (by rintro ((h | h) | h) <;> omega)).trans u4
    have t5 := (hbW.block _ (by omega) (by rintro ((h | h) | h) <;> omega)).trans u5
    have t6 := (hbW.block _ (by omega) (by rintro ((h | h) | h) <;> omega)).trans u6
    have t7 := (hbW.block _ (by omega) (by rintro ((h | h) | h) <;> omega)).trans u7
    have t8 := (hbW.block _ (by omega) (by rintro ((h | h) | h) <;> omega)).trans u8
    have y1 := (hbW.block _ (by omega) (by rintro ((h | h) | h) <;> omega)).trans v1
    have y2 := (hbW.block _ (by omega) (by rintro ((h | h) | h) <;> omega)).trans v2
    have y3 := (hbW.block _ (by omega) (by rintro ((h | h) | h) <;> omega)).trans v3
    have t10 := (hbW.block _ (by omega) (by rintro ((h | h) | h) <;> omega)).trans uT
    have hWB : Below w.heap.size w Wc := ((But.of_below (S := fun j => w.heap.size ≤ j) hUB).trans (hbW.mono fun j hj => by rcases hj with (h | h) | h <;> omega)).below (Nat.le_refl _) fun j hj => hj
    obtain ⟨d1, hd1⟩ : ∃ d, d = U0.heap.size := ⟨_, rfl⟩
    rw [← hd1] at hD hDs ⊢
    have hd1w : w.heap.size + 9 ≤ d1 := by omega
    have hd1l : V.heap.size ≤ d1 := by omega
    clear hd1
    obtain ⟨kc, kf, -, kl⟩ := box_facts hK1
    obtain ⟨ac, af, -, al⟩ := box_facts hA1
    obtain ⟨c4, f4, -, l4⟩ := box_facts t4
    obtain ⟨c5, f5, -, l5⟩ := box_facts t5
    obtain ⟨c6, f6, -, l6⟩ := box_facts t6
    obtain ⟨c7, f7, -, l7⟩ := box_facts t7
    obtain ⟨cT, fT, -, lT⟩ := box_facts t10
    clear hK0 hA0 hk1 ha1 hka hk2 ha2 hbU hbW u4 u5 u6 u7 u8 v1 v2 v3 uT q4 q5 q6 q7 q8 s1 s2 s3 hK1 hA1 hUB
    obtain ⟨hx0, rfl⟩ := hxi (by omega)
    have ha : (0 : Int) < max 1 many := by omega
    simp only [Int.natCast_zero] at kc
    gi_wp2
    obtain ⟨V, hV⟩ : ∃ V, V = Wc.alloc (.cells #[.int .i64 1] 3) := ⟨_, rfl⟩
    have hVs : V.heap.size = Wc.heap.size + 1 := by rw [hV]; simp
    have q4 : V.heap[w.heap.size]? = some (.cells #[.int .i64 n] 3) := by rw [hV]; exact box_past t4
    have q5 : V.heap[w.heap.size + 1]? = some (.cells #[.int .i64 i] 3) := by rw [hV]; exact box_past t5
    have q6 : V.heap[w.heap.size + 2]? = some (.cells #[.int .i64 b] 3) := by rw [hV]; exact box_past t6
    have q7 : V.heap[w.heap.size + 3]? = some (.cells #[.int .i64 many] 3) := by rw [hV]; exact box_past t7
    have q8 : V.heap[w.heap.size + 4]? = some (.cells #[.bool false] 4) := by rw [hV]; exact box_past t8
    have s1 : V.heap[w.heap.size + 5]? = some (.cells #[.int .i64 n] 3) := by rw [hV]; exact box_past y1
    have s2 : V.heap[w.heap.size + 5 + 1]? = some (.cells #[.int .i64 i] 3) := by rw [hV]; exact box_past y2
    have s3 : V.heap[w.heap.size + 5 + 2]? = some (.cells #[.int .i64 b] 3) := by rw [hV]; exact box_past y3
    have q10 : V.heap[Wc.heap.size]? = some (.cells #[.int .i64 1] 3) := by rw [hV]; exact box_at rfl
    have hd0 : V.heap[d1]? = some (.deferred (some [])) := by rw [hV]; exact box_past hD
    have hVB : Below w.heap.size w V := by rw [hV]; exact below_new hWB _
    rw [← hV]
    obtain ⟨BT, hBT⟩ : ∃ BT, BT = Wc.heap.size := ⟨_, rfl⟩
    rw [← hBT] at hVs q10 hDs ⊢
    have hTl : BT < V.heap.size := by omega
    have hT1 : w.heap.size + 8 < BT := by omega
    have hTl : w.heap.size + 8 < V.heap.size := by omega
    clear kc kf kl ac af al c4 f4 l4 c5 f5 l5 c6 f6 l6 c7 f7 l7 cT fT lT t4 t5 t6 t7 t8 t10 y1 y2 y3 hV hWB hD hBT hVs hWs hov hk60 hk0
    clear hd1l
    obtain ⟨d0, hd01⟩ : ∃ d0, d0 = d1 := ⟨_, rfl⟩
    rw [← hd01] at hd0 hDs hd1w ⊢
    clear hd01 d1
    rw [roundsIn_succ]
    obtain ⟨qc, qf, -, ql⟩ := box_facts q10
    obtain ⟨c5, f5, -, l5⟩ := box_facts q5
    gi_wp2
    have k1 : ∀ o1 : Obj, (V.alloc o1).cell? ⟨w.heap.size + 1, 0, none⟩ = some (.int .i64 i) := fun o1 => (box_facts (box_past (o' := o1) q5)).1 0
    have k2 : ∀ o1 o2 : Obj, ((V.alloc o1).alloc o2).cell? ⟨w.heap.size + 1, 0, none⟩ = some (.int .i64 i) := fun o1 o2 => (box_facts (box_past (o' := o2) (box_past (o' := o1) q5))).1 0
    refine (wpIn_wide (n := 0)).2 ?_
    apply wp_mid2 (M := fun Bk Ba U => Below V.heap.size V U ∧ V.heap.size ≤ Bk ∧ V.heap.size ≤ Ba ∧ Bk ≠ Ba ∧ Bk < U.heap.size ∧ Ba < U.heap.size ∧ U.heap[Bk]? = some (.cells #[.int .i64 0] 3) ∧ U.heap[Ba]? = some (.cells #[.int .i64 i] 3))
    · go_region
      · refine ⟨rfl, V.heap.size, V.heap.size + 1, ?_, (below_new (below_new (Below.refl _ _) _) _).drew, by omega, by omega, by omega, by simp <;> omega, by simp <;> omega, box_past (box_at rfl), box_at (by simp)⟩
        generalize V.heap.size + 1 = Ba
        generalize V.heap.size = Bk
        rfl
      · exact ⟨rfl, V.heap.size + 1, V.heap.size, rfl, (below_new (below_new (Below.refl _ _) _) _).drew, by omega, by omega, by omega, by simp <;> omega, by simp <;> omega, box_at (by simp), box_past (box_at rfl)⟩
    rintro Bk Ba U0 ⟨hbU, hk1, ha1, hka, hk2, ha2, hK0, hA0⟩
    have hU0 := hbU.size
    have u4 := still_blk hbU q4
    have u5 := still_blk hbU q5
    have u6 := still_blk hbU q6
    have u7 := still_blk hbU q7
    have u8 := still_blk hbU q8
    have v1 := still_blk hbU s1
    have v2 := still_blk hbU s2
    have v3 := still_blk hbU s3
    have uT := still_blk hbU q10
    have hUB := below_step hVB hbU
    gi_wp2
    refine (wpIn_wide (n := 0)).2 ?_
    apply wp_midX 2 (M := fun k x Wc => Wc.heap[Bk]? = some (.cells #[.int .i64 (k : Int)] 3) ∧ Wc.heap[Ba]? = some (.cells #[.int .i64 x] 3) ∧ But (OffI (fun j => j = Bk ∨ j = Ba) U0) U0 Wc ∧ k ≤ 60 ∧ 0 ≤ k ∧ ((n < 0 ∨ i < 0 ∨ b ≤ 0 ∨ n ≤ x) ∨ (1 ≤ k ∧ (k = 60))) ∧ (n < 0 ∨ i < 0 ∨ b ≤ 0 → x = i ∧ k = 0) ∧ Wc.heap[U0.heap.size]? = some (.deferred (some [])) ∧ U0.heap.size < Wc.heap.size)
    · refine wp_range_but (gf := 6) (lb := #[.pointer (some ⟨w.heap.size + 5, 0, none⟩), .pointer (some ⟨w.heap.size + 5 + 1, 0, none⟩), .pointer (some ⟨w.heap.size + 5 + 2, 0, none⟩)]) (by simp [go_sem]) (enters_of Tryz.func6 (by kernel_rfl) rfl) (S := fun j => j = Bk ∨ j = Ba) ?_ (xs := rndL n i b) (V := VR) ?_ (rounds1_seq _ _ _ n i b _ U0 HN.out HI.out HB.out v1 v2 v3 (fun j hj => by omega))
        (fun c1 k Wc => ∃ x, Wc.heap[Bk]? = some (.cells #[.int .i64 (k : Int)] 3) ∧ Wc.heap[Ba]? = some (.cells #[.int .i64 x] 3) ∧ But (OffI (fun j => j = Bk ∨ j = Ba) U0) U0 Wc ∧ ((x < n ∧ x = i + (k : Int) * b) ∨ (n ≤ x ∧ k = (rndL n i b).length)) ∧ (k = 0 → x = i) ∧ k < 60 ∧ True ∧ (x < n → 0 ≤ x ∨ i < 0) ∧ U0.heap.size < c1 ∧ c1 ≤ Wc.heap.size)
        (fun c c1 k Wc => c = .exit 2 ∧ ∃ x, Wc.heap[Bk]? = some (.cells #[.int .i64 (k : Int)] 3) ∧ Wc.heap[Ba]? = some (.cells #[.int .i64 x] 3) ∧ But (OffI (fun j => j = Bk ∨ j = Ba) U0) U0 Wc ∧ 1 ≤ k ∧ k ≤ 60 ∧ (k = 60) ∧ rndOk n i b ∧ U0.heap.size < c1 ∧ c1 ≤ Wc.heap.size) ?_ ?_ ?_ ?_ ?_ ?_
      · rintro j (rfl | rfl) <;> omega
      · rintro c1 x v W0 Wc rfl; rfl
      · intro c1 Wc h1 h2 hb
        refine ⟨i, still_blk hb hK0, still_blk hb hA0, But.of_below hb, ?_, fun _ => rfl, by omega, by first | exact .inl rfl | trivial, fun _ => by omega, h1, h2⟩
        by_cases hin : i < n
        · exact .inl ⟨hin, by simp⟩
        · refine .inr ⟨by omega, ?_⟩
          by_cases ho : rndOk n i b
          · rw [rndL_len ho]
            have hz : ¬ 0 < rndN n i b := fun h => hin (by simpa using (rndN_iff ho 0).1 h)
            omega
          · rw [rndL_no ho]; rfl
      · rintro c1 k Wc Wc' ⟨x, h1, h2, h3, h4⟩ hb
        have hs := hb.size
        exact ⟨x, (hb.block _ (Array.getElem?_eq_some_iff.1 h1).1 (fun h => by have := h.1; omega)).trans h1, (hb.block _ (Array.getElem?_eq_some_iff.1 h2).1 (fun h => by have := h.1; omega)).trans h2, h3.trans (hb.mono fun j hj => .inr hj.1), h4.1, h4.2.1, h4.2.2.1, h4.2.2.2.1, h4.2.2.2.2.1, h4.2.2.2.2.2.1, by have := h4.2.2.2.2.2.2; omega⟩
      · rintro c c1 k Wc Wc' ⟨h0, x, h1, h2, h3, h4⟩ hb
        have hs := hb.size
        exact ⟨h0, x, (hb.block _ (Array.getElem?_eq_some_iff.1 h1).1 (fun h => by have := h.1; omega)).trans h1, (hb.block _ (Array.getElem?_eq_some_iff.1 h2).1 (fun h => by have := h.1; omega)).trans h2, h3.trans (hb.mono fun j hj => .inr hj.1), h4.1, h4.2.1, h4.2.2.1, h4.2.2.2.1, h4.2.2.2.2.1, by have := h4.2.2.2.2.2; omega⟩
      · rintro c1 k v0 v W1 Wc hx rfl ⟨x, hk0, hx0, hbu0, hrel, hk00, hk60, hok, hpos, hc0, hc9⟩ hbs hc1 hc20
        have := (rndL_at hx).1
        exfalso
        unfold rndOk at this
        omega
      · rintro c1 Wc ⟨x, h1, h2, h3, h4, h5, h6, h7, h8, h9, h10⟩ hD
        refine ⟨.inl rfl, rfl, (rndL n i b).length, x, h1, h2, h3, by omega, Nat.zero_le _, .inl ?_, ?_, hD, by omega⟩
        · rcases h4 with h | h
          · refine Classical.byContradiction fun hq => ?_
            have ho : rndOk n i b := ⟨by omega, by omega, by omega⟩
            have := (rndN_iff ho (rndL n i b).length).2 (by omega)
            rw [rndL_len ho] at this
            omega
          · omega
        · intro hq
          have hz : (rndL n i b).length = 0 := by rw [rndL_no (fun ho : rndOk n i b => by have := ho.1; have := ho.2.1; have := ho.2.2; omega)]; rfl
          exact ⟨h5 hz, hz⟩
      · rintro c c1 k Wc ⟨rfl, x, h1, h2, h3, h4, h5, h6, ho, h7, h8⟩ hD
        exact wp_exit ⟨.inr rfl, rfl, k, x, h1, h2, h3, h5, Nat.zero_le _, .inr ⟨h4, h6⟩, fun hq => by have := ho.1; have := ho.2.1; have := ho.2.2; omega, hD, by omega⟩

    · exact fun _ _ h => inBlock_hx h
    rintro k x Wc ⟨hK1, hA1, hbW, hk60, hk0, hov, hxi, hD, hDs⟩
    have hWs := hbW.size
    have t4 := (hbW.block _ (by omega) (by rintro ((h | h) | h) <;> omega)).trans u4
    have t5 := (hbW.block _ (by omega) (by rintro ((h | h) | h) <;> omega)).trans u5
    have t6 := (hbW.block _ (by omega) (by rintro ((h | h) | h) <;> omega)).trans u6
    have t7 := (hbW.block _ (by omega) (by rintro ((h | h) | h) <;> omega)).trans u7
    have t8 := (hbW.block _ (by omega) (by rintro ((h | h) | h) <;> omega)).trans u8
    have y1 := (hbW.block _ (by omega) (by rintro ((h | h) | h) <;> omega)).trans v1
    have y2 := (hbW.block _ (by omega) (by rintro ((h | h) | h) <;> omega)).trans v2
    have y3 := (hbW.block _ (by omega) (by rintro ((h | h) | h) <;> omega)).trans v3
    have t10 := (hbW.block _ (by omega) (by rintro ((h | h) | h) <;> omega)).trans uT
    have hD0 := (hbW.block _ (by omega) (by rintro ((h | h) | h) <;> omega)).trans (still_blk hbU hd0)
    have hWB : Below w.heap.size w Wc := ((But.of_below (S := fun j => w.heap.size ≤ j) hUB).trans (hbW.mono fun j hj => by rcases hj with (h | h) | h <;> omega)).below (Nat.le_refl _) fun j hj => hj
    obtain ⟨d1, hd1⟩ : ∃ d, d = U0.heap.size := ⟨_, rfl⟩
    rw [← hd1] at hD hDs ⊢
    have hd1w : w.heap.size + 9 ≤ d1 := by omega
    have hd1l : V.heap.size ≤ d1 := by omega
    clear hd1
    obtain ⟨kc, kf, -, kl⟩ := box_facts hK1
    obtain ⟨ac, af, -, al⟩ := box_facts hA1
    obtain ⟨c4, f4, -, l4⟩ := box_facts t4
    obtain ⟨c5, f5, -, l5⟩ := box_facts t5
    obtain ⟨c6, f6, -, l6⟩ := box_facts t6
    obtain ⟨c7, f7, -, l7⟩ := box_facts t7
    obtain ⟨cT, fT, -, lT⟩ := box_facts t10
    have hd0l : d0 < V.heap.size := (Array.getElem?_eq_some_iff.1 hd0).1
    clear hd0
    clear hK0 hA0 hk1 ha1 hka hk2 ha2 hbU hbW u4 u5 u6 u7 u8 v1 v2 v3 uT q4 q5 q6 q7 q8 s1 s2 s3 hK1 hA1 hUB
    obtain ⟨hx0, rfl⟩ := hxi (by omega)
    have ha : (0 : Int) < max 1 many := by omega
    simp only [Int.natCast_zero] at kc
    gi_wp2
    rw [roundsIn_succ]
    gi_wp2
    refine ⟨trivial, rfl, (callsIn_wide.2 (known_c _ (HV.out.kept (below_new hWB _)))).mono ?_⟩
    rintro z wf ⟨rfl, hbf⟩
    have h8f := still_blk hbf (box_past (o' := .cells #[.int .i64 2] 3) t8)
    have hd1f := still_blk hbf (box_past (o' := .cells #[.int .i64 2] 3) hD)
    have hd0f := still_blk hbf (box_past (o' := .cells #[.int .i64 2] 3) hD0)
    obtain ⟨rc, rf, rr, rl⟩ := box_facts h8f
    have hBf := below_step (below_new hWB (.cells #[.int .i64 2] 3)) hbf
    dsimp only
    gi_wp2
    refine leave2 (v := .bool true) (T := w.heap.size + 4) hd1f hd0f h8f (by omega) (by omega) (by omega) (fun X hX => by simp [results, Tryz.f3, go_sem, hX]) ⟨rfl, ?_⟩
    exact leave2_below hBf (by omega) (by omega) (by omega)
  rw [roundsIn_succ]
  obtain ⟨qc, qf, -, ql⟩ := box_facts q10
  obtain ⟨c5, f5, -, l5⟩ := box_facts q5
  gi_wp2
  have k1 : ∀ o1 : Obj, (V.alloc o1).cell? ⟨w.heap.size + 1, 0, none⟩ = some (.int .i64 i) := fun o1 => (box_facts (box_past (o' := o1) q5)).1 0
  have k2 : ∀ o1 o2 : Obj, ((V.alloc o1).alloc o2).cell? ⟨w.heap.size + 1, 0, none⟩ = some (.int .i64 i) := fun o1 o2 => (box_facts (box_past (o' := o2) (box_past (o' := o1) q5))).1 0
  refine (wpIn_wide (n := 0)).2 ?_
  apply wp_mid2 (M := fun Bk Ba U => Below V.heap.size V U ∧ V.heap.size ≤ Bk ∧ V.heap.size ≤ Ba ∧ Bk ≠ Ba ∧ Bk < U.heap.size ∧ Ba < U.heap.size ∧ U.heap[Bk]? = some (.cells #[.int .i64 0] 3) ∧ U.heap[Ba]? = some (.cells #[.int .i64 i] 3))
  · go_region
    · refine ⟨rfl, V.heap.size, V.heap.size + 1, ?_, (below_new (below_new (Below.refl _ _) _) _).drew, by omega, by omega, by omega, by simp <;> omega, by simp <;> omega, box_past (box_at rfl), box_at (by simp)⟩
      generalize V.heap.size + 1 = Ba
      generalize V.heap.size = Bk
      rfl
    · exact ⟨rfl, V.heap.size + 1, V.heap.size, rfl, (below_new (below_new (Below.refl _ _) _) _).drew, by omega, by omega, by omega, by simp <;> omega, by simp <;> omega, box_at (by simp), box_past (box_at rfl)⟩
  rintro Bk Ba U0 ⟨hbU, hk1, ha1, hka, hk2, ha2, hK0, hA0⟩
  have hU0 := hbU.size
  have u4 := still_blk hbU q4
  have u5 := still_blk hbU q5
  have u6 := still_blk hbU q6
  have u7 := still_blk hbU q7
  have u8 := still_blk hbU q8
  have v1 := still_blk hbU s1
  have v2 := still_blk hbU s2
  have v3 := still_blk hbU s3
  have uT := still_blk hbU q10
  have hUB := below_step hVB hbU
  gi_wp2
  refine (wpIn_wide (n := 0)).2 ?_
  apply wp_midX 2 (M := fun k x Wc => Wc.heap[Bk]? = some (.cells #[.int .i64 (k : Int)] 3) ∧ Wc.heap[Ba]? = some (.cells #[.int .i64 x] 3) ∧ But (OffI (fun j => j = Bk ∨ j = Ba) U0) U0 Wc ∧ k ≤ 60 ∧ 0 ≤ k ∧ ((n < 0 ∨ i < 0 ∨ b ≤ 0 ∨ n ≤ x) ∨ (1 ≤ k ∧ ((k : Int) ≥ many ∨ k = 60))) ∧ (n < 0 ∨ i < 0 ∨ b ≤ 0 → x = i ∧ k = 0) ∧ Wc.heap[U0.heap.size]? = some (.deferred (some [])) ∧ U0.heap.size < Wc.heap.size)
  · refine wp_range_but (gf := 6) (lb := #[.pointer (some ⟨w.heap.size + 5, 0, none⟩), .pointer (some ⟨w.heap.size + 5 + 1, 0, none⟩), .pointer (some ⟨w.heap.size + 5 + 2, 0, none⟩)]) (by simp [go_sem]) (enters_of Tryz.func6 (by kernel_rfl) rfl) (S := fun j => j = Bk ∨ j = Ba) ?_ (xs := rndL n i b) (V := VR) ?_ (rounds1_seq _ _ _ n i b _ U0 HN.out HI.out HB.out v1 v2 v3 (fun j hj => by omega))
      (fun c1 k Wc => ∃ x, Wc.heap[Bk]? = some (.cells #[.int .i64 (k : Int)] 3) ∧ Wc.heap[Ba]? = some (.cells #[.int .i64 x] 3) ∧ But (OffI (fun j => j = Bk ∨ j = Ba) U0) U0 Wc ∧ ((x < n ∧ x = i + (k : Int) * b) ∨ (n ≤ x ∧ k = (rndL n i b).length)) ∧ (k = 0 → x = i) ∧ k < 60 ∧ (k = 0 ∨ (k : Int) < many) ∧ (x < n → 0 ≤ x ∨ i < 0) ∧ U0.heap.size < c1 ∧ c1 ≤ Wc.heap.size)
      (fun c c1 k Wc => c = .exit 2 ∧ ∃ x, Wc.heap[Bk]? = some (.cells #[.int .i64 (k : Int)] 3) ∧ Wc.heap[Ba]? = some (.cells #[.int .i64 x] 3) ∧ But (OffI (fun j => j = Bk ∨ j = Ba) U0) U0 Wc ∧ 1 ≤ k ∧ k ≤ 60 ∧ ((k : Int) ≥ many ∨ k = 60) ∧ rndOk n i b ∧ U0.heap.size < c1 ∧ c1 ≤ Wc.heap.size) ?_ ?_ ?_ ?_ ?_ ?_
    · rintro j (rfl | rfl) <;> omega
    · rintro c1 x v W0 Wc rfl; rfl
    · intro c1 Wc h1 h2 hb
      refine ⟨i, still_blk hb hK0, still_blk hb hA0, But.of_below hb, ?_, fun _ => rfl, by omega, by first | exact .inl rfl | trivial, fun _ => by omega, h1, h2⟩
      by_cases hin : i < n
      · exact .inl ⟨hin, by simp⟩
      · refine .inr ⟨by omega, ?_⟩
        by_cases ho : rndOk n i b
        · rw [rndL_len ho]
          have hz : ¬ 0 < rndN n i b := fun h => hin (by simpa using (rndN_iff ho 0).1 h)
          omega
        · rw [rndL_no ho]; rfl
    · rintro c1 k Wc Wc' ⟨x, h1, h2, h3, h4⟩ hb
      have hs := hb.size
      exact ⟨x, (hb.block _ (Array.getElem?_eq_some_iff.1 h1).1 (fun h => by have := h.1; omega)).trans h1, (hb.block _ (Array.getElem?_eq_some_iff.1 h2).1 (fun h => by have := h.1; omega)).trans h2, h3.trans (hb.mono fun j hj => .inr hj.1), h4.1, h4.2.1, h4.2.2.1, h4.2.2.2.1, h4.2.2.2.2.1, h4.2.2.2.2.2.1, by have := h4.2.2.2.2.2.2; omega⟩
    · rintro c c1 k Wc Wc' ⟨h0, x, h1, h2, h3, h4⟩ hb
      have hs := hb.size
      exact ⟨h0, x, (hb.block _ (Array.getElem?_eq_some_iff.1 h1).1 (fun h => by have := h.1; omega)).trans h1, (hb.block _ (Array.getElem?_eq_some_iff.1 h2).1 (fun h => by have := h.1; omega)).trans h2, h3.trans (hb.mono fun j hj => .inr hj.1), h4.1, h4.2.1, h4.2.2.1, h4.2.2.2.1, h4.2.2.2.2.1, by have := h4.2.2.2.2.2; omega⟩
    · rintro c1 k v0 v W1 Wc hx rfl ⟨x, hk0, hx0, hbu0, hrel, hk00, hk60, hok, hpos, hc0, hc9⟩ hbs hc1 hc20
      obtain ⟨ho, hin, rfl⟩ := rndL_at hx
      have hkl := (List.getElem?_eq_some_iff.1 hx).1
      have hxe : x = i + k * b := by rcases hrel with h | h; exact h.2; omega
      obtain ⟨y, hy0⟩ : ∃ y, y = x + min b (n - x) := ⟨_, rfl⟩
      have HO := Lib.hid ho
      have hxn : x < n := by omega
      have hx0i : 0 ≤ x := by
        have h1 : (0 : Int) ≤ (k : Int) * b := Int.mul_nonneg (by omega) (by have := ho.2.2; omega)
        have := ho.2.1
        omega
      have hnext : (y < n ∧ y = i + ((k + 1 : Nat) : Int) * b) ∨ (n ≤ y ∧ k + 1 = (rndL n i b).length) := by
        have e1 : ((k + 1 : Nat) : Int) * b = k * b + b := by rw [Int.natCast_add, Int.add_mul]; simp
        rw [e1]
        have hb0 := ho.2.2
        by_cases hlast : x + b < n
        · exact .inl ⟨by omega, by omega⟩
        · refine .inr ⟨by omega, ?_⟩
          rw [rndL_len ho] at hkl ⊢
          have h2 : ¬ k + 1 < rndN n i b := fun h => by
            have := (rndN_iff ho (k + 1)).1 h
            rw [e1] at this; omega
          omega
      have HNX := Lib.hid hnext
      have hyx : x < y := by have := ho.2.2; omega
      rw [show rndAt n i b k = (x, y) by unfold rndAt; rw [← hxe, ← hy0]]
      have hkb := (hbs.block _ (Array.getElem?_eq_some_iff.1 hk0).1 (fun h => by have := h.1; omega)).trans hk0
      have hab := (hbs.block _ (Array.getElem?_eq_some_iff.1 hx0).1 (fun h => by have := h.1; omega)).trans hx0
      have hbu := hbu0.trans (hbs.mono fun j hj => (.inr hj.1 : OffI (fun j => j = Bk ∨ j = Ba) U0 j))
      have hsW := hbs.size
      have hnW : ¬ n < 0 ∧ ¬ i < 0 ∧ ¬ b < 1 ∧ ¬ x ≥ n := ⟨by have := ho.1; omega, by have := ho.2.1; omega, by have := ho.2.2; omega, by omega⟩
      obtain ⟨-, hi0, hb1, hxn'⟩ := hnW
      have hw1 : wrap64 (n - x) = n - x := wrap64_i (by have := HN.out; unfold i64 at *; omega)
      have hwb : n - x > b → wrap64 (x + b) = y := fun h => by rw [wrap64_i (by have := HN.out; unfold i64 at *; omega)]; omega
      have hwn : ¬ n - x > b → n = y := fun h => by omega
      clear hx hin hrel hxe hk0 hx0 hbu0 ho hnext hkl hy0
      dsimp only
      gi_wp2
      refine ⟨Below.refl _ _, fun U hU => ?_⟩
      have hUs := hU.size
      have hUk : U.heap[Bk]? = some (.cells #[.int .i64 (k : Int)] 3) := (hU.block _ (Array.getElem?_eq_some_iff.1 hkb).1 (not_one (by omega))).trans hkb
      have hUa : U.heap[Ba]? = some (.cells #[.int .i64 x] 3) := (hU.block _ (Array.getElem?_eq_some_iff.1 hab).1 (not_one (by omega))).trans hab
      have hbuU : But (OffI (fun j => j = Bk ∨ j = Ba) U0) U0 U := hbu.trans (hU.mono fun j hj => .inr (by have : j = _ := hj; omega))
      have t4 := (hbuU.block _ (by omega) (by rintro ((h | h) | h) <;> omega)).trans u4
      have t5 := (hbuU.block _ (by omega) (by rintro ((h | h) | h) <;> omega)).trans u5
      have t6 := (hbuU.block _ (by omega) (by rintro ((h | h) | h) <;> omega)).trans u6
      have t7 := (hbuU.block _ (by omega) (by rintro ((h | h) | h) <;> omega)).trans u7
      have t10 := (hbuU.block _ (by omega) (by rintro ((h | h) | h) <;> omega)).trans uT
      obtain ⟨kc, kf, -, kl⟩ := box_facts hUk
      obtain ⟨ac, af, -, al⟩ := box_facts hUa
      obtain ⟨c4, f4, -, l4⟩ := box_facts t4
      obtain ⟨c5, f5, -, l5⟩ := box_facts t5
      obtain ⟨c6, f6, -, l6⟩ := box_facts t6
      obtain ⟨c7, f7, -, l7⟩ := box_facts t7
      obtain ⟨cT, fT, -, lT⟩ := box_facts t10
      have n1 : Ba ≠ Bk := fun h => hka h.symm
      have hX : But (fun j => (j = Bk ∨ j = Ba) ∨ c1 ≤ j) U ((U.setCell ⟨Ba, 0, none⟩ (.int .i64 y)).setCell ⟨Bk, 0, none⟩ (.int .i64 ((k : Int) + 1))) := ((setCell_but U Ba 0 _).mono fun j (hj : j = _) => .inl (.inr hj)).trans ((setCell_but _ Bk 0 _).mono fun j (hj : j = _) => .inl (.inl hj))
      have hXk : ((U.setCell ⟨Ba, 0, none⟩ (.int .i64 y)).setCell ⟨Bk, 0, none⟩ (.int .i64 ((k : Int) + 1))).heap[Bk]? = some (.cells #[.int .i64 ((k + 1 : Nat) : Int)] 3) := by
        have := setCell_blk (o := 0) (.int .i64 ((k : Int) + 1)) ((Below.heap_setCell U ⟨Ba, 0, none⟩ (.int .i64 y) Bk hka).trans hUk)
        simpa using this
      have hXa : ((U.setCell ⟨Ba, 0, none⟩ (.int .i64 y)).setCell ⟨Bk, 0, none⟩ (.int .i64 ((k : Int) + 1))).heap[Ba]? = some (.cells #[.int .i64 y] 3) := by
        rw [Below.heap_setCell _ ⟨Bk, 0, none⟩ _ Ba n1]
        have := setCell_blk (o := 0) (.int .i64 y) hUa
        simpa using this
      have HX := Lib.hid hX
      have HXk := Lib.hid hXk
      have HXa := Lib.hid hXa
      have HXb := Lib.hid (hbuU.trans (hX.mono fun j hj => hj.imp id (fun h => by omega)) : But (OffI (fun j => j = Bk ∨ j = Ba) U0) U0 _)
      have HXs := Lib.hid (show c1 ≤ ((U.setCell ⟨Ba, 0, none⟩ (.int .i64 y)).setCell ⟨Bk, 0, none⟩ (.int .i64 ((k : Int) + 1))).heap.size by have := hX.size; omega)
      have hnTk : ¬ (w.heap.size + 8) = Bk := by omega
      have hnTa : ¬ (w.heap.size + 8) = Ba := by omega
      clear hX hXk hXa hU hbs hbu hkb hab hbuU t4 t5 t6 t7 t10 hUk hUa u4 u5 u6 u7 u8 uT v1 v2 v3 q4 q5 q6 q7 q8 s1 s2 s3
      by_cases hgt : n - x > b
      · have hwb := hwb (by omega)
        clear hwn
        by_cases hma : (k : Int) + 1 ≥ many
        · gi_wp2
          exact ⟨HX.out, rfl, HXk.out, ⟨_, HXa.out⟩, HXb.out, by omega, by omega, by omega, HO.out, by omega, HXs.out⟩
        by_cases h60 : (k : Int) + 1 = 60
        · rw [h60] at HX HXk HXa HXb HXs
          gi_wp2
          exact ⟨HX.out, rfl, HXk.out, ⟨_, HXa.out⟩, HXb.out, by omega, by omega, by omega, HO.out, by omega, HXs.out⟩
        · gi_wp2
          exact ⟨HX.out, HXk.out, _, HXa.out, HXb.out, HNX.out, by omega, by omega, by omega, fun _ => .inl (by omega), by omega, HXs.out⟩
      · obtain rfl := hwn (by omega)
        clear hwb
        by_cases hma : (k : Int) + 1 ≥ many
        · gi_wp2
          exact ⟨HX.out, rfl, HXk.out, ⟨_, HXa.out⟩, HXb.out, by omega, by omega, by omega, HO.out, by omega, HXs.out⟩
        by_cases h60 : (k : Int) + 1 = 60
        · rw [h60] at HX HXk HXa HXb HXs
          gi_wp2
          exact ⟨HX.out, rfl, HXk.out, ⟨_, HXa.out⟩, HXb.out, by omega, by omega, by omega, HO.out, by omega, HXs.out⟩
        · gi_wp2
          exact ⟨HX.out, HXk.out, _, HXa.out, HXb.out, HNX.out, by omega, by omega, by omega, fun _ => .inl (by omega), by omega, HXs.out⟩
    · rintro c1 Wc ⟨x, h1, h2, h3, h4, h5, h6, h7, h8, h9, h10⟩ hD
      refine ⟨.inl rfl, rfl, (rndL n i b).length, x, h1, h2, h3, by omega, Nat.zero_le _, .inl ?_, ?_, hD, by omega⟩
      · rcases h4 with h | h
        · refine Classical.byContradiction fun hq => ?_
          have ho : rndOk n i b := ⟨by omega, by omega, by omega⟩
          have := (rndN_iff ho (rndL n i b).length).2 (by omega)
          rw [rndL_len ho] at this
          omega
        · omega
      · intro hq
        have hz : (rndL n i b).length = 0 := by rw [rndL_no (fun ho : rndOk n i b => by have := ho.1; have := ho.2.1; have := ho.2.2; omega)]; rfl
        exact ⟨h5 hz, hz⟩
    · rintro c c1 k Wc ⟨rfl, x, h1, h2, h3, h4, h5, h6, ho, h7, h8⟩ hD
      exact wp_exit ⟨.inr rfl, rfl, k, x, h1, h2, h3, h5, Nat.zero_le _, .inr ⟨h4, h6⟩, fun hq => by have := ho.1; have := ho.2.1; have := ho.2.2; omega, hD, by omega⟩

  · exact fun _ _ h => inBlock_hx h
  rintro k x Wc ⟨hK1, hA1, hbW, hk60, hk0, hov, hxi, hD, hDs⟩
  have hWs := hbW.size
  have t4 := (hbW.block _ (by omega) (by rintro ((h | h) | h) <;> omega)).trans u4
  have t5 := (hbW.block _ (by omega) (by rintro ((h | h) | h) <;> omega)).trans u5
  have t6 := (hbW.block _ (by omega) (by rintro ((h | h) | h) <;> omega)).trans u6
  have t7 := (hbW.block _ (by omega) (by rintro ((h | h) | h) <;> omega)).trans u7
  have t8 := (hbW.block _ (by omega) (by rintro ((h | h) | h) <;> omega)).trans u8
  have y1 := (hbW.block _ (by omega) (by rintro ((h | h) | h) <;> omega)).trans v1
  have y2 := (hbW.block _ (by omega) (by rintro ((h | h) | h) <;> omega)).trans v2
  have y3 := (hbW.block _ (by omega) (by rintro ((h | h) | h) <;> omega)).trans v3
  have t10 := (hbW.block _ (by omega) (by rintro ((h | h) | h) <;> omega)).trans uT
  have hWB : Below w.heap.size w Wc := ((But.of_below (S := fun j => w.heap.size ≤ j) hUB).trans (hbW.mono fun j hj => by rcases hj with (h | h) | h <;> omega)).below (Nat.le_refl _) fun j hj => hj
  obtain ⟨d1, hd1⟩ : ∃ d, d = U0.heap.size := ⟨_, rfl⟩
  rw [← hd1] at hD hDs ⊢
  have hd1w : w.heap.size + 9 ≤ d1 := by omega
  have hd1l : V.heap.size ≤ d1 := by omega
  clear hd1
  obtain ⟨kc, kf, -, kl⟩ := box_facts hK1
  obtain ⟨ac, af, -, al⟩ := box_facts hA1
  obtain ⟨c4, f4, -, l4⟩ := box_facts t4
  obtain ⟨c5, f5, -, l5⟩ := box_facts t5
  obtain ⟨c6, f6, -, l6⟩ := box_facts t6
  obtain ⟨c7, f7, -, l7⟩ := box_facts t7
  obtain ⟨cT, fT, -, lT⟩ := box_facts t10
  clear hK0 hA0 hk1 ha1 hka hk2 ha2 hbU hbW u4 u5 u6 u7 u8 v1 v2 v3 uT q4 q5 q6 q7 q8 s1 s2 s3 hK1 hA1 hUB
  by_cases ha : (k : Int) < max 1 many
  · by_cases hb6 : (k : Int) < 60
    · have hxn : x ≥ n := by rcases hov with (h | h) | h <;> omega
      gi_wp2
      obtain ⟨V, hV⟩ : ∃ V, V = Wc.alloc (.cells #[.int .i64 1] 3) := ⟨_, rfl⟩
      have hVs : V.heap.size = Wc.heap.size + 1 := by rw [hV]; simp
      have q4 : V.heap[w.heap.size]? = some (.cells #[.int .i64 n] 3) := by rw [hV]; exact box_past t4
      have q5 : V.heap[w.heap.size + 1]? = some (.cells #[.int .i64 i] 3) := by rw [hV]; exact box_past t5
      have q6 : V.heap[w.heap.size + 2]? = some (.cells #[.int .i64 b] 3) := by rw [hV]; exact box_past t6
      have q7 : V.heap[w.heap.size + 3]? = some (.cells #[.int .i64 many] 3) := by rw [hV]; exact box_past t7
      have q8 : V.heap[w.heap.size + 4]? = some (.cells #[.bool false] 4) := by rw [hV]; exact box_past t8
      have s1 : V.heap[w.heap.size + 5]? = some (.cells #[.int .i64 n] 3) := by rw [hV]; exact box_past y1
      have s2 : V.heap[w.heap.size + 5 + 1]? = some (.cells #[.int .i64 i] 3) := by rw [hV]; exact box_past y2
      have s3 : V.heap[w.heap.size + 5 + 2]? = some (.cells #[.int .i64 b] 3) := by rw [hV]; exact box_past y3
      have q10 : V.heap[Wc.heap.size]? = some (.cells #[.int .i64 1] 3) := by rw [hV]; exact box_at rfl
      have hd0 : V.heap[d1]? = some (.deferred (some [])) := by rw [hV]; exact box_past hD
      have hVB : Below w.heap.size w V := by rw [hV]; exact below_new hWB _
      rw [← hV]
      obtain ⟨BT, hBT⟩ : ∃ BT, BT = Wc.heap.size := ⟨_, rfl⟩
      rw [← hBT] at hVs q10 hDs ⊢
      have hTl : BT < V.heap.size := by omega
      have hT1 : w.heap.size + 8 < BT := by omega
      have hTl : w.heap.size + 8 < V.heap.size := by omega
      clear kc kf kl ac af al c4 f4 l4 c5 f5 l5 c6 f6 l6 c7 f7 l7 cT fT lT t4 t5 t6 t7 t8 t10 y1 y2 y3 hV hWB hD hBT hVs hWs hov hk60 hk0
      clear hd1l
      obtain ⟨d0, hd01⟩ : ∃ d0, d0 = d1 := ⟨_, rfl⟩
      rw [← hd01] at hd0 hDs hd1w ⊢
      clear hd01 d1
      rw [roundsIn_succ]
      obtain ⟨qc, qf, -, ql⟩ := box_facts q10
      obtain ⟨c5, f5, -, l5⟩ := box_facts q5
      gi_wp2
      have k1 : ∀ o1 : Obj, (V.alloc o1).cell? ⟨w.heap.size + 1, 0, none⟩ = some (.int .i64 i) := fun o1 => (box_facts (box_past (o' := o1) q5)).1 0
      have k2 : ∀ o1 o2 : Obj, ((V.alloc o1).alloc o2).cell? ⟨w.heap.size + 1, 0, none⟩ = some (.int .i64 i) := fun o1 o2 => (box_facts (box_past (o' := o2) (box_past (o' := o1) q5))).1 0
      refine (wpIn_wide (n := 0)).2 ?_
      apply wp_mid2 (M := fun Bk Ba U => Below V.heap.size V U ∧ V.heap.size ≤ Bk ∧ V.heap.size ≤ Ba ∧ Bk ≠ Ba ∧ Bk < U.heap.size ∧ Ba < U.heap.size ∧ U.heap[Bk]? = some (.cells #[.int .i64 0] 3) ∧ U.heap[Ba]? = some (.cells #[.int .i64 i] 3))
      · go_region
        · refine ⟨rfl, V.heap.size, V.heap.size + 1, ?_, (below_new (below_new (Below.refl _ _) _) _).drew, by omega, by omega, by omega, by simp <;> omega, by simp <;> omega, box_past (box_at rfl), box_at (by simp)⟩
          generalize V.heap.size + 1 = Ba
          generalize V.heap.size = Bk
          rfl
        · exact ⟨rfl, V.heap.size + 1, V.heap.size, rfl, (below_new (below_new (Below.refl _ _) _) _).drew, by omega, by omega, by omega, by simp <;> omega, by simp <;> omega, box_at (by simp), box_past (box_at rfl)⟩
      rintro Bk Ba U0 ⟨hbU, hk1, ha1, hka, hk2, ha2, hK0, hA0⟩
      have hU0 := hbU.size
      have u4 := still_blk hbU q4
      have u5 := still_blk hbU q5
      have u6 := still_blk hbU q6
      have u7 := still_blk hbU q7
      have u8 := still_blk hbU q8
      have v1 := still_blk hbU s1
      have v2 := still_blk hbU s2
      have v3 := still_blk hbU s3
      have uT := still_blk hbU q10
      have hUB := below_step hVB hbU
      gi_wp2
      refine (wpIn_wide (n := 0)).2 ?_
      apply wp_midX 2 (M := fun k x Wc => Wc.heap[Bk]? = some (.cells #[.int .i64 (k : Int)] 3) ∧ Wc.heap[Ba]? = some (.cells #[.int .i64 x] 3) ∧ But (OffI (fun j => j = Bk ∨ j = Ba) U0) U0 Wc ∧ k ≤ 60 ∧ 0 ≤ k ∧ ((n < 0 ∨ i < 0 ∨ b ≤ 0 ∨ n ≤ x) ∨ (1 ≤ k ∧ (k = 60))) ∧ (n < 0 ∨ i < 0 ∨ b ≤ 0 → x = i ∧ k = 0) ∧ Wc.heap[U0.heap.size]? = some (.deferred (some [])) ∧ U0.heap.size < Wc.heap.size)
      · refine wp_range_but (gf := 6) (lb := #[.pointer (some ⟨w.heap.size + 5, 0, none⟩), .pointer (some ⟨w.heap.size + 5 + 1, 0, none⟩), .pointer (some ⟨w.heap.size + 5 + 2, 0, none⟩)]) (by simp [go_sem]) (enters_of Tryz.func6 (by kernel_rfl) rfl) (S := fun j => j = Bk ∨ j = Ba) ?_ (xs := rndL n i b) (V := VR) ?_ (rounds1_seq _ _ _ n i b _ U0 HN.out HI.out HB.out v1 v2 v3 (fun j hj => by omega))
          (fun c1 k Wc => ∃ x, Wc.heap[Bk]? = some (.cells #[.int .i64 (k : Int)] 3) ∧ Wc.heap[Ba]? = some (.cells #[.int .i64 x] 3) ∧ But (OffI (fun j => j = Bk ∨ j = Ba) U0) U0 Wc ∧ ((x < n ∧ x = i + (k : Int) * b) ∨ (n ≤ x ∧ k = (rndL n i b).length)) ∧ (k = 0 → x = i) ∧ k < 60 ∧ True ∧ (x < n → 0 ≤ x ∨ i < 0) ∧ U0.heap.size < c1 ∧ c1 ≤ Wc.heap.size)
          (fun c c1 k Wc => c = .exit 2 ∧ ∃ x, Wc.heap[Bk]? = some (.cells #[.int .i64 (k : Int)] 3) ∧ Wc.heap[Ba]? = some (.cells #[.int .i64 x] 3) ∧ But (OffI (fun j => j = Bk ∨ j = Ba) U0) U0 Wc ∧ 1 ≤ k ∧ k ≤ 60 ∧ (k = 60) ∧ rndOk n i b ∧ U0.heap.size < c1 ∧ c1 ≤ Wc.heap.size) ?_ ?_ ?_ ?_ ?_ ?_
        · rintro j (rfl | rfl) <;> omega
        · rintro c1 x v W0 Wc rfl; rfl
        · intro c1 Wc h1 h2 hb
          refine ⟨i, still_blk hb hK0, still_blk hb hA0, But.of_below hb, ?_, fun _ => rfl, by omega, by first | exact .inl rfl | trivial, fun _ => by omega, h1, h2⟩
          by_cases hin : i < n
          · exact .inl ⟨hin, by simp⟩
          · refine .inr ⟨by omega, ?_⟩
            by_cases ho : rndOk n i b
            · rw [rndL_len ho]
              have hz : ¬ 0 < rndN n i b := fun h => hin (by simpa using (rndN_iff ho 0).1 h)
              omega
            · rw [rndL_no ho]; rfl
        · rintro c1 k Wc Wc' ⟨x, h1, h2, h3, h4⟩ hb
          have hs := hb.size
          exact ⟨x, (hb.block _ (Array.getElem?_eq_some_iff.1 h1).1 (fun h => by have := h.1; omega)).trans h1, (hb.block _ (Array.getElem?_eq_some_iff.1 h2).1 (fun h => by have := h.1; omega)).trans h2, h3.trans (hb.mono fun j hj => .inr hj.1), h4.1, h4.2.1, h4.2.2.1, h4.2.2.2.1, h4.2.2.2.2.1, h4.2.2.2.2.2.1, by have := h4.2.2.2.2.2.2; omega⟩
        · rintro c c1 k Wc Wc' ⟨h0, x, h1, h2, h3, h4⟩ hb
          have hs := hb.size
          exact ⟨h0, x, (hb.block _ (Array.getElem?_eq_some_iff.1 h1).1 (fun h => by have := h.1; omega)).trans h1, (hb.block _ (Array.getElem?_eq_some_iff.1 h2).1 (fun h => by have := h.1; omega)).trans h2, h3.trans (hb.mono fun j hj => .inr hj.1), h4.1, h4.2.1, h4.2.2.1, h4.2.2.2.1, h4.2.2.2.2.1, by have := h4.2.2.2.2.2; omega⟩
        · rintro c1 k v0 v W1 Wc hx rfl ⟨x, hk0, hx0, hbu0, hrel, hk00, hk60, hok, hpos, hc0, hc9⟩ hbs hc1 hc20
          obtain ⟨ho, hin, rfl⟩ := rndL_at hx
          have hkl := (List.getElem?_eq_some_iff.1 hx).1
          have hxe : x = i + k * b := by rcases hrel with h | h; exact h.2; omega
          obtain ⟨y, hy0⟩ : ∃ y, y = x + min b (n - x) := ⟨_, rfl⟩
          have HO := Lib.hid ho
          have hxn : x < n := by omega
          have hx0i : 0 ≤ x := by
            have h1 : (0 : Int) ≤ (k : Int) * b := Int.mul_nonneg (by omega) (by have := ho.2.2; omega)
            have := ho.2.1
            omega
          have hnext : (y < n ∧ y = i + ((k + 1 : Nat) : Int) * b) ∨ (n ≤ y ∧ k + 1 = (rndL n i b).length) := by
            have e1 : ((k + 1 : Nat) : Int) * b = k * b + b := by rw [Int.natCast_add, Int.add_mul]; simp
            rw [e1]
            have hb0 := ho.2.2
            by_cases hlast : x + b < n
            · exact .inl ⟨by omega, by omega⟩
            · refine .inr ⟨by omega, ?_⟩
              rw [rndL_len ho] at hkl ⊢
              have h2 : ¬ k + 1 < rndN n i b := fun h => by
                have := (rndN_iff ho (k + 1)).1 h
                rw [e1] at this; omega
              omega
          have HNX := Lib.hid hnext
          have hyx : x < y := by have := ho.2.2; omega
          rw [show rndAt n i b k = (x, y) by unfold rndAt; rw [← hxe, ← hy0]]
          have hkb := (hbs.block _ (Array.getElem?_eq_some_iff.1 hk0).1 (fun h => by have := h.1; omega)).trans hk0
          have hab := (hbs.block _ (Array.getElem?_eq_some_iff.1 hx0).1 (fun h => by have := h.1; omega)).trans hx0
          have hbu := hbu0.trans (hbs.mono fun j hj => (.inr hj.1 : OffI (fun j => j = Bk ∨ j = Ba) U0 j))
          have hsW := hbs.size
          have hnW : ¬ n < 0 ∧ ¬ i < 0 ∧ ¬ b < 1 ∧ ¬ x ≥ n := ⟨by have := ho.1; omega, by have := ho.2.1; omega, by have := ho.2.2; omega, by omega⟩
          obtain ⟨-, hi0, hb1, hxn'⟩ := hnW
          have hw1 : wrap64 (n - x) = n - x := wrap64_i (by have := HN.out; unfold i64 at *; omega)
          have hwb : n - x > b → wrap64 (x + b) = y := fun h => by rw [wrap64_i (by have := HN.out; unfold i64 at *; omega)]; omega
          have hwn : ¬ n - x > b → n = y := fun h => by omega
          clear hx hin hrel hxe hk0 hx0 hbu0 ho hnext hkl hy0
          dsimp only
          gi_wp2
          refine ⟨Below.refl _ _, fun U hU => ?_⟩
          have hUs := hU.size
          have hUk : U.heap[Bk]? = some (.cells #[.int .i64 (k : Int)] 3) := (hU.block _ (Array.getElem?_eq_some_iff.1 hkb).1 (not_one (by omega))).trans hkb
          have hUa : U.heap[Ba]? = some (.cells #[.int .i64 x] 3) := (hU.block _ (Array.getElem?_eq_some_iff.1 hab).1 (not_one (by omega))).trans hab
          have hbuU : But (OffI (fun j => j = Bk ∨ j = Ba) U0) U0 U := hbu.trans (hU.mono fun j hj => .inr (by have : j = _ := hj; omega))
          have t4 := (hbuU.block _ (by omega) (by rintro ((h | h) | h) <;> omega)).trans u4
          have t5 := (hbuU.block _ (by omega) (by rintro ((h | h) | h) <;> omega)).trans u5
          have t6 := (hbuU.block _ (by omega) (by rintro ((h | h) | h) <;> omega)).trans u6
          have t7 := (hbuU.block _ (by omega) (by rintro ((h | h) | h) <;> omega)).trans u7
          have t10 := (hbuU.block _ (by omega) (by rintro ((h | h) | h) <;> omega)).trans uT
          obtain ⟨kc, kf, -, kl⟩ := box_facts hUk
          obtain ⟨ac, af, -, al⟩ := box_facts hUa
          obtain ⟨c4, f4, -, l4⟩ := box_facts t4
          obtain ⟨c5, f5, -, l5⟩ := box_facts t5
          obtain ⟨c6, f6, -, l6⟩ := box_facts t6
          obtain ⟨c7, f7, -, l7⟩ := box_facts t7
          obtain ⟨cT, fT, -, lT⟩ := box_facts t10
          have n1 : Ba ≠ Bk := fun h => hka h.symm
          have hX : But (fun j => (j = Bk ∨ j = Ba) ∨ c1 ≤ j) U ((U.setCell ⟨Ba, 0, none⟩ (.int .i64 y)).setCell ⟨Bk, 0, none⟩ (.int .i64 ((k : Int) + 1))) := ((setCell_but U Ba 0 _).mono fun j (hj : j = _) => .inl (.inr hj)).trans ((setCell_but _ Bk 0 _).mono fun j (hj : j = _) => .inl (.inl hj))
          have hXk : ((U.setCell ⟨Ba, 0, none⟩ (.int .i64 y)).setCell ⟨Bk, 0, none⟩ (.int .i64 ((k : Int) + 1))).heap[Bk]? = some (.cells #[.int .i64 ((k + 1 : Nat) : Int)] 3) := by
            have := setCell_blk (o := 0) (.int .i64 ((k : Int) + 1)) ((Below.heap_setCell U ⟨Ba, 0, none⟩ (.int .i64 y) Bk hka).trans hUk)
            simpa using this
          have hXa : ((U.setCell ⟨Ba, 0, none⟩ (.int .i64 y)).setCell ⟨Bk, 0, none⟩ (.int .i64 ((k : Int) + 1))).heap[Ba]? = some (.cells #[.int .i64 y] 3) := by
            rw [Below.heap_setCell _ ⟨Bk, 0, none⟩ _ Ba n1]
            have := setCell_blk (o := 0) (.int .i64 y) hUa
            simpa using this
          have HX := Lib.hid hX
          have HXk := Lib.hid hXk
          have HXa := Lib.hid hXa
          have HXb := Lib.hid (hbuU.trans (hX.mono fun j hj => hj.imp id (fun h => by omega)) : But (OffI (fun j => j = Bk ∨ j = Ba) U0) U0 _)
          have HXs := Lib.hid (show c1 ≤ ((U.setCell ⟨Ba, 0, none⟩ (.int .i64 y)).setCell ⟨Bk, 0, none⟩ (.int .i64 ((k : Int) + 1))).heap.size by have := hX.size; omega)
          have hnTk : ¬ BT = Bk := by omega
          have hnTa : ¬ BT = Ba := by omega
          clear hX hXk hXa hU hbs hbu hkb hab hbuU t4 t5 t6 t7 t10 hUk hUa u4 u5 u6 u7 u8 uT v1 v2 v3 q4 q5 q6 q7 q8 s1 s2 s3
          by_cases hgt : n - x > b
          · have hwb := hwb (by omega)
            clear hwn
            by_cases h60 : (k : Int) + 1 = 60
            · rw [h60] at HX HXk HXa HXb HXs
              gi_wp2
              exact ⟨HX.out, rfl, HXk.out, ⟨_, HXa.out⟩, HXb.out, by omega, by omega, by omega, HO.out, by omega, HXs.out⟩
            · gi_wp2
              exact ⟨HX.out, HXk.out, _, HXa.out, HXb.out, HNX.out, by omega, by omega, fun _ => .inl (by omega), by omega, HXs.out⟩
          · obtain rfl := hwn (by omega)
            clear hwb
            by_cases h60 : (k : Int) + 1 = 60
            · rw [h60] at HX HXk HXa HXb HXs
              gi_wp2
              exact ⟨HX.out, rfl, HXk.out, ⟨_, HXa.out⟩, HXb.out, by omega, by omega, by omega, HO.out, by omega, HXs.out⟩
            · gi_wp2
              exact ⟨HX.out, HXk.out, _, HXa.out, HXb.out, HNX.out, by omega, by omega, fun _ => .inl (by omega), by omega, HXs.out⟩
        · rintro c1 Wc ⟨x, h1, h2, h3, h4, h5, h6, h7, h8, h9, h10⟩ hD
          refine ⟨.inl rfl, rfl, (rndL n i b).length, x, h1, h2, h3, by omega, Nat.zero_le _, .inl ?_, ?_, hD, by omega⟩
          · rcases h4 with h | h
            · refine Classical.byContradiction fun hq => ?_
              have ho : rndOk n i b := ⟨by omega, by omega, by omega⟩
              have := (rndN_iff ho (rndL n i b).length).2 (by omega)
              rw [rndL_len ho] at this
              omega
            · omega
          · intro hq
            have hz : (rndL n i b).length = 0 := by rw [rndL_no (fun ho : rndOk n i b => by have := ho.1; have := ho.2.1; have := ho.2.2; omega)]; rfl
            exact ⟨h5 hz, hz⟩
        · rintro c c1 k Wc ⟨rfl, x, h1, h2, h3, h4, h5, h6, ho, h7, h8⟩ hD
          exact wp_exit ⟨.inr rfl, rfl, k, x, h1, h2, h3, h5, Nat.zero_le _, .inr ⟨h4, h6⟩, fun hq => by have := ho.1; have := ho.2.1; have := ho.2.2; omega, hD, by omega⟩

      · exact fun _ _ h => inBlock_hx h
      rintro k x Wc ⟨hK1, hA1, hbW, hk60, hk0, hov, hxi, hD, hDs⟩
      have hWs := hbW.size
      have t4 := (hbW.block _ (by omega) (by rintro ((h | h) | h) <;> omega)).trans u4
      have t5 := (hbW.block _ (by omega) (by rintro ((h | h) | h) <;> omega)).trans u5
      have t6 := (hbW.block _ (by omega) (by rintro ((h | h) | h) <;> omega)).trans u6
      have t7 := (hbW.block _ (by omega) (by rintro ((h | h) | h) <;> omega)).trans u7
      have t8 := (hbW.block _ (by omega) (by rintro ((h | h) | h) <;> omega)).trans u8
      have y1 := (hbW.block _ (by omega) (by rintro ((h | h) | h) <;> omega)).trans v1
      have y2 := (hbW.block _ (by omega) (by rintro ((h | h) | h) <;> omega)).trans v2
      have y3 := (hbW.block _ (by omega) (by rintro ((h | h) | h) <;> omega)).trans v3
      have t10 := (hbW.block _ (by omega) (by rintro ((h | h) | h) <;> omega)).trans uT
      have hD0 := (hbW.block _ (by omega) (by rintro ((h | h) | h) <;> omega)).trans (still_blk hbU hd0)
      have hWB : Below w.heap.size w Wc := ((But.of_below (S := fun j => w.heap.size ≤ j) hUB).trans (hbW.mono fun j hj => by rcases hj with (h | h) | h <;> omega)).below (Nat.le_refl _) fun j hj => hj
      obtain ⟨d1, hd1⟩ : ∃ d, d = U0.heap.size := ⟨_, rfl⟩
      rw [← hd1] at hD hDs ⊢
      have hd1w : w.heap.size + 9 ≤ d1 := by omega
      have hd1l : V.heap.size ≤ d1 := by omega
      clear hd1
      obtain ⟨kc, kf, -, kl⟩ := box_facts hK1
      obtain ⟨ac, af, -, al⟩ := box_facts hA1
      obtain ⟨c4, f4, -, l4⟩ := box_facts t4
      obtain ⟨c5, f5, -, l5⟩ := box_facts t5
      obtain ⟨c6, f6, -, l6⟩ := box_facts t6
      obtain ⟨c7, f7, -, l7⟩ := box_facts t7
      obtain ⟨cT, fT, -, lT⟩ := box_facts t10
      have hd0l : d0 < V.heap.size := (Array.getElem?_eq_some_iff.1 hd0).1
      clear hd0
      clear hK0 hA0 hk1 ha1 hka hk2 ha2 hbU hbW u4 u5 u6 u7 u8 v1 v2 v3 uT q4 q5 q6 q7 q8 s1 s2 s3 hK1 hA1 hUB
      by_cases hb6 : (k : Int) < 60
      · have hxn : x ≥ n := by rcases hov with (h | h) | h <;> omega
        gi_wp2
        rw [roundsIn_succ]
        gi_wp2
        refine ⟨trivial, rfl, (callsIn_wide.2 (known_c _ (HV.out.kept (below_new hWB _)))).mono ?_⟩
        rintro z wf ⟨rfl, hbf⟩
        have h8f := still_blk hbf (box_past (o' := .cells #[.int .i64 2] 3) t8)
        have hd1f := still_blk hbf (box_past (o' := .cells #[.int .i64 2] 3) hD)
        have hd0f := still_blk hbf (box_past (o' := .cells #[.int .i64 2] 3) hD0)
        obtain ⟨rc, rf, rr, rl⟩ := box_facts h8f
        have hBf := below_step (below_new hWB (.cells #[.int .i64 2] 3)) hbf
        dsimp only
        gi_wp2
        refine leave2 (v := .bool true) (T := w.heap.size + 4) hd1f hd0f h8f (by omega) (by omega) (by omega) (fun X hX => by simp [results, Tryz.f3, go_sem, hX]) ⟨rfl, ?_⟩
        exact leave2_below hBf (by omega) (by omega) (by omega)
      gi_wp2
      rw [roundsIn_succ]
      gi_wp2
      refine ⟨trivial, rfl, (callsIn_wide.2 (known_c _ (HV.out.kept (below_new hWB _)))).mono ?_⟩
      rintro z wf ⟨rfl, hbf⟩
      have h8f := still_blk hbf (box_past (o' := .cells #[.int .i64 2] 3) t8)
      have hd1f := still_blk hbf (box_past (o' := .cells #[.int .i64 2] 3) hD)
      have hd0f := still_blk hbf (box_past (o' := .cells #[.int .i64 2] 3) hD0)
      obtain ⟨rc, rf, rr, rl⟩ := box_facts h8f
      have hBf := below_step (below_new hWB (.cells #[.int .i64 2] 3)) hbf
      dsimp only
      gi_wp2
      refine leave2 (v := .bool true) (T := w.heap.size + 4) hd1f hd0f h8f (by omega) (by omega) (by omega) (fun X hX => by simp [results, Tryz.f3, go_sem, hX]) ⟨rfl, ?_⟩
      exact leave2_below hBf (by omega) (by omega) (by omega)
    gi_wp2
    obtain ⟨V, hV⟩ : ∃ V, V = Wc.alloc (.cells #[.int .i64 1] 3) := ⟨_, rfl⟩
    have hVs : V.heap.size = Wc.heap.size + 1 := by rw [hV]; simp
    have q4 : V.heap[w.heap.size]? = some (.cells #[.int .i64 n] 3) := by rw [hV]; exact box_past t4
    have q5 : V.heap[w.heap.size + 1]? = some (.cells #[.int .i64 i] 3) := by rw [hV]; exact box_past t5
    have q6 : V.heap[w.heap.size + 2]? = some (.cells #[.int .i64 b] 3) := by rw [hV]; exact box_past t6
    have q7 : V.heap[w.heap.size + 3]? = some (.cells #[.int .i64 many] 3) := by rw [hV]; exact box_past t7
    have q8 : V.heap[w.heap.size + 4]? = some (.cells #[.bool false] 4) := by rw [hV]; exact box_past t8
    have s1 : V.heap[w.heap.size + 5]? = some (.cells #[.int .i64 n] 3) := by rw [hV]; exact box_past y1
    have s2 : V.heap[w.heap.size + 5 + 1]? = some (.cells #[.int .i64 i] 3) := by rw [hV]; exact box_past y2
    have s3 : V.heap[w.heap.size + 5 + 2]? = some (.cells #[.int .i64 b] 3) := by rw [hV]; exact box_past y3
    have q10 : V.heap[Wc.heap.size]? = some (.cells #[.int .i64 1] 3) := by rw [hV]; exact box_at rfl
    have hd0 : V.heap[d1]? = some (.deferred (some [])) := by rw [hV]; exact box_past hD
    have hVB : Below w.heap.size w V := by rw [hV]; exact below_new hWB _
    rw [← hV]
    obtain ⟨BT, hBT⟩ : ∃ BT, BT = Wc.heap.size := ⟨_, rfl⟩
    rw [← hBT] at hVs q10 hDs ⊢
    have hTl : BT < V.heap.size := by omega
    have hT1 : w.heap.size + 8 < BT := by omega
    have hTl : w.heap.size + 8 < V.heap.size := by omega
    clear kc kf kl ac af al c4 f4 l4 c5 f5 l5 c6 f6 l6 c7 f7 l7 cT fT lT t4 t5 t6 t7 t8 t10 y1 y2 y3 hV hWB hD hBT hVs hWs hov hk60 hk0
    clear hd1l
    obtain ⟨d0, hd01⟩ : ∃ d0, d0 = d1 := ⟨_, rfl⟩
    rw [← hd01] at hd0 hDs hd1w ⊢
    clear hd01 d1
    rw [roundsIn_succ]
    obtain ⟨qc, qf, -, ql⟩ := box_facts q10
    obtain ⟨c5, f5, -, l5⟩ := box_facts q5
    gi_wp2
    have k1 : ∀ o1 : Obj, (V.alloc o1).cell? ⟨w.heap.size + 1, 0, none⟩ = some (.int .i64 i) := fun o1 => (box_facts (box_past (o' := o1) q5)).1 0
    have k2 : ∀ o1 o2 : Obj, ((V.alloc o1).alloc o2).cell? ⟨w.heap.size + 1, 0, none⟩ = some (.int .i64 i) := fun o1 o2 => (box_facts (box_past (o' := o2) (box_past (o' := o1) q5))).1 0
    refine (wpIn_wide (n := 0)).2 ?_
    apply wp_mid2 (M := fun Bk Ba U => Below V.heap.size V U ∧ V.heap.size ≤ Bk ∧ V.heap.size ≤ Ba ∧ Bk ≠ Ba ∧ Bk < U.heap.size ∧ Ba < U.heap.size ∧ U.heap[Bk]? = some (.cells #[.int .i64 0] 3) ∧ U.heap[Ba]? = some (.cells #[.int .i64 i] 3))
    · go_region
      · refine ⟨rfl, V.heap.size, V.heap.size + 1, ?_, (below_new (below_new (Below.refl _ _) _) _).drew, by omega, by omega, by omega, by simp <;> omega, by simp <;> omega, box_past (box_at rfl), box_at (by simp)⟩
        generalize V.heap.size + 1 = Ba
        generalize V.heap.size = Bk
        rfl
      · exact ⟨rfl, V.heap.size + 1, V.heap.size, rfl, (below_new (below_new (Below.refl _ _) _) _).drew, by omega, by omega, by omega, by simp <;> omega, by simp <;> omega, box_at (by simp), box_past (box_at rfl)⟩
    rintro Bk Ba U0 ⟨hbU, hk1, ha1, hka, hk2, ha2, hK0, hA0⟩
    have hU0 := hbU.size
    have u4 := still_blk hbU q4
    have u5 := still_blk hbU q5
    have u6 := still_blk hbU q6
    have u7 := still_blk hbU q7
    have u8 := still_blk hbU q8
    have v1 := still_blk hbU s1
    have v2 := still_blk hbU s2
    have v3 := still_blk hbU s3
    have uT := still_blk hbU q10
    have hUB := below_step hVB hbU
    gi_wp2
    refine (wpIn_wide (n := 0)).2 ?_
    apply wp_midX 2 (M := fun k x Wc => Wc.heap[Bk]? = some (.cells #[.int .i64 (k : Int)] 3) ∧ Wc.heap[Ba]? = some (.cells #[.int .i64 x] 3) ∧ But (OffI (fun j => j = Bk ∨ j = Ba) U0) U0 Wc ∧ k ≤ 60 ∧ 0 ≤ k ∧ ((n < 0 ∨ i < 0 ∨ b ≤ 0 ∨ n ≤ x) ∨ (1 ≤ k ∧ (k = 60))) ∧ (n < 0 ∨ i < 0 ∨ b ≤ 0 → x = i ∧ k = 0) ∧ Wc.heap[U0.heap.size]? = some (.deferred (some [])) ∧ U0.heap.size < Wc.heap.size)
    · refine wp_range_but (gf := 6) (lb := #[.pointer (some ⟨w.heap.size + 5, 0, none⟩), .pointer (some ⟨w.heap.size + 5 + 1, 0, none⟩), .pointer (some ⟨w.heap.size + 5 + 2, 0, none⟩)]) (by simp [go_sem]) (enters_of Tryz.func6 (by kernel_rfl) rfl) (S := fun j => j = Bk ∨ j = Ba) ?_ (xs := rndL n i b) (V := VR) ?_ (rounds1_seq _ _ _ n i b _ U0 HN.out HI.out HB.out v1 v2 v3 (fun j hj => by omega))
        (fun c1 k Wc => ∃ x, Wc.heap[Bk]? = some (.cells #[.int .i64 (k : Int)] 3) ∧ Wc.heap[Ba]? = some (.cells #[.int .i64 x] 3) ∧ But (OffI (fun j => j = Bk ∨ j = Ba) U0) U0 Wc ∧ ((x < n ∧ x = i + (k : Int) * b) ∨ (n ≤ x ∧ k = (rndL n i b).length)) ∧ (k = 0 → x = i) ∧ k < 60 ∧ True ∧ (x < n → 0 ≤ x ∨ i < 0) ∧ U0.heap.size < c1 ∧ c1 ≤ Wc.heap.size)
        (fun c c1 k Wc => c = .exit 2 ∧ ∃ x, Wc.heap[Bk]? = some (.cells #[.int .i64 (k : Int)] 3) ∧ Wc.heap[Ba]? = some (.cells #[.int .i64 x] 3) ∧ But (OffI (fun j => j = Bk ∨ j = Ba) U0) U0 Wc ∧ 1 ≤ k ∧ k ≤ 60 ∧ (k = 60) ∧ rndOk n i b ∧ U0.heap.size < c1 ∧ c1 ≤ Wc.heap.size) ?_ ?_ ?_ ?_ ?_ ?_
      · rintro j (rfl | rfl) <;> omega
      · rintro c1 x v W0 Wc rfl; rfl
      · intro c1 Wc h1 h2 hb
        refine ⟨i, still_blk hb hK0, still_blk hb hA0, But.of_below hb, ?_, fun _ => rfl, by omega, by first | exact .inl rfl | trivial, fun _ => by omega, h1, h2⟩
        by_cases hin : i < n
        · exact .inl ⟨hin, by simp⟩
        · refine .inr ⟨by omega, ?_⟩
          by_cases ho : rndOk n i b
          · rw [rndL_len ho]
            have hz : ¬ 0 < rndN n i b := fun h => hin (by simpa using (rndN_iff ho 0).1 h)
            omega
          · rw [rndL_no ho]; rfl
      · rintro c1 k Wc Wc' ⟨x, h1, h2, h3, h4⟩ hb
        have hs := hb.size
        exact ⟨x, (hb.block _ (Array.getElem?_eq_some_iff.1 h1).1 (fun h => by have := h.1; omega)).trans h1, (hb.block _ (Array.getElem?_eq_some_iff.1 h2).1 (fun h => by have := h.1; omega)).trans h2, h3.trans (hb.mono fun j hj => .inr hj.1), h4.1, h4.2.1, h4.2.2.1, h4.2.2.2.1, h4.2.2.2.2.1, h4.2.2.2.2.2.1, by have := h4.2.2.2.2.2.2; omega⟩
      · rintro c c1 k Wc Wc' ⟨h0, x, h1, h2, h3, h4⟩ hb
        have hs := hb.size
        exact ⟨h0, x, (hb.block _ (Array.getElem?_eq_some_iff.1 h1).1 (fun h => by have := h.1; omega)).trans h1, (hb.block _ (Array.getElem?_eq_some_iff.1 h2).1 (fun h => by have := h.1; omega)).trans h2, h3.trans (hb.mono fun j hj => .inr hj.1), h4.1, h4.2.1, h4.2.2.1, h4.2.2.2.1, h4.2.2.2.2.1, by have := h4.2.2.2.2.2; omega⟩
      · rintro c1 k v0 v W1 Wc hx rfl ⟨x, hk0, hx0, hbu0, hrel, hk00, hk60, hok, hpos, hc0, hc9⟩ hbs hc1 hc20
        obtain ⟨ho, hin, rfl⟩ := rndL_at hx
        have hkl := (List.getElem?_eq_some_iff.1 hx).1
        have hxe : x = i + k * b := by rcases hrel with h | h; exact h.2; omega
        obtain ⟨y, hy0⟩ : ∃ y, y = x + min b (n - x) := ⟨_, rfl⟩
        have HO := Lib.hid ho
        have hxn : x < n := by omega
        have hx0i : 0 ≤ x := by
          have h1 : (0 : Int) ≤ (k : Int) * b := Int.mul_nonneg (by omega) (by have := ho.2.2; omega)
          have := ho.2.1
          omega
        have hnext : (y < n ∧ y = i + ((k + 1 : Nat) : Int) * b) ∨ (n ≤ y ∧ k + 1 = (rndL n i b).length) := by
          have e1 : ((k + 1 : Nat) : Int) * b = k * b + b := by rw [Int.natCast_add, Int.add_mul]; simp
          rw [e1]
          have hb0 := ho.2.2
          by_cases hlast : x + b < n
          · exact .inl ⟨by omega, by omega⟩
          · refine .inr ⟨by omega, ?_⟩
            rw [rndL_len ho] at hkl ⊢
            have h2 : ¬ k + 1 < rndN n i b := fun h => by
              have := (rndN_iff ho (k + 1)).1 h
              rw [e1] at this; omega
            omega
        have HNX := Lib.hid hnext
        have hyx : x < y := by have := ho.2.2; omega
        rw [show rndAt n i b k = (x, y) by unfold rndAt; rw [← hxe, ← hy0]]
        have hkb := (hbs.block _ (Array.getElem?_eq_some_iff.1 hk0).1 (fun h => by have := h.1; omega)).trans hk0
        have hab := (hbs.block _ (Array.getElem?_eq_some_iff.1 hx0).1 (fun h => by have := h.1; omega)).trans hx0
        have hbu := hbu0.trans (hbs.mono fun j hj => (.inr hj.1 : OffI (fun j => j = Bk ∨ j = Ba) U0 j))
        have hsW := hbs.size
        have hnW : ¬ n < 0 ∧ ¬ i < 0 ∧ ¬ b < 1 ∧ ¬ x ≥ n := ⟨by have := ho.1; omega, by have := ho.2.1; omega, by have := ho.2.2; omega, by omega⟩
        obtain ⟨-, hi0, hb1, hxn'⟩ := hnW
        have hw1 : wrap64 (n - x) = n - x := wrap64_i (by have := HN.out; unfold i64 at *; omega)
        have hwb : n - x > b → wrap64 (x + b) = y := fun h => by rw [wrap64_i (by have := HN.out; unfold i64 at *; omega)]; omega
        have hwn : ¬ n - x > b → n = y := fun h => by omega
        clear hx hin hrel hxe hk0 hx0 hbu0 ho hnext hkl hy0
        dsimp only
        gi_wp2
        refine ⟨Below.refl _ _, fun U hU => ?_⟩
        have hUs := hU.size
        have hUk : U.heap[Bk]? = some (.cells #[.int .i64 (k : Int)] 3) := (hU.block _ (Array.getElem?_eq_some_iff.1 hkb).1 (not_one (by omega))).trans hkb
        have hUa : U.heap[Ba]? = some (.cells #[.int .i64 x] 3) := (hU.block _ (Array.getElem?_eq_some_iff.1 hab).1 (not_one (by omega))).trans hab
        have hbuU : But (OffI (fun j => j = Bk ∨ j = Ba) U0) U0 U := hbu.trans (hU.mono fun j hj => .inr (by have : j = _ := hj; omega))
        have t4 := (hbuU.block _ (by omega) (by rintro ((h | h) | h) <;> omega)).trans u4
        have t5 := (hbuU.block _ (by omega) (by rintro ((h | h) | h) <;> omega)).trans u5
        have t6 := (hbuU.block _ (by omega) (by rintro ((h | h) | h) <;> omega)).trans u6
        have t7 := (hbuU.block _ (by omega) (by rintro ((h | h) | h) <;> omega)).trans u7
        have t10 := (hbuU.block _ (by omega) (by rintro ((h | h) | h) <;> omega)).trans uT
        obtain ⟨kc, kf, -, kl⟩ := box_facts hUk
        obtain ⟨ac, af, -, al⟩ := box_facts hUa
        obtain ⟨c4, f4, -, l4⟩ := box_facts t4
        obtain ⟨c5, f5, -, l5⟩ := box_facts t5
        obtain ⟨c6, f6, -, l6⟩ := box_facts t6
        obtain ⟨c7, f7, -, l7⟩ := box_facts t7
        obtain ⟨cT, fT, -, lT⟩ := box_facts t10
        have n1 : Ba ≠ Bk := fun h => hka h.symm
        have hX : But (fun j => (j = Bk ∨ j = Ba) ∨ c1 ≤ j) U ((U.setCell ⟨Ba, 0, none⟩ (.int .i64 y)).setCell ⟨Bk, 0, none⟩ (.int .i64 ((k : Int) + 1))) := ((setCell_but U Ba 0 _).mono fun j (hj : j = _) => .inl (.inr hj)).trans ((setCell_but _ Bk 0 _).mono fun j (hj : j = _) => .inl (.inl hj))
        have hXk : ((U.setCell ⟨Ba, 0, none⟩ (.int .i64 y)).setCell ⟨Bk, 0, none⟩ (.int .i64 ((k : Int) + 1))).heap[Bk]? = some (.cells #[.int .i64 ((k + 1 : Nat) : Int)] 3) := by
          have := setCell_blk (o := 0) (.int .i64 ((k : Int) + 1)) ((Below.heap_setCell U ⟨Ba, 0, none⟩ (.int .i64 y) Bk hka).trans hUk)
          simpa using this
        have hXa : ((U.setCell ⟨Ba, 0, none⟩ (.int .i64 y)).setCell ⟨Bk, 0, none⟩ (.int .i64 ((k : Int) + 1))).heap[Ba]? = some (.cells #[.int .i64 y] 3) := by
          rw [Below.heap_setCell _ ⟨Bk, 0, none⟩ _ Ba n1]
          have := setCell_blk (o := 0) (.int .i64 y) hUa
          simpa using this
        have HX := Lib.hid hX
        have HXk := Lib.hid hXk
        have HXa := Lib.hid hXa
        have HXb := Lib.hid (hbuU.trans (hX.mono fun j hj => hj.imp id (fun h => by omega)) : But (OffI (fun j => j = Bk ∨ j = Ba) U0) U0 _)
        have HXs := Lib.hid (show c1 ≤ ((U.setCell ⟨Ba, 0, none⟩ (.int .i64 y)).setCell ⟨Bk, 0, none⟩ (.int .i64 ((k : Int) + 1))).heap.size by have := hX.size; omega)
        have hnTk : ¬ BT = Bk := by omega
        have hnTa : ¬ BT = Ba := by omega
        clear hX hXk hXa hU hbs hbu hkb hab hbuU t4 t5 t6 t7 t10 hUk hUa u4 u5 u6 u7 u8 uT v1 v2 v3 q4 q5 q6 q7 q8 s1 s2 s3
        by_cases hgt : n - x > b
        · have hwb := hwb (by omega)
          clear hwn
          by_cases h60 : (k : Int) + 1 = 60
          · rw [h60] at HX HXk HXa HXb HXs
            gi_wp2
            exact ⟨HX.out, rfl, HXk.out, ⟨_, HXa.out⟩, HXb.out, by omega, by omega, by omega, HO.out, by omega, HXs.out⟩
          · gi_wp2
            exact ⟨HX.out, HXk.out, _, HXa.out, HXb.out, HNX.out, by omega, by omega, fun _ => .inl (by omega), by omega, HXs.out⟩
        · obtain rfl := hwn (by omega)
          clear hwb
          by_cases h60 : (k : Int) + 1 = 60
          · rw [h60] at HX HXk HXa HXb HXs
            gi_wp2
            exact ⟨HX.out, rfl, HXk.out, ⟨_, HXa.out⟩, HXb.out, by omega, by omega, by omega, HO.out, by omega, HXs.out⟩
          · gi_wp2
            exact ⟨HX.out, HXk.out, _, HXa.out, HXb.out, HNX.out, by omega, by omega, fun _ => .inl (by omega), by omega, HXs.out⟩
      · rintro c1 Wc ⟨x, h1, h2, h3, h4, h5, h6, h7, h8, h9, h10⟩ hD
        refine ⟨.inl rfl, rfl, (rndL n i b).length, x, h1, h2, h3, by omega, Nat.zero_le _, .inl ?_, ?_, hD, by omega⟩
        · rcases h4 with h | h
          · refine Classical.byContradiction fun hq => ?_
            have ho : rndOk n i b := ⟨by omega, by omega, by omega⟩
            have := (rndN_iff ho (rndL n i b).length).2 (by omega)
            rw [rndL_len ho] at this
            omega
          · omega
        · intro hq
          have hz : (rndL n i b).length = 0 := by rw [rndL_no (fun ho : rndOk n i b => by have := ho.1; have := ho.2.1; have := ho.2.2; omega)]; rfl
          exact ⟨h5 hz, hz⟩
      · rintro c c1 k Wc ⟨rfl, x, h1, h2, h3, h4, h5, h6, ho, h7, h8⟩ hD
        exact wp_exit ⟨.inr rfl, rfl, k, x, h1, h2, h3, h5, Nat.zero_le _, .inr ⟨h4, h6⟩, fun hq => by have := ho.1; have := ho.2.1; have := ho.2.2; omega, hD, by omega⟩

    · exact fun _ _ h => inBlock_hx h
    rintro k x Wc ⟨hK1, hA1, hbW, hk60, hk0, hov, hxi, hD, hDs⟩
    have hWs := hbW.size
    have t4 := (hbW.block _ (by omega) (by rintro ((h | h) | h) <;> omega)).trans u4
    have t5 := (hbW.block _ (by omega) (by rintro ((h | h) | h) <;> omega)).trans u5
    have t6 := (hbW.block _ (by omega) (by rintro ((h | h) | h) <;> omega)).trans u6
    have t7 := (hbW.block _ (by omega) (by rintro ((h | h) | h) <;> omega)).trans u7
    have t8 := (hbW.block _ (by omega) (by rintro ((h | h) | h) <;> omega)).trans u8
    have y1 := (hbW.block _ (by omega) (by rintro ((h | h) | h) <;> omega)).trans v1
    have y2 := (hbW.block _ (by omega) (by rintro ((h | h) | h) <;> omega)).trans v2
    have y3 := (hbW.block _ (by omega) (by rintro ((h | h) | h) <;> omega)).trans v3
    have t10 := (hbW.block _ (by omega) (by rintro ((h | h) | h) <;> omega)).trans uT
    have hD0 := (hbW.block _ (by omega) (by rintro ((h | h) | h) <;> omega)).trans (still_blk hbU hd0)
    have hWB : Below w.heap.size w Wc := ((But.of_below (S := fun j => w.heap.size ≤ j) hUB).trans (hbW.mono fun j hj => by rcases hj with (h | h) | h <;> omega)).below (Nat.le_refl _) fun j hj => hj
    obtain ⟨d1, hd1⟩ : ∃ d, d = U0.heap.size := ⟨_, rfl⟩
    rw [← hd1] at hD hDs ⊢
    have hd1w : w.heap.size + 9 ≤ d1 := by omega
    have hd1l : V.heap.size ≤ d1 := by omega
    clear hd1
    obtain ⟨kc, kf, -, kl⟩ := box_facts hK1
    obtain ⟨ac, af, -, al⟩ := box_facts hA1
    obtain ⟨c4, f4, -, l4⟩ := box_facts t4
    obtain ⟨c5, f5, -, l5⟩ := box_facts t5
    obtain ⟨c6, f6, -, l6⟩ := box_facts t6
    obtain ⟨c7, f7, -, l7⟩ := box_facts t7
    obtain ⟨cT, fT, -, lT⟩ := box_facts t10
    have hd0l : d0 < V.heap.size := (Array.getElem?_eq_some_iff.1 hd0).1
    clear hd0
    clear hK0 hA0 hk1 ha1 hka hk2 ha2 hbU hbW u4 u5 u6 u7 u8 v1 v2 v3 uT q4 q5 q6 q7 q8 s1 s2 s3 hK1 hA1 hUB
    by_cases hb6 : (k : Int) < 60
    · have hxn : x ≥ n := by rcases hov with (h | h) | h <;> omega
      gi_wp2
      rw [roundsIn_succ]
      gi_wp2
      refine ⟨trivial, rfl, (callsIn_wide.2 (known_c _ (HV.out.kept (below_new hWB _)))).mono ?_⟩
      rintro z wf ⟨rfl, hbf⟩
      have h8f := still_blk hbf (box_past (o' := .cells #[.int .i64 2] 3) t8)
      have hd1f := still_blk hbf (box_past (o' := .cells #[.int .i64 2] 3) hD)
      have hd0f := still_blk hbf (box_past (o' := .cells #[.int .i64 2] 3) hD0)
      obtain ⟨rc, rf, rr, rl⟩ := box_facts h8f
      have hBf := below_step (below_new hWB (.cells #[.int .i64 2] 3)) hbf
      dsimp only
      gi_wp2
      refine leave2 (v := .bool true) (T := w.heap.size + 4) hd1f hd0f h8f (by omega) (by omega) (by omega) (fun X hX => by simp [results, Tryz.f3, go_sem, hX]) ⟨rfl, ?_⟩
      exact leave2_below hBf (by omega) (by omega) (by omega)
    gi_wp2
    rw [roundsIn_succ]
    gi_wp2
    refine ⟨trivial, rfl, (callsIn_wide.2 (known_c _ (HV.out.kept (below_new hWB _)))).mono ?_⟩
    rintro z wf ⟨rfl, hbf⟩
    have h8f := still_blk hbf (box_past (o' := .cells #[.int .i64 2] 3) t8)
    have hd1f := still_blk hbf (box_past (o' := .cells #[.int .i64 2] 3) hD)
    have hd0f := still_blk hbf (box_past (o' := .cells #[.int .i64 2] 3) hD0)
    obtain ⟨rc, rf, rr, rl⟩ := box_facts h8f
    have hBf := below_step (below_new hWB (.cells #[.int .i64 2] 3)) hbf
    dsimp only
    gi_wp2
    refine leave2 (v := .bool true) (T := w.heap.size + 4) hd1f hd0f h8f (by omega) (by omega) (by omega) (fun X hX => by simp [results, Tryz.f3, go_sem, hX]) ⟨rfl, ?_⟩
    exact leave2_below hBf (by omega) (by omega) (by omega)
  gi_wp2
  obtain ⟨V, hV⟩ : ∃ V, V = Wc.alloc (.cells #[.int .i64 1] 3) := ⟨_, rfl⟩
  have hVs : V.heap.size = Wc.heap.size + 1 := by rw [hV]; simp
  have q4 : V.heap[w.heap.size]? = some (.cells #[.int .i64 n] 3) := by rw [hV]; exact box_past t4
  have q5 : V.heap[w.heap.size + 1]? = some (.cells #[.int .i64 i] 3) := by rw [hV]; exact box_past t5
  have q6 : V.heap[w.heap.size + 2]? = some (.cells #[.int .i64 b] 3) := by rw [hV]; exact box_past t6
  have q7 : V.heap[w.heap.size + 3]? = some (.cells #[.int .i64 many] 3) := by rw [hV]; exact box_past t7
  have q8 : V.heap[w.heap.size + 4]? = some (.cells #[.bool false] 4) := by rw [hV]; exact box_past t8
  have s1 : V.heap[w.heap.size + 5]? = some (.cells #[.int .i64 n] 3) := by rw [hV]; exact box_past y1
  have s2 : V.heap[w.heap.size + 5 + 1]? = some (.cells #[.int .i64 i] 3) := by rw [hV]; exact box_past y2
  have s3 : V.heap[w.heap.size + 5 + 2]? = some (.cells #[.int .i64 b] 3) := by rw [hV]; exact box_past y3
  have q10 : V.heap[Wc.heap.size]? = some (.cells #[.int .i64 1] 3) := by rw [hV]; exact box_at rfl
  have hd0 : V.heap[d1]? = some (.deferred (some [])) := by rw [hV]; exact box_past hD
  have hVB : Below w.heap.size w V := by rw [hV]; exact below_new hWB _
  rw [← hV]
  obtain ⟨BT, hBT⟩ : ∃ BT, BT = Wc.heap.size := ⟨_, rfl⟩
  rw [← hBT] at hVs q10 hDs ⊢
  have hTl : BT < V.heap.size := by omega
  have hT1 : w.heap.size + 8 < BT := by omega
  have hTl : w.heap.size + 8 < V.heap.size := by omega
  clear kc kf kl ac af al c4 f4 l4 c5 f5 l5 c6 f6 l6 c7 f7 l7 cT fT lT t4 t5 t6 t7 t8 t10 y1 y2 y3 hV hWB hD hBT hVs hWs hov hk60 hk0
  clear hd1l
  obtain ⟨d0, hd01⟩ : ∃ d0, d0 = d1 := ⟨_, rfl⟩
  rw [← hd01] at hd0 hDs hd1w ⊢
  clear hd01 d1
  rw [roundsIn_succ]
  obtain ⟨qc, qf, -, ql⟩ := box_facts q10
  obtain ⟨c5, f5, -, l5⟩ := box_facts q5
  gi_wp2
  have k1 : ∀ o1 : Obj, (V.alloc o1).cell? ⟨w.heap.size + 1, 0, none⟩ = some (.int .i64 i) := fun o1 => (box_facts (box_past (o' := o1) q5)).1 0
  have k2 : ∀ o1 o2 : Obj, ((V.alloc o1).alloc o2).cell? ⟨w.heap.size + 1, 0, none⟩ = some (.int .i64 i) := fun o1 o2 => (box_facts (box_past (o' := o2) (box_past (o' := o1) q5))).1 0
  refine (wpIn_wide (n := 0)).2 ?_
  apply wp_mid2 (M := fun Bk Ba U => Below V.heap.size V U ∧ V.heap.size ≤ Bk ∧ V.heap.size ≤ Ba ∧ Bk ≠ Ba ∧ Bk < U.heap.size ∧ Ba < U.heap.size ∧ U.heap[Bk]? = some (.cells #[.int .i64 0] 3) ∧ U.heap[Ba]? = some (.cells #[.int .i64 i] 3))
  · go_region
    · refine ⟨rfl, V.heap.size, V.heap.size + 1, ?_, (below_new (below_new (Below.refl _ _) _) _).drew, by omega, by omega, by omega, by simp <;> omega, by simp <;> omega, box_past (box_at rfl), box_at (by simp)⟩
      generalize V.heap.size + 1 = Ba
      generalize V.heap.size = Bk
      rfl
    · exact ⟨rfl, V.heap.size + 1, V.heap.size, rfl, (below_new (below_new (Below.refl _ _) _) _).drew, by omega, by omega, by omega, by simp <;> omega, by simp <;> omega, box_at (by simp), box_past (box_at rfl)⟩
  rintro Bk Ba U0 ⟨hbU, hk1, ha1, hka, hk2, ha2, hK0, hA0⟩
  have hU0 := hbU.size
  have u4 := still_blk hbU q4
  have u5 := still_blk hbU q5
  have u6 := still_blk hbU q6
  have u7 := still_blk hbU q7
  have u8 := still_blk hbU q8
  have v1 := still_blk hbU s1
  have v2 := still_blk hbU s2
  have v3 := still_blk hbU s3
  have uT := still_blk hbU q10
  have hUB := below_step hVB hbU
  gi_wp2
  refine (wpIn_wide (n := 0)).2 ?_
  apply wp_midX 2 (M := fun k x Wc => Wc.heap[Bk]? = some (.cells #[.int .i64 (k : Int)] 3) ∧ Wc.heap[Ba]? = some (.cells #[.int .i64 x] 3) ∧ But (OffI (fun j => j = Bk ∨ j = Ba) U0) U0 Wc ∧ k ≤ 60 ∧ 0 ≤ k ∧ ((n < 0 ∨ i < 0 ∨ b ≤ 0 ∨ n ≤ x) ∨ (1 ≤ k ∧ (k = 60))) ∧ (n < 0 ∨ i < 0 ∨ b ≤ 0 → x = i ∧ k = 0) ∧ Wc.heap[U0.heap.size]? = some (.deferred (some [])) ∧ U0.heap.size < Wc.heap.size)
  · refine wp_range_but (gf := 6) (lb := #[.pointer (some ⟨w.heap.size + 5, 0, none⟩), .pointer (some ⟨w.heap.size + 5 + 1, 0, none⟩), .pointer (some ⟨w.heap.size + 5 + 2, 0, none⟩)]) (by simp [go_sem]) (enters_of Tryz.func6 (by kernel_rfl) rfl) (S := fun j => j = Bk ∨ j = Ba) ?_ (xs := rndL n i b) (V := VR) ?_ (rounds1_seq _ _ _ n i b _ U0 HN.out HI.out HB.out v1 v2 v3 (fun j hj => by omega))
      (fun c1 k Wc => ∃ x, Wc.heap[Bk]? = some (.cells #[.int .i64 (k : Int)] 3) ∧ Wc.heap[Ba]? = some (.cells #[.int .i64 x] 3) ∧ But (OffI (fun j => j = Bk ∨ j = Ba) U0) U0 Wc ∧ ((x < n ∧ x = i + (k : Int) * b) ∨ (n ≤ x ∧ k = (rndL n i b).length)) ∧ (k = 0 → x = i) ∧ k < 60 ∧ True ∧ (x < n → 0 ≤ x ∨ i < 0) ∧ U0.heap.size < c1 ∧ c1 ≤ Wc.heap.size)
      (fun c c1 k Wc => c = .exit 2 ∧ ∃ x, Wc.heap[Bk]? = some (.cells #[.int .i64 (k : Int)] 3) ∧ Wc.heap[Ba]? = some (.cells #[.int .i64 x] 3) ∧ But (OffI (fun j => j = Bk ∨ j = Ba) U0) U0 Wc ∧ 1 ≤ k ∧ k ≤ 60 ∧ (k = 60) ∧ rndOk n i b ∧ U0.heap.size < c1 ∧ c1 ≤ Wc.heap.size) ?_ ?_ ?_ ?_ ?_ ?_
    · rintro j (rfl | rfl) <;> omega
    · rintro c1 x v W0 Wc rfl; rfl
    · intro c1 Wc h1 h2 hb
      refine ⟨i, still_blk hb hK0, still_blk hb hA0, But.of_below hb, ?_, fun _ => rfl, by omega, by first | exact .inl rfl | trivial, fun _ => by omega, h1, h2⟩
      by_cases hin : i < n
      · exact .inl ⟨hin, by simp⟩
      · refine .inr ⟨by omega, ?_⟩
        by_cases ho : rndOk n i b
        · rw [rndL_len ho]
          have hz : ¬ 0 < rndN n i b := fun h => hin (by simpa using (rndN_iff ho 0).1 h)
          omega
        · rw [rndL_no ho]; rfl
    · rintro c1 k Wc Wc' ⟨x, h1, h2, h3, h4⟩ hb
      have hs := hb.size
      exact ⟨x, (hb.block _ (Array.getElem?_eq_some_iff.1 h1).1 (fun h => by have := h.1; omega)).trans h1, (hb.block _ (Array.getElem?_eq_some_iff.1 h2).1 (fun h => by have := h.1; omega)).trans h2, h3.trans (hb.mono fun j hj => .inr hj.1), h4.1, h4.2.1, h4.2.2.1, h4.2.2.2.1, h4.2.2.2.2.1, h4.2.2.2.2.2.1, by have := h4.2.2.2.2.2.2; omega⟩
    · rintro c c1 k Wc Wc' ⟨h0, x, h1, h2, h3, h4⟩ hb
      have hs := hb.size
      exact ⟨h0, x, (hb.block _ (Array.getElem?_eq_some_iff.1 h1).1 (fun h => by have := h.1; omega)).trans h1, (hb.block _ (Array.getElem?_eq_some_iff.1 h2).1 (fun h => by have := h.1; omega)).trans h2, h3.trans (hb.mono fun j hj => .inr hj.1), h4.1, h4.2.1, h4.2.2.1, h4.2.2.2.1, h4.2.2.2.2.1, by have := h4.2.2.2.2.2; omega⟩
    · rintro c1 k v0 v W1 Wc hx rfl ⟨x, hk0, hx0, hbu0, hrel, hk00, hk60, hok, hpos, hc0, hc9⟩ hbs hc1 hc20
      obtain ⟨ho, hin, rfl⟩ := rndL_at hx
      have hkl := (List.getElem?_eq_some_iff.1 hx).1
      have hxe : x = i + k * b := by rcases hrel with h | h; exact h.2; omega
      obtain ⟨y, hy0⟩ : ∃ y, y = x + min b (n - x) := ⟨_, rfl⟩
      have HO := Lib.hid ho
      have hxn : x < n := by omega
      have hx0i : 0 ≤ x := by
        have h1 : (0 : Int) ≤ (k : Int) * b := Int.mul_nonneg (by omega) (by have := ho.2.2; omega)
        have := ho.2.1
        omega
      have hnext : (y < n ∧ y = i + ((k + 1 : Nat) : Int) * b) ∨ (n ≤ y ∧ k + 1 = (rndL n i b).length) := by
        have e1 : ((k + 1 : Nat) : Int) * b = k * b + b := by rw [Int.natCast_add, Int.add_mul]; simp
        rw [e1]
        have hb0 := ho.2.2
        by_cases hlast : x + b < n
        · exact .inl ⟨by omega, by omega⟩
        · refine .inr ⟨by omega, ?_⟩
          rw [rndL_len ho] at hkl ⊢
          have h2 : ¬ k + 1 < rndN n i b := fun h => by
            have := (rndN_iff ho (k + 1)).1 h
            rw [e1] at this; omega
          omega
      have HNX := Lib.hid hnext
      have hyx : x < y := by have := ho.2.2; omega
      rw [show rndAt n i b k = (x, y) by unfold rndAt; rw [← hxe, ← hy0]]
      have hkb := (hbs.block _ (Array.getElem?_eq_some_iff.1 hk0).1 (fun h => by have := h.1; omega)).trans hk0
      have hab := (hbs.block _ (Array.getElem?_eq_some_iff.1 hx0).1 (fun h => by have := h.1; omega)).trans hx0
      have hbu := hbu0.trans (hbs.mono fun j hj => (.inr hj.1 : OffI (fun j => j = Bk ∨ j = Ba) U0 j))
      have hsW := hbs.size
      have hnW : ¬ n < 0 ∧ ¬ i < 0 ∧ ¬ b < 1 ∧ ¬ x ≥ n := ⟨by have := ho.1; omega, by have := ho.2.1; omega, by have := ho.2.2; omega, by omega⟩
      obtain ⟨-, hi0, hb1, hxn'⟩ := hnW
      have hw1 : wrap64 (n - x) = n - x := wrap64_i (by have := HN.out; unfold i64 at *; omega)
      have hwb : n - x > b → wrap64 (x + b) = y := fun h => by rw [wrap64_i (by have := HN.out; unfold i64 at *; omega)]; omega
      have hwn : ¬ n - x > b → n = y := fun h => by omega
      clear hx hin hrel hxe hk0 hx0 hbu0 ho hnext hkl hy0
      dsimp only
      gi_wp2
      refine ⟨Below.refl _ _, fun U hU => ?_⟩
      have hUs := hU.size
      have hUk : U.heap[Bk]? = some (.cells #[.int .i64 (k : Int)] 3) := (hU.block _ (Array.getElem?_eq_some_iff.1 hkb).1 (not_one (by omega))).trans hkb
      have hUa : U.heap[Ba]? = some (.cells #[.int .i64 x] 3) := (hU.block _ (Array.getElem?_eq_some_iff.1 hab).1 (not_one (by omega))).trans hab
      have hbuU : But (OffI (fun j => j = Bk ∨ j = Ba) U0) U0 U := hbu.trans (hU.mono fun j hj => .inr (by have : j = _ := hj; omega))
      have t4 := (hbuU.block _ (by omega) (by rintro ((h | h) | h) <;> omega)).trans u4
      have t5 := (hbuU.block _ (by omega) (by rintro ((h | h) | h) <;> omega)).trans u5
      have t6 := (hbuU.block _ (by omega) (by rintro ((h | h) | h) <;> omega)).trans u6
      have t7 := (hbuU.block _ (by omega) (by rintro ((h | h) | h) <;> omega)).trans u7
      have t10 := (hbuU.block _ (by omega) (by rintro ((h | h) | h) <;> omega)).trans uT
      obtain ⟨kc, kf, -, kl⟩ := box_facts hUk
      obtain ⟨ac, af, -, al⟩ := box_facts hUa
      obtain ⟨c4, f4, -, l4⟩ := box_facts t4
      obtain ⟨c5, f5, -, l5⟩ := box_facts t5
      obtain ⟨c6, f6, -, l6⟩ := box_facts t6
      obtain ⟨c7, f7, -, l7⟩ := box_facts t7
      obtain ⟨cT, fT, -, lT⟩ := box_facts t10
      have n1 : Ba ≠ Bk := fun h => hka h.symm
      have hX : But (fun j => (j = Bk ∨ j = Ba) ∨ c1 ≤ j) U ((U.setCell ⟨Ba, 0, none⟩ (.int .i64 y)).setCell ⟨Bk, 0, none⟩ (.int .i64 ((k : Int) + 1))) := ((setCell_but U Ba 0 _).mono fun j (hj : j = _) => .inl (.inr hj)).trans ((setCell_but _ Bk 0 _).mono fun j (hj : j = _) => .inl (.inl hj))
      have hXk : ((U.setCell ⟨Ba, 0, none⟩ (.int .i64 y)).setCell ⟨Bk, 0, none⟩ (.int .i64 ((k : Int) + 1))).heap[Bk]? = some (.cells #[.int .i64 ((k + 1 : Nat) : Int)] 3) := by
        have := setCell_blk (o := 0) (.int .i64 ((k : Int) + 1)) ((Below.heap_setCell U ⟨Ba, 0, none⟩ (.int .i64 y) Bk hka).trans hUk)
        simpa using this
      have hXa : ((U.setCell ⟨Ba, 0, none⟩ (.int .i64 y)).setCell ⟨Bk, 0, none⟩ (.int .i64 ((k : Int) + 1))).heap[Ba]? = some (.cells #[.int .i64 y] 3) := by
        rw [Below.heap_setCell _ ⟨Bk, 0, none⟩ _ Ba n1]
        have := setCell_blk (o := 0) (.int .i64 y) hUa
        simpa using this
      have HX := Lib.hid hX
      have HXk := Lib.hid hXk
      have HXa := Lib.hid hXa
      have HXb := Lib.hid (hbuU.trans (hX.mono fun j hj => hj.imp id (fun h => by omega)) : But (OffI (fun j => j = Bk ∨ j = Ba) U0) U0 _)
      have HXs := Lib.hid (show c1 ≤ ((U.setCell ⟨Ba, 0, none⟩ (.int .i64 y)).setCell ⟨Bk, 0, none⟩ (.int .i64 ((k : Int) + 1))).heap.size by have := hX.size; omega)
      have hnTk : ¬ BT = Bk := by omega
      have hnTa : ¬ BT = Ba := by omega
      clear hX hXk hXa hU hbs hbu hkb hab hbuU t4 t5 t6 t7 t10 hUk hUa u4 u5 u6 u7 u8 uT v1 v2 v3 q4 q5 q6 q7 q8 s1 s2 s3
      by_cases hgt : n - x > b
      · have hwb := hwb (by omega)
        clear hwn
        by_cases h60 : (k : Int) + 1 = 60
        · rw [h60] at HX HXk HXa HXb HXs
          gi_wp2
          exact ⟨HX.out, rfl, HXk.out, ⟨_, HXa.out⟩, HXb.out, by omega, by omega, by omega, HO.out, by omega, HXs.out⟩
        · gi_wp2
          exact ⟨HX.out, HXk.out, _, HXa.out, HXb.out, HNX.out, by omega, by omega, fun _ => .inl (by omega), by omega, HXs.out⟩
      · obtain rfl := hwn (by omega)
        clear hwb
        by_cases h60 : (k : Int) + 1 = 60
        · rw [h60] at HX HXk HXa HXb HXs
          gi_wp2
          exact ⟨HX.out, rfl, HXk.out, ⟨_, HXa.out⟩, HXb.out, by omega, by omega, by omega, HO.out, by omega, HXs.out⟩
        · gi_wp2
          exact ⟨HX.out, HXk.out, _, HXa.out, HXb.out, HNX.out, by omega, by omega, fun _ => .inl (by omega), by omega, HXs.out⟩
    · rintro c1 Wc ⟨x, h1, h2, h3, h4, h5, h6, h7, h8, h9, h10⟩ hD
      refine ⟨.inl rfl, rfl, (rndL n i b).length, x, h1, h2, h3, by omega, Nat.zero_le _, .inl ?_, ?_, hD, by omega⟩
      · rcases h4 with h | h
        · refine Classical.byContradiction fun hq => ?_
          have ho : rndOk n i b := ⟨by omega, by omega, by omega⟩
          have := (rndN_iff ho (rndL n i b).length).2 (by omega)
          rw [rndL_len ho] at this
          omega
        · omega
      · intro hq
        have hz : (rndL n i b).length = 0 := by rw [rndL_no (fun ho : rndOk n i b => by have := ho.1; have := ho.2.1; have := ho.2.2; omega)]; rfl
        exact ⟨h5 hz, hz⟩
    · rintro c c1 k Wc ⟨rfl, x, h1, h2, h3, h4, h5, h6, ho, h7, h8⟩ hD
      exact wp_exit ⟨.inr rfl, rfl, k, x, h1, h2, h3, h5, Nat.zero_le _, .inr ⟨h4, h6⟩, fun hq => by have := ho.1; have := ho.2.1; have := ho.2.2; omega, hD, by omega⟩

  · exact fun _ _ h => inBlock_hx h
  rintro k x Wc ⟨hK1, hA1, hbW, hk60, hk0, hov, hxi, hD, hDs⟩
  have hWs := hbW.size
  have t4 := (hbW.block _ (by omega) (by rintro ((h | h) | h) <;> omega)).trans u4
  have t5 := (hbW.block _ (by omega) (by rintro ((h | h) | h) <;> omega)).trans u5
  have t6 := (hbW.block _ (by omega) (by rintro ((h | h) | h) <;> omega)).trans u6
  have t7 := (hbW.block _ (by omega) (by rintro ((h | h) | h) <;> omega)).trans u7
  have t8 := (hbW.block _ (by omega) (by rintro ((h | h) | h) <;> omega)).trans u8
  have y1 := (hbW.block _ (by omega) (by rintro ((h | h) | h) <;> omega)).trans v1
  have y2 := (hbW.block _ (by omega) (by rintro ((h | h) | h) <;> omega)).trans v2
  have y3 := (hbW.block _ (by omega) (by rintro ((h | h) | h) <;> omega)).trans v3
  have t10 := (hbW.block _ (by omega) (by rintro ((h | h) | h) <;> omega)).trans uT
  have hD0 := (hbW.block _ (by omega) (by rintro ((h | h) | h) <;> omega)).trans (still_blk hbU hd0)
  have hWB : Below w.heap.size w Wc := ((But.of_below (S := fun j => w.heap.size ≤ j) hUB).trans (hbW.mono fun j hj => by rcases hj with (h | h) | h <;> omega)).below (Nat.le_refl _) fun j hj => hj
  obtain ⟨d1, hd1⟩ : ∃ d, d = U0.heap.size := ⟨_, rfl⟩
  rw [← hd1] at hD hDs ⊢
  have hd1w : w.heap.size + 9 ≤ d1 := by omega
  have hd1l : V.heap.size ≤ d1 := by omega
  clear hd1
  obtain ⟨kc, kf, -, kl⟩ := box_facts hK1
  obtain ⟨ac, af, -, al⟩ := box_facts hA1
  obtain ⟨c4, f4, -, l4⟩ := box_facts t4
  obtain ⟨c5, f5, -, l5⟩ := box_facts t5
  obtain ⟨c6, f6, -, l6⟩ := box_facts t6
  obtain ⟨c7, f7, -, l7⟩ := box_facts t7
  obtain ⟨cT, fT, -, lT⟩ := box_facts t10
  have hd0l : d0 < V.heap.size := (Array.getElem?_eq_some_iff.1 hd0).1
  clear hd0
  clear hK0 hA0 hk1 ha1 hka hk2 ha2 hbU hbW u4 u5 u6 u7 u8 v1 v2 v3 uT q4 q5 q6 q7 q8 s1 s2 s3 hK1 hA1 hUB
  by_cases hb6 : (k : Int) < 60
  · have hxn : x ≥ n := by rcases hov with (h | h) | h <;> omega
    gi_wp2
    rw [roundsIn_succ]
    gi_wp2
    refine ⟨trivial, rfl, (callsIn_wide.2 (known_c _ (HV.out.kept (below_new hWB _)))).mono ?_⟩
    rintro z wf ⟨rfl, hbf⟩
    have h8f := still_blk hbf (box_past (o' := .cells #[.int .i64 2] 3) t8)
    have hd1f := still_blk hbf (box_past (o' := .cells #[.int .i64 2] 3) hD)
    have hd0f := still_blk hbf (box_past (o' := .cells #[.int .i64 2] 3) hD0)
    obtain ⟨rc, rf, rr, rl⟩ := box_facts h8f
    have hBf := below_step (below_new hWB (.cells #[.int .i64 2] 3)) hbf
    dsimp only
    gi_wp2
    refine leave2 (v := .bool true) (T := w.heap.size + 4) hd1f hd0f h8f (by omega) (by omega) (by omega) (fun X hX => by simp [results, Tryz.f3, go_sem, hX]) ⟨rfl, ?_⟩
    exact leave2_below hBf (by omega) (by omega) (by omega)
  gi_wp2
  rw [roundsIn_succ]
  gi_wp2
  refine ⟨trivial, rfl, (callsIn_wide.2 (known_c _ (HV.out.kept (below_new hWB _)))).mono ?_⟩
  rintro z wf ⟨rfl, hbf⟩
  have h8f := still_blk hbf (box_past (o' := .cells #[.int .i64 2] 3) t8)
  have hd1f := still_blk hbf (box_past (o' := .cells #[.int .i64 2] 3) hD)
  have hd0f := still_blk hbf (box_past (o' := .cells #[.int .i64 2] 3) hD0)
  obtain ⟨rc, rf, rr, rl⟩ := box_facts h8f
  have hBf := below_step (below_new hWB (.cells #[.int .i64 2] 3)) hbf
  dsimp only
  gi_wp2
  refine leave2 (v := .bool true) (T := w.heap.size + 4) hd1f hd0f h8f (by omega) (by omega) (by omega) (fun X hX => by simp [results, Tryz.f3, go_sem, hX]) ⟨rfl, ?_⟩
  exact leave2_below hBf (by omega) (by omega) (by omega)
end Go.Proofs.YthbialpbkpiekaaGreatDoor
