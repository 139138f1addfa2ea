/- The oracle of (*Replica).Take, where it ends well: what it calls is run by the evaluator. -/
import Derived.Test.YthbialpbkpiekaaGreatDoorXE
import Derived.Test.YthbialpbkpiekaaGreatDoorTE
import Derived.Test.YthbialpbkpiekaaGreatDoorXA
import Derived.Scope
import Derived.Deep.RegionHeld2
import Derived.WalkMore
namespace Go.MiniT
open Go Go.Mini Go.RowKit
noncomputable def takeH (h : MH) (A : List MV) (tA tE : Nat) : MH := (h.new (.cells A tA 5 false)).new (.cells [.int .i64 (.ofNat 0)] tE 1 false)
noncomputable def isZeroB : Option MB → Bool
  | some (.cells [.int .i64 (.ofNat n)] _ _ _) => Nat.beq n 0
  | _ => false
noncomputable def orcTake (E : Env) (n fT tA tE f k : Nat) : Orc := fun g args h =>
  cond (Nat.beq g fT) (match args with
    | [.ptr r o, .agg [.int .i64 (.ofNat kk), v1, v2, v3, v4]] => cond (Nat.beq kk k) (match h.get r with
      | some (.cells cs _ _ _) => match lget cs (Nat.add o 34) with
        | some (.ptr _ _) => match run E n (.call f [.ptr r o, .agg [.int .i64 (.ofNat kk), v1, v2, v3, v4]]) (takeH h [.int .i64 (.ofNat kk), v1, v2, v3, v4] tA tE) with
          | some (.tup [], h1) => cond (isZeroB (h1.get (Nat.succ h.nx))) (some (.int .i64 (.ofNat 0), h1.set (Nat.succ h.nx) .dead)) none
          | _ => none
        | _ => none
      | _ => none) none
    | _ => none) none
section
variable [O : Opq] {G : GB} {B : Nat → Prop} {W0 : World} {σ : Sg} {V : Nat → Prop} {h : MH} {w : World}
/-- A variable is made. -/
theorem rel_box (R : Rel G B W0 σ V h w) (hW : ∀ k, B k → k < W0.heap.size) {cs : List MV} (hw : wfs σ V cs) (ho : ones cs = true) (t es : Nat) :
    Rel G B W0 (upd σ h.nx ⟨w.heap.size, 0, 0⟩) (addV V h.nx) (h.new (.cells cs t es false)) (w.alloc (.cells ⟨embs σ cs⟩ t)) := by
  have ha : Agr V σ (upd σ h.nx ⟨w.heap.size, 0, 0⟩) := agr_upd σ _ (fun hv => Nat.lt_irrefl _ (R.vx _ hv))
  have hb : Below w.heap.size w (w.alloc (.cells ⟨embs σ cs⟩ t)) := (Below.refl _ _).alloc (Nat.le_refl _) _
  refine (R.grown hW hb).adopt ⟨w.heap.size, 0, 0⟩ (fun hB => Nat.lt_irrefl _ (R.size hW _ hB)) (fun id b hv hg hl e => Nat.lt_irrefl _ (e ▸ R.lt hv hg hl)) ?_
  refine ⟨⟨embs σ cs⟩, _, by rw [upd_same]; exact Array.getElem?_push_size, wfs_agr ha (fun _ hx => .inl hx) cs hw, ho, fun i v hv => ?_, fun hf => (nomatch hf), .inl rfl⟩
  rw [upd_same, Nat.zero_add]
  have hwv := (wfs_iff cs).1 hw v (List.mem_of_getElem? hv)
  rw [← Array.getElem?_toList]
  show (embs σ cs)[i]? = _
  rw [embs_map, List.getElem?_map, hv, emb_agr ha v hwv]
  rfl
end
end Go.MiniT
namespace Go.Proofs.YthbialpbkpiekaaGreatDoor
open Go Go.Mini Go.MiniT Go.RowKit Go.WW
def TakeBy (k : Int) (f : Nat) : Prop := ∀ (ra : Addr) (v1 v2 v3 v4 : Value) (w : World) (Φ : World → Prop),
  Calls Tryz.prog 41 #[.pointer (some ra)] (takeW w #[.int .i64 k, v1, v2, v3, v4]) (fun e w' => e = .returned (.bool false) ∧ w' = takeW w #[.int .i64 k, v1, v2, v3, v4]) →
  Calls Tryz.prog f #[.pointer (some ra), .agg #[.int .i64 k, v1, v2, v3, v4]] (takeW w #[.int .i64 k, v1, v2, v3, v4]) (fun e w' => e = .returned (.tuple #[]) ∧ Φ w' ∧ w'.cell? ⟨w.heap.size + 1, 0, none⟩ = some (.int .i64 0) ∧ w'.frozen? ⟨w.heap.size + 1, 0, none⟩ = false) →
  Calls Tryz.prog 15 #[.pointer (some ra), .agg #[.int .i64 k, v1, v2, v3, v4]] w fun e w' => e = .returned (.int .i64 0) ∧ ∃ w1, Φ w1 ∧ w' = (w1.setCell ⟨w.heap.size + 1, 0, none⟩ (.int .i64 0)).alloc (.cells #[.int .i64 0] 103)
theorem takeBy3 : TakeBy 3 47 := take3_c
theorem takeBy2 : TakeBy 2 46 := take2_c
theorem kept_set (w : World) (p : Addr) (v : Value) : Kept (fun k => k < w.heap.size ∧ k ≠ p.block) w (w.setCell p v) := by
  refine ⟨rfl, rfl, rfl, by rw [World.size_setCell]; exact Nat.le_refl _, fun k hk => Below.heap_setCell w p v k hk.2⟩
theorem zero_of {x : Option MB} (h : isZeroB x = true) : ∃ t es o, x = some (.cells [.int .i64 (.ofNat 0)] t es o) := by
  unfold isZeroB at h
  split at h
  · rename_i n t es o
    obtain rfl := Nat.eq_of_beq_eq_true h
    exact ⟨t, es, o, rfl⟩
  · cases h
set_option maxHeartbeats 2000000 in
theorem orcTake_ok [O : Opq] {E : Env} {B : Nat → Prop} {W0 : World} (hE : EnvOk E Tryz.prog) (hO : OrcOk E Tryz.prog B W0) (hW : ∀ k, B k → k < W0.heap.size) {n f k : Nat} (hT : TakeBy (.ofNat k) f) : OrcIs E.G Tryz.prog B W0 (orcTake E n 15 60 29 f k) := by
  intro g args h v h' ho σ V w R hw
  unfold orcTake at ho
  cases hg : Nat.beq g 15 with
  | false => rw [hg] at ho; cases ho
  | true =>
    rw [hg] at ho
    obtain rfl := Nat.eq_of_beq_eq_true hg
    simp only [cond_true] at ho
    split at ho
    · rename_i r o kk v1 v2 v3 v4
      cases hkk : Nat.beq kk k with
      | false => rw [hkk] at ho; cases ho
      | true =>
        rw [hkk] at ho
        obtain rfl := Nat.eq_of_beq_eq_true hkk
        simp only [cond_true] at ho
        split at ho
        · rename_i cs t1 es1 o1 hr
          split at ho
          · rename_i d1 d2 hd
            split at ho
            · rename_i h1 hrun
              cases hz : isZeroB (h1.get (Nat.succ h.nx)) with
              | false => rw [hz] at ho; cases ho
              | true =>
                rw [hz] at ho
                simp only [cond_true] at ho
                cases ho
                rw [lget_eq] at hd
                simp only [wfs] at hw
                obtain ⟨hwr, hwa, -⟩ := hw
                have hwa' := hwa
                simp only [wf] at hwr hwa
                obtain ⟨c, fz, k1, -, -, k4, -, -⟩ := R.blk r _ hwr hr
                have hcell : w.cell? ⟨(σ r).blk, (σ r).off + o + 34, none⟩ = some (.pointer (some ⟨(σ d1).blk, (σ d1).off + d2, none⟩)) := by
                  have := k4 (o + 34) _ hd
                  simp only [emb, ← Nat.add_assoc] at this
                  simp [World.cell?, k1, this]
                -- the two variables
                have RA := rel_box R hW hwa.1 hwa.2 60 5
                have RE := rel_box RA hW (cs := [.int .i64 (.ofNat 0)]) (by simp [wfs, wf]) rfl 29 1
                obtain ⟨F, -, -, hc⟩ := (run_ok hE hO hW (fun go hgo => draw_ok hE hW hgo) n).1 f _ _ _ _ hrun
                have hV1 : ¬ V h.nx := fun hv => Nat.lt_irrefl _ (R.vx _ hv)
                have a1 : Agr V σ (upd σ h.nx ⟨w.heap.size, 0, 0⟩) := agr_upd σ _ hV1
                have hV2 : ¬ addV V h.nx (h.new (.cells [.int .i64 (.ofNat kk), v1, v2, v3, v4] 60 5 false)).nx := fun hv => Nat.lt_irrefl _ (RA.vx _ hv)
                have a2 := a1.trans (fun _ hx => Or.inl hx) (agr_upd (V := addV V h.nx) (id := (h.new (.cells [.int .i64 (.ofNat kk), v1, v2, v3, v4] 60 5 false)).nx) (upd σ h.nx ⟨w.heap.size, 0, 0⟩) ⟨(w.alloc (.cells ⟨embs σ [.int .i64 (.ofNat kk), v1, v2, v3, v4]⟩ 60)).heap.size, 0, 0⟩ hV2)
                obtain ⟨σ2, hσ2⟩ : ∃ x, x = upd (upd σ h.nx ⟨w.heap.size, 0, 0⟩) (h.new (.cells [.int .i64 (.ofNat kk), v1, v2, v3, v4] 60 5 false)).nx ⟨(w.alloc (.cells ⟨embs σ [.int .i64 (.ofNat kk), v1, v2, v3, v4]⟩ 60)).heap.size, 0, 0⟩ := ⟨_, rfl⟩
                obtain ⟨V2, hV2'⟩ : ∃ x, x = addV (addV V h.nx) (h.new (.cells [.int .i64 (.ofNat kk), v1, v2, v3, v4] 60 5 false)).nx := ⟨_, rfl⟩
                rw [← hσ2, ← hV2'] at RE
                rw [← hσ2] at a2
                have hVV : ∀ x, V x → V2 x := fun x hx => hV2' ▸ .inl (.inl hx)
                have hargs : wfs σ V [.ptr r o, .agg [.int .i64 (.ofNat kk), v1, v2, v3, v4]] := by simp only [wfs]; exact ⟨by simpa only [wf] using hwr, hwa', trivial⟩
                have hcall := hc _ _ _ RE (wfs_agr a2 hVV _ hargs)
                rw [embs_agr a2 _ hargs] at hcall
                have HT := hT ⟨(σ r).blk, (σ r).off + o, none⟩ (emb σ v1) (emb σ v2) (emb σ v3) (emb σ v4) w (fun w' => EndK E.G B W0 σ2 V2 (takeH h [.int .i64 (.ofNat kk), v1, v2, v3, v4] 60 29) h1 (.tup []) (.returned (.tuple #[])) w') ?_ (hcall.mono ?_)
                · refine HT.mono ?_
                  rintro e w' ⟨rfl, w1, ⟨σ', V', b1, b2, b3, b4, R3, -, -⟩, rfl⟩
                  have hi : V' (Nat.succ h.nx) := b2 _ (hV2' ▸ .inr rfl)
                  have hs : σ' (Nat.succ h.nx) = ⟨w.heap.size + 1, 0, 0⟩ := by
                    rw [b1 (Nat.succ h.nx) (hV2' ▸ .inr rfl), hσ2]
                    simp [upd, MH.new]
                  obtain ⟨t, es, o2, hb0⟩ := zero_of hz
                  have R4 := R3.redo (b := .dead) hi hb0 rfl (Nat.le_succ_of_le R.gx) hW (kept_set w1 ⟨(σ' (Nat.succ h.nx)).blk, 0, none⟩ (.int .i64 0)) trivial
                  rw [hs] at R4
                  have R5 := R4.grown hW (Below.alloc (Below.refl _ _) (Nat.le_refl _) (.cells #[.int .i64 0] 103))
                  refine ⟨σ', V', a2.trans hVV b1, fun x hx => b2 x (hVV x hx), fun x hx => ?_, ?_, R5, by simp only [wf], rfl⟩
                  · rcases b3 x hx with hx | hx
                    · rw [hV2'] at hx
                      rcases hx with (hx | rfl) | rfl
                      · exact .inl hx
                      · exact .inr (Nat.le_refl _)
                      · exact .inr (Nat.le_succ _)
                    · exact .inr (Nat.le_trans (Nat.le_succ_of_le (Nat.le_succ _)) hx)
                  · exact Nat.le_trans (Nat.le_succ_of_le (Nat.le_succ _)) b4
                · exact (rnone_c _ _ _ _ (cell_past (cell_past hcell _) _))
                · rintro e w' ⟨σ', V', b1, b2, b3, b4, R3, hwv, rfl⟩
                  have hi : V' (Nat.succ h.nx) := b2 _ (hV2' ▸ .inr rfl)
                  have hs : σ' (Nat.succ h.nx) = ⟨w.heap.size + 1, 0, 0⟩ := by
                    rw [b1 (Nat.succ h.nx) (hV2' ▸ .inr rfl), hσ2]
                    simp [upd, MH.new]
                  obtain ⟨t, es, o2, hb0⟩ := zero_of hz
                  obtain ⟨c, fz, m1, -, -, m4, -, m6⟩ := R3.blk _ _ hi hb0
                  rw [hs] at m1 m4
                  have m4 := m4 0 _ rfl
                  simp only [emb, Nat.add_zero] at m4
                  refine ⟨rfl, ⟨σ', V', b1, b2, b3, b4, R3, hwv, rfl⟩, by simp only [World.cell?, m1]; exact m4, ?_⟩
                  have hlt := (Array.getElem?_eq_some_iff.1 m4).1
                  simp only [World.frozen?, m1]
                  rcases m6 with m6 | m6
                  · simp [m6]
                  · simp; omega
            · cases ho
          · cases ho
        · cases ho
    · cases ho
end Go.Proofs.YthbialpbkpiekaaGreatDoor
/- A call that writes nothing that is old: the evaluator runs it with all blocks so far as blocks that are only read. -/
namespace Go.MiniT
open Go Go.Mini Go.RowKit
noncomputable def pureE (E : Env) (h : MH) : Env := { E with G := ⟨h.nx, E.G.g0⟩, orc := noOrc }
theorem pure_ok [O : Opq] {E : Env} {P : Program} {B : Nat → Prop} {W0 : World} {σ : Sg} {V : Nat → Prop} {h h1 : MH} {w : World} {n f : Nat} {args : List MV} {v : MV} (hE : EnvOk E P) (R : Rel E.G B W0 σ V h w) (hw : wfs σ V args) (hr : run (pureE E h) n (.call f args) h = some (v, h1)) :
    Calls P f ⟨embs σ args⟩ w fun e w' => Below w.heap.size w w' ∧ ∃ σ', Agr V σ σ' ∧ e = .returned (emb σ' v) := by
  have hE' : EnvOk (pureE E h) P := ⟨hE.ty, hE.fns, hE.ext, hE.cmp, hE.mixed, hE.bo, hE.co⟩
  have R' : Rel (pureE E h).G (· < w.heap.size) w σ V h w := ⟨R.blk, R.inj, fun id b hv _ _ hg => absurd hg (Nat.not_le.2 (R.vx id hv)), R.glob, R.nx, R.vx, Nat.le_refl _, Kept.refl _ _⟩
  obtain ⟨F, -, -, hc⟩ := (run_ok (B := (· < w.heap.size)) (W0 := w) hE' orcIs_no (fun _ hk => hk) (fun go hgo => draw_ok hE' (fun _ hk => hk) hgo) n).1 f args h _ _ hr
  refine (hc _ _ w R' hw).mono ?_
  rintro e w' ⟨σ', V', a, -, -, -, R1, -, rfl⟩
  exact ⟨R1.below.below, σ', a, rfl⟩
end Go.MiniT
/- replica.require, both ways. -/
namespace Go.Proofs.YthbialpbkpiekaaGreatDoor
open Go.RowKit Go.WW
set_option maxRecDepth 100000 in
theorem require_yes (n : Int) (w : World) : Calls Tryz.prog 44 #[.bool true, .int .i64 n] w fun e w' => e = .returned (.tuple #[]) ∧ w' = w := by
  go_enter Tryz.func44, Tryz.ntmps44
  go_wp2_with fail
  go_end0
  exact ⟨rfl, rfl⟩
set_option maxRecDepth 100000 in
theorem require_no (n : Int) (w : World) : Calls Tryz.prog 44 #[.bool false, .int .i64 n] w fun e w' => e = .panicked [{ v := .iface 103 (.agg #[.int .i64 n]), recovered := false }] ∧ w' = w := by
  go_enter Tryz.func44, Tryz.ntmps44
  go_wp2_with fail
  refine ⟨rfl, ?_⟩
  exact ⟨rfl, rfl⟩
end Go.Proofs.YthbialpbkpiekaaGreatDoor
/- (*Replica).follow at one update that is valid and of another index. -/
namespace Go.Proofs.YthbialpbkpiekaaGreatDoor
open Go.RowKit Go.WW
theorem loadUpdate (w : World) (b o : Nat) : (structLoad 48 (.pointer (some ⟨b, o, none⟩))).run Tryz.prog w = rowOut Tryz.prog 48 w b o (row? w b o 37) := run_structLoad Tryz.underlying48 rfl (by kernel_rfl) w b o
theorem execOp_loadUpdate (ρ : Operand → Value) (dst : Option Tmp) (x : Operand) (ty : TypeId) (pos : String) (after : Array Edge) (guard : Option (Nat × Bool)) : execOp ρ { dst, op := .load 48 x, type := ty, pos, after, guard } = structLoad 48 (ρ x) := rfl
attribute [local go_sem] loadUpdate
attribute [local go_sem ↓] execOp_loadUpdate
/-- The same, for a tactic that wants a way on. -/
theorem require_two (n : Int) (w : World) : Calls Tryz.prog 44 #[.bool false, .int .i64 n] w fun e w' => (e = .panicked [{ v := .iface 103 (.agg #[.int .i64 n]), recovered := false }] ∧ w' = w) ∨ (e = .returned (.tuple #[]) ∧ w' = w ∧ Hid (1 = 2)) :=
  (require_no n w).mono fun _ _ h => .inl h
set_option maxHeartbeats 1000000 in
set_option maxRecDepth 100000 in
theorem follow_err (b o ub uo cap : Nat) (ix rx : Int) (v1 v2 v4 : Value) (U : Array Value) (w : World) (hU : U.size = 37) (hone : allOne U = true) (h0 : U[0]? = some (.int .i64 ix)) (hrow : row? w ub uo 37 = some U) (hc : w.cell? ⟨b, o + 1, none⟩ = some (.int .i64 rx)) (hne : (ix == IntKind.i64.wrap (IntKind.i64.wrap (rx + 1))) = false)
    (hv : ∀ w', Below w.heap.size w w' → Calls Tryz.prog 20 #[.agg U] w' fun e w'' => e = .returned (.bool true) ∧ Below w'.heap.size w' w'') :
    Calls Tryz.prog 46 #[.pointer (some ⟨b, o, none⟩), .agg #[.int .i64 2, v1, v2, .slice (some ⟨ub, uo, none⟩) 1 cap, v4]] w fun e w' => e = .panicked [{ v := .iface 103 (.agg #[.int .i64 8]), recovered := false }] ∧ Below w.heap.size w w' := by
  have HV := Lib.hid hv
  clear hv
  have hlt := row?_lt hrow
  have hltb := World.block_lt_of_cell? w _ hc
  go_enter Tryz.func46, Tryz.ntmps46
  go_wp2_with fail
  go_step3
  go_wp2_with fail
  refine (require_yes _ _).mono ?_
  rintro z w' ⟨rfl, rfl⟩
  dsimp only
  go_wp2_with fail
  refine wp_loop_rounds 2 ?_
  rw [rounds_succ]
  go_wp2_with fail
  have hb0 : Below w.heap.size w ((w.alloc (.cells #[.int .i64 2, v1, v2, .slice (some ⟨ub, uo, none⟩) 1 cap, v4] 60)).alloc (.cells U 48)) := ((Below.refl w.heap.size w).alloc (Nat.le_refl _) _).alloc (by simp) _
  refine (HV.out _ hb0).mono ?_
  rintro z w1 ⟨rfl, hb1⟩
  have hb := below_step hb0 hb1
  have hbox : w1.cell? ⟨w.heap.size, 3, none⟩ = some (.slice (some ⟨ub, uo, none⟩) 1 cap) := by
    rw [World.cell?, hb1.block _ (by simp; omega)]
    rw [Below.heap_alloc _ _ _ (by simp)]
    show (match (w.heap.push _)[w.heap.size]? with | some (.cells c _ _) => c[3]? | _ => none) = _
    rw [Array.getElem?_push_size]
    rfl
  have hrow1 : row? w1 ub uo 37 = some U := (row?_of_block (hb.block ub hlt) _ _).trans hrow
  have hc1 : w1.cell? ⟨b, o + 1, none⟩ = some (.int .i64 rx) := by rw [World.cell?, hb.block b hltb]; exact hc
  dsimp only
  go_wp2_with fail
  refine (require_yes _ _).mono ?_
  rintro z w' ⟨rfl, rfl⟩
  dsimp only
  go_wp2_with fail
  rw [rounds_succ]
  go_wp2_with fail
  refine wp_loop_rounds 1 ?_
  rw [rounds_succ]
  go_wp2_with fail
  have hcU : (w'.alloc (.cells U 48)).cell? ⟨w'.heap.size, 0, none⟩ = some (.int .i64 ix) := by rw [World.cell?_alloc_new]; exact h0
  have hcR : (w'.alloc (.cells U 48)).cell? ⟨b, o + 1, none⟩ = some (.int .i64 rx) := cell_past hc1 _
  have HB : Below w.heap.size w (w'.alloc (.cells U 48)).drew := (below_new hb _).drew
  go_region_held2 (fun x : World => x = (w'.alloc (.cells U 48)).drew) (first | rfl | assumption) (first | (go_at_call 44; refine (require_two _ _).mono ?_; rintro z w'' (⟨rfl, rfl⟩ | ⟨rfl, rfl, hF⟩); exact ⟨rfl, rfl, HB⟩))
  all_goals exact absurd (Hid.out (p := 1 = 2) (by assumption)) (by decide)
end Go.Proofs.YthbialpbkpiekaaGreatDoor
/- The oracle of (*Replica).Take, where one update is not the next. -/
namespace Go.MiniT
open Go Go.Mini Go.RowKit
noncomputable def isTrueR : Option (MV × MH) → Bool
  | some (.bool b, _) => b
  | _ => false
noncomputable def headInt : List MV → Option Int
  | .int .i64 n :: _ => some n
  | _ => none
/-- What is looked at: the replica's index, the update's cells. -/
noncomputable def orcTakeErr (E : Env) (n fT fV : Nat) : Orc := fun g args h =>
  cond (Nat.beq g fT) (match args with
    | [.ptr r o, .agg [.int .i64 (.ofNat kk), _, _, .slo u uo 0 1, _]] => cond (and (Nat.beq kk 2) (Nat.beq uo 0)) (match h.get r, h.get u with
      | some (.cells cs _ _ _), some (.cells us _ _ _) => match lget cs (Nat.add o 34), lget cs (Nat.add o 1), ltake 37 us with
        | some (.ptr _ _), some (.int .i64 rx), some U => match headInt U with
          | some ix => cond (and (not (ix == IntKind.i64.wrap (IntKind.i64.wrap (rx + 1)))) (isTrueR (run (pureE E h) n (.call fV [.agg U]) h))) (some (.int .i64 (.ofNat 8), h)) none
          | none => none
        | _, _, _ => none
      | _, _ => none) none
    | _ => none) none
end Go.MiniT
namespace Go.Proofs.YthbialpbkpiekaaGreatDoor
open Go Go.Mini Go.MiniT Go.RowKit Go.WW
theorem headInt_ok {l : List MV} {n : Int} (h : headInt l = some n) : l[0]? = some (.int .i64 n) := by
  unfold headInt at h
  split at h
  · cases h; rfl
  · cases h
theorem isTrueR_ok {x : Option (MV × MH)} (h : isTrueR x = true) : ∃ h1, x = some (.bool true, h1) := by
  unfold isTrueR at h
  split at h
  · rename_i b h1; subst h; exact ⟨h1, rfl⟩
  · cases h
set_option maxHeartbeats 2000000 in
theorem orcTakeErr_ok [O : Opq] {E : Env} {B : Nat → Prop} {W0 : World} (hE : EnvOk E Tryz.prog) (hW : ∀ k, B k → k < W0.heap.size) {n : Nat} : OrcIs E.G Tryz.prog B W0 (orcTakeErr E n 15 20) := by
  intro g args h v h' ho σ V w R hw
  unfold orcTakeErr at ho
  cases hg : Nat.beq g 15 with
  | false => rw [hg] at ho; cases ho
  | true =>
    rw [hg] at ho
    obtain rfl := Nat.eq_of_beq_eq_true hg
    simp only [cond_true] at ho
    split at ho
    · rename_i r o kk v1 v2 u uo v4
      cases hkk : and (Nat.beq kk 2) (Nat.beq uo 0) with
      | false => rw [hkk] at ho; cases ho
      | true =>
        rw [hkk] at ho
        obtain ⟨e1, e2⟩ := and2 hkk
        obtain rfl := Nat.eq_of_beq_eq_true e1
        obtain rfl := Nat.eq_of_beq_eq_true e2
        simp only [cond_true] at ho
        split at ho
        · rename_i cs t1 es1 o1 us t2 es2 o2 hr hu
          split at ho
          · rename_i d1 d2 rx U hd hx hU
            split at ho
            · rename_i ix hix
              cases hq : and (not (ix == IntKind.i64.wrap (IntKind.i64.wrap (rx + 1)))) (isTrueR (run (pureE E h) n (.call 20 [.agg U]) h)) with
              | false => rw [hq] at ho; cases ho
              | true =>
                rw [hq] at ho
                simp only [cond_true] at ho
                cases ho
                obtain ⟨q1, q2⟩ := and2 hq
                obtain ⟨h1, hrun⟩ := isTrueR_ok q2
                have hne : (ix == IntKind.i64.wrap (IntKind.i64.wrap (rx + 1))) = false := by simpa using q1
                rw [lget_eq] at hd hx
                obtain ⟨l1, l2⟩ := ltake_some hU
                simp only [wfs] at hw
                obtain ⟨hwr, hwa, -⟩ := hw
                simp only [wf, wfs] at hwr hwa
                have hwu := hwa.1.2.2.2.1
                obtain ⟨c, fz, k1, -, -, k4, -, -⟩ := R.blk r _ hwr hr
                obtain ⟨c2, fz2, m1, m2, m3, m4, -, -⟩ := R.blk u _ hwu.1 hu
                have hcell : w.cell? ⟨(σ r).blk, (σ r).off + o + 34, none⟩ = some (.pointer (some ⟨(σ d1).blk, (σ d1).off + d2, none⟩)) := by
                  have := k4 (o + 34) _ hd
                  simp only [emb, ← Nat.add_assoc] at this
                  simp [World.cell?, k1, this]
                have hcell1 : w.cell? ⟨(σ r).blk, (σ r).off + o + 1, none⟩ = some (.int .i64 rx) := by
                  have := k4 (o + 1) _ hx
                  simp only [emb, ← Nat.add_assoc] at this
                  simp [World.cell?, k1, this]
                have hUm : ∀ x ∈ U, x ∈ us := fun x hx => by rw [l2] at hx; exact List.mem_of_mem_take hx
                have hUw : wfs σ V U := (wfs_iff _).2 fun x hx => (wfs_iff _).1 m2 x (hUm x hx)
                have hUo : ones U = true := (ones_iff _).2 fun x hx => (ones_iff _).1 m3 x (hUm x hx)
                have hUl : U.length = 37 := by rw [l2, List.length_take]; omega
                have hrow : row? w (σ u).blk ((σ u).off + 0) 37 = some ⟨embs σ U⟩ := by
                  have hg : ∀ j, j < 37 → c2[(σ u).off + 0 + j]? = (embs σ U)[j]? := fun j hj => by
                    have hju : j < U.length := by omega
                    have : us[j]? = some (U[j]'hju) := by
                      have := List.getElem?_eq_getElem hju
                      rw [← this, l2, List.getElem?_take, if_pos hj]
                    rw [Nat.add_zero, m4 j _ this, embs_map, List.getElem?_map, List.getElem?_eq_getElem hju]; rfl
                  have hsz : (σ u).off + 0 + 37 ≤ c2.size := by
                    have h36 := hg 36 (by omega)
                    have : (embs σ U)[36]? = some ((embs σ U)[36]'(by rw [embs_map, List.length_map]; omega)) := List.getElem?_eq_getElem _
                    rw [this] at h36
                    have := (Array.getElem?_eq_some_iff.1 h36).1
                    omega
                  simp only [row?, m1]
                  rw [if_pos hsz]
                  refine congrArg some (Array.ext_getElem? fun j => ?_)
                  rw [Array.getElem?_extract, ← Array.getElem?_toList (xs := ⟨embs σ U⟩)]
                  by_cases hj : j < 37
                  · rw [if_pos (by omega)]; exact hg j hj
                  · rw [if_neg (by omega)]
                    exact (List.getElem?_eq_none (by rw [embs_map, List.length_map]; omega)).symm
                have hA : Below w.heap.size w (takeW w #[.int .i64 2, emb σ v1, emb σ v2, .slice (some ⟨(σ u).blk, (σ u).off + 0, none⟩) 1 ((σ u).cap - 0), emb σ v4]) := ((Below.refl w.heap.size w).alloc (Nat.le_refl _) _).alloc (by simp) _
                have hub : (σ u).blk < w.heap.size := row?_lt hrow
                have hrow2 := (row?_of_block (hA.block _ hub) ((σ u).off + 0) 37).trans hrow
                have hAs : (takeW w #[.int .i64 2, emb σ v1, emb σ v2, .slice (some ⟨(σ u).blk, (σ u).off + 0, none⟩) 1 ((σ u).cap - 0), emb σ v4]).heap.size = w.heap.size + 2 := by simp [takeW]
                have hF := follow_err (σ r).blk ((σ r).off + o) (σ u).blk ((σ u).off + 0) ((σ u).cap - 0) ix rx (emb σ v1) (emb σ v2) (emb σ v4) ⟨embs σ U⟩ _
                  (by show (embs σ U).length = 37; rw [embs_map, List.length_map]; exact hUl)
                  (Array.all_eq_true'.2 fun x hx => by
                    have hx : x ∈ embs σ U := by simpa using hx
                    rw [embs_map] at hx
                    obtain ⟨y, hy, rfl⟩ := List.mem_map.1 hx
                    exact one_emb σ ((ones_iff _).1 hUo y hy))
                  (by rw [← Array.getElem?_toList]; show (embs σ U)[0]? = _; rw [embs_map, List.getElem?_map, headInt_ok hix]; rfl)
                  hrow2 (cell_past (cell_past hcell1 _) _) hne
                  (fun w' hw' => by
                    have := pure_ok hE (R.grown hW (below_step hA hw')) (args := [.agg U]) (by simp only [wfs, wf]; exact ⟨⟨hUw, hUo⟩, trivial⟩) hrun
                    refine this.mono ?_
                    rintro e w'' ⟨hb, σ', -, rfl⟩
                    exact ⟨rfl, hb⟩)
                have HT := take2_err ⟨(σ r).blk, (σ r).off + o, none⟩ 8 (emb σ v1) (emb σ v2) (.slice (some ⟨(σ u).blk, (σ u).off + 0, none⟩) 1 ((σ u).cap - 0)) (emb σ v4) w (fun w' => Below w.heap.size w w') (rnone_c _ _ _ _ (cell_past (cell_past hcell _) _)) (hF.mono (by
                    rintro e w' ⟨rfl, hb⟩
                    refine ⟨rfl, below_step hA hb, ?_, ?_⟩
                    · rw [hb.cell (by rw [hAs]; exact Nat.lt_succ_self _)]
                      exact World.cell?_alloc_at _ _ _ _ (by simp)
                    · rw [hb.frozen (by rw [hAs]; exact Nat.lt_succ_self _)]
                      simp [takeW, go_sem]))
                refine HT.mono ?_
                rintro e w' ⟨rfl, w1, hb, rfl⟩
                exact endK_same (v := .int .i64 (.ofNat 8)) R hW ((below_new hb _).setCell (Nat.le_succ _) _) (by simp only [wf])
            · cases ho
          · cases ho
        · cases ho
    · cases ho
end Go.Proofs.YthbialpbkpiekaaGreatDoor
