/- The evaluator's operations against the model's: those that only look. -/
import Derived.Test.YthbialpbkpiekaaGreatDoorEA
namespace Go.Mini
variable [O : Opq]
open Go.RowKit

/-- What the evaluator says of an operand. -/
def EvR (σ : Sg) (V : Nat → Prop) (ev : Ev) (ρ : Operand → Value) : Prop := ∀ x v, ev x = some v → wf σ V v ∧ ρ x = emb σ v

omit O in
theorem Sem.bind_ok {α β : Type} {P : Program} {w w' : World} {x : Sem α} {f : α → Sem β} {a : α} (h : x.run P w = .ok a w') : (x >>= f).run P w = (f a).run P w' := by
  rw [Sem.run_bind, h]; rfl

section looks
variable {E : Env} {P : Program} {B : Nat → Prop} {W0 : World} {σ : Sg} {V : Nat → Prop} {h : MH} {w : World} {ev : Ev} {ρ : Operand → Value}

omit O in
theorem vR_some {o : Option MV} {v : MV} (h : vR o = some (.val v)) : o = some v := by
  unfold vR at h; split at h
  · simpa using h
  · cases h

omit O in
theorem evs_cons (x : Operand) (l : List Operand) : evs ev (x :: l) = (match ev x with | none => none | some v => match evs ev l with | none => none | some vs => some (v :: vs)) := by
  show (Option.rec none (fun v => Option.rec none (fun vs => some (v :: vs)) (evs ev l)) (ev x) : Option (List MV)) = _
  cases ev x with
  | none => rfl
  | some v => cases evs ev l <;> rfl

theorem evs_ok (hev : EvR σ V ev ρ) : ∀ (l : List Operand) (vs : List MV), evs ev l = some vs → wfs σ V vs ∧ l.map ρ = embs σ vs := by
  intro l
  induction l with
  | nil => intro vs h
           have e : evs ev [] = some [] := rfl
           rw [e] at h; cases h
           exact ⟨trivial, rfl⟩
  | cons x l ih =>
    intro vs h
    rw [evs_cons] at h
    split at h
    · cases h
    · rename_i v hv
      split at h
      · cases h
      · rename_i us hu
        cases h
        obtain ⟨h1, h2⟩ := hev x v hv
        obtain ⟨h3, h4⟩ := ih us hu
        exact ⟨by simp only [wfs]; exact ⟨h1, h3⟩, by simp only [List.map_cons, h2, h4, embs]⟩

theorem readCells_ok (R : Rel E.G B W0 σ V h w) {id off n : Nat} {l : List MV} (hv : V id) (hr : readCells h id off n = some l) :
    wfs σ V l ∧ ones l = true ∧ l.length = n ∧ ∀ i v, l[i]? = some v → w.cell? ⟨(σ id).blk, (σ id).off + off + i, none⟩ = some (emb σ v) := by
  unfold readCells at hr
  split at hr
  · rename_i cs t es opn hg
    obtain ⟨c, fz, h1, h2, h3, h4, -, -⟩ := R.blk id _ hv hg
    obtain ⟨hn, rfl⟩ := ltake_some hr
    rw [ldrop_eq] at hn ⊢
    have hmem : ∀ v ∈ (cs.drop off).take n, v ∈ cs := fun v hv => List.mem_of_mem_drop (List.mem_of_mem_take hv)
    refine ⟨(wfs_iff _).2 fun v hv => (wfs_iff _).1 h2 v (hmem v hv), (ones_iff _).2 fun v hv => (ones_iff _).1 h3 v (hmem v hv), by simp at hn ⊢; omega, fun i v hi => ?_⟩
    have hi' : cs[off + i]? = some v := by
      rw [List.getElem?_take] at hi
      split at hi
      · rw [List.getElem?_drop] at hi; exact hi
      · cases hi
    have := h4 _ _ hi'
    simp only [World.cell?, h1]
    rw [if_neg (by simp), Nat.add_assoc]; exact this
  · cases hr

theorem loadCells_ok {id off : Nat} {l : List MV} (hc : ∀ i v, l[i]? = some v → w.cell? ⟨(σ id).blk, (σ id).off + off + i, none⟩ = some (emb σ v)) :
    (loadCells ⟨(σ id).blk, (σ id).off + off, none⟩ l.length).run P w = .ok ⟨embs σ l⟩ w := by
  have := run_loadCells_list (P := P) (w := w) ⟨(σ id).blk, (σ id).off + off, none⟩ (embs σ l) (fun j v hj => by
    rw [embs_map, List.getElem?_map] at hj
    cases hl : l[j]? with
    | none => rw [hl] at hj; cases hj
    | some u =>
      rw [hl] at hj; cases hj
      rw [Addr.add_lit]; exact hc j u hl)
  rw [show (embs σ l).length = l.length by rw [embs_map]; simp] at this
  exact this

theorem readAt_ok (hE : EnvOk E P) (R : Rel E.G B W0 σ V h w) {t : TypeId} {T : MT} {id off : Nat} {v : MV} (hT : E.ty.get t = some T) (hv : V id) (hr : readAt T h id off = some v) :
    wf σ V v ∧ (loadVar t ⟨(σ id).blk, (σ id).off + off, none⟩).run P w = .ok (emb σ v) w := by
  obtain ⟨hi, hu⟩ := hE.ty t T hT
  unfold readAt at hr
  split at hr
  · rename_i cs e es opn hg
    unfold partOf at hr
    unfold loadVar
    rw [Sem.bind_ok (r_isAgg hu w)]
    cases ha : aggT T with
    | true =>
      rw [ha] at hr
      simp only [cond_true] at hr
      split at hr
      · rename_i l hl
        cases hr
        have hrc : readCells h id off T.info.size = some l := by unfold readCells; rw [hg]; exact hl
        obtain ⟨h1, h2, h3, h4⟩ := readCells_ok R hv hrc
        refine ⟨by simp only [wf]; exact ⟨h1, h2⟩, ?_⟩
        simp only [if_true]
        rw [Sem.bind_ok (r_size hi w)]
        rw [← h3, Sem.bind_ok (loadCells_ok h4)]
        simp only [Sem.run_pure, emb]
      · cases hr
    | false =>
      rw [ha] at hr
      simp only [cond_false] at hr
      obtain ⟨c, fz, h1, h2, h3, h4, -, -⟩ := R.blk id _ hv hg
      rw [lget_eq] at hr
      refine ⟨(wfs_iff _).1 h2 v (List.mem_of_getElem? hr), ?_⟩
      have hc : w.cell? ⟨(σ id).blk, (σ id).off + off, none⟩ = some (emb σ v) := by
        simp only [World.cell?, h1]
        rw [if_neg (by simp)]; exact h4 _ _ hr
      simp only [Bool.false_eq_true, if_false, run_load, hc]
  · cases hr

theorem load_ok (hE : EnvOk E P) (R : Rel E.G B W0 σ V h w) (hev : EvR σ V ev ρ) {t : TypeId} {x : Operand} {v : MV} (ho : oLoad E ev t x h = some (.val v)) :
    wf σ V v ∧ (Instr.loadAt t (ρ x)).run P w = .ok (emb σ v) w := by
  unfold oLoad at ho
  split at ho
  · rename_i T id off hT hx
    obtain ⟨h1, h2⟩ := hev x _ hx
    simp only [wf] at h1
    have := readAt_ok hE R hT h1 (vR_some ho)
    refine ⟨this.1, ?_⟩
    rw [h2]
    simp only [Instr.loadAt, Instr.sureAddr, emb, pure_bind]
    exact this.2
  · cases ho

/-- A part of a struct or of an array. -/
theorem part_ok (hE : EnvOk E P) {t : TypeId} {T : MT} {cs : List MV} {off : Nat} {v : MV} (hT : E.ty.get t = some T) (hc : wfs σ V cs) (h1 : ones cs = true) (hp : partOf T cs off = some v) (w : World) :
    wf σ V v ∧ (part t ⟨embs σ cs⟩ off).run P w = .ok (emb σ v) w := by
  obtain ⟨hi, hu⟩ := hE.ty t T hT
  unfold partOf at hp
  unfold part
  rw [Sem.bind_ok (r_isAgg hu w)]
  cases ha : aggT T with
  | true =>
    rw [ha] at hp
    simp only [cond_true] at hp
    split at hp
    · rename_i l hl
      cases hp
      obtain ⟨hn, rfl⟩ := ltake_some hl
      rw [ldrop_eq] at hn ⊢
      have hmem : ∀ v ∈ (cs.drop off).take T.info.size, v ∈ cs := fun v hv => List.mem_of_mem_drop (List.mem_of_mem_take hv)
      refine ⟨by simp only [wf]; exact ⟨(wfs_iff _).2 fun v hv => (wfs_iff _).1 hc v (hmem v hv), (ones_iff _).2 fun v hv => (ones_iff _).1 h1 v (hmem v hv)⟩, ?_⟩
      simp only [if_true]
      rw [Sem.bind_ok (r_size hi w)]
      simp only [Sem.run_pure, emb]
      congr 2
      rw [embs_map, embs_map, ← Array.toList_inj, Array.toList_extract]
      simp [List.extract_eq_take_drop, List.map_take, List.map_drop]
    · cases hp
  | false =>
    rw [ha] at hp
    simp only [cond_false] at hp
    rw [lget_eq] at hp
    refine ⟨(wfs_iff _).1 hc v (List.mem_of_getElem? hp), ?_⟩
    have : (⟨embs σ cs⟩ : Array Value)[off]? = some (emb σ v) := by
      rw [embs_map]; simp [hp]
    simp only [Bool.false_eq_true, if_false, this, Sem.run_pure]

theorem fieldOf_ok (hE : EnvOk E P) {t : TypeId} {T : MT} {f : Nat} {F : Field} (hT : E.ty.get t = some T) (hf : fieldOf T f = some F) :
    ∃ fs, P.underlying t = some (.struct fs) ∧ fs[f]? = some F := by
  obtain ⟨hi, hu⟩ := hE.ty t T hT
  unfold fieldOf at hf
  split at hf
  · rename_i fs hs
    rw [hs] at hu
    rw [lget_eq] at hf
    exact ⟨fs, hu, by simpa using hf⟩
  · cases hf

theorem field_ok (hE : EnvOk E P) (hev : EvR σ V ev ρ) {t : TypeId} {x : Operand} {f : Nat} {v : MV} (ho : oField E ev t x f = some (.val v)) (w : World) :
    wf σ V v ∧ (Instr.field t (ρ x) f).run P w = .ok (emb σ v) w := by
  unfold oField at ho
  split at ho
  · rename_i T cs hT hx
    split at ho
    · rename_i F hF
      split at ho
      · rename_i FT hFT
        obtain ⟨h1, h2⟩ := hev x _ hx
        simp only [wf] at h1
        obtain ⟨fs, hu, hf⟩ := fieldOf_ok hE hT hF
        have := part_ok hE hFT h1.1 h1.2 (vR_some ho) w
        refine ⟨this.1, ?_⟩
        unfold Instr.field
        rw [Sem.bind_ok (r_und hu w), h2]
        simp only [hf, emb, asAgg, pure_bind]
        exact this.2
      · cases ho
    · cases ho
  · cases ho

theorem sizeE_ok (hE : EnvOk E P) {t : TypeId} {n : Nat} (hs : sizeE E t = some n) (w : World) : (sizeOf t).run P w = .ok n w := by
  unfold sizeE at hs
  split at hs
  · rename_i T hT
    cases hs
    exact r_size (hE.ty t T hT).1 w
  · cases hs

theorem fieldAddr_ok (hE : EnvOk E P) (hev : EvR σ V ev ρ) {t : TypeId} {x : Operand} {f : Nat} {v : MV} (ho : oFieldAddr E ev t x f = some (.val v)) (w : World) :
    wf σ V v ∧ (Instr.fieldAt t (ρ x) f).run P w = .ok (emb σ v) w := by
  unfold oFieldAddr at ho
  split at ho
  · rename_i T id off hT hx
    split at ho
    · rename_i F hF
      split at ho
      · rename_i n hn
        cases hz : Nat.beq n 0 with
        | true => simp [hz] at ho
        | false =>
          simp only [hz, cond_false, Option.some.injEq, MR.val.injEq] at ho
          subst ho
          have hn0 : n ≠ 0 := fun e => by subst e; cases hz
          obtain ⟨h1, h2⟩ := hev x _ hx
          simp only [wf] at h1
          obtain ⟨fs, hu, hf⟩ := fieldOf_ok hE hT hF
          refine ⟨h1, ?_⟩
          unfold Instr.fieldAt
          rw [Sem.bind_ok (r_und hu w), h2]
          simp only [hf, emb, Instr.sureAddr, pure_bind]
          unfold fieldPlace
          rw [bind_assoc, Sem.bind_ok (sizeE_ok hE hn w)]
          simp only [hn0, if_false, pure_bind, Sem.run_pure, Addr.add_lit]
          simp [Nat.add_assoc]
      · cases ho
    · cases ho
  · cases ho

omit O in
theorem natOf_ok {v : MV} {n : Nat} (hn : natOf v = some n) : ∃ k, v = .int k (.ofNat n) := by
  unfold natOf at hn
  split at hn
  · cases hn; exact ⟨_, rfl⟩
  · cases hn

theorem evN_ok (hev : EvR σ V ev ρ) {x : Operand} {n : Nat} (hn : evN ev x = some n) : ∃ k, ρ x = .int k (.ofNat n) := by
  unfold evN at hn
  split at hn
  · rename_i v hv
    obtain ⟨k, rfl⟩ := natOf_ok hn
    exact ⟨k, (hev x _ hv).2⟩
  · cases hn

theorem elemPtr_ok (hE : EnvOk E P) {e : TypeId} {id off len i : Nat} {v : MV} (hv : V id) (ho : elemPtr E e id off len i = some (.val v)) (w : World) :
    wf σ V v ∧ i < len ∧ ∃ n, (sizeOf e).run P w = .ok n w ∧ emb σ v = .pointer (some ⟨(σ id).blk, (σ id).off + off + i * n, none⟩) := by
  unfold elemPtr at ho
  split at ho
  · rename_i n hn
    cases hb : Nat.blt i len with
    | false => simp [hb] at ho
    | true =>
      simp only [hb, cond_true, Option.some.injEq, MR.val.injEq] at ho
      subst ho
      exact ⟨hv, by simpa [Nat.blt_eq] using hb, n, sizeE_ok hE hn w, by simp [emb, Nat.add_assoc]⟩
  · cases ho

theorem indexAddr_ok (hE : EnvOk E P) (hev : EvR σ V ev ρ) {t : TypeId} {x i : Operand} {v : MV} (ho : oIndexAddr E ev t x i = some (.val v)) (w : World) :
    wf σ V v ∧ (Instr.indexAt t (ρ x) (ρ i)).run P w = .ok (emb σ v) w := by
  unfold oIndexAddr at ho
  split at ho
  · rename_i T xv n hT hx hn
    obtain ⟨k, hk⟩ := evN_ok hev hn
    obtain ⟨h1, h2⟩ := hev x _ hx
    obtain ⟨hi, hu⟩ := hE.ty t T hT
    unfold Instr.indexAt
    rw [hk]
    simp only [asIntOf, pure_bind]
    rw [Sem.bind_ok (r_und hu w), h2]
    split at ho
    · rename_i m e id off hd
      simp only [wf] at h1
      obtain ⟨g1, g2, s, g3, g4⟩ := elemPtr_ok (σ := σ) (V := V) hE h1 ho w
      refine ⟨g1, ?_⟩
      simp only [hd, emb, Instr.sureAddr, pure_bind]
      rw [Sem.bind_ok (r_und hu w)]
      have hlt : (0 : Int) ≤ Int.ofNat n ∧ Int.ofNat n < (m : Int) := ⟨Int.natCast_nonneg n, by simpa using g2⟩
      simp only [hlt, and_self, if_true]
      rw [Sem.bind_ok g3]
      simp only [Sem.run_pure, Addr.add_lit, g4]
      rfl
    · rename_i e id off len cap hd
      simp only [wf] at h1
      obtain ⟨g1, g2, s, g3, g4⟩ := elemPtr_ok (σ := σ) (V := V) hE h1.1 ho w
      refine ⟨g1, ?_⟩
      simp only [hd, emb]
      rw [Sem.bind_ok (r_und hu w)]
      have hlt : (0 : Int) ≤ Int.ofNat n ∧ Int.ofNat n < (len : Int) := ⟨Int.natCast_nonneg n, by simpa using g2⟩
      simp only [hlt, and_self, if_true]
      rw [Sem.bind_ok g3]
      simp only [Sem.run_pure, Addr.add_lit, g4]
      rfl
    · rename_i e id off l len hd
      simp only [wf] at h1
      obtain ⟨g1, g2, s, g3, g4⟩ := elemPtr_ok (σ := σ) (V := V) hE h1.1 ho w
      refine ⟨g1, ?_⟩
      simp only [hd, emb]
      rw [Sem.bind_ok (r_und hu w)]
      have hlt : (0 : Int) ≤ Int.ofNat n ∧ Int.ofNat n < (len : Int) := ⟨Int.natCast_nonneg n, by simpa using g2⟩
      simp only [hlt, and_self, if_true]
      rw [Sem.bind_ok g3]
      simp only [Sem.run_pure, Addr.add_lit, g4]
      rfl
    · cases ho
  · cases ho
end looks
end Go.Mini
/- The evaluator's operations against the model's: comparisons, reckoning, conversions. -/
namespace Go.Mini
variable [O : Opq]
open Go.RowKit

theorem pureV_ok {P : Program} {s : Sem Value} {m : MV} (σ : Sg) (V : Nat → Prop) (h : pureV s = some m) (w : World) : wf σ V m ∧ s.run P w = .ok (emb σ m) w := by
  unfold pureV at h
  split at h
  · rename_i v
    obtain ⟨h1, h2⟩ := ofV_ok σ V v m h
    exact ⟨h2, by rw [h1]; rfl⟩
  · cases h

/-! ### Strings -/
omit O in
theorem bytesV_list (a : List Nat) : (bytesV a).toList = a.map UInt8.ofNat := by simp [bytesV]
omit O in
theorem u8_inj {a b : Nat} (ha : a < 256) (hb : b < 256) (h : UInt8.ofNat a = UInt8.ofNat b) : a = b := by
  have := congrArg UInt8.toNat h
  simp at this
  omega
omit O in
theorem u8_map_inj : ∀ {a b : List Nat}, (∀ x ∈ a, x < 256) → (∀ x ∈ b, x < 256) → (a.map UInt8.ofNat = b.map UInt8.ofNat ↔ a = b) := by
  intro a
  induction a with
  | nil => intro b _ _; cases b <;> simp
  | cons x a ih =>
    intro b ha hb
    cases b with
    | nil => simp
    | cons y b =>
      simp only [List.map_cons, List.cons.injEq]
      rw [ih (fun z hz => ha z (by simp [hz])) (fun z hz => hb z (by simp [hz]))]
      constructor
      · rintro ⟨h1, h2⟩; exact ⟨u8_inj (ha x (by simp)) (hb y (by simp)) h1, h2⟩
      · rintro ⟨h1, h2⟩; exact ⟨by rw [h1], h2⟩
omit O in
theorem beqs_eq : ∀ (a b : List Nat), beqs a b = decide (a = b) := by
  intro a
  induction a with
  | nil => intro b; cases b <;> rfl
  | cons x a ih =>
    intro b
    cases b with
    | nil => rfl
    | cons y b =>
      show and (Nat.beq x y) (beqs a b) = _
      rw [ih b]
      by_cases hx : x = y
      · subst hx; simp
      · have : Nat.beq x y = false := by cases hb : Nat.beq x y; rfl; exact absurd (Nat.eq_of_beq_eq_true hb) hx
        simp [this, hx]
omit O in
theorem bless_eq : ∀ (a b : List Nat), (∀ x ∈ a, x < 256) → (∀ x ∈ b, x < 256) → bless a b = Op.bytesLess (a.map UInt8.ofNat) (b.map UInt8.ofNat) := by
  intro a
  induction a with
  | nil => intro b _ _; cases b <;> rfl
  | cons x a ih =>
    intro b ha hb
    cases b with
    | nil => rfl
    | cons y b =>
      have hx := ha x (by simp)
      have hy := hb y (by simp)
      show or (Nat.blt x y) (and (Nat.beq x y) (bless a b)) = _
      rw [ih b (fun z hz => ha z (by simp [hz])) (fun z hz => hb z (by simp [hz]))]
      simp only [List.map_cons, Op.bytesLess]
      have e1 : Nat.blt x y = decide (UInt8.ofNat x < UInt8.ofNat y) := by
        rw [Bool.eq_iff_iff]
        simp only [Nat.blt_eq, decide_eq_true_eq, UInt8.lt_iff_toNat_lt]
        simp
        rw [Nat.mod_eq_of_lt hx, Nat.mod_eq_of_lt hy]
      have e2 : Nat.beq x y = (UInt8.ofNat x == UInt8.ofNat y) := by
        rw [Bool.eq_iff_iff, beq_iff_eq]
        exact ⟨fun h => by rw [Nat.eq_of_beq_eq_true h], fun h => by rw [u8_inj hx hy h]; exact Nat.beq_refl y⟩
      rw [e1, e2]
omit O in
theorem bytesV_size (a : List Nat) : (bytesV a).size = a.length := by simp [bytesV, ByteArray.size]
omit O in
theorem bytesV_append (a b : List Nat) : bytesV a ++ bytesV b = bytesV (a ++ b) := by
  apply ByteArray.ext
  rw [ByteArray.data_append]
  simp [bytesV]
omit O in
theorem byteArray_beq (a b : ByteArray) : (a == b) = decide (a.toList = b.toList) := by
  obtain ⟨⟨x⟩⟩ := a
  obtain ⟨⟨y⟩⟩ := b
  have e : ((ByteArray.mk ⟨x⟩) == (ByteArray.mk ⟨y⟩)) = ((⟨x⟩ : Array UInt8) == ⟨y⟩) := rfl
  rw [e, Bool.eq_iff_iff]
  simp

section ops
variable {E : Env} {P : Program} {B : Nat → Prop} {W0 : World} {σ : Sg} {V : Nat → Prop} {h : MH} {w : World} {ev : Ev} {ρ : Operand → Value}

theorem strOp_ok {op : BinOp} {a b : List Nat} {m : MV} (ha : ∀ x ∈ a, x < 256) (hb : ∀ x ∈ b, x < 256) (ho : strOp op a b = some m) (w : World) :
    wf σ V m ∧ (Op.stringOp op (bytesV a) (bytesV b)).run P w = .ok (emb σ m) w := by
  have heq : ((bytesV a).toList == (bytesV b).toList) = beqs a b := by
    rw [bytesV_list, bytesV_list, beqs_eq, Bool.eq_iff_iff]
    simp only [beq_iff_eq, decide_eq_true_eq]
    exact u8_map_inj ha hb
  have hlt : Op.bytesLess (bytesV a).toList (bytesV b).toList = bless a b := by rw [bytesV_list, bytesV_list, bless_eq a b ha hb]
  unfold strOp at ho
  unfold Op.stringOp
  simp only [heq, hlt]
  cases op <;> simp only at ho
  case add =>
    cases hc : Nat.ble (Nat.add (llen a 0) (llen b 0)) 1048576 with
    | false => rw [hc] at ho; cases ho
    | true =>
      rw [hc] at ho
      simp only [cond_true, Option.some.injEq] at ho
      subst ho
      rw [llen_eq, llen_eq] at hc
      have hc' := Nat.le_of_ble_eq_true hc
      simp only [Nat.add_zero, Nat.add_eq] at hc'
      refine ⟨by simp only [wf, List.mem_append]; rintro x (hx | hx); exact ha x hx; exact hb x hx, ?_⟩
      rw [bytesV_size, bytesV_size, if_neg (by simp only [IntKind.max, IntKind.signed, IntKind.bits]; simp; omega)]
      simp only [Sem.run_pure, emb, bytesV_append]
  all_goals first | (cases ho; done) | (simp only [Option.some.injEq] at ho; subst ho; exact ⟨trivial, rfl⟩)

theorem isSl_emb {y : MV} (h : isSl y = true) : ∃ a n c, emb σ y = .slice (some a) n c := by
  cases y <;> simp only [isSl, Bool.false_eq_true] at h <;> exact ⟨_, _, _, rfl⟩
theorem isFn_emb {y : MV} (h : isFn y = true) : ∃ f a b, emb σ y = .func f a b := by
  cases y <;> simp only [isFn, Bool.false_eq_true] at h <;> exact ⟨_, _, _, rfl⟩

theorem eqM_ok {t : TypeId} {d : TypeDesc} {x y : MV} {b : Bool} (hu : P.underlying t = some d) (hx : wf σ V x) (hy : wf σ V y) (he : eqM d x y = some b) (n : Nat) (w : World) :
    (Op.equalIn (n + 1) t (emb σ x) (emb σ y)).run P w = .ok b w := by
  unfold Op.equalIn
  rw [Sem.bind_ok (r_und hu w)]
  unfold eqM at he
  cases d <;> simp only at he
  case bool =>
    split at he
    · cases he; rfl
    · cases he
  case int k0 =>
    split at he
    · rename_i k a k' b'
      by_cases hk : k = k'
      · subst hk
        simp only [decide_true, cond_true, Option.some.injEq] at he
        subst he
        simp only [emb]
        simp
        rfl
      · simp [hk] at he
    · cases he
  case string =>
    split at he
    · rename_i a b'
      simp only [Option.some.injEq] at he
      subst he
      simp only [wf] at hx hy
      simp only [emb, Sem.run_pure]
      congr 1
      rw [beqs_eq, byteArray_beq, bytesV_list, bytesV_list, Bool.eq_iff_iff]
      simp only [decide_eq_true_eq]
      exact u8_map_inj hx hy
    · cases he
  case pointer e =>
    split at he <;> first | (cases he; done) | (simp only [Option.some.injEq] at he; subst he; simp [emb])
  case slice e =>
    split at he
    · cases he; simp [emb]
    · cases hs : isSl y with
      | false => rw [hs] at he; cases he
      | true =>
        rw [hs] at he; cases he
        obtain ⟨a, m, c, hy'⟩ := isSl_emb (σ := σ) hs
        simp [emb, hy']
    · cases hs : isSl x with
      | false => rw [hs] at he; cases he
      | true =>
        rw [hs] at he; cases he
        obtain ⟨a, m, c, hx'⟩ := isSl_emb (σ := σ) hs
        simp [emb, hx']
    · cases he
  case map k e =>
    split at he <;> first | (cases he; done) | (simp only [Option.some.injEq] at he; subst he; simp [emb])
  case func a b' c =>
    split at he
    · cases he; simp [emb]
    · cases hs : isFn y with
      | false => rw [hs] at he; cases he
      | true =>
        rw [hs] at he; cases he
        obtain ⟨f, p, q, hy'⟩ := isFn_emb (σ := σ) hs
        simp [emb, hy']
    · cases hs : isFn x with
      | false => rw [hs] at he; cases he
      | true =>
        rw [hs] at he; cases he
        obtain ⟨f, p, q, hx'⟩ := isFn_emb (σ := σ) hs
        simp [emb, hx']
    · cases he
  all_goals cases he
end ops
end Go.Mini
/- The evaluator's operations against the model's: structs compared, binary and unary operations, conversions, slices, lookups, builds. -/
namespace Go.Mini
variable [O : Opq]
open Go.RowKit

section ops
variable {E : Env} {P : Program} {B : Nat → Prop} {W0 : World} {σ : Sg} {V : Nat → Prop} {h : MH} {w : World} {ev : Ev} {ρ : Operand → Value}

omit O in
theorem eqFields_cons (f : Field) (fs : List Field) (xs ys : List MV) : eqFields E (f :: fs) xs ys = (match tyOf E f.type with
    | some F => cond (or (aggT F) (decide (f.name = "_"))) none (match lget xs f.offset, lget ys f.offset with
      | some x, some y => match eqM F.und x y with
        | some true => eqFields E fs xs ys
        | some false => some false
        | none => none
      | _, _ => none)
    | none => none) := rfl

/-- The fields of two structs, one after the other. -/
theorem fields_eq (hE : EnvOk E P) {xs ys : List MV} (hx : wfs σ V xs) (hy : wfs σ V ys) (h1 : ones xs = true) (h2 : ones ys = true) (n : Nat) (w : World) :
    ∀ (fs : List Field) (b : Bool), eqFields E fs xs ys = some b →
      (forIn (m := Sem) fs ((none, ()) : Option Bool × Unit) (fun f _ => do
        if f.name ≠ "_" then
          if !(← Op.equalIn (n + 1) f.type (← part f.type ⟨embs σ xs⟩ f.offset) (← part f.type ⟨embs σ ys⟩ f.offset)) then
            pure (ForInStep.done (some false, ()))
          else pure (ForInStep.yield (none, ()))
        else pure (ForInStep.yield (none, ())))).run P w = .ok (if b then (none, ()) else (some false, ())) w := by
  intro fs
  induction fs with
  | nil => intro b hb; have e : eqFields E [] xs ys = some true := rfl
           rw [e] at hb; cases hb; rfl
  | cons f fs ih =>
    intro b hb
    rw [eqFields_cons] at hb
    split at hb
    · rename_i F hF
      cases hc : (or (aggT F) (decide (f.name = "_"))) with
      | true => rw [hc] at hb; cases hb
      | false =>
        rw [hc] at hb
        simp only [cond_false] at hb
        simp only [Bool.or_eq_false_iff, decide_eq_false_iff_not] at hc
        split at hb
        · rename_i x y hlx hly
          have px : partOf F xs f.offset = some x := by unfold partOf; rw [hc.1]; exact hlx
          have py : partOf F ys f.offset = some y := by unfold partOf; rw [hc.1]; exact hly
          obtain ⟨wx, rx⟩ := part_ok hE hF hx h1 px w
          obtain ⟨wy, ry⟩ := part_ok hE hF hy h2 py w
          have hu := (hE.ty _ F hF).2
          simp only [List.forIn_cons]
          split at hb
          · rename_i he
            have hq := eqM_ok (P := P) (σ := σ) (V := V) hu wx wy he n w
            simp only [hc.2, ne_eq, not_false_eq_true, if_true, bind_assoc]
            rw [Sem.bind_ok rx, Sem.bind_ok ry, Sem.bind_ok hq]
            simp only [Bool.not_true, Bool.false_eq_true, if_false, pure_bind]
            exact ih b hb
          · rename_i he
            have hq := eqM_ok (P := P) (σ := σ) (V := V) hu wx wy he n w
            cases hb
            simp only [hc.2, ne_eq, not_false_eq_true, if_true, bind_assoc]
            rw [Sem.bind_ok rx, Sem.bind_ok ry, Sem.bind_ok hq]
            simp
          · cases hb
        · cases hb
    · cases hb

theorem structs_eq (hE : EnvOk E P) {t : TypeId} {fs : Array Field} {xs ys : List MV} {b : Bool} (hu : P.underlying t = some (.struct fs)) (hs : P.stoodInHeld t = false)
    (hx : wfs σ V xs) (hy : wfs σ V ys) (h1 : ones xs = true) (h2 : ones ys = true) (he : eqFields E fs.toList xs ys = some b) (w : World) :
    (Op.equal t (.agg ⟨embs σ xs⟩) (.agg ⟨embs σ ys⟩)).run P w = .ok b w := by
  have key := fields_eq hE hx hy h1 h2 9998 w fs.toList b he
  unfold Op.equal Op.maxDepth
  unfold Op.equalIn
  rw [Sem.bind_ok (r_und hu w)]
  simp only []
  rw [Sem.bind_ok (show (program).run P w = .ok P w from rfl)]
  simp only [hs, Bool.false_eq_true, if_false]
  rw [← Array.forIn_toList]
  rw [Sem.bind_ok key]
  cases b <;> rfl

/-! ### Binary and unary operations -/
omit O in
theorem eqGuard_ok {op : BinOp} {t : TypeId} {x y : Operand} {a b : Value} (ha : a ≠ .nilIface) (hb : ∀ c, a ≠ .agg c) (w : World) : (eqGuard op t x y a b).run P w = .ok () w := by
  unfold eqGuard
  cases a <;> first | exact absurd rfl ha | exact absurd rfl (hb _) | (cases op <;> rfl)

omit O in
theorem binOp_int (op : BinOp) (t : TypeId) (k k' : IntKind) (a b : Int) : binOp op t (.int k a) (.int k' b) = binOp op 0 (.int k a) (.int k' b) := by cases op <;> rfl
omit O in
theorem binOp_str (op : BinOp) (t : TypeId) (a b : ByteArray) : binOp op t (.string a) (.string b) = Op.stringOp op a b := by cases op <;> rfl
theorem binOp_eql {t : TypeId} {x y : MV} (hp : pairOk x y = true) : binOp .eql t (emb σ x) (emb σ y) = (do pure (.bool (← Op.equal t (emb σ x) (emb σ y)))) := by
  cases x <;> cases y <;> first | (simp only [pairOk, Bool.false_eq_true] at hp; done) | rfl
theorem binOp_neq {t : TypeId} {x y : MV} (hp : pairOk x y = true) : binOp .neq t (emb σ x) (emb σ y) = (do pure (.bool (!(← Op.equal t (emb σ x) (emb σ y))))) := by
  cases x <;> cases y <;> first | (simp only [pairOk, Bool.false_eq_true] at hp; done) | rfl
theorem pairOk_plain {x y : MV} (hp : pairOk x y = true) : emb σ x ≠ .nilIface ∧ ∀ c, emb σ x ≠ .agg c := by
  cases x <;> first | (constructor <;> simp [emb]; done) | (exfalso; cases y <;> simp [pairOk] at hp)

theorem binM_ok (hE : EnvOk E P) {op : BinOp} {t : TypeId} {x y : MV} {v : MV} (hx : wf σ V x) (hy : wf σ V y) (ho : binM E op t x y = some v) (xo yo : Operand) (w : World) :
    wf σ V v ∧ (do eqGuard op t xo yo (emb σ x) (emb σ y); binOp op t (emb σ x) (emb σ y)).run P w = .ok (emb σ v) w := by
  unfold binM at ho
  split at ho
  · rename_i k a k' b
    unfold intOp at ho
    obtain ⟨h1, h2⟩ := pureV_ok (P := P) σ V ho w
    refine ⟨h1, ?_⟩
    rw [Sem.bind_ok (eqGuard_ok (by simp [emb]) (by simp [emb]) w)]
    simp only [emb]
    rw [binOp_int]; exact h2
  · rename_i a b
    simp only [wf] at hx hy
    obtain ⟨h1, h2⟩ := strOp_ok (P := P) (σ := σ) (V := V) hx hy ho w
    refine ⟨h1, ?_⟩
    rw [Sem.bind_ok (eqGuard_ok (by simp [emb]) (by simp [emb]) w)]
    simp only [emb]
    rw [binOp_str]; exact h2
  · cases hp : pairOk x y with
    | false => rw [hp] at ho; cases ho
    | true =>
      rw [hp] at ho
      simp only [cond_true] at ho
      obtain ⟨p1, p2⟩ := pairOk_plain (σ := σ) hp
      rw [Sem.bind_ok (eqGuard_ok p1 p2 w)]
      split at ho
      · rename_i T hT
        have hu := (hE.ty t T hT).2
        split at ho
        · split at ho
          · rename_i b hb
            cases ho
            refine ⟨trivial, ?_⟩
            rw [binOp_eql hp]
            exact (Sem.bind_ok (eqM_ok (P := P) hu hx hy hb 9999 w)).trans rfl
          · cases ho
        · split at ho
          · rename_i b hb
            cases ho
            refine ⟨trivial, ?_⟩
            rw [binOp_neq hp]
            exact (Sem.bind_ok (eqM_ok (P := P) hu hx hy hb 9999 w)).trans rfl
          · cases ho
        · cases ho
      · cases ho

omit O in
theorem eqGuard_agg {op : BinOp} {t : TypeId} {x y : Operand} {a b : Array Value} (hg : P.eqGuardType P.depth t = false) (w : World) : (eqGuard op t x y (.agg a) (.agg b)).run P w = .ok () w := by
  unfold eqGuard
  cases op <;> first | rfl | (simp [hg])

omit O in
theorem eqGuard_const {op : BinOp} {t : TypeId} {x y : Operand} (hq : or (isConst x) (isConst y) = true) (w : World) : (eqGuard op t x y .nilIface .nilIface).run P w = .ok () w := by
  unfold eqGuard
  cases x <;> cases y <;> first | (cases hq; done) | (cases op <;> rfl)
omit O in
theorem nil_equal {t : TypeId} {ms : Array (String × TypeId)} (hu : P.underlying t = some (.interface ms)) (w : World) : (Op.equal t .nilIface .nilIface).run P w = .ok true w := by
  unfold Op.equal Op.maxDepth
  unfold Op.equalIn
  rw [Sem.bind_ok (r_und hu w)]
  rfl
theorem bin0_ok (hE : EnvOk E P) (hev : EvR σ V ev ρ) {op : BinOp} {t : TypeId} {x y : Operand} {v : MV} (ho : oBin0 E ev op t x y = some (.val v)) (w : World) :
    wf σ V v ∧ (do eqGuard op t x y (ρ x) (ρ y); binOp op t (ρ x) (ρ y)).run P w = .ok (emb σ v) w := by
  unfold oBin0 at ho
  split at ho
  · rename_i a b hx hy
    obtain ⟨h1, h2⟩ := hev x _ hx
    obtain ⟨h3, h4⟩ := hev y _ hy
    simp only [wf] at h1 h3
    rw [h2, h4]
    split at ho
    · rename_i T hT
      have hu := (hE.ty t T hT).2
      split at ho
      · rename_i fs hd
        rw [hd] at hu
        cases hc : E.cmp t with
        | false => rw [hc] at ho; cases ho
        | true =>
          rw [hc] at ho
          simp only [cond_true] at ho
          obtain ⟨c1, c2⟩ := hE.cmp t hc
          split at ho
          · rename_i r hr
            cases ho
            refine ⟨trivial, ?_⟩
            simp only [emb]
            rw [Sem.bind_ok (eqGuard_agg c1 w)]
            exact (Sem.bind_ok (structs_eq hE hu c2 h1.1 h3.1 h1.2 h3.2 hr w)).trans rfl
          · cases ho
      · rename_i fs hd
        rw [hd] at hu
        cases hc : E.cmp t with
        | false => rw [hc] at ho; cases ho
        | true =>
          rw [hc] at ho
          simp only [cond_true] at ho
          obtain ⟨c1, c2⟩ := hE.cmp t hc
          split at ho
          · rename_i r hr
            cases ho
            refine ⟨trivial, ?_⟩
            simp only [emb]
            rw [Sem.bind_ok (eqGuard_agg c1 w)]
            exact (Sem.bind_ok (structs_eq hE hu c2 h1.1 h3.1 h1.2 h3.2 hr w)).trans rfl
          · cases ho
      · cases ho
    · cases ho
  · rename_i hx hy
    rw [(hev x _ hx).2, (hev y _ hy).2]
    cases hq : or (isConst x) (isConst y) with
    | false => rw [hq] at ho; cases ho
    | true =>
      rw [hq] at ho
      simp only [cond_true] at ho
      simp only [emb]
      rw [Sem.bind_ok (eqGuard_const hq w)]
      split at ho
      · rename_i T hT
        have hu := (hE.ty t T hT).2
        split at ho
        · rename_i ms hd
          rw [hd] at hu
          cases ho
          exact ⟨trivial, (Sem.bind_ok (nil_equal hu w)).trans rfl⟩
        · rename_i ms hd
          rw [hd] at hu
          cases ho
          exact ⟨trivial, (Sem.bind_ok (nil_equal hu w)).trans rfl⟩
        · cases ho
      · cases ho
  · rename_i xv yv hx hy
    obtain ⟨h1, h2⟩ := hev x _ hx
    obtain ⟨h3, h4⟩ := hev y _ hy
    rw [h2, h4]
    exact binM_ok hE h1 h3 (vR_some ho) x y w
  · cases ho

theorem bin_ok (hE : EnvOk E P) (hev : EvR σ V ev ρ) {op : BinOp} {t : TypeId} {x y : Operand} {v : MV} (ho : oBin E ev op t x y = some (.val v)) (w : World) :
    wf σ V v ∧ (do eqGuard op t x y (ρ x) (ρ y); binOp op t (ρ x) (ρ y)).run P w = .ok (emb σ v) w := by
  unfold oBin at ho
  split at ho
  · rename_i u hu
    cases ho
    unfold oSym at hu
    split at hu
    · rename_i a b hx hy
      obtain ⟨h1, h2⟩ := hev x _ hx
      obtain ⟨h3, h4⟩ := hev y _ hy
      obtain ⟨k1, k2, k3⟩ := hE.bo op t a b _ hu σ V h1 h3
      refine ⟨k1, ?_⟩
      rw [h2, h4, Sem.bind_ok (eqGuard_ok k2.1 k2.2 w)]
      exact k3 w
    · cases hu
  · exact bin0_ok hE hev ho w

theorem un_ok (hev : EvR σ V ev ρ) {op : UnOp} {x : Operand} {v : MV} (ho : oUn ev op x = some (.val v)) (w : World) :
    wf σ V v ∧ (Op.unary op (ρ x)).run P w = .ok (emb σ v) w := by
  unfold oUn at ho
  split at ho
  · rename_i b hx
    rw [(hev x _ hx).2]
    split at ho
    · cases ho; exact ⟨trivial, rfl⟩
    · cases ho
  · rename_i k n hx
    rw [(hev x _ hx).2]
    exact pureV_ok σ V (vR_some ho) w
  · cases ho

theorem pick_ok (hev : EvR σ V ev ρ) {c a b : Operand} {v : MV} (ho : oPick ev c a b = some (.val v)) (w : World) :
    wf σ V v ∧ (do pure (.value (if ← asBool (ρ c) then ρ a else ρ b)) : Sem Next).run P w = .ok (.value (emb σ v)) w := by
  unfold oPick at ho
  split at ho
  · rename_i t hc
    rw [(hev c _ hc).2]
    simp only [emb, asBool, pure_bind, Sem.run_pure]
    cases t with
    | true => obtain ⟨h1, h2⟩ := hev a v (vR_some ho); exact ⟨h1, by simp [h2]⟩
    | false => obtain ⟨h1, h2⟩ := hev b v (vR_some ho); exact ⟨h1, by simp [h2]⟩
  · cases ho

theorem nilCheck_ok (hev : EvR σ V ev ρ) {o : Oper} {x : Operand} {v : MV} (hop : o.op = .nilCheck x) (ho : oNilCheck ev x = some (.val v)) (w : World) :
    wf σ V v ∧ (execOp ρ o).run P w = .ok (.value (emb σ v)) w := by
  unfold oNilCheck at ho
  unfold execOp
  simp only [hop]
  split at ho
  · rename_i hx; obtain ⟨h1, h2⟩ := hev x _ hx; cases ho; exact ⟨h1, by rw [h2]; rfl⟩
  · rename_i hx; obtain ⟨h1, h2⟩ := hev x _ hx; cases ho; exact ⟨h1, by rw [h2]; rfl⟩
  · rename_i hx; obtain ⟨h1, h2⟩ := hev x _ hx; cases ho; exact ⟨h1, by rw [h2]; rfl⟩
  · rename_i hx; obtain ⟨h1, h2⟩ := hev x _ hx; cases ho; exact ⟨h1, by rw [h2]; rfl⟩
  · cases ho

theorem makeFunc_ok (hev : EvR σ V ev ρ) {fn : Fn} {first captured : Array Operand} {v : MV} (ho : oMakeFunc ev fn first captured = some (.val v)) (w : World) :
    wf σ V v ∧ (Instr.makeFunc fn (first.map ρ) (captured.map ρ)).run P w = .ok (emb σ v) w := by
  unfold oMakeFunc at ho
  split at ho
  · rename_i f a b ha hb
    cases ho
    obtain ⟨h1, h2⟩ := evs_ok hev _ _ ha
    obtain ⟨h3, h4⟩ := evs_ok hev _ _ hb
    refine ⟨by simp only [wf]; exact ⟨h1, h3⟩, ?_⟩
    unfold Instr.makeFunc
    simp only [Sem.run_pure, emb, ← h2, ← h4]
    congr 3 <;> (rw [← Array.toList_inj]; simp)
  · cases ho

theorem extract_ok (hev : EvR σ V ev ρ) {t : Operand} {i : Nat} {v : MV} (ho : oExtract ev t i = some (.val v)) (w : World) :
    wf σ V v ∧ (Instr.extract (ρ t) i).run P w = .ok (emb σ v) w := by
  unfold oExtract at ho
  split at ho
  · rename_i vs ht
    obtain ⟨h1, h2⟩ := hev t _ ht
    simp only [wf] at h1
    have hl := vR_some ho
    rw [lget_eq] at hl
    refine ⟨(wfs_iff _).1 h1 v (List.mem_of_getElem? hl), ?_⟩
    rw [h2]
    have : (⟨embs σ vs⟩ : Array Value)[i]? = some (emb σ v) := by rw [embs_map]; simp [hl]
    simp only [emb, Instr.extract, this, Sem.run_pure]
  · cases ho

theorem index_ok (hE : EnvOk E P) (hev : EvR σ V ev ρ) {t : TypeId} {x i : Operand} {v : MV} (ho : oIndex E ev t x i = some (.val v)) (w : World) :
    wf σ V v ∧ (Instr.index t (ρ x) (ρ i)).run P w = .ok (emb σ v) w := by
  unfold oIndex at ho
  split at ho
  · rename_i T xv n hT hx hn
    obtain ⟨k, hk⟩ := evN_ok hev hn
    obtain ⟨h1, h2⟩ := hev x _ hx
    obtain ⟨hi, hu⟩ := hE.ty t T hT
    unfold Instr.index
    rw [hk]
    simp only [asIntOf, pure_bind]
    rw [Sem.bind_ok (r_und hu w), h2]
    split at ho
    · rename_i m e cs hd
      simp only [wf] at h1
      split at ho
      · rename_i Te hTe
        cases hb : Nat.blt n m with
        | false => rw [hb] at ho; cases ho
        | true =>
          rw [hb] at ho
          simp only [cond_true] at ho
          have hlt : (0 : Int) ≤ Int.ofNat n ∧ Int.ofNat n < (m : Int) := ⟨Int.natCast_nonneg n, by simpa [Nat.blt_eq] using hb⟩
          have := part_ok hE hTe h1.1 h1.2 (vR_some ho) w
          refine ⟨this.1, ?_⟩
          simp only [hd, emb, hlt, and_self, if_true]
          rw [Sem.bind_ok (r_size (hE.ty e Te hTe).1 w)]
          exact this.2
      · cases ho
    · rename_i s hd
      simp only [wf] at h1
      split at ho
      · rename_i b hb
        cases ho
        rw [lget_eq] at hb
        have hlt : n < s.length := (List.getElem?_eq_some_iff.1 hb).1
        have hb256 := h1 b (List.mem_of_getElem? hb)
        refine ⟨trivial, ?_⟩
        have hsz : n < (bytesV s).size := by rw [bytesV_size]; exact hlt
        have hget : (bytesV s)[n]? = some (UInt8.ofNat b) := by
          rw [getElem?_pos (bytesV s) n hsz]
          congr 1
          have : (bytesV s)[n] = (s.map UInt8.ofNat)[n]'(by simpa using hlt) := by simp [bytesV, ByteArray.getElem_eq_getElem_data]
          rw [this, List.getElem_map]
          congr 1
          rw [List.getElem?_eq_getElem hlt] at hb
          exact Option.some.inj hb
        simp only [hd, emb, Int.ofNat_eq_natCast, Int.toNat_natCast, hget]
        congr 2
        simp
        omega
      · cases ho
    · cases ho
  · cases ho
end ops
end Go.Mini
/- The evaluator's operations against the model's: slices, conversions, lookups, builds, small builtins; all that only look. -/
namespace Go.Mini
variable [O : Opq]
open Go.RowKit

omit O in
theorem blt_lt {a b : Nat} (h : Nat.blt a b = true) : a < b := Nat.le_of_ble_eq_true h
omit O in
theorem lt_blt {a b : Nat} (h : a < b) : Nat.blt a b = true := Nat.ble_eq_true_of_le h
omit O in
theorem and2 {a b : Bool} (h : and a b = true) : a = true ∧ b = true := by simpa using h

section ops
variable {E : Env} {P : Program} {B : Nat → Prop} {W0 : World} {σ : Sg} {V : Nat → Prop} {h : MH} {w : World} {ev : Ev} {ρ : Operand → Value}

/-! ### Slices -/
theorem optNat_ok (hev : EvR σ V ev ρ) {o : Option Operand} {r : Option Nat} (ho : optNat ev o = some r) :
    (o = none ∧ r = none) ∨ ∃ k n, o.map ρ = some (.int k (.ofNat n)) ∧ r = some n := by
  unfold optNat at ho
  split at ho
  · cases ho; exact .inl ⟨rfl, rfl⟩
  · rename_i x
    split at ho
    · rename_i v hv
      split at ho
      · rename_i n hn
        cases ho
        obtain ⟨k, rfl⟩ := natOf_ok hn
        exact .inr ⟨k, n, by simp [(hev x _ hv).2, emb], rfl⟩
      · cases ho
    · cases ho

omit O in
theorem sliceBound_ok {k : IntKind} {n y : Nat} {c : BoundsCode} (hn : n ≤ y) (w : World) : (Instr.sliceBound (.int k (.ofNat n)) y c).run P w = .ok n w := by
  unfold Instr.sliceBound
  simp only [asIntOf, pure_bind]
  rw [if_pos ⟨Int.natCast_nonneg n, by simpa using hn⟩]
  rfl

theorem bounds_ok (hev : EvR σ V ev ρ) {lo hi mx : Option Operand} {lo' hi' mx' : Option Nat} (h1 : optNat ev lo = some lo') (h2 : optNat ev hi = some hi') (h3 : optNat ev mx = some mx')
    (hnm : ∀ m, mx' = some m → hi' ≠ none) (isS : Bool) {len cap : Nat} (c1 : od lo' 0 ≤ od hi' len) (c2 : od hi' len ≤ od mx' cap) (c3 : od mx' cap ≤ cap) (w : World) :
    (Instr.sliceBounds isS len cap (lo.map ρ) (hi.map ρ) (mx.map ρ)).run P w = .ok (od lo' 0, od hi' len, od mx' cap) w := by
  unfold Instr.sliceBounds
  rcases optNat_ok hev h3 with ⟨rfl, rfl⟩ | ⟨km, nm, em, rfl⟩ <;> rcases optNat_ok hev h2 with ⟨rfl, rfl⟩ | ⟨kh, nh, eh, rfl⟩ <;>
    rcases optNat_ok hev h1 with ⟨rfl, rfl⟩ | ⟨kl, nl, el, rfl⟩
  all_goals first | exact absurd rfl (hnm _ rfl) | skip
  all_goals
    simp only [od] at c1 c2 c3 ⊢
    simp only [*, Option.map_none, pure_bind]
    repeat rw [Sem.bind_ok (sliceBound_ok (by omega) w)]
    try rfl

omit O in
theorem sliceV {m l x y : Nat} {a b : Addr} {w : World} : (Result.ok (Value.slice (if m = l then some a else some b) x y) w) = .ok (.slice (some (if m = l then a else b)) x y) w := by split <;> rfl

theorem cutS_ok {id off cap es lo hi mx : Nat} {v : MV} (hv : V id) (ho : cutS id off cap es lo hi mx = some (.val v)) :
    lo ≤ hi ∧ hi ≤ mx ∧ mx ≤ cap ∧ wf σ V v ∧ emb σ v = .slice (some (if mx = lo then ⟨(σ id).blk, (σ id).off + off, none⟩ else ⟨(σ id).blk, (σ id).off + off + lo * es, none⟩)) (hi - lo) (mx - lo) := by
  unfold cutS at ho
  cases hc : (and (Nat.ble lo hi) (and (Nat.ble hi mx) (Nat.ble mx cap))) with
  | false => rw [hc] at ho; cases ho
  | true =>
    rw [hc] at ho
    simp only [cond_true, Option.some.injEq, MR.val.injEq] at ho
    subst ho
    obtain ⟨c1, c2⟩ := and2 hc
    obtain ⟨c2, c3⟩ := and2 c2
    have c1 := Nat.le_of_ble_eq_true c1
    have c2 := Nat.le_of_ble_eq_true c2
    have c3 := Nat.le_of_ble_eq_true c3
    refine ⟨c1, c2, c3, ?_, ?_⟩
    · simp only [wf]; exact ⟨hv, by show hi - lo ≤ mx - lo; omega⟩
    · simp only [emb]
      by_cases e : mx = lo
      · subst e; simp
      · have : Nat.beq mx lo = false := by cases hb : Nat.beq mx lo; rfl; exact absurd (Nat.eq_of_beq_eq_true hb) e
        rw [this, if_neg e]
        simp [Nat.add_assoc]

theorem cutO_ok {id off l len es lo hi : Nat} {v : MV} (hv : V id) (hl : l + len ≤ (σ id).cap) (ho : cutO id off l len es lo hi = some (.val v)) :
    lo ≤ hi ∧ hi ≤ len ∧ wf σ V v ∧
      emb σ v = .slice (some (if (σ id).cap - l = lo then ⟨(σ id).blk, (σ id).off + off, none⟩ else ⟨(σ id).blk, (σ id).off + off + lo * es, none⟩)) (hi - lo) ((σ id).cap - l - lo) := by
  unfold cutO at ho
  cases hc : (and (Nat.ble lo hi) (Nat.ble hi len)) with
  | false => rw [hc] at ho; cases ho
  | true =>
    rw [hc] at ho
    simp only [cond_true, Option.some.injEq, MR.val.injEq] at ho
    subst ho
    obtain ⟨c1, c2⟩ := and2 hc
    have c1 := Nat.le_of_ble_eq_true c1
    have c2 := Nat.le_of_ble_eq_true c2
    refine ⟨c1, c2, ?_⟩
    cases hd : (or (Nat.blt lo hi) (Nat.beq lo 0)) with
    | true =>
      simp only [cond_true]
      refine ⟨by simp only [wf]; exact ⟨hv, by show l + lo + (hi - lo) ≤ _; omega⟩, ?_⟩
      simp only [emb, Nat.add_eq, Nat.mul_eq, Nat.sub_eq]
      by_cases e : (σ id).cap - l = lo
      · rw [if_pos e]
        have h0 : lo = 0 := by
          rcases Bool.or_eq_true_iff.1 hd with h | h
          · have := blt_lt h; omega
          · exact Nat.eq_of_beq_eq_true h
        subst h0
        simp
      · rw [if_neg e, Nat.add_assoc, Nat.sub_sub]
    | false =>
      simp only [cond_false]
      have hne : ¬ lo < hi := fun h => by
        have : Nat.blt lo hi = true := lt_blt h
        rw [this] at hd; cases hd
      refine ⟨by simp only [wf]; exact ⟨hv, by show l + lo ≤ _; omega⟩, ?_⟩
      have e0 : hi - lo = 0 := by omega
      simp only [emb, Nat.add_eq, Nat.mul_eq, e0]
      by_cases e : (σ id).cap - l = lo
      · rw [if_pos e, if_pos (by omega), Nat.sub_sub]
      · rw [if_neg e, if_neg (by omega), Nat.add_assoc, Nat.sub_sub]

theorem slice_ok (hE : EnvOk E P) (hev : EvR σ V ev ρ) {t : TypeId} {x : Operand} {lo hi mx : Option Operand} {v : MV} (ho : oSlice E ev t x lo hi mx = some (.val v)) (w : World) :
    wf σ V v ∧ (Instr.sliceAt t (ρ x) (lo.map ρ) (hi.map ρ) (mx.map ρ)).run P w = .ok (emb σ v) w := by
  unfold oSlice at ho
  split at ho
  · rename_i xv lo' hi' mx' hx hlo hhi hmx
    obtain ⟨g1, g2⟩ := hev x _ hx
    split at ho
    · cases ho
    · rename_i hnm0
      have hnm : ∀ m, mx' = some m → hi' ≠ none := fun m hm hn => hnm0 m hn hm
      unfold sliceM at ho
      split at ho
      · cases ho
      · rename_i T hT
        obtain ⟨hi0, hu⟩ := hE.ty t T hT
        unfold Instr.sliceAt
        rw [Sem.bind_ok (r_und hu w), g2]
        split at ho
        · -- strings
          rename_i s hd
          rw [hd] at hu
          simp only [wf] at g1
          split at ho
          · cases ho
          · cases hc : (and (Nat.ble (od lo' 0) (od hi' (llen s 0))) (Nat.ble (od hi' (llen s 0)) (llen s 0))) with
            | false => rw [hc] at ho; cases ho
            | true =>
              rw [hc] at ho
              simp only [cond_true] at ho
              obtain ⟨c1, c2⟩ := and2 hc
              have c1 := Nat.le_of_ble_eq_true c1
              have c2 := Nat.le_of_ble_eq_true c2
              split at ho
              · rename_i r hr
                cases ho
                obtain ⟨hn, rfl⟩ := ltake_some hr
                rw [ldrop_eq]
                refine ⟨by simp only [wf]; exact fun b hb => g1 b (List.mem_of_mem_drop (List.mem_of_mem_take hb)), ?_⟩
                have hmx0 : mx.map ρ = none := by rcases optNat_ok hev hmx with ⟨rfl, -⟩ | ⟨k, n, e, e'⟩; rfl; cases e'
                rw [llen_eq] at c1 c2
                rw [llen_eq]
                simp only [Nat.add_zero] at c1 c2 ⊢
                have hbd := bounds_ok (P := P) hev hlo hhi (show optNat ev (none : Option Operand) = some none from rfl) (fun m hm => by cases hm) false (len := s.length) (cap := s.length) c1 (show od hi' s.length ≤ od none s.length from c2) (Nat.le_refl _) w
                simp only [hd, emb]
                unfold Instr.slice
                rw [Sem.bind_ok (r_und hu w)]
                simp only [hmx0, Option.isSome_none, Bool.false_eq_true, if_false, bytesV_size]
                simp only [Option.map_none] at hbd
                rw [Sem.bind_ok hbd]
                simp only [Sem.run_pure]
                congr 2
                apply ByteArray.ext
                simp [bytesV, List.map_take, List.map_drop, List.extract_eq_take_drop]
              · cases ho
        · -- slices with a known capacity
          rename_i e id off len cap hd
          rw [hd] at hu
          simp only [wf] at g1
          split at ho
          · rename_i es hes
            obtain ⟨c1, c2, c3, c4, c5⟩ := cutS_ok (σ := σ) (V := V) g1.1 ho
            refine ⟨c4, ?_⟩
            simp only [hd, emb]
            unfold Instr.slice
            rw [Sem.bind_ok (r_und hu w)]
            simp only []
            rw [Sem.bind_ok (bounds_ok hev hlo hhi hmx hnm true c1 c2 c3 w), Sem.bind_ok (sizeE_ok hE hes w), c5]
            simp only [Sem.run_pure, Option.map_some, Addr.add_lit]
            exact sliceV
          · cases ho
        · -- slices whose capacity is not known
          rename_i e id off l len hd
          rw [hd] at hu
          simp only [wf] at g1
          split at ho
          · rename_i es hes
            split at ho
            · rename_i m
              obtain ⟨c1, c2, c3, c4, c5⟩ := cutS_ok (σ := σ) (V := V) g1.1 ho
              refine ⟨c4, ?_⟩
              simp only [hd, emb]
              unfold Instr.slice
              rw [Sem.bind_ok (r_und hu w)]
              simp only []
              have c3' : od (some m) ((σ id).cap - l) ≤ (σ id).cap - l := by show m ≤ _; omega
              rw [Sem.bind_ok (bounds_ok hev hlo hhi hmx hnm true c1 (show od hi' len ≤ od (some m) ((σ id).cap - l) from c2) c3' w), Sem.bind_ok (sizeE_ok hE hes w), c5]
              simp only [Sem.run_pure, Option.map_some, Addr.add_lit]
              exact sliceV
            · obtain ⟨c1, c2, c4, c5⟩ := cutO_ok (σ := σ) (V := V) g1.1 g1.2 ho
              refine ⟨c4, ?_⟩
              simp only [hd, emb]
              unfold Instr.slice
              rw [Sem.bind_ok (r_und hu w)]
              simp only []
              rw [Sem.bind_ok (bounds_ok hev hlo hhi hmx hnm true c1 (show od hi' len ≤ od none ((σ id).cap - l) by show _ ≤ (σ id).cap - l; omega) (Nat.le_refl _) w), Sem.bind_ok (sizeE_ok hE hes w), c5]
              simp only [Sem.run_pure, Option.map_some, Addr.add_lit]
              exact sliceV
          · cases ho
        · -- nil
          rename_i e hd
          rw [hd] at hu
          split at ho
          · rename_i es hes
            cases hc : (and (Nat.beq (od lo' 0) 0) (and (Nat.beq (od hi' 0) 0) (Nat.beq (od mx' 0) 0))) with
            | false => rw [hc] at ho; cases ho
            | true =>
              rw [hc] at ho
              simp only [cond_true, Option.some.injEq, MR.val.injEq] at ho
              subst ho
              obtain ⟨c1, c2⟩ := and2 hc
              obtain ⟨c2, c3⟩ := and2 c2
              have c1 := Nat.eq_of_beq_eq_true c1
              have c2 := Nat.eq_of_beq_eq_true c2
              have c3 := Nat.eq_of_beq_eq_true c3
              refine ⟨trivial, ?_⟩
              simp only [hd, emb]
              unfold Instr.slice
              rw [Sem.bind_ok (r_und hu w)]
              simp only []
              rw [Sem.bind_ok (bounds_ok hev hlo hhi hmx hnm true (by omega) (by omega) (by omega) w), Sem.bind_ok (sizeE_ok hE hes w)]
              simp only [c1, c2, c3, Sem.run_pure]
              rfl
          · cases ho
        · -- empty at the end of an open one
          rename_i e id a b l hd
          rw [hd] at hu
          simp only [wf] at g1
          split at ho
          · rename_i es hes
            cases hc : (and (Nat.beq (od lo' 0) 0) (Nat.beq (od hi' 0) 0)) with
            | false => rw [hc] at ho; cases ho
            | true =>
              rw [hc] at ho
              simp only [cond_true, Option.some.injEq, MR.val.injEq] at ho
              subst ho
              obtain ⟨c1, c2⟩ := and2 hc
              have c1 := Nat.eq_of_beq_eq_true c1
              have c2 := Nat.eq_of_beq_eq_true c2
              refine ⟨by simp only [wf]; exact g1, ?_⟩
              simp only [hd, emb]
              unfold Instr.slice
              rw [Sem.bind_ok (r_und hu w)]
              simp only []
              rw [Sem.bind_ok (bounds_ok hev hlo hhi hmx hnm true (by omega) (show od hi' 0 ≤ od none ((σ id).cap - l) by omega) (Nat.le_refl _) w), Sem.bind_ok (sizeE_ok hE hes w)]
              simp only [c1, c2, Sem.run_pure, Option.map_some, Addr.add_lit, Nat.zero_mul, Nat.add_zero, ite_self]
              rfl
          · cases ho
        · -- arrays
          rename_i n e id off hd
          rw [hd] at hu
          simp only [wf] at g1
          split at ho
          · rename_i es hes
            obtain ⟨c1, c2, c3, c4, c5⟩ := cutS_ok (σ := σ) (V := V) g1 ho
            refine ⟨c4, ?_⟩
            simp only [hd, emb, Instr.sureAddr, pure_bind]
            rw [Sem.bind_ok (bounds_ok hev hlo hhi hmx hnm false c1 c2 c3 w), Sem.bind_ok (sizeE_ok hE hes w), c5]
            simp only [Sem.run_pure, Addr.add_lit]
          · cases ho
        · cases ho
  · cases ho
end ops
end Go.Mini
/- The evaluator's operations against the model's: conversions, lookups, builds, small builtins; all that only look. -/
namespace Go.Mini
variable [O : Opq]
open Go.RowKit

section ops
variable {E : Env} {P : Program} {B : Nat → Prop} {W0 : World} {σ : Sg} {V : Nat → Prop} {h : MH} {w : World} {ev : Ev} {ρ : Operand → Value}

/-! ### Conversions -/
omit O in
theorem isByte_ok {T : MT} (hb : isByte T = true) : T.und = .int .u8 := by
  unfold isByte at hb
  split at hb
  · assumption
  · cases hb

omit O in
theorem bytesOf_cons (v : MV) (l : List MV) : bytesOf (v :: l) = (match v with
    | .int .u8 (.ofNat n) => cond (Nat.blt n 256) (match bytesOf l with | some r => some (n :: r) | none => none) none
    | _ => none) := rfl
omit O in
theorem bytesOf_ok : ∀ (l : List MV) (s : List Nat), bytesOf l = some s → (∀ b ∈ s, b < 256) ∧ l = s.map (fun n => .int .u8 (.ofNat n)) := by
  intro l
  induction l with
  | nil => intro s hs; have e : bytesOf [] = some [] := rfl
           rw [e] at hs; cases hs; simp
  | cons v l ih =>
    intro s hs
    rw [bytesOf_cons] at hs
    split at hs
    · rename_i n
      cases hb : Nat.blt n 256 with
      | false => rw [hb] at hs; cases hs
      | true =>
        rw [hb] at hs
        simp only [cond_true] at hs
        split at hs
        · rename_i r hr
          cases hs
          obtain ⟨h1, h2⟩ := ih r hr
          refine ⟨fun b hb' => ?_, by simp [h2]⟩
          rcases List.mem_cons.1 hb' with rfl | hb'
          · exact blt_lt hb
          · exact h1 b hb'
        · cases hs
    · cases hs

theorem push_ok (σ : Sg) (w : World) : ∀ (s acc : List Nat),
    (forIn (m := Sem) (s.map (fun n => emb σ (.int .u8 (.ofNat n)))) (bytesV acc) (fun c r => do
      let .int .u8 n := c | stuck "bytesToString: byte expected"
      pure (ForInStep.yield (r.push (UInt8.ofNat n.toNat))))).run P w = .ok (bytesV (acc ++ s)) w := by
  intro s
  induction s with
  | nil => intro acc; simp
  | cons n s ih =>
    intro acc
    have := ih (acc ++ [n])
    simp only [List.map_cons, List.forIn_cons, emb, pure_bind]
    simp only [emb] at this
    have e : (bytesV acc).push (UInt8.ofNat (Int.ofNat n).toNat) = bytesV (acc ++ [n]) := by
      apply ByteArray.ext; simp [bytesV]
    rw [e, this]
    simp

theorem bytesToString_ok (R : Rel E.G B W0 σ V h w) {x : MV} {c : List MV} {s : List Nat} (hx : wf σ V x) (hc : sliceCells 1 h x = some c) (hs : bytesOf c = some s) :
    (∀ b ∈ s, b < 256) ∧ (Conv.bytesToString (emb σ x)).run P w = .ok (.string (bytesV s)) w := by
  obtain ⟨h1, h2⟩ := bytesOf_ok c s hs
  refine ⟨h1, ?_⟩
  have key : ∀ {id off len : Nat}, V id → readCells h id off (Nat.mul len 1) = some c → ∀ cap,
      (Conv.bytesToString (.slice (some ⟨(σ id).blk, (σ id).off + off, none⟩) len cap)).run P w = .ok (.string (bytesV s)) w := by
    intro id off len hv hr cap
    obtain ⟨-, -, hlen, hcell⟩ := readCells_ok R hv hr
    have hl := loadCells_ok (P := P) hcell
    unfold Conv.bytesToString
    rw [show len = c.length by rw [hlen]; simp]
    simp only []
    rw [Sem.bind_ok hl, ← Array.forIn_toList]
    have e : embs σ c = s.map (fun n => emb σ (.int .u8 (.ofNat n))) := by rw [embs_map, h2]; simp
    have := push_ok (P := P) σ w s []
    simp only [List.nil_append] at this
    simp only [e]
    exact (Sem.bind_ok this).trans rfl
  have nil : c = [] → (Conv.bytesToString (.slice none 0 0)).run P w = .ok (.string (bytesV s)) w := by
    rintro rfl
    have e : bytesOf [] = some [] := rfl
    rw [e] at hs; cases hs
    rfl
  cases x <;> simp only [sliceCells] at hc <;> first | (cases hc; done) | skip
  · exact nil (Option.some.inj hc).symm
  · rename_i id off len cap; simp only [wf] at hx; exact key hx.1 hc _
  · rename_i id off l len; simp only [wf] at hx; exact key hx.1 hc _
  · rename_i id a b l
    cases hc
    have e : bytesOf [] = some [] := rfl
    rw [e] at hs; cases hs
    rfl

theorem sliceCells_emb {n : Nat} {x : MV} {c : List MV} (hc : sliceCells n h x = some c) : ∃ a m cp, emb σ x = .slice a m cp := by
  cases x <;> simp only [sliceCells] at hc <;> first | (cases hc; done) | exact ⟨_, _, _, rfl⟩

omit O in
theorem markM_upd {x : MV} {r : MR} (ho : markM E h x = some r) : ∃ id off len cap cs t es o, x = .sl id off len cap ∧ h.get id = some (.cells cs t es o) ∧ E.G.ro ≤ id ∧ r = .upd x (h.set id (.cells cs t es o)) := by
  unfold markM at ho
  split at ho
  · rename_i id off len cap
    split at ho
    · rename_i cs t es o hg
      cases hr : Nat.ble E.G.ro id with
      | false => rw [hr] at ho; cases ho
      | true =>
        rw [hr] at ho
        cases ho
        exact ⟨id, off, len, cap, cs, t, es, o, rfl, hg, Nat.le_of_ble_eq_true hr, rfl⟩
    · cases ho
  · cases ho
theorem conv_ok (hE : EnvOk E P) (R : Rel E.G B W0 σ V h w) (hev : EvR σ V ev ρ) {s d : TypeId} {x : Operand} {v : MV} (ho : oConv E ev s d x h = some (.val v)) :
    wf σ V v ∧ (convert s d (ρ x)).run P w = .ok (emb σ v) w := by
  unfold oConv at ho
  split at ho
  · rename_i xv hx
    obtain ⟨g1, g2⟩ := hev x _ hx
    rw [g2]
    split at ho
    · rename_i u hu
      cases ho
      obtain ⟨k1, k2⟩ := hE.co s d xv _ hu σ V g1
      exact ⟨k1, k2 w⟩
    rename_i hu
    clear hu
    unfold convM at ho
    split at ho
    · rename_i S D hS hD
      have uS := (hE.ty s S hS).2
      have uD := (hE.ty d D hD).2
      unfold convert
      rw [Sem.bind_ok (r_und uS w), Sem.bind_ok (r_und uD w)]
      split at ho
      · rename_i k k' n hd
        split at ho
        · rename_i k2 hs
          cases ho
          refine ⟨trivial, ?_⟩
          simp only [hd, hs, emb]
          rfl
        · cases ho
      · rename_i b hd
        split at ho
        · rename_i hs
          cases ho
          refine ⟨g1, ?_⟩
          simp only [hd, hs, emb]
          rfl
        · cases ho
      · split at ho
        · rename_i T hS' hT
          cases hb : isByte T with
          | false => rw [hb] at ho; cases ho
          | true => rw [hb] at ho; cases ho
        · cases ho
      · rename_i hni hns hd
        split at ho
        · rename_i e hs
          split at ho
          · rename_i T hT
            cases hb : isByte T with
            | false => rw [hb] at ho; cases ho
            | true =>
              rw [hb] at ho
              simp only [cond_true] at ho
              split at ho
              · rename_i c hc
                split at ho
                · rename_i b hbo
                  cases ho
                  obtain ⟨h1, h2⟩ := bytesToString_ok (P := P) R g1 hc hbo
                  refine ⟨by simp only [wf]; exact h1, ?_⟩
                  have ue := (hE.ty e T hT).2
                  rw [isByte_ok hb] at ue
                  simp only [hns, hs]
                  obtain ⟨a, n, cp, hx'⟩ := sliceCells_emb (σ := σ) hc
                  rw [hx'] at h2 ⊢
                  simp only []
                  rw [Sem.bind_ok (r_und ue w)]
                  exact h2
                · cases ho
              · cases ho
          · cases ho
        · cases ho
      · split at ho
        · rename_i T hs hT
          cases hb : and (Nat.beq s d) (isByte T) with
          | false => rw [hb] at ho; cases ho
          | true =>
            rw [hb] at ho
            obtain ⟨id, off, len, cap, cs, t, es, o, -, -, -, e⟩ := markM_upd ho
            cases e
        · cases ho
      · cases ho
    · cases ho
  · cases ho

/-! ### Maps -/
omit O in
theorem mfind_cons (K : TypeDesc) (k : MV) (e : ME) (l : List ME) (i : Nat) : mfind K k (e :: l) i = (match eqM K k e.key with
    | some true => some (some (i, e))
    | some false => mfind K k l (Nat.succ i)
    | none => none) := rfl

theorem sameNow_ok {K : TypeDesc} {x y : MV} {b : Bool} (hK : keyT K = true) (hx : wf σ V x) (hy : wf σ V y) (he : eqM K x y = some b) : Instr.sameNow K (emb σ x) (emb σ y) = some b := by
  unfold eqM at he
  cases K <;> simp only [keyT, Bool.false_eq_true] at hK <;> simp only at he
  case bool =>
    split at he
    · cases he; rfl
    · cases he
  case int k0 =>
    split at he
    · rename_i k a k' b'
      by_cases hk : k = k'
      · subst hk
        simp only [decide_true, cond_true, Option.some.injEq] at he
        subst he
        simp only [emb, Instr.sameNow, if_true]
        rfl
      · simp [hk] at he
    · cases he
  case string =>
    split at he
    · rename_i a b'
      simp only [Option.some.injEq] at he
      subst he
      simp only [wf] at hx hy
      simp only [emb, Instr.sameNow]
      congr 1
      rw [beqs_eq, byteArray_beq, bytesV_list, bytesV_list, Bool.eq_iff_iff]
      simp only [decide_eq_true_eq]
      exact u8_map_inj hx hy
    · cases he

theorem mfind_ok {K : TypeDesc} {k : MV} (hK : keyT K = true) (hk : wf σ V k) : ∀ (l : List ME) (i : Nat) (r : Option (Nat × ME)), (∀ e ∈ l, wfE σ V e) → mfind K k l i = some r →
    Instr.findNow K (emb σ k) (l.map (embE σ)) i = some (r.map fun p => (p.1, emb σ p.2.val)) ∧ ∀ j e, r = some (j, e) → i ≤ j ∧ l[j - i]? = some e := by
  intro l
  induction l with
  | nil => intro i r _ h; have e : mfind K k [] i = some none := rfl
           rw [e] at h; cases h; exact ⟨rfl, fun _ _ h => by cases h⟩
  | cons e l ih =>
    intro i r hl h
    rw [mfind_cons] at h
    have he := hl e (by simp)
    split at h
    · rename_i hq
      cases h
      refine ⟨?_, fun j e' h => by cases h; simp⟩
      simp only [List.map_cons, Instr.findNow, embE, sameNow_ok hK hk he.1 hq, Option.map_some]
    · rename_i hq
      obtain ⟨h1, h2⟩ := ih (i + 1) r (fun x hx => hl x (by simp [hx])) h
      refine ⟨?_, fun j e' hj => ?_⟩
      · simp only [List.map_cons, Instr.findNow, embE, sameNow_ok hK hk he.1 hq]
        exact h1
      · obtain ⟨h3, h4⟩ := h2 j e' hj
        refine ⟨by omega, ?_⟩
        rw [show j - i = (j - (i + 1)) + 1 by omega]
        simpa using h4
    · cases h

omit O in
theorem checkKey_ok {kt : TypeId} {K : TypeDesc} {v : Value} (hu : P.underlying kt = some K) (hK : keyT K = true) (em : Bool) (w : World) : (Instr.checkKey em 10000 kt v).run P w = .ok () w := by
  unfold Instr.checkKey
  rw [Sem.bind_ok (r_und hu w)]
  cases K <;> simp only [keyT, Bool.false_eq_true] at hK <;> rfl

theorem keyDesc_ok (hE : EnvOk E P) {t : TypeId} {K : TypeDesc} {el : TypeId} (hk : keyDesc E t = some (K, el)) : ∃ kt, P.underlying t = some (.map kt el) ∧ P.underlying kt = some K ∧ keyT K = true := by
  unfold keyDesc at hk
  split at hk
  · rename_i T hT
    split at hk
    · rename_i kt el' hd
      split at hk
      · rename_i KT hKT
        cases hc : keyT KT.und with
        | false => rw [hc] at hk; cases hk
        | true =>
          rw [hc] at hk
          simp only [cond_true, Option.some.injEq, Prod.mk.injEq] at hk
          obtain ⟨rfl, rfl⟩ := hk
          exact ⟨kt, by rw [← hd]; exact (hE.ty t T hT).2, (hE.ty kt KT hKT).2, hc⟩
      · cases hk
    · cases hk
  · cases hk

theorem findKey_ok {kt : TypeId} {K : TypeDesc} {k : MV} {l : List ME} {r : Option (Nat × ME)} (hu : P.underlying kt = some K) (hK : keyT K = true) (hk : wf σ V k) (hl : ∀ e ∈ l, wfE σ V e)
    (hf : mfind K k l 0 = some r) (w : World) : (Instr.findKey kt (emb σ k) (l.map (embE σ))).run P w = .ok (r.map fun p => (p.1, emb σ p.2.val)) w := by
  unfold Instr.findKey
  rw [Sem.bind_ok (r_und hu w), (mfind_ok hK hk l 0 r hl hf).1]
  rfl

theorem zeroV_ok (hE : EnvOk E P) {t : TypeId} {T : MT} {z : MV} (hT : E.ty.get t = some T) (hz : zeroV T = some z) : (∀ w, (zeroValue t).run P w = .ok (emb σ z) w) ∧ wf σ V z ∧ ones z.cells = true ∧ z.cells.length = T.info.size := by
  unfold zeroV at hz
  split at hz
  · rename_i u hu
    split at hz
    · rename_i m hm
      cases hc : and (ones m.cells) (Nat.beq (llen m.cells 0) T.info.size) with
      | false => rw [hc] at hz; cases hz
      | true =>
        rw [hc] at hz
        simp only [cond_true, Option.some.injEq] at hz
        subst hz
        obtain ⟨h1, h2⟩ := ofV_ok σ V u m hm
        obtain ⟨c1, c2⟩ := and2 hc
        have c2 := Nat.eq_of_beq_eq_true c2
        rw [llen_eq] at c2
        exact ⟨fun w => by rw [h1]; exact r_zero (hE.ty t T hT).1 hu w, h2, c1, c2⟩
    · cases hz
  · cases hz

theorem mapOf_ok (R : Rel E.G B W0 σ V h w) {m : MV} {es : List ME} {c : Nat} (hm : wf σ V m) (ho : mapOf h m = some (es, c)) :
    (∀ e ∈ es, wfE σ V e) ∧ ((m = .nilM ∧ es = []) ∨ ∃ id, m = .mp id ∧ V id ∧ h.get id = some (.map es c) ∧ w.heap[(σ id).blk]? = some (.map ⟨es.map (embE σ)⟩ c)) := by
  unfold mapOf at ho
  split at ho
  · cases ho; exact ⟨by simp, .inl ⟨rfl, rfl⟩⟩
  · rename_i id
    split at ho
    · rename_i es' c' hg
      cases ho
      simp only [wf] at hm
      obtain ⟨h1, h2⟩ := R.blk id _ hm hg
      exact ⟨h2, .inr ⟨id, rfl, hm, hg, h1⟩⟩
    · cases ho
  · cases ho

theorem found_ok {ok b : Bool} {v : MV} (hv : wf σ V v) : wf σ V (found ok v b) ∧ emb σ (found ok v b) = (if ok then .tuple #[emb σ v, .bool b] else emb σ v) := by
  unfold found
  cases ok with
  | true => exact ⟨by simp only [cond_true, wf, wfs]; exact ⟨hv, trivial, trivial⟩, rfl⟩
  | false => exact ⟨hv, rfl⟩

omit O in
theorem r_getObj_map {r : Nat} {es : Array MapEntry} {c : Nat} (hb : w.heap[r]? = some (.map es c)) : (getObj r).run P w = .ok (.map es c) w := by
  simp [getObj, Sem.run, hb]

theorem lookup_ok (hE : EnvOk E P) (R : Rel E.G B W0 σ V h w) (hev : EvR σ V ev ρ) {t : TypeId} {m k : Operand} {ok : Bool} {v : MV} (ho : oLookup E ev t m k ok h = some (.val v)) :
    wf σ V v ∧ (Instr.lookup t (ρ m) (ρ k) ok).run P w = .ok (emb σ v) w := by
  unfold oLookup at ho
  split at ho
  · rename_i mv kv hm hk
    obtain ⟨m1, m2⟩ := hev m _ hm
    obtain ⟨k1, k2⟩ := hev k _ hk
    rw [m2, k2]
    unfold lookupM at ho
    split at ho
    · rename_i K el es c hkd hmo
      obtain ⟨kt, u1, u2, hK⟩ := keyDesc_ok hE hkd
      obtain ⟨hes, hmm⟩ := mapOf_ok R m1 hmo
      unfold Instr.lookup
      rw [Sem.bind_ok (r_und u1 w)]
      simp only []
      split at ho
      · rename_i i e hf
        cases ho
        have hfk := findKey_ok (P := P) u2 hK k1 hes hf w
        obtain ⟨-, h4⟩ := mfind_ok hK k1 es 0 _ hes hf
        obtain ⟨-, h5⟩ := h4 _ _ rfl
        obtain ⟨w1, w2⟩ := found_ok (σ := σ) (V := V) (ok := ok) (b := true) (hes e (List.mem_of_getElem? h5)).2
        refine ⟨w1, ?_⟩
        rcases hmm with ⟨rfl, rfl⟩ | ⟨id, rfl, hv, hg, hw⟩
        · simp at h5
        · simp only [emb]
          rw [Sem.bind_ok (r_getObj_map hw)]
          simp only [pure_bind]
          refine (Sem.bind_ok (checkKey_ok u2 hK _ w)).trans ?_
          refine (Sem.bind_ok hfk).trans ?_
          rw [w2]; rfl
      · rename_i hf
        split at ho
        · rename_i Te hTe
          split at ho
          · rename_i z hz
            cases ho
            have hfk := findKey_ok (P := P) u2 hK k1 hes hf w
            obtain ⟨z1, z2, -, -⟩ := zeroV_ok (σ := σ) (V := V) hE hTe hz
            obtain ⟨w1, w2⟩ := found_ok (σ := σ) (V := V) (ok := ok) (b := false) z2
            refine ⟨w1, ?_⟩
            rcases hmm with ⟨rfl, rfl⟩ | ⟨id, rfl, hv, hg, hw⟩
            · simp only [emb, pure_bind]
              refine (Sem.bind_ok (checkKey_ok u2 hK _ w)).trans ?_
              refine (Sem.bind_ok hfk).trans ?_
              simp only [Option.map_none]
              rw [Sem.bind_ok (z1 w), w2]; rfl
            · simp only [emb]
              rw [Sem.bind_ok (r_getObj_map hw)]
              simp only [pure_bind]
              refine (Sem.bind_ok (checkKey_ok u2 hK _ w)).trans ?_
              refine (Sem.bind_ok hfk).trans ?_
              simp only [Option.map_none]
              rw [Sem.bind_ok (z1 w), w2]; rfl
          · cases ho
        · cases ho
      · cases ho
    · cases ho
  · cases ho
end ops
end Go.Mini
