/- The evaluator's operations against the model's: what writes. -/
import Derived.Test.YthbialpbkpiekaaGreatDoorEC
namespace Go.Mini
variable [O : Opq]
open Go.RowKit

/-- One step of the evaluator's is one of the world's. -/
def Sim (G : GB) (B : Nat → Prop) (W0 : World) (σ : Sg) (V : Nat → Prop) (h h' : MH) (K : Sg → (Nat → Prop) → World → Prop) : Prop :=
  ∃ σ' V' w', Agr V σ σ' ∧ (∀ id, V id → V' id) ∧ (∀ id, V' id → V id ∨ h.nx ≤ id) ∧ h.nx ≤ h'.nx ∧ Rel G B W0 σ' V' h' w' ∧ K σ' V' w'

theorem Sim.mono {G : GB} {B : Nat → Prop} {W0 : World} {σ : Sg} {V : Nat → Prop} {h h' : MH} {K K' : Sg → (Nat → Prop) → World → Prop} (hs : Sim G B W0 σ V h h' K)
    (hk : ∀ σ' V' w', Agr V σ σ' → (∀ id, V id → V' id) → K σ' V' w' → K' σ' V' w') : Sim G B W0 σ V h h' K' := by
  obtain ⟨σ', V', w', h1, h2, h3, h4, h5, h6⟩ := hs
  exact ⟨σ', V', w', h1, h2, h3, h4, h5, hk _ _ _ h1 h2 h6⟩

omit O in
theorem Agr.refl (V : Nat → Prop) (σ : Sg) : Agr V σ σ := fun _ _ => rfl
omit O in
theorem Agr.trans {V V' : Nat → Prop} {σ σ' σ'' : Sg} (h : Agr V σ σ') (hV : ∀ id, V id → V' id) (h' : Agr V' σ' σ'') : Agr V σ σ'' := fun id hid => (h' id (hV id hid)).trans (h id hid)

section ops
variable {E : Env} {P : Program} {B : Nat → Prop} {W0 : World} {σ : Sg} {V : Nat → Prop} {h : MH} {w : World} {ev : Ev} {ρ : Operand → Value}

/-- A step that changes no block numbers. -/
theorem Sim.same {h' : MH} {w' : World} {K : Sg → (Nat → Prop) → World → Prop} (hn : h'.nx = h.nx) (R : Rel E.G B W0 σ V h' w') (hk : K σ V w') : Sim E.G B W0 σ V h h' K :=
  ⟨σ, V, w', Agr.refl _ _, fun _ hx => hx, fun _ hx => .inl hx, Nat.le_of_eq hn.symm, R, hk⟩

/-- A step that makes one block. -/
theorem Sim.new (R : Rel E.G B W0 σ V h w) (hW : ∀ k, B k → k < W0.heap.size) {b : MB} {o : Obj} (off cap : Nat) {K : Sg → (Nat → Prop) → World → Prop}
    (hb : Blk (upd σ h.nx ⟨w.heap.size, off, cap⟩) (addV V h.nx) h.nx (w.alloc o) b) (hk : K (upd σ h.nx ⟨w.heap.size, off, cap⟩) (addV V h.nx) (w.alloc o)) : Sim E.G B W0 σ V h (h.new b) K :=
  ⟨_, _, _, agr_upd _ _ (fun hv => Nat.lt_irrefl _ (R.vx _ hv)), fun _ hx => .inl hx, fun _ hx => hx.imp (fun x => x) (fun e => Nat.le_of_eq e.symm), Nat.le_succ _, R.alloc (R.size hW) off cap hb, hk⟩

abbrev UpdK (P : Program) (ρ : Operand → Value) (o : Oper) (w : World) (v : MV) : Sg → (Nat → Prop) → World → Prop :=
  fun σ' V' w' => wf σ' V' v ∧ ((execOp ρ o).run P w = .ok (.value (emb σ' v)) w' ∨ (v = undefM ∧ (execOp ρ o).run P w = .ok .skip w'))

omit O in
theorem wf_undef : wf σ V undefM := by simp only [undefM, wf, wfs]

theorem store_ok (hE : EnvOk E P) (R : Rel E.G B W0 σ V h w) (hev : EvR σ V ev ρ) {o : Oper} {t : TypeId} {x y : Operand} (hop : o.op = .store t x y) {v : MV} {h' : MH}
    (ho : oStore E ev t x y h = some (v, h')) : Sim E.G B W0 σ V h h' (UpdK P ρ o w v) := by
  unfold oStore at ho
  split at ho
  · rename_i T id off u hT hx hy
    obtain ⟨x1, x2⟩ := hev x _ hx
    obtain ⟨y1, y2⟩ := hev y _ hy
    simp only [wf] at x1
    cases hc : Nat.beq (llen u.cells 0) T.info.size with
    | false => rw [hc] at ho; cases ho
    | true =>
      rw [hc] at ho
      simp only [cond_true] at ho
      have hc := Nat.eq_of_beq_eq_true hc
      rw [llen_eq] at hc
      simp only [Nat.add_zero] at hc
      split at ho
      · rename_i h1 hw
        cases ho
        obtain ⟨w', r1, r2, r3⟩ := writeCells_ok (P := P) R x1 (wf_cells y1) hw
        refine Sim.same r3 r1 ⟨wf_undef, .inr ⟨rfl, ?_⟩⟩
        unfold execOp
        simp only [hop]
        refine run_unit ?_
        unfold Instr.storeAt
        rw [x2, y2]
        simp only [emb, Instr.sureAddr, pure_bind]
        unfold storeVar
        rw [Sem.bind_ok (r_size (hE.ty t T hT).1 w)]
        have hsz : (emb σ u).cells.size = T.info.size := by rw [emb_cells, embs_map]; simp [hc]
        rw [if_neg (by simp [hsz]), emb_cells]
        exact r2
      · cases ho
  · cases ho

omit O in
theorem freeze_alloc (w : World) (c : Array Value) (e : TypeId) (n : Nat) : (w.alloc (.cells c e)).freeze ⟨w.heap.size, n, none⟩ 1 = w.alloc (.cells c e (n, n + 1)) := by
  unfold World.freeze
  rw [if_neg (by omega)]
  show ({ w with heap := _ } : World) = { w with heap := _ }
  congr 1
  show (w.heap.push (.cells c e)).modify w.heap.size _ = w.heap.push _
  apply Array.ext_getElem?
  intro i
  rw [Array.getElem?_modify]
  by_cases hi : w.heap.size = i
  · subst hi
    rw [if_pos rfl]
    simp
  · rw [if_neg hi]
    rcases Nat.lt_or_gt_of_ne hi with hlt | hgt
    · rw [Array.getElem?_eq_none (by simp; omega), Array.getElem?_eq_none (by simp; omega)]
    · rw [Array.getElem?_push_lt hgt, Array.getElem?_push_lt hgt]

omit O in
theorem freeze_end {w : World} {b : Nat} {c : Array Value} {t : TypeId} {fz : Nat × Nat} (h : w.heap[b]? = some (.cells c t fz)) (hf : fz.1 = fz.2 ∨ c.size ≤ fz.1) :
    ∃ fz' : Nat × Nat, w.freeze ⟨b, c.size, none⟩ 1 = w.putObj b (.cells c t fz') ∧ c.size ≤ fz'.1 := by
  obtain ⟨lo, hi⟩ := fz
  refine ⟨if lo == hi then (c.size, c.size + 1) else (min lo c.size, max hi (c.size + 1)), ?_, ?_⟩
  · unfold World.freeze World.putObj
    rw [if_neg (by decide)]
    congr 1
    apply Array.ext_getElem?
    intro i
    rw [Array.getElem?_modify]
    by_cases hi : b = i
    · subst hi
      have hlt := (Array.getElem?_eq_some_iff.1 h).1
      rw [if_pos rfl, h]
      simp [hlt]
    · rw [if_neg hi, Array.getElem?_setIfInBounds_ne hi]
  · dsimp only at hf
    split
    · exact Nat.le_refl _
    · rename_i hne
      have : lo ≠ hi := by simpa using hne
      show c.size ≤ min lo c.size
      omega

theorem conv_upd (hE : EnvOk E P) (R : Rel E.G B W0 σ V h w) (hW : ∀ k, B k → k < W0.heap.size) (hev : EvR σ V ev ρ) {o : Oper} {s d : TypeId} {x : Operand} (hop : o.op = .convert s d x) {v : MV} {h' : MH}
    (ho : oConv E ev s d x h = some (.upd v h')) : Sim E.G B W0 σ V h h' (UpdK P ρ o w v) := by
  rcases conv_forms ho with ⟨u, e⟩ | ⟨S, D, e, T, b, hS, hD, hs, hd, hT, hb, hx, hr⟩ | ⟨S, D, e', e, T, xv, hS, hD, hs, hd, hT, hb, rfl, hx, hm⟩
  rotate_right
  · obtain ⟨id, off, len, cap, cs, t, es, op, rfl, hg, hro, e⟩ := markM_upd hm
    cases e
    obtain ⟨x1, x2⟩ := hev x _ hx
    simp only [wf] at x1
    have uS := (hE.ty s S hS).2
    have ue := (hE.ty e T hT).2
    have uD := (hE.ty s D hD).2
    rw [isByte_ok hb] at ue
    rw [hs] at uS
    rw [hd] at uD
    obtain ⟨c, fz, k1, k2, k3, k4, k5, k6⟩ := R.blk id _ x1.1 hg
    obtain ⟨fz', hf1, hf2⟩ : ∃ fz' : Nat × Nat, w.freeze ⟨(σ id).blk, c.size, none⟩ 1 = w.putObj (σ id).blk (.cells c t fz') ∧ c.size ≤ fz'.1 := freeze_end k1 k6
    have hsz : (σ id).blk < w.heap.size := (Array.getElem?_eq_some_iff.1 k1).1
    have hblk : Blk σ V id (w.putObj (σ id).blk (.cells c t fz')) (.cells cs t es op) := by
      refine ⟨c, fz', ?_, k2, k3, k4, k5, .inr hf2⟩
      simp [World.putObj, hsz]
    refine Sim.same rfl (R.write x1.1 hg rfl hro _ hblk) ⟨by simp only [wf]; exact x1, .inl ?_⟩
    unfold execOp
    simp only [hop]
    refine run_value ?_
    rw [x2]
    unfold convert
    rw [Sem.bind_ok (r_und uS w), Sem.bind_ok (r_und uD w)]
    simp only [emb]
    have hms : (markStringish ⟨(σ id).blk, (σ id).off + off, none⟩).run P w = .ok () (w.putObj (σ id).blk (.cells c t fz')) := by
      unfold markStringish
      rw [Sem.bind_ok (run_shape (P := P) (w := w) _)]
      have : w.shape? (σ id).blk = some (t, c.size) := by
        unfold World.shape?; rw [k1]
      rw [this]
      simp only [run_freeze]
      rw [hf1]
    rw [Sem.bind_ok (r_und ue w)]
    rw [beq_self_eq_true]
    simp only []
    rw [Sem.bind_ok hms]
    rfl
  · cases e
  · cases hr
    obtain ⟨x1, x2⟩ := hev x _ hx
    simp only [wf] at x1
    have uS := (hE.ty s S hS).2
    have uD := (hE.ty d D hD).2
    have ue := (hE.ty e T hT).2
    rw [isByte_ok hb] at ue
    rw [hs] at uS
    rw [hd] at uD
    have hnV : ¬ V h.nx := fun hv => Nat.lt_irrefl _ (R.vx _ hv)
    -- the capacity is drawn
    obtain ⟨cap, hcap, wd, hwd, hch⟩ : ∃ cap, b.length ≤ cap ∧ ∃ wd, (wd = w ∨ wd = w.drew) ∧ (choose (.appendCap (bytesV b).size 0 e)).run P w = .ok cap wd := by
      refine ⟨(bytesV b).size + w.tape w.drawn (.appendCap (bytesV b).size 0 e) % (2 ^ 63 - (bytesV b).size), by rw [bytesV_size]; omega, w.drew, .inr rfl, ?_⟩
      rw [run_choose_drew]
      simp [Question.forced, Question.cut]
    have hRd : Rel E.G B W0 σ V h wd := by rcases hwd with rfl | rfl; exact R; exact R.drew
    let cells : List Value := b.map (fun (n : Nat) => Value.int .u8 (n : Int)) ++ List.replicate (cap - b.length) (.int .u8 0)
    have hcl : cells.length = cap := by simp [cells]; omega
    let obj : Obj := .cells ⟨cells⟩ e (cap, cap + 1)
    have hblk : Blk (upd σ h.nx ⟨wd.heap.size, 0, cap⟩) (addV V h.nx) h.nx (wd.alloc obj) (.cells (ofBytes b) e 1 true) := by
      have hob : ∀ l : List Nat, ofBytes l = l.map (fun n => MV.int .u8 (.ofNat n)) := by
        intro l; induction l with
        | nil => rfl
        | cons a l ih => exact congrArg (MV.int .u8 (.ofNat a) :: ·) ih
      refine ⟨⟨cells⟩, (cap, cap + 1), by rw [upd_same]; exact heap_new wd _, ?_, ?_, ?_, ?_, ?_⟩
      · rw [hob, wfs_iff]; intro u hu; obtain ⟨n, -, rfl⟩ := List.mem_map.1 hu; trivial
      · rw [hob, ones_iff]; intro u hu; obtain ⟨n, -, rfl⟩ := List.mem_map.1 hu; rfl
      · intro i u hi
        rw [hob, List.getElem?_map] at hi
        rw [upd_same]
        cases hbi : b[i]? with
        | none => rw [hbi] at hi; cases hi
        | some n =>
          rw [hbi] at hi; cases hi
          have hlt : i < b.length := (List.getElem?_eq_some_iff.1 hbi).1
          simp only [Nat.zero_add, List.getElem?_toArray, cells]
          rw [List.getElem?_append_left (by simpa using hlt), List.getElem?_map, hbi]
          rfl
      · intro _; rw [upd_same]; simp [hcl]
      · exact .inr (by simp [hcl])
    refine Sim.new hRd hW 0 cap hblk ⟨?_, .inl ?_⟩
    · simp only [wf, upd_same, llen_eq]
      exact ⟨.inr rfl, by omega⟩
    · unfold execOp
      simp only [hop]
      refine run_value ?_
      rw [x2]
      unfold convert
      rw [Sem.bind_ok (r_und uS w), Sem.bind_ok (r_und uD w)]
      simp only [emb]
      rw [Sem.bind_ok (r_und ue w)]
      simp only []
      unfold Conv.stringToBytes
      rw [Sem.bind_ok hch]
      have hel : ((bytesV b).data.map fun x => Value.int .u8 x.toNat) ++ Array.replicate (cap - (bytesV b).size) (.int .u8 0) = ⟨cells⟩ := by
        rw [bytesV_size, ← Array.toList_inj]
        simp only [bytesV, Array.toList_append, Array.toList_map, List.map_map, Array.toList_replicate, cells]
        congr 1
        apply List.map_congr_left
        intro n hn
        have := x1 n hn
        simp
        omega
      dsimp only
      rw [hel]
      refine (Sem.bind_ok (r_newRow e _ wd)).trans ?_
      have hms : (markStringish ⟨wd.heap.size, 0, none⟩).run P (wd.alloc (.cells ⟨cells⟩ e)) = .ok () (wd.alloc obj) := by
        unfold markStringish
        rw [Sem.bind_ok (run_shape (P := P) (w := wd.alloc (.cells ⟨cells⟩ e)) _)]
        have : (wd.alloc (.cells ⟨cells⟩ e)).shape? wd.heap.size = some (e, cap) := by
          unfold World.shape?; rw [heap_new]; simp [hcl]
        rw [this]
        simp only [run_freeze]
        rw [freeze_alloc]
      rw [Sem.bind_ok hms]
      simp only [Sem.run_pure, upd_same, bytesV_size, llen_eq, Nat.add_zero, Nat.sub_zero]

/-! ### Maps -/
theorem range_ok (hE : EnvOk E P) (R : Rel E.G B W0 σ V h w) (hW : ∀ k, B k → k < W0.heap.size) (hev : EvR σ V ev ρ) {o : Oper} {t : TypeId} {x : Operand} (hop : o.op = .range t x) {v : MV} {h' : MH}
    (ho : oRange E ev t x h = some (v, h')) : Sim E.G B W0 σ V h h' (UpdK P ρ o w v) := by
  unfold oRange at ho
  split at ho
  · rename_i xv hx
    obtain ⟨x1, x2⟩ := hev x _ hx
    unfold rangeM at ho
    split at ho
    · rename_i T hT
      have hu := (hE.ty t T hT).2
      split at ho
      · rename_i kt el hd
        cases ho
        rw [hd] at hu
        refine Sim.new (o := .mapIter none 0 #[] 0) R hW 0 0 ⟨?_, by rw [upd_same], fun i hi => by cases hi⟩ ⟨.inr rfl, .inl ?_⟩
        · rw [upd_same]; exact heap_new w _
        · unfold execOp
          simp only [hop]
          refine run_value ?_
          rw [x2]
          unfold Instr.range
          simp only [emb, upd_same]
          rw [Sem.bind_ok (r_und hu w)]
          rfl
      · rename_i kt el id hd
        rw [hd] at hu
        simp only [wf] at x1
        split at ho
        · rename_i es c hg
          cases ho
          obtain ⟨b1, b2⟩ := R.blk id _ x1 hg
          have hne : id ≠ h.nx := fun e => Nat.lt_irrefl _ (e ▸ R.vx id x1)
          refine Sim.new (o := .mapIter (some (σ id).blk) c #[] c) R hW 0 0 ⟨?_, by rw [upd_same], fun i hi => by cases hi; exact .inl x1⟩ ⟨.inr rfl, .inl ?_⟩
          · rw [upd_same]
            refine (heap_new w _).trans ?_
            simp only [Option.map_some, upd_ne σ _ hne]
          · unfold execOp
            simp only [hop]
            refine run_value ?_
            rw [x2]
            unfold Instr.range
            simp only [emb, upd_same]
            rw [Sem.bind_ok (r_und hu w)]
            simp only []
            rw [Sem.bind_ok (r_getObj_map b1)]
            rfl
        · cases ho
      · cases ho
    · cases ho
  · cases ho

omit O in
theorem r_getObj_iter {r : Nat} {m : Option Nat} {s c : Nat} {seen : Array Nat} (hb : w.heap[r]? = some (.mapIter m s seen c)) : (getObj r).run P w = .ok (.mapIter m s seen c) w := by
  simp [getObj, Sem.run, hb]
omit O in
theorem r_setObj_iter {r : Nat} {m : Option Nat} {s c : Nat} {seen : Array Nat} (o : Obj) (hb : w.heap[r]? = some (.mapIter m s seen c)) : (setObj r o).run P w = .ok () (w.putObj r o) := by
  simp [setObj, Sem.run, hb, World.putObj]
omit O in
theorem r_setObj_map {r : Nat} {es : Array MapEntry} {c : Nat} (o : Obj) (hb : w.heap[r]? = some (.map es c)) : (setObj r o).run P w = .ok () (w.putObj r o) := by
  simp [setObj, Sem.run, hb, World.putObj]

omit O in
theorem notIn_eq (n : Nat) (l : List Nat) : notIn n l = !(l.contains n) := by
  induction l with
  | nil => rfl
  | cons a l ih =>
    show (Bool.rec (notIn n l) false (Nat.beq n a) : Bool) = _
    cases hb : Nat.beq n a with
    | true => have := Nat.eq_of_beq_eq_true hb; subst this; simp
    | false =>
      have hne : n ≠ a := fun e => by subst e; rw [Nat.beq_refl] at hb; cases hb
      simp [ih, hne]
omit O in
theorem leftOf_eq (seen : List Nat) (l : List ME) : leftOf seen l = l.filter fun e => !(seen.contains e.born) := by
  induction l with
  | nil => rfl
  | cons e l ih =>
    show (Bool.rec (leftOf seen l) (e :: leftOf seen l) (notIn e.born seen) : List ME) = _
    rw [notIn_eq, ih, List.filter_cons]
    cases (!(seen.contains e.born)) <;> rfl

omit O in
theorem cand0 : ((if (#[] : Array MapEntry).isEmpty = true then #[none] else #[]) ++ Array.map some ((#[] : Array MapEntry) ++ #[]) : Array (Option MapEntry)) = #[none] := by simp
omit O in
theorem cand1 (x : MapEntry) : ((if (#[x] : Array MapEntry).isEmpty = true then #[none] else #[]) ++ Array.map some ((#[x] : Array MapEntry) ++ #[]) : Array (Option MapEntry)) = #[some x] := by simp

theorem upd_next (R : Rel E.G B W0 σ V h w) (hev : EvR σ V ev ρ) {o : Oper} {it : Operand} {s : Bool} (hop : o.op = .next it s) {v : MV} {h' : MH}
    (ho : oNext E ev it s h = some (v, h')) : Sim E.G B W0 σ V h h' (UpdK P ρ o w v) := by
  unfold oNext at ho
  split at ho
  · rename_i iv hi
    obtain ⟨x1, x2⟩ := hev it _ hi
    unfold nextM at ho
    split at ho
    · rename_i r
      simp only [wf] at x1
      cases hc : (or s (Nat.blt r E.G.ro)) with
      | true => rw [hc] at ho; cases ho
      | false =>
        rw [hc] at ho
        simp only [cond_false] at ho
        simp only [Bool.or_eq_false_iff] at hc
        obtain ⟨hs, hG⟩ := hc
        subst hs
        have hG : E.G.ro ≤ r := by
          rcases Nat.lt_or_ge r E.G.ro with hlt | hge
          · rw [lt_blt hlt] at hG; cases hG
          · exact hge
        split at ho
        · rename_i since seen st hg
          cases ho
          obtain ⟨b1, b2, -⟩ := R.blk r _ x1 hg
          refine Sim.same rfl R ⟨by simp only [wf, wfs]; exact ⟨trivial, trivial⟩, .inl ?_⟩
          unfold execOp
          simp only [hop]
          refine run_value ?_
          rw [x2]
          unfold Instr.next
          simp only [emb, b2]
          rw [Sem.bind_ok (r_getObj_iter b1)]
          rfl
        · rename_i m since seen last hg
          split at ho
          · rename_i es clock hm
            obtain ⟨b1, b2, b3⟩ := R.blk r _ x1 hg
            simp only [Option.map_some] at b1
            have hVm := b3 m rfl
            obtain ⟨m1, m2⟩ := R.blk m _ hVm hm
            unfold nextIter at ho
            cases hq : (and (not seen.isEmpty) (and (not es.isEmpty) (es.all fun e => Nat.ble last e.born))) with
            | true => rw [hq] at ho; cases ho
            | false =>
              rw [hq] at ho
              simp only [cond_false] at ho
              have hfil : (((⟨es.map (embE σ)⟩ : Array MapEntry).filter fun e => !(⟨seen⟩ : Array Nat).contains e.born)) = ⟨(leftOf seen es).map (embE σ)⟩ := by
                rw [leftOf_eq, ← Array.toList_inj]
                simp only [Array.toList_filter, List.filter_map]
                congr 1
                apply List.filter_congr
                intro e _
                rw [Bool.eq_iff_iff]
                simp [embE]
                exact decide_eq_false_iff_not
              have hq' : ((!(⟨seen⟩ : Array Nat).isEmpty && !(⟨es.map (embE σ)⟩ : Array MapEntry).isEmpty && (⟨es.map (embE σ)⟩ : Array MapEntry).all fun e => decide (e.born ≥ last)) = true) ↔ False := by
                rw [iff_false, Bool.not_eq_true, ← hq]
                rw [Bool.and_assoc]
                congr 1
                · simp
                · congr 1
                  · simp
                  · rw [← Array.all_toList]
                    simp only [List.all_map]
                    congr 1
                    funext e
                    simp only [Function.comp, embE]
                    rw [Bool.eq_iff_iff]
                    exact ⟨fun h => Nat.ble_eq_true_of_le (of_decide_eq_true h), fun h => decide_eq_true (Nat.le_of_ble_eq_true h)⟩
              split at ho
              · rename_i hl
                cases ho
                refine Sim.same rfl R ⟨by simp only [wf, wfs]; exact ⟨trivial, trivial⟩, .inl ?_⟩
                unfold execOp
                simp only [hop]
                refine run_value ?_
                rw [x2]
                unfold Instr.next
                simp only [emb, b2]
                rw [Sem.bind_ok (r_getObj_iter b1)]
                dsimp only
                rw [Sem.bind_ok (r_getObj_map m1)]
                dsimp only
                rw [if_neg (fun h => hq'.1 h), hfil, hl]
                have hch : (choose (.mapNext 1)).run P w = .ok 0 w := rfl
                have f0 : ∀ p : MapEntry → Bool, Array.filter p ⟨([] : List ME).map (embE σ)⟩ = #[] := fun p => by simp
                rw [f0, f0, cand0]
                refine (Sem.bind_ok (a := 0) (w' := w) hch).trans ?_
                rfl
              · rename_i e hl
                cases hbs : Nat.blt e.born since with
                | false => rw [hbs] at ho; cases ho
                | true =>
                  rw [hbs] at ho
                  cases ho
                  have hbs := blt_lt hbs
                  have he : e ∈ es := by
                    have : e ∈ leftOf seen es := by rw [hl]; simp
                    rw [leftOf_eq] at this
                    exact (List.mem_filter.1 this).1
                  have hwe := m2 e he
                  obtain ⟨g1, g2⟩ : Rel E.G B W0 σ V (h.set r (.iter (some m) since (seen ++ [e.born]) clock)) (w.putObj (σ r).blk (.mapIter (some (σ m).blk) since ((⟨seen⟩ : Array Nat).push e.born) clock)) ∧ True := by
                    refine ⟨R.write x1 hg rfl hG _ ⟨?_, b2, fun i hi => by cases hi; exact hVm⟩, trivial⟩
                    rw [World.putObj_heap_same (R.lt x1 hg rfl)]
                    simp
                  refine Sim.same rfl g1 ⟨by simp only [wf, wfs]; exact ⟨trivial, hwe.1, hwe.2, trivial⟩, .inl ?_⟩
                  unfold execOp
                  simp only [hop]
                  refine run_value ?_
                  rw [x2]
                  unfold Instr.next
                  simp only [emb, b2]
                  rw [Sem.bind_ok (r_getObj_iter b1)]
                  dsimp only
                  rw [Sem.bind_ok (r_getObj_map m1)]
                  dsimp only
                  rw [if_neg (fun h => hq'.1 h), hfil, hl]
                  have f1 : Array.filter (fun x : MapEntry => decide (x.born < since)) ⟨[e].map (embE σ)⟩ = #[embE σ e] := by
                    simp [embE, hbs]
                  have f2 : Array.filter (fun x : MapEntry => decide (x.born ≥ since)) ⟨[e].map (embE σ)⟩ = #[] := by
                    simp [embE]; exact hbs
                  rw [f1, f2, cand1]
                  have hch : (choose (.mapNext 1)).run P w = .ok 0 w := rfl
                  refine (Sem.bind_ok (a := 0) (w' := w) hch).trans ?_
                  · show (do setObj (σ r).blk (Obj.mapIter (some (σ m).blk) since ((⟨seen⟩ : Array Nat).push (embE σ e).born) clock); pure (Value.tuple #[Value.bool true, (embE σ e).key, (embE σ e).val]) : Sem Value).run P w = _
                    rw [Sem.bind_ok (r_setObj_iter _ b1)]
                    rfl
              · cases ho
          · cases ho
        · cases ho
    · cases ho
  · cases ho
end ops
end Go.Mini
/- The evaluator's operations against the model's: maps written, copies, appends. -/
namespace Go.Mini
variable [O : Opq]
open Go.RowKit

omit O in
theorem map_del {α β : Type} (f : α → β) : ∀ (l : List α) (n : Nat), (l.eraseIdx n).map f = (l.map f).eraseIdx n := by
  intro l
  induction l with
  | nil => intro n; rfl
  | cons a l ih => intro n; cases n with
    | zero => rfl
    | succ n => simp [ih]

section ops
variable {E : Env} {P : Program} {B : Nat → Prop} {W0 : World} {σ : Sg} {V : Nat → Prop} {h : MH} {w : World} {ev : Ev} {ρ : Operand → Value}

omit O in
theorem eqM_same {K : TypeDesc} {x y : MV} (hK : keyT K = true) (he : eqM K x y = some true) : x = y := by
  unfold eqM at he
  cases K <;> simp only [keyT, Bool.false_eq_true] at hK <;> simp only at he
  case bool =>
    split at he
    · simp only [Option.some.injEq, beq_iff_eq] at he; rw [he]
    · cases he
  case int k0 =>
    split at he
    · rename_i k a k' b'
      by_cases hk : k = k'
      · subst hk
        simp only [decide_true, cond_true, Option.some.injEq, decide_eq_true_eq] at he
        rw [he]
      · simp [hk] at he
    · cases he
  case string =>
    split at he
    · rename_i a b'
      simp only [Option.some.injEq, beqs_eq, decide_eq_true_eq] at he
      rw [he]
    · cases he

omit O in
theorem mfind_same {K : TypeDesc} {k : MV} (hK : keyT K = true) : ∀ (l : List ME) (i j : Nat) (e : ME), mfind K k l i = some (some (j, e)) → e.key = k := by
  intro l
  induction l with
  | nil => intro i j e h; have e' : mfind K k [] i = some none := rfl
           rw [e'] at h; cases h
  | cons x l ih =>
    intro i j e h
    rw [mfind_cons] at h
    split at h
    · rename_i hq; cases h; exact (eqM_same hK hq).symm
    · exact ih _ _ _ h
    · cases h

theorem keyStays {kt : TypeDesc} {k : MV} (hk : ∃ y, eqM kt k y = some true ∧ keyT kt = true) (w : World) : (Instr.keyThatStays (emb σ k) (emb σ k)).run P w = .ok (emb σ k) w := by
  obtain ⟨y, he, hK⟩ := hk
  have hs : Instr.sameBits 10000 (emb σ k) (emb σ k) = true := by
    unfold eqM at he
    cases kt <;> simp only [keyT, Bool.false_eq_true] at hK <;> simp only at he
    case bool => split at he <;> first | (cases he; done) | simp [emb, Instr.sameBits]
    case int => split at he <;> first | (cases he; done) | simp [emb, Instr.sameBits]
    case string =>
      split at he
      · simp only [emb, Instr.sameBits]; rw [byteArray_beq]; simp
      · cases he
  unfold Instr.keyThatStays
  simp [hs]

omit O in
theorem mfind_eq {K : TypeDesc} {k : MV} : ∀ (l : List ME) (i j : Nat) (e : ME), mfind K k l i = some (some (j, e)) → eqM K k e.key = some true := by
  intro l
  induction l with
  | nil => intro i j e h; have e' : mfind K k [] i = some none := rfl
           rw [e'] at h; cases h
  | cons x l ih =>
    intro i j e h
    rw [mfind_cons] at h
    split at h
    · rename_i hq; cases h; exact hq
    · exact ih _ _ _ h
    · cases h

theorem update_ok (hE : EnvOk E P) (R : Rel E.G B W0 σ V h w) (hev : EvR σ V ev ρ) {t : TypeId} {m k x : Operand} {v : MV} {h' : MH}
    (ho : oUpdate E ev t m k x h = some (v, h')) : ∃ w', Rel E.G B W0 σ V h' w' ∧ h'.nx = h.nx ∧ v = undefM ∧ (Instr.mapUpdate t (ρ m) (ρ k) (ρ x)).run P w = .ok () w' := by
  unfold oUpdate at ho
  split at ho
  · rename_i mv kv xv hm hk hx
    obtain ⟨m1, m2⟩ := hev m _ hm
    obtain ⟨k1, k2⟩ := hev k _ hk
    obtain ⟨x1, x2⟩ := hev x _ hx
    unfold updateM at ho
    split at ho
    · rename_i K el id hkd
      obtain ⟨kt, u1, u2, hK⟩ := keyDesc_ok hE hkd
      simp only [wf] at m1
      split at ho
      · rename_i es c hg
        obtain ⟨b1, b2⟩ := R.blk id _ m1 hg
        cases hG : Nat.ble E.G.ro id with
        | false => rw [hG] at ho; cases ho
        | true =>
          rw [hG] at ho
          simp only [cond_true] at ho
          have hG := Nat.le_of_ble_eq_true hG
          rw [m2, k2, x2]
          unfold Instr.mapUpdate
          rw [Sem.bind_ok (r_und u1 w)]
          simp only [emb]
          rw [Sem.bind_ok (r_getObj_map b1)]
          dsimp only
          split at ho
          · rename_i i e hf
            cases ho
            have hfk := findKey_ok (P := P) u2 hK k1 b2 hf w
            obtain ⟨-, h4⟩ := mfind_ok hK k1 es 0 _ b2 hf
            obtain ⟨-, h5⟩ := h4 _ _ rfl
            simp only [Nat.sub_zero] at h5
            have hek := mfind_same hK _ _ _ _ hf
            have hlt : i < es.length := (List.getElem?_eq_some_iff.1 h5).1
            refine ⟨w.putObj (σ id).blk (.map ⟨(lset es i { e with key := kv, val := xv }).map (embE σ)⟩ c), R.write m1 hg rfl hG _ ⟨?_, ?_⟩, rfl, rfl, ?_⟩
            · rw [World.putObj_heap_same (R.lt m1 hg rfl)]
            · intro y hy
              rw [lset_eq] at hy
              rcases List.mem_or_eq_of_mem_set hy with hy | rfl
              · exact b2 y hy
              · exact ⟨k1, x1⟩
            · refine (Sem.bind_ok (checkKey_ok u2 hK _ w)).trans ?_
              refine (Sem.bind_ok hfk).trans ?_
              dsimp only [Option.map_some]
              have hold : (((⟨es.map (embE σ)⟩ : Array MapEntry)[i]?).map (·.key)).getD (emb σ kv) = emb σ kv := by
                simp [h5, embE, hek]
              rw [hold, Sem.bind_ok (keyStays ⟨_, mfind_eq _ _ _ _ hf, hK⟩ w)]
              rw [r_setObj_map _ b1]
              congr 3
              rw [lset_eq, ← Array.toList_inj]
              simp only [Array.toList_modify, List.map_set]
              apply List.ext_getElem?
              intro j
              rw [List.getElem?_modify, List.getElem?_set]
              by_cases hj : i = j
              · subst hj
                rw [List.getElem?_eq_getElem hlt] at h5
                have h5 := Option.some.inj h5
                simp [hlt, embE, h5]
              · simp [hj]
          · rename_i hf
            cases ho
            have hfk := findKey_ok (P := P) u2 hK k1 b2 hf w
            refine ⟨w.putObj (σ id).blk (.map ⟨(es ++ [(⟨kv, xv, c⟩ : ME)]).map (embE σ)⟩ (c + 1)), R.write m1 hg rfl hG _ ⟨?_, ?_⟩, rfl, rfl, ?_⟩
            · rw [World.putObj_heap_same (R.lt m1 hg rfl)]
            · intro y hy
              rcases List.mem_append.1 hy with hy | hy
              · exact b2 y hy
              · simp only [List.mem_singleton] at hy; subst hy; exact ⟨k1, x1⟩
            · refine (Sem.bind_ok (checkKey_ok u2 hK _ w)).trans ?_
              refine (Sem.bind_ok hfk).trans ?_
              dsimp only [Option.map_none]
              rw [r_setObj_map _ b1]
              congr 3
              rw [← Array.toList_inj]
              simp [embE]
          · cases ho
      · cases ho
    · cases ho
  · cases ho

theorem delete_ok (hE : EnvOk E P) (R : Rel E.G B W0 σ V h w) {t : TypeId} {ats : Array TypeId} {ty : TypeId} {m k : MV} (h0 : ats[0]? = some t) (m1 : wf σ V m) (k1 : wf σ V k) {v : MV} {h' : MH}
    (ho : deleteM E t m k h = some (v, h')) : ∃ w', Rel E.G B W0 σ V h' w' ∧ h'.nx = h.nx ∧ v = undefM ∧ (Builtin.delete_ ats ty ⟨[emb σ m, emb σ k]⟩).run P w = .ok (.tuple #[]) w' := by
  unfold deleteM at ho
  split at ho
  · rename_i K el id hkd
    obtain ⟨kt, u1, u2, hK⟩ := keyDesc_ok hE hkd
    simp only [wf] at m1
    split at ho
    · rename_i es c hg
      obtain ⟨b1, b2⟩ := R.blk id _ m1 hg
      cases hG : Nat.ble E.G.ro id with
      | false => rw [hG] at ho; cases ho
      | true =>
        rw [hG] at ho
        simp only [cond_true] at ho
        have hG := Nat.le_of_ble_eq_true hG
        unfold Builtin.delete_
        simp only [h0]
        rw [show ((⟨[emb σ (.mp id), emb σ k]⟩ : Array Value)[0]? : Option Value) = some (emb σ (.mp id)) from rfl, show ((⟨[emb σ (.mp id), emb σ k]⟩ : Array Value)[1]? : Option Value) = some (emb σ k) from rfl]
        dsimp only
        rw [Sem.bind_ok (r_und u1 w)]
        simp only [emb]
        rw [Sem.bind_ok (r_getObj_map b1)]
        dsimp only
        split at ho
        · rename_i i e hf
          cases ho
          have hfk := findKey_ok (P := P) u2 hK k1 b2 hf w
          refine ⟨w.putObj (σ id).blk (.map ⟨(ldel es i).map (embE σ)⟩ c), R.write m1 hg rfl hG _ ⟨?_, ?_⟩, rfl, rfl, ?_⟩
          · rw [World.putObj_heap_same (R.lt m1 hg rfl)]
          · intro y hy
            rw [ldel_eq] at hy
            exact b2 y (List.mem_of_mem_eraseIdx hy)
          · refine (Sem.bind_ok (checkKey_ok u2 hK _ w)).trans ?_
            refine (Sem.bind_ok hfk).trans ?_
            dsimp only [Option.map_some]
            rw [Sem.bind_ok (r_setObj_map _ b1)]
            simp only [Sem.run_pure]
            congr 3
            rw [ldel_eq, ← Array.toList_inj]
            obtain ⟨-, h4⟩ := mfind_ok hK k1 es 0 _ b2 hf
            obtain ⟨-, h5⟩ := h4 _ _ rfl
            simp only [Nat.sub_zero] at h5
            have hlt : i < es.length := (List.getElem?_eq_some_iff.1 h5).1
            unfold Array.eraseIdxIfInBounds
            rw [dif_pos (by simpa using hlt)]
            simp [map_del]
        · rename_i hf
          cases ho
          have hfk := findKey_ok (P := P) u2 hK k1 b2 hf w
          refine ⟨w, R, rfl, rfl, ?_⟩
          refine (Sem.bind_ok (checkKey_ok u2 hK _ w)).trans ?_
          refine (Sem.bind_ok hfk).trans ?_
          dsimp only [Option.map_none]
          rw [Sem.bind_ok (r_setObj_map _ b1), putObj_self b1]
          rfl
        · cases ho
    · cases ho
  · cases ho

/-! ### Copies -/
omit O in
theorem minN_eq (a b : Nat) : minN a b = Nat.min a b := by
  unfold minN
  cases hb : Nat.ble a b with
  | true => have := Nat.le_of_ble_eq_true hb; simp only [cond_true]; exact (Nat.min_eq_left this).symm
  | false =>
    have : ¬ a ≤ b := fun hle => by rw [Nat.ble_eq_true_of_le hle] at hb; cases hb
    simp only [cond_false]; exact (Nat.min_eq_right (by omega)).symm

omit O in
theorem ofBytes_eq (l : List Nat) : ofBytes l = l.map (fun n => MV.int .u8 (.ofNat n)) := by
  induction l with
  | nil => rfl
  | cons a l ih => exact congrArg (MV.int .u8 (.ofNat a) :: ·) ih
omit O in
theorem ofBytes_wf (l : List Nat) : wfs σ V (ofBytes l) ∧ ones (ofBytes l) = true := by
  rw [ofBytes_eq, wfs_iff, ones_iff]
  refine ⟨fun u hu => ?_, fun u hu => ?_⟩
  · obtain ⟨n, -, rfl⟩ := List.mem_map.1 hu; trivial
  · obtain ⟨n, -, rfl⟩ := List.mem_map.1 hu; rfl
theorem ofBytes_emb {l : List Nat} (hl : ∀ x ∈ l, x < 256) : embs σ (ofBytes l) = (l.map UInt8.ofNat).map (fun x => Value.int .u8 (x.toNat : Int)) := by
  rw [ofBytes_eq, embs_map, List.map_map, List.map_map]
  apply List.map_congr_left
  intro n hn
  have := hl n hn
  simp [emb]
  omega

/-- Slices and strings, as append and copy see them: their lengths. -/
theorem lenOf_ok {x : MV} {n : Nat} (hx : lenM h x = some n) (hm : ∀ id, x ≠ .mp id) (hn : x ≠ .nilM) : (Builtin.lenOf (emb σ x)).run P w = .ok n w := by
  cases x <;> simp only [lenM] at hx <;> first | (cases hx; done) | exact absurd rfl (hm _) | exact absurd rfl hn | skip
  · cases hx; simp only [emb, Builtin.lenOf, bytesV_size, llen_eq]; rfl
  all_goals (cases hx; rfl)

/-- .. and the cells of their first elements. -/
theorem firstCells_ok (R : Rel E.G B W0 σ V h w) {x : MV} {es n : Nat} {c : List MV} (x1 : wf σ V x) (hc : copySrc es n h x = some c) (hle : ∀ m, lenM h x = some m → n ≤ m) :
    wfs σ V c ∧ ones c = true ∧ (Builtin.firstCells es n (emb σ x)).run P w = .ok ⟨embs σ c⟩ w := by
  have key : ∀ {id off len cap : Nat} {d : List MV}, V id → n ≤ len → readCells h id off (Nat.mul len es) = some d → ltake (Nat.mul n es) d = some c →
      wfs σ V c ∧ ones c = true ∧ (Builtin.firstCells es n (.slice (some ⟨(σ id).blk, (σ id).off + off, none⟩) len cap)).run P w = .ok ⟨embs σ c⟩ w := by
    intro id off len cap d hv hnl hr ht
    obtain ⟨r1, r2, r3, r4⟩ := readCells_ok R hv hr
    obtain ⟨hn, rfl⟩ := ltake_some ht
    have hmem : ∀ v ∈ d.take (Nat.mul n es), v ∈ d := fun v hv => List.mem_of_mem_take hv
    refine ⟨(wfs_iff _).2 fun v hv => (wfs_iff _).1 r1 v (hmem v hv), (ones_iff _).2 fun v hv => (ones_iff _).1 r2 v (hmem v hv), ?_⟩
    have := loadCells_ok (P := P) (σ := σ) (w := w) (id := id) (off := off) (l := d.take (Nat.mul n es)) (fun i v hi => r4 i v (by
      rw [List.getElem?_take] at hi
      split at hi
      · exact hi
      · cases hi))
    have hlen : (d.take (Nat.mul n es)).length = n * es := by rw [List.length_take]; simp only [Nat.mul_eq] at hn ⊢; omega
    rw [hlen] at this
    exact this
  have empty : ∀ d : List MV, lenM h x = some 0 → ltake (Nat.mul n es) ([] : List MV) = some d → n = 0 ∧ d = [] := by
    intro d hl hd
    have hn0 : n ≤ 0 := hle 0 hl
    have hn0 : n = 0 := by omega
    subst hn0
    obtain ⟨-, rfl⟩ := ltake_some hd
    simp
  cases x <;> simp only [copySrc, sliceCells] at hc <;> first | (cases hc; done) | skip
  · rename_i b
    split at hc
    · rename_i l hl
      cases hc
      obtain ⟨hn, rfl⟩ := ltake_some hl
      simp only [wf] at x1
      obtain ⟨o1, o2⟩ := ofBytes_wf (σ := σ) (V := V) (b.take n)
      refine ⟨o1, o2, ?_⟩
      simp only [emb, Builtin.firstCells, Sem.run_pure]
      congr 1
      rw [ofBytes_emb (fun x hx => x1 x (List.mem_of_mem_take hx)), ← Array.toList_inj]
      simp [bytesV, List.extract_eq_take_drop, List.map_take]
    · cases hc
  · obtain ⟨rfl, rfl⟩ := empty c rfl hc
    exact ⟨trivial, rfl, rfl⟩
  · rename_i id off len cap
    simp only [wf] at x1
    split at hc
    · rename_i d hd
      exact key x1.1 (hle len rfl) hd hc
    · cases hc
  · rename_i id off l len
    simp only [wf] at x1
    split at hc
    · rename_i d hd
      exact key x1.1 (hle len rfl) hd hc
    · cases hc
  · obtain ⟨rfl, rfl⟩ := empty c rfl hc
    refine ⟨trivial, rfl, ?_⟩
    simp only [emb, Builtin.firstCells, Nat.zero_mul, loadCells, loadCellsFrom]
    rfl
end ops
end Go.Mini
/- The evaluator's operations against the model's: copies and appends; all that writes. -/
namespace Go.Mini
variable [O : Opq]
open Go.RowKit

section ops
variable {E : Env} {P : Program} {B : Nat → Prop} {W0 : World} {σ : Sg} {V : Nat → Prop} {h : MH} {w : World} {ev : Ev} {ρ : Operand → Value}

theorem slice_emb {d : MV} {n : Nat} {c : List MV} {h' : MH} {v : MV} (hd : copyTo E d n c h = some (v, h')) : ∃ a m cp, emb σ d = .slice a m cp := by
  cases d <;> simp only [copyTo] at hd <;> first | (cases hd; done) | exact ⟨_, _, _, rfl⟩

theorem copy_ok (hE : EnvOk E P) (R : Rel E.G B W0 σ V h w) {ats : Array TypeId} {ty : TypeId} {d x : MV} (d1 : wf σ V d) (x1 : wf σ V x) {v : MV} {h' : MH}
    (ho : copyM E ats.toList d x h = some (v, h')) : ∃ w', Rel E.G B W0 σ V h' w' ∧ h'.nx = h.nx ∧ wf σ V v ∧ (Builtin.copy_ ats ty ⟨[emb σ d, emb σ x]⟩).run P w = .ok (emb σ v) w' := by
  unfold copyM at ho
  split at ho
  · rename_i dt hdt
    rw [lget_arr] at hdt
    split at ho
    · rename_i D hD
      have uD := (hE.ty dt D hD).2
      split at ho
      · rename_i e hd
        rw [hd] at uD
        split at ho
        · rename_i es dl xl hes hdl hxl
          split at ho
          · rename_i c hc
            rw [minN_eq] at hc ho
            have hxs : (∀ id, x ≠ .mp id) ∧ x ≠ .nilM := by
              constructor
              · rintro id rfl; simp [copySrc, sliceCells] at hc
              · rintro rfl; simp [copySrc, sliceCells] at hc
            have hln := lenOf_ok (P := P) (σ := σ) (w := w) hxl hxs.1 hxs.2
            obtain ⟨c1, c2, c3⟩ := firstCells_ok (P := P) R x1 hc (fun m hm => by rw [hxl] at hm; cases hm; exact Nat.min_le_left _ _)
            obtain ⟨a, m, cp, hde⟩ := slice_emb (σ := σ) ho
            have hm : m = dl := by
              cases d <;> simp only [lenM] at hdl <;> simp only [emb] at hde <;> first | (cases hde; done) | (cases hdl; done) | (cases hdl; cases hde; rfl)
            subst hm
            have pre : ∀ K : Value → World → Prop, (∃ w', (do
                if let some a := a then storeCells a (embs σ c)
                pure (goInt (Nat.min xl m)) : Sem Value).run P w = .ok (emb σ v) w' ∧ K (emb σ v) w') →
                ∃ w', (Builtin.copy_ ats ty ⟨[emb σ d, emb σ x]⟩).run P w = .ok (emb σ v) w' ∧ K (emb σ v) w' := by
              rintro K ⟨w', hw, hK⟩
              refine ⟨w', ?_, hK⟩
              unfold Builtin.copy_
              simp only [hdt]
              rw [show ((⟨[emb σ d, emb σ x]⟩ : Array Value)[0]? : Option Value) = some (emb σ d) from rfl, show ((⟨[emb σ d, emb σ x]⟩ : Array Value)[1]? : Option Value) = some (emb σ x) from rfl, hde]
              dsimp only
              rw [Sem.bind_ok (r_und uD w)]
              dsimp only
              rw [Sem.bind_ok hln]
              rw [Sem.bind_ok (sizeE_ok hE hes w)]
              rw [Sem.bind_ok c3]
              exact hw
            have fin := pre (fun _ w' => Rel E.G B W0 σ V h' w' ∧ h'.nx = h.nx ∧ wf σ V v) (by
              have wr : ∀ {id off : Nat} {h1 : MH} , V id → a = some ⟨(σ id).blk, (σ id).off + off, none⟩ → writeCells E h id off c = some h1 → (v, h') = (.int .i64 (.ofNat (Nat.min xl m)), h1) →
                  ∃ w', (do
                    if let some a := a then storeCells a (embs σ c)
                    pure (goInt (Nat.min xl m)) : Sem Value).run P w = .ok (emb σ v) w' ∧ Rel E.G B W0 σ V h' w' ∧ h'.nx = h.nx ∧ wf σ V v := by
                intro id off h1 hv ha hw he
                cases he
                obtain ⟨w', r1, r2, r3⟩ := writeCells_ok (P := P) R hv c1 hw
                refine ⟨w', ?_, r1, r3, trivial⟩
                rw [ha]
                dsimp only
                rw [Sem.bind_ok r2]
                rfl
              cases d <;> simp only [copyTo] at ho <;> simp only [emb] at hde <;> first | (cases ho; done) | skip
              · cases ho
                cases hde
                refine ⟨w, ?_, R, rfl, trivial⟩
                dsimp only
                rw [show Nat.min xl 0 = 0 from Nat.min_zero xl]
                rfl
              · rename_i id off len cap
                simp only [wf] at d1
                split at ho
                · rename_i h1 hw
                  cases hde
                  exact wr d1.1 rfl hw (Option.some.inj ho).symm
                · cases ho
              · rename_i id off l len
                simp only [wf] at d1
                split at ho
                · rename_i h1 hw
                  cases hde
                  exact wr d1.1 rfl hw (Option.some.inj ho).symm
                · cases ho)
            obtain ⟨w', f1, f2, f3, f4⟩ := fin
            exact ⟨w', f2, f3, f4, f1⟩
          · cases ho
        · cases ho
      · cases ho
    · cases ho
  · cases ho

/-! ### Appends -/
/-- The row of an open slice goes on under a new number. -/
theorem Rel.take {G : GB} (R : Rel G B W0 σ V h w) {id : Nat} {b0 b : MB} (hv : V id) (hb0 : h.get id = some b0) (hl0 : live b0 = true) (hG : G.ro ≤ id) (o : Obj) (off cap : Nat)
    (hblk : Blk (upd σ h.nx ⟨(σ id).blk, off, cap⟩) (addV V h.nx) h.nx (w.putObj (σ id).blk o) b) :
    Rel G B W0 (upd σ h.nx ⟨(σ id).blk, off, cap⟩) (addV V h.nx) ((h.set id .dead).new b) (w.putObj (σ id).blk o) := by
  have hnV : ¬ V h.nx := fun hv => Nat.lt_irrefl _ (R.vx _ hv)
  have ha := agr_upd (V := V) σ ⟨(σ id).blk, off, cap⟩ hnV
  have hown := R.own id b0 hv hb0 hl0 hG
  have hne : ∀ k, V k → k ≠ h.nx := fun k hk e => hnV (e ▸ hk)
  have hget : ∀ k, k ≠ h.nx → k ≠ id → ((h.set id .dead).new b).get k = h.get k := fun k h1 h2 => by
    rw [MH.get_new, if_neg (by simpa using h1), MH.get_set, if_neg h2]
  have hdead : ((h.set id .dead).new b).get id = some .dead := by
    rw [MH.get_new, if_neg (by simpa using hne id hv), MH.get_set, if_pos rfl]
  have hnew : ((h.set id .dead).new b).get h.nx = some b := by rw [MH.get_new, if_pos (by simp)]
  have hheap : ∀ k, k ≠ (σ id).blk → (w.putObj (σ id).blk o).heap[k]? = w.heap[k]? := fun k hk => World.putObj_heap_other hk
  -- what is live and old lies elsewhere
  have old : ∀ k b', V k → ((h.set id .dead).new b).get k = some b' → live b' = true → h.get k = some b' ∧ (σ k).blk ≠ (σ id).blk := by
    intro k b' hk hb' hl'
    by_cases e : k = id
    · subst e; rw [hdead] at hb'; cases hb'; cases hl'
    · rw [hget k (hne k hk) e] at hb'
      exact ⟨hb', fun e' => e (R.inj k id b' b0 hk hv hb' hb0 hl' hl0 e')⟩
  refine ⟨fun k b' hk hb' => ?_, fun id1 id2 b1 b2 hv1 hv2 h1 h2 l1 l2 he => ?_, fun k b' hk hb' hl' hg => ?_, fun k hk => ?_, fun k b' hb' => ?_, fun k hk => ?_, Nat.le_succ_of_le R.gx,
    ⟨R.below.os, R.below.tape, R.below.output, by simpa [World.putObj] using R.below.size, fun k hk => by rw [hheap k (fun e => hown (e ▸ hk))]; exact R.below.block k hk⟩⟩
  · rcases hk with hk | rfl
    · cases hl' : live b' with
      | false => cases b' <;> first | trivial | cases hl'
      | true =>
        obtain ⟨g1, g2⟩ := old k b' hk hb' hl'
        exact (R.blk k b' hk g1).agr ha (fun _ hx => .inl hx) hk (fun _ => hheap _ g2)
    · rw [hnew] at hb'; cases hb'; exact hblk
  · rcases hv1 with hv1 | rfl <;> rcases hv2 with hv2 | rfl
    · obtain ⟨g1, -⟩ := old _ _ hv1 h1 l1
      obtain ⟨g2, -⟩ := old _ _ hv2 h2 l2
      rw [ha _ hv1, ha _ hv2] at he
      exact R.inj _ _ _ _ hv1 hv2 g1 g2 l1 l2 he
    · obtain ⟨-, g2⟩ := old _ _ hv1 h1 l1
      rw [ha _ hv1, upd_same] at he
      exact absurd he g2
    · obtain ⟨-, g2⟩ := old _ _ hv2 h2 l2
      rw [ha _ hv2, upd_same] at he
      exact absurd he.symm g2
    · rfl
  · rcases hk with hk | rfl
    · obtain ⟨g1, -⟩ := old k b' hk hb' hl'
      rw [ha _ hk]; exact R.own k b' hk g1 hl' hg
    · rw [upd_same]; exact hown
  · obtain ⟨h1, h2, h3⟩ := R.glob k hk
    refine ⟨.inl h1, ?_⟩
    rw [ha _ h1]; exact ⟨h2, h3⟩
  · by_cases e1 : k = h.nx
    · subst e1; exact Nat.lt_succ_self _
    · by_cases e2 : k = id
      · subst e2; exact Nat.lt_succ_of_lt (R.vx _ hv)
      · rw [hget k e1 e2] at hb'; exact Nat.lt_succ_of_lt (R.nx k b' hb')
  · rcases hk with hk | rfl
    · exact Nat.lt_succ_of_lt (R.vx k hk)
    · exact Nat.lt_succ_self _

omit O in
theorem grow_le {need old : Nat} (h1 : old < need) (h2 : need ≤ 1048576) : Builtin.nextslicecap need old ≤ 8388608 := by
  unfold Builtin.nextslicecap
  split
  · omega
  · split
    · omega
    · simp only [Builtin.growBy]
      (repeat' split) <;> omega

end ops
end Go.Mini
/- The evaluator's operations against the model's: appends. -/
namespace Go.Mini
variable [O : Opq]
open Go.RowKit

/-- The second half of an append. -/
def tailM (elem : TypeId) (zeros : Bool) (base : Option Addr) (sLen sCap n size : Nat) (s x : Value) (appended : Sem (Array Value)) : Sem Value := do
  let need := sLen + n
  if need ≤ sCap then
    let new ← appended
    if let some a := base then storeCells (a.add (sLen * size)) new.toList
    pure (.slice base need sCap)
  else
    if (need : Int) > IntKind.i64.max ∧ (zeros ∨ (← typeInfo elem).bytes = 0) then runtimePanic (.error "growslice: len out of range")
    if Builtin.nextslicecap need sCap * (← typeInfo elem).bytes > 2 ^ 48 then (if zeros then runtimePanic (.error "growslice: len out of range") else do
      if !(← Builtin.mayShare size sLen n base x) then mark .noRoom
      unsupported (.resourceLimit "append: a slice or a string whose bytes no memory bears"))
    let newCap ← choose (.appendCap need sCap elem)
    askRoom (newCap * (← typeInfo elem).bytes)
    let old ← Builtin.firstCells size sLen s
    let new ← appended
    let rest := Builtin.zeroCells (← zeroValue elem).cells (newCap - need)
    pure (.slice (some (← newRow elem (old ++ new ++ rest))) need newCap)

section ops
variable {E : Env} {P : Program} {B : Nat → Prop} {W0 : World} {σ : Sg} {V : Nat → Prop} {h : MH} {w : World} {ev : Ev} {ρ : Operand → Value}

/-- An append that needs a new row. -/
theorem grow_ok (hE : EnvOk E P) (R : Rel E.G B W0 σ V h w) (hW : ∀ k, B k → k < W0.heap.size) {e : TypeId} {Te : MT} (hTe : E.ty.get e = some Te) (hby : Te.info.bytes ≤ 65536)
    {z : List MV} (hz : zeroM Te = some z) {zeros : Bool} {base : Option Addr} {sLen sCap n : Nat} {s x : Value} {App : Sem (Array Value)} {old c : List MV}
    (hfit : sCap < sLen + n) (hold : ∀ w', (w' = w.drew) → (Builtin.firstCells Te.info.size sLen s).run P w' = .ok ⟨embs σ old⟩ w') (ho1 : wfs σ V old) (ho2 : ones old = true) (ho3 : old.length = sLen * Te.info.size)
    (happ : App.run P w.drew = .ok ⟨embs σ c⟩ w.drew) (hc1 : wfs σ V c) (hc2 : ones c = true) (hc3 : c.length = n * Te.info.size)
    {v : MV} {h' : MH} (ho : appFresh e Te.info.size sLen n (old ++ c) h = some (v, h')) :
    Sim E.G B W0 σ V h h' (fun σ' V' w' => wf σ' V' v ∧ (tailM e zeros base sLen sCap n Te.info.size s x App).run P w = .ok (emb σ' v) w') := by
  unfold appFresh at ho
  cases hb : Nat.ble (Nat.add sLen n) 1048576 with
  | false => rw [hb] at ho; cases ho
  | true =>
    rw [hb] at ho
    cases ho
    have hb := Nat.le_of_ble_eq_true hb
    simp only [Nat.add_eq] at hb
    obtain ⟨ti, tu⟩ := hE.ty e Te hTe
    obtain ⟨m, m1, m2, m3, m4, m5⟩ := zeroM_ok (σ := σ) (V := V) hE hTe hz
    have hgr := grow_le hfit hb
    obtain ⟨cap, hcap, hch⟩ : ∃ cap, sLen + n ≤ cap ∧ (choose (.appendCap (sLen + n) sCap e)).run P w = .ok cap w.drew := by
      refine ⟨(sLen + n) + w.tape w.drawn (.appendCap (sLen + n) sCap e) % (2 ^ 63 - (sLen + n)), by omega, ?_⟩
      rw [run_choose_drew]
      simp [Question.forced, Question.cut]
    let cells : Array Value := ⟨embs σ old⟩ ++ ⟨embs σ c⟩ ++ Builtin.zeroCells (emb σ m).cells (cap - (sLen + n))
    have hzc : Builtin.zeroCells (emb σ m).cells (cap - (sLen + n)) = ⟨embs σ (List.replicate (cap - (sLen + n)) z).flatten⟩ := by
      unfold Builtin.zeroCells
      rw [m2]
      have hzs : (⟨embs σ z⟩ : Array Value).size = Te.info.size := by rw [embs_map]; simpa using m5
      have := rows_rep (σ := σ) (n := cap - (sLen + n)) m5
      rw [hzs] at this ⊢
      exact this
    have hcs : cells = ⟨embs σ (old ++ c ++ (List.replicate (cap - (sLen + n)) z).flatten)⟩ := by
      simp only [cells, hzc, embs_map, List.map_append]
      simp
    have hsz : cells.size = cap * Te.info.size := by
      rw [hcs, embs_map]
      simp only [List.size_toArray, List.length_map, List.length_append, ho3, hc3]
      simp [m5]
      rw [← Nat.add_mul, ← Nat.add_mul]
      congr 1
      omega
    have hblk : Blk (upd σ h.nx ⟨w.drew.heap.size, 0, cap⟩) (addV V h.nx) h.nx (w.drew.alloc (.cells cells e)) (.cells (old ++ c) e Te.info.size true) := by
      have hnV : ¬ V h.nx := fun hv => Nat.lt_irrefl _ (R.vx _ hv)
      have ha := agr_upd (V := V) σ ⟨w.drew.heap.size, 0, cap⟩ hnV
      have hoc : wfs σ V (old ++ c) := wfs_append.2 ⟨ho1, hc1⟩
      refine ⟨cells, (0, 0), by rw [upd_same]; exact heap_new _ _, wfs_agr ha (fun _ hx => .inl hx) _ hoc, ?_, fun i u hi => ?_, fun _ => ?_, .inl rfl⟩
      · rw [ones_iff]; intro u hu
        rcases List.mem_append.1 hu with hu | hu
        · exact (ones_iff _).1 ho2 u hu
        · exact (ones_iff _).1 hc2 u hu
      · rw [upd_same, emb_agr ha u ((wfs_iff _).1 hoc u (List.mem_of_getElem? hi)), hcs, embs_map]
        have hlt := (List.getElem?_eq_some_iff.1 hi).1
        simp only [Nat.zero_add, List.getElem?_toArray, List.getElem?_map]
        rw [List.getElem?_append_left hlt, hi]
        rfl
      · rw [upd_same, hsz]; simp
    refine Sim.new R.drew hW 0 cap hblk ⟨?_, ?_⟩
    · simp only [wf, upd_same]
      exact ⟨.inr rfl, by show 0 + (sLen + n) ≤ cap; omega⟩
    · unfold tailM
      dsimp only
      rw [if_neg (by omega)]
      rw [Sem.bind_ok (r_typeInfo ti w)]
      rw [if_neg (by
        rintro ⟨h1, -⟩
        simp only [IntKind.max, IntKind.signed, IntKind.bits] at h1
        simp at h1
        omega)]
      rw [Sem.bind_ok (r_typeInfo ti w)]
      rw [if_neg (by
        have : Builtin.nextslicecap (sLen + n) sCap * Te.info.bytes ≤ 8388608 * 65536 := Nat.mul_le_mul hgr hby
        omega)]
      rw [Sem.bind_ok hch, Sem.bind_ok (r_typeInfo ti _), Sem.bind_ok (run_askRoom (P := P) (w := w.drew) _), Sem.bind_ok (hold _ rfl), Sem.bind_ok happ, Sem.bind_ok (m1 _)]
      refine (Sem.bind_ok (r_newRow e _ _)).trans ?_
      simp only [Sem.run_pure, emb, upd_same]
      rfl

theorem tail_ok (hE : EnvOk E P) (R : Rel E.G B W0 σ V h w) (hW : ∀ k, B k → k < W0.heap.size) {e : TypeId} {Te : MT} (hTe : E.ty.get e = some Te) (hby : Te.info.bytes ≤ 65536)
    {z : List MV} (hz : zeroM Te = some z) {zeros : Bool} {base : Option Addr} {sLen sCap n : Nat} {s : MV} {x : Value} {App : Sem (Array Value)} {c : List MV} (s1 : wf σ V s) (hs : emb σ s = .slice base sLen sCap)
    (happ : ∀ w', (w' = w ∨ w' = w.drew) → App.run P w' = .ok ⟨embs σ c⟩ w') (hc1 : wfs σ V c) (hc2 : ones c = true) (hc3 : c.length = n * Te.info.size)
    {v : MV} {h' : MH} (ho : appTo E e Te.info.size s n c h = some (v, h')) :
    Sim E.G B W0 σ V h h' (fun σ' V' w' => wf σ' V' v ∧ (tailM e zeros base sLen sCap n Te.info.size (emb σ s) x App).run P w = .ok (emb σ' v) w') := by
  unfold appTo at ho
  split at ho
  · -- nil
    cases hs
    cases hb : Nat.beq n 0 with
    | true =>
      rw [hb] at ho
      cases ho
      have := Nat.eq_of_beq_eq_true hb
      subst this
      refine Sim.same rfl R ⟨trivial, ?_⟩
      unfold tailM
      dsimp only
      rw [if_pos (by omega), Sem.bind_ok (happ w (.inl rfl))]
      rfl
    | false =>
      rw [hb] at ho
      simp only [cond_false] at ho
      have hn : n ≠ 0 := fun e => by subst e; cases hb
      exact grow_ok hE R hW hTe hby hz (old := []) (by omega) (fun w' _ => rfl) trivial rfl (by simp) (happ _ (.inr rfl)) hc1 hc2 hc3 ho
  · -- a known capacity
    rename_i id off len cap
    simp only [emb, Value.slice.injEq] at hs
    obtain ⟨rfl, rfl, rfl⟩ := hs
    simp only [wf] at s1
    cases hb : Nat.ble (Nat.add len n) cap with
    | true =>
      rw [hb] at ho
      simp only [cond_true] at ho
      have hb := Nat.le_of_ble_eq_true hb
      simp only [Nat.add_eq] at hb
      split at ho
      · rename_i h1 hw
        cases ho
        obtain ⟨w', r1, r2, r3⟩ := writeCells_ok (P := P) R s1.1 hc1 hw
        refine Sim.same r3 r1 ⟨by simp only [wf]; exact ⟨s1.1, hb⟩, ?_⟩
        unfold tailM
        dsimp only
        rw [if_pos hb, Sem.bind_ok (happ w (.inl rfl))]
        dsimp only
        simp only [Nat.add_eq, Nat.mul_eq] at r2
        rw [Addr.add_lit, Nat.add_assoc]
        rw [Sem.bind_ok r2]
        rfl
      · cases ho
    | false =>
      rw [hb] at ho
      simp only [cond_false] at ho
      have hb : ¬ len + n ≤ cap := fun hle => by
        have : Nat.ble (Nat.add len n) cap = true := Nat.ble_eq_true_of_le hle
        rw [this] at hb; cases hb
      split at ho
      · rename_i old hr
        obtain ⟨r1, r2, r3, r4⟩ := readCells_ok R s1.1 hr
        have r4' := (readCells_ok R.drew s1.1 hr).2.2.2
        refine grow_ok hE R hW hTe hby hz (old := old) (by omega) (fun w' hw' => ?_) r1 r2 r3 (happ _ (.inr rfl)) hc1 hc2 hc3 ho
        subst hw'
        have := loadCells_ok (P := P) r4'
        rw [r3] at this
        exact this
      · cases ho
  · -- an open one
    rename_i id off l len
    simp only [emb, Value.slice.injEq] at hs
    obtain ⟨rfl, rfl, rfl⟩ := hs
    simp only [wf] at s1
    cases hb : Nat.beq n 0 with
    | true =>
      rw [hb] at ho
      cases ho
      have := Nat.eq_of_beq_eq_true hb
      subst this
      have hcn : c = [] := List.eq_nil_of_length_eq_zero (by simpa using hc3)
      subst hcn
      refine Sim.same rfl R ⟨by simp only [wf]; exact s1, ?_⟩
      unfold tailM
      dsimp only
      rw [if_pos (by omega), Sem.bind_ok (happ w (.inl rfl))]
      rfl
    | false =>
      rw [hb] at ho
      simp only [cond_false] at ho
      have hn : n ≠ 0 := fun e => by subst e; cases hb
      split at ho
      · rename_i cs t' es' hg
        cases hc : (and (Nat.ble E.G.ro id) (and (Nat.beq es' Te.info.size) (and (Nat.beq off (Nat.mul l Te.info.size)) (Nat.beq t' e)))) with
        | false => rw [hc] at ho; cases ho
        | true =>
          rw [hc] at ho
          simp only [cond_true] at ho
          obtain ⟨k1, k2⟩ := and2 hc
          obtain ⟨k2, k3⟩ := and2 k2
          obtain ⟨k3, k4⟩ := and2 k3
          have g4 := Nat.eq_of_beq_eq_true k4
          have g1 := Nat.le_of_ble_eq_true k1
          have g2 := Nat.eq_of_beq_eq_true k2
          have g3 := Nat.eq_of_beq_eq_true k3
          simp only [Nat.mul_eq] at g3
          clear k1 k2 k3 k4 hc
          subst g2
          subst g4
          split at ho
          · rename_i old hr
            have hrd : readCells h id off (Nat.mul len Te.info.size) = some old := by unfold readCells; rw [hg]; exact hr
            obtain ⟨r1, r2, r3, r4⟩ := readCells_ok R s1.1 hrd
            have r4' := (readCells_ok R.drew s1.1 hrd).2.2.2
            by_cases hfit : len + n ≤ (σ id).cap - l
            · -- it goes on in its row
              unfold appFresh at ho
              cases hb2 : Nat.ble (Nat.add len n) 1048576 with
              | false => rw [hb2] at ho; cases ho
              | true =>
                rw [hb2] at ho
                cases ho
                obtain ⟨c0, fz, b1, b2, b3, b4, b5, b6⟩ := R.blk id _ s1.1 hg
                have b5 := b5 rfl
                have hlen : (embs σ c).length = n * Te.info.size := by rw [embs_map]; simpa using hc3
                have hroom : (σ id).off + off + len * Te.info.size + n * Te.info.size ≤ c0.size := by
                  have h2 : (l + len + n) * Te.info.size ≤ (σ id).cap * Te.info.size := Nat.mul_le_mul_right _ (by omega)
                  rw [Nat.add_mul, Nat.add_mul, ← g3] at h2
                  omega
                have hst := storeCells_run (P := P) (b := (σ id).blk) (o := (σ id).off + off + len * Te.info.size) (embs σ c) 0 c0 w b1 b6 (by rw [hlen]; omega) (fun u hu => by
                  rw [embs_map] at hu
                  obtain ⟨u', hu', rfl⟩ := List.mem_map.1 hu
                  exact one_emb σ ((ones_iff _).1 hc2 u' hu'))
                simp only [Nat.add_zero] at hst
                have hls := lsets_get ((σ id).off + off + len * Te.info.size) (embs σ c) c0.toList (by rw [hlen]; simpa using hroom)
                have hnV : ¬ V h.nx := fun hv => Nat.lt_irrefl _ (R.vx _ hv)
                have ha := agr_upd (V := V) σ ⟨(σ id).blk, (σ id).off + off, (σ id).cap - l⟩ hnV
                have hoc : wfs σ V (old ++ c) := wfs_append.2 ⟨r1, hc1⟩
                have hblk : Blk (upd σ h.nx ⟨(σ id).blk, (σ id).off + off, (σ id).cap - l⟩) (addV V h.nx) h.nx
                    (w.putObj (σ id).blk (.cells ⟨lsets ((σ id).off + off + len * Te.info.size) (embs σ c) c0.toList⟩ t' fz)) (.cells (old ++ c) t' Te.info.size true) := by
                  refine ⟨_, fz, by rw [upd_same]; exact World.putObj_heap_same (R.lt s1.1 hg rfl), wfs_agr ha (fun _ hx => .inl hx) _ hoc, ?_, fun i u hi => ?_, fun _ => ?_, ?_⟩
                  · rw [ones_iff]; intro u hu
                    rcases List.mem_append.1 hu with hu | hu
                    · exact (ones_iff _).1 r2 u hu
                    · exact (ones_iff _).1 hc2 u hu
                  · rw [upd_same, emb_agr ha u ((wfs_iff _).1 hoc u (List.mem_of_getElem? hi))]
                    dsimp only
                    rw [List.getElem?_toArray, hls.2, hlen]
                    have r3' : old.length = len * Te.info.size := r3
                    by_cases hi2 : i < old.length
                    · rw [List.getElem?_append_left hi2] at hi
                      rw [if_neg (by omega), Array.getElem?_toList]
                      have := r4 i u hi
                      simp only [World.cell?, b1] at this
                      simpa using this
                    · rw [List.getElem?_append_right (by omega)] at hi
                      have hlt := (List.getElem?_eq_some_iff.1 hi).1
                      rw [if_pos (by omega), embs_map, List.getElem?_map, show (σ id).off + off + i - ((σ id).off + off + len * Te.info.size) = i - old.length by omega, hi]
                      rfl
                  · rw [upd_same]
                    simp only [List.size_toArray, hls.1, Array.length_toList]
                    have h2 : l * Te.info.size + ((σ id).cap - l) * Te.info.size = (σ id).cap * Te.info.size := by rw [← Nat.add_mul]; congr 1; omega
                    omega
                  · simp only [List.size_toArray, hls.1, Array.length_toList]
                    exact b6
                refine ⟨_, _, _, ha, fun _ hx => .inl hx, fun k hx => hx.imp (fun x => x) (fun e => Nat.le_of_eq e.symm), Nat.le_succ _, R.take s1.1 hg rfl g1 _ _ _ hblk, ?_, ?_⟩
                · simp only [wf, MH.nx_set, upd_same]
                  exact ⟨.inr rfl, by show 0 + (len + n) ≤ _; omega⟩
                · unfold tailM
                  dsimp only
                  rw [if_pos hfit, Sem.bind_ok (happ w (.inl rfl))]
                  dsimp only
                  rw [Addr.add_lit, Sem.bind_ok hst]
                  simp only [Sem.run_pure, emb, MH.nx_set, upd_same, Nat.add_zero, Nat.sub_zero]
                  rfl
            · have hgrow := grow_ok (zeros := zeros) (base := some ⟨(σ id).blk, (σ id).off + off, none⟩) (sCap := (σ id).cap - l) (x := x) hE (R.kill hg) hW hTe hby hz (old := old) (s := emb σ (.slo id off l len)) (by omega) (fun w' hw' => by
                subst hw'
                have := loadCells_ok (P := P) r4'
                rw [r3] at this
                exact this) r1 r2 r3 (happ _ (.inr rfl)) hc1 hc2 hc3 ho
              exact hgrow
          · cases ho
      · cases ho
  · cases ho
end ops
end Go.Mini
/- The evaluator's operations against the model's: appends; all that writes. -/
namespace Go.Mini
variable [O : Opq]
open Go.RowKit

section ops
variable {E : Env} {P : Program} {B : Nat → Prop} {W0 : World} {σ : Sg} {V : Nat → Prop} {h : MH} {w : World} {ev : Ev} {ρ : Operand → Value}

theorem appTo_slice {e : TypeId} {es n : Nat} {s : MV} {c : List MV} {r : MV × MH} (ho : appTo E e es s n c h = some r) : ∃ a m cp, emb σ s = .slice a m cp := by
  cases s <;> simp only [appTo] at ho <;> first | (cases ho; done) | exact ⟨_, _, _, rfl⟩

theorem sliceCells_len (R : Rel E.G B W0 σ V h w) {es n : Nat} {x : MV} {c : List MV} (x1 : wf σ V x) (hn : lenM h x = some n) (hc : sliceCells es h x = some c) : c.length = n * es := by
  cases x <;> simp only [sliceCells] at hc <;> simp only [lenM] at hn <;> first | (cases hc; done) | skip
  · cases hc; cases hn; simp
  · cases hn
    simp only [wf] at x1
    exact (readCells_ok R x1.1 hc).2.2.1
  · cases hn
    simp only [wf] at x1
    exact (readCells_ok R x1.1 hc).2.2.1
  · cases hc; cases hn; simp

theorem append_ok (hE : EnvOk E P) (R : Rel E.G B W0 σ V h w) (hW : ∀ k, B k → k < W0.heap.size) {ats : Array TypeId} {ty : TypeId} {s x : MV} (s1 : wf σ V s) (x1 : wf σ V x) {v : MV} {h' : MH}
    (ho : appendM E ats.toList s x h = some (v, h')) : Sim E.G B W0 σ V h h' (fun σ' V' w' => wf σ' V' v ∧ (Builtin.append_ ats ty ⟨[emb σ s, emb σ x]⟩).run P w = .ok (emb σ' v) w') := by
  unfold appendM at ho
  split at ho
  · rename_i st xt hst hxt
    rw [lget_arr] at hst hxt
    split at ho
    · rename_i S X hS hX
      have uS := (hE.ty st S hS).2
      have uX := (hE.ty xt X hX).2
      split at ho
      · rename_i e hd
        rw [hd] at uS
        split at ho
        · cases ho
        · rename_i Te hTe
          obtain ⟨ti, tu⟩ := hE.ty e Te hTe
          cases hc : (and (Nat.blt 0 Te.info.size) (Nat.ble Te.info.bytes 65536)) with
          | false => rw [hc] at ho; cases ho
          | true =>
            rw [hc] at ho
            simp only [cond_true] at ho
            obtain ⟨c1, c2⟩ := and2 hc
            have c1 := blt_lt c1
            have c2 := Nat.le_of_ble_eq_true c2
            split at ho
            · rename_i n c z hsrc hz
              obtain ⟨a, m, cp, hse⟩ := appTo_slice (σ := σ) ho
              obtain ⟨mz, m1, m2, m3, m4, m5⟩ := zeroM_ok (σ := σ) (V := V) hE hTe hz
              -- down to the second half
              have pre : ∀ (zeros : Bool) (App : Sem (Array Value)),
                  (∀ w' u, (tailM e zeros a m cp n Te.info.size (emb σ s) (emb σ x) App).run P w = .ok u w' → (Builtin.append_ ats ty ⟨[emb σ s, emb σ x]⟩).run P w = .ok u w') →
                  (∀ w', (w' = w ∨ w' = w.drew) → App.run P w' = .ok ⟨embs σ c⟩ w') → wfs σ V c → ones c = true → c.length = n * Te.info.size →
                  Sim E.G B W0 σ V h h' (fun σ' V' w' => wf σ' V' v ∧ (Builtin.append_ ats ty ⟨[emb σ s, emb σ x]⟩).run P w = .ok (emb σ' v) w') := by
                intro zeros App hpre happ hc1 hc2 hc3
                refine (tail_ok (zeros := zeros) (x := emb σ x) hE R hW hTe c2 hz s1 hse happ hc1 hc2 hc3 ho).mono ?_
                exact fun _ _ w' _ _ hk => ⟨hk.1, hpre w' _ hk.2⟩
              unfold appSrc at hsrc
              split at hsrc
              · -- zeros
                rename_i kx hdx
                rw [hdx] at uX
                split at hsrc
                · rename_i k nn z' hz'
                  rw [hz] at hz'; cases hz'
                  cases hb : Nat.ble nn 1048576 with
                  | false => rw [hb] at hsrc; cases hsrc
                  | true =>
                    rw [hb] at hsrc
                    cases hsrc
                    have hb := Nat.le_of_ble_eq_true hb
                    have hw : IntKind.i64.wrap (Int.ofNat n) = (n : Int) := wrap_small (by omega)
                    have hmul : n * Te.info.bytes ≤ 1048576 * 65536 := Nat.mul_le_mul hb c2
                    have happ0 : ∀ w' : World, (if n * Te.info.size = 0 then pure #[] else do pure (Builtin.zeroCells (← zeroValue e).cells n) : Sem (Array Value)).run P w' = .ok ⟨embs σ (lrep n z)⟩ w' := by
                      intro w'
                      rw [lrep_eq]
                      by_cases h0 : n * Te.info.size = 0
                      · rw [if_pos h0]
                        have : (List.replicate n z).flatten = [] := List.eq_nil_of_length_eq_zero (by simp [m5, h0])
                        rw [this]; rfl
                      · rw [if_neg h0, Sem.bind_ok (m1 w'), m2]
                        simp only [Sem.run_pure, Builtin.zeroCells]
                        congr 1
                        have hzs : (⟨embs σ z⟩ : Array Value).size = Te.info.size := by rw [embs_map]; simpa using m5
                        have := rows_rep (σ := σ) (n := n) m5
                        rw [hzs] at this ⊢
                        exact this
                    refine pre true (if n * Te.info.size = 0 then pure #[] else do pure (Builtin.zeroCells (← zeroValue e).cells n)) (fun w' u hu => ?_) (fun w' _ => happ0 w') (by rw [lrep_eq]; exact wfs_rep m3) (by rw [lrep_eq]; exact ones_rep m4) (by rw [lrep_eq]; simp [m5])
                    unfold Builtin.append_
                    simp only [hst, hxt]
                    rw [show ((⟨[emb σ s, emb σ (.int k (.ofNat n))]⟩ : Array Value)[0]? : Option Value) = some (emb σ s) from rfl, show ((⟨[emb σ s, emb σ (.int k (.ofNat n))]⟩ : Array Value)[1]? : Option Value) = some (.int k (.ofNat n)) from rfl]
                    dsimp only
                    rw [Sem.bind_ok (r_und uS w)]
                    dsimp only
                    rw [hse]
                    dsimp only
                    rw [Sem.bind_ok (r_size ti w), Sem.bind_ok (r_und uX w)]
                    simp only [asInt, asIntOf, pure_bind, hw, if_true]
                    rw [if_neg (by omega), Sem.bind_ok (r_typeInfo ti w)]
                    rw [if_neg (by
                      have : ((n : Int) * (Te.info.bytes : Int)) = ((n * Te.info.bytes : Nat) : Int) := by simp
                      rw [this]; omega)]
                    simp only [Int.toNat_natCast]
                    rw [hse] at hu
                    unfold tailM at hu
                    simp only [Bool.not_true, Bool.false_eq_true, if_false, if_true, true_or, and_true] at hu ⊢
                    exact hu
                · cases hsrc
              · -- other slices, strings
                rename_i hni
                have hcs : copySrc Te.info.size n h x = some c ∧ lenM h x = some n ∧ (∀ id, x ≠ .mp id) ∧ x ≠ .nilM ∧ c.length = n * Te.info.size := by
                  split at hsrc
                  · rename_i b
                    cases hb : Nat.beq Te.info.size 1 with
                    | false => rw [hb] at hsrc; cases hsrc
                    | true =>
                      rw [hb] at hsrc
                      cases hsrc
                      have hb := Nat.eq_of_beq_eq_true hb
                      refine ⟨?_, rfl, (fun id hid => by cases hid), (fun hid => by cases hid), ?_⟩
                      · unfold copySrc
                        dsimp only
                        rw [llen_eq, ltake_eq, if_pos (by simp)]
                        simp
                      · rw [llen_eq, hb, ofBytes_eq]; simp
                  · rename_i hns
                    split at hsrc
                    · rename_i n' c' hn' hc'
                      cases hsrc
                      have hl := sliceCells_len R x1 hn' hc'
                      refine ⟨?_, hn', ?_, ?_, hl⟩
                      · unfold copySrc
                        split
                        · exact absurd rfl (hns _)
                        · rw [hc']
                          dsimp only
                          rw [ltake_eq, if_pos (by rw [hl]; exact Nat.le_refl _)]
                          rw [List.take_of_length_le (by rw [hl]; exact Nat.le_refl _)]
                      · rintro id rfl; simp [sliceCells] at hc'
                      · rintro rfl; simp [sliceCells] at hc'
                    · cases hsrc
                obtain ⟨k1, k2, k3, k4, k5⟩ := hcs
                obtain ⟨f1, f2, f3⟩ := firstCells_ok (P := P) R x1 k1 (fun q hq => by rw [k2] at hq; cases hq; exact Nat.le_refl _)
                obtain ⟨-, -, f3'⟩ := firstCells_ok (P := P) R.drew x1 k1 (fun q hq => by rw [k2] at hq; cases hq; exact Nat.le_refl _)
                refine pre false (Builtin.firstCells Te.info.size n (emb σ x)) (fun w' u hu => ?_) (fun w' hw' => by rcases hw' with rfl | rfl; exact f3; exact f3') f1 f2 k5
                have hln := lenOf_ok (P := P) (σ := σ) (w := w) k2 k3 k4
                unfold Builtin.append_
                simp only [hst, hxt]
                rw [show ((⟨[emb σ s, emb σ x]⟩ : Array Value)[0]? : Option Value) = some (emb σ s) from rfl, show ((⟨[emb σ s, emb σ x]⟩ : Array Value)[1]? : Option Value) = some (emb σ x) from rfl]
                dsimp only
                rw [Sem.bind_ok (r_und uS w)]
                dsimp only
                rw [hse]
                dsimp only
                rw [Sem.bind_ok (r_size ti w), Sem.bind_ok (r_und uX w)]
                rw [hse] at hu
                have hz0 : (pure (match X.und with | .int _ => true | _ => false) : Sem Bool).run P w = .ok false w := by
                  split
                  · rename_i kk hk; exact absurd hk (hni kk)
                  · rfl
                refine (Sem.bind_ok hz0).trans ?_
                · rw [if_neg Bool.false_ne_true, Sem.bind_ok hln]
                  exact hu
            · cases ho
      · cases ho
    · cases ho
  · cases ho
end ops
end Go.Mini
/- The evaluator's operations against the model's: all that writes; calls. -/
namespace Go.Mini
variable [O : Opq]
open Go.RowKit

section ops
variable {E : Env} {P : Program} {B : Nat → Prop} {W0 : World} {σ : Sg} {V : Nat → Prop} {h : MH} {w : World} {ev : Ev} {ρ : Operand → Value}

omit O in
theorem vR_upd {o : Option MV} {v : MV} {h' : MH} (ho : vR o = some (.upd v h')) : False := ov_upd (onlyVal_vR _) ho
omit O in
theorem newR_upd {o : Option (NewK × MB)} {v : MV} {h' : MH} (ho : newR o = some (.upd v h')) : False := by
  unfold newR at ho; split at ho <;> cases ho

theorem builtin_resolve {c : Call} {b : Builtin} {t : TypeId} {args : List MV} (hb : c.callee = .builtin b) (ha : c.args.map ρ = ⟨embs σ args⟩) :
    (resolve ρ c t).run P w = .ok { target := .builtin b c.argTypes t (c.args.map fun | .const _ => true | _ => false), args := ⟨embs σ args⟩ } w := by
  unfold resolve; simp only [hb, ha]; rfl

/-- **What writes.** -/
theorem upd_ok (hE : EnvOk E P) (R : Rel E.G B W0 σ V h w) (hW : ∀ k, B k → k < W0.heap.size) (hev : EvR σ V ev ρ) (o : Oper) {v : MV} {h' : MH} (ho : mop E ev o.op h = some (.upd v h')) :
    Sim E.G B W0 σ V h h' (UpdK P ρ o w v) := by
  cases hop : o.op <;> rw [hop] at ho <;> simp only [mop] at ho <;> first | (cases ho; done) | exact (vR_upd ho).elim | exact (newR_upd ho).elim | skip
  case pick => exact (ov_upd (ov_pick _ _ _) ho).elim
  case build => exact (ov_upd (ov_build _ _) ho).elim
  case load => exact (ov_upd (ov_load _ _) ho).elim
  case nilCheck => exact (ov_upd (ov_nilCheck _) ho).elim
  case binOp => exact (ov_upd (ov_bin _ _ _ _) ho).elim
  case unOp => exact (ov_upd (ov_un _ _) ho).elim
  case makeFunc => exact (ov_upd (ov_makeFunc _ _ _) ho).elim
  case slice => exact (ov_upd (ov_slice _ _ _ _ _) ho).elim
  case fieldAddr => exact (ov_upd (ov_fieldAddr _ _ _) ho).elim
  case field => exact (ov_upd (ov_field _ _ _) ho).elim
  case indexAddr => exact (ov_upd (ov_indexAddr _ _ _) ho).elim
  case index => exact (ov_upd (ov_index _ _ _) ho).elim
  case lookup => exact (ov_upd (ov_lookup _ _ _ _) ho).elim
  case extract => exact (ov_upd (ov_extract _ _) ho).elim
  case convert s d x => exact conv_upd hE R hW hev hop ho
  case store t x y =>
    obtain ⟨v', h'', e1, e2⟩ := updR_some ho
    cases e2
    exact store_ok hE R hev hop e1
  case range t x =>
    obtain ⟨v', h'', e1, e2⟩ := updR_some ho
    cases e2
    exact range_ok hE R hW hev hop e1
  case next it s =>
    obtain ⟨v', h'', e1, e2⟩ := updR_some ho
    cases e2
    exact upd_next R hev hop e1
  case mapUpdate t m k x =>
    obtain ⟨v', h'', e1, e2⟩ := updR_some ho
    cases e2
    obtain ⟨w', r1, r2, rfl, r4⟩ := update_ok hE R hev e1
    refine Sim.same r2 r1 ⟨wf_undef, .inr ⟨rfl, ?_⟩⟩
    unfold execOp; simp only [hop]
    exact run_unit r4
  case insert t m k x =>
    obtain ⟨v', h'', e1, e2⟩ := updR_some ho
    cases e2
    obtain ⟨w', r1, r2, rfl, r4⟩ := update_ok hE R hev e1
    refine Sim.same r2 r1 ⟨wf_undef, .inr ⟨rfl, ?_⟩⟩
    unfold execOp; simp only [hop]
    exact run_unit r4
  case call c =>
    obtain ⟨args, ha, hcase⟩ := call_forms ho
    obtain ⟨a1, a2⟩ := args_ok hev ha
    rcases hcase with ⟨u, e⟩ | ⟨x, y, u, h2, hb, rfl, e, hm⟩ | ⟨x, y, u, h2, hb, rfl, e, hm⟩ | ⟨x, y, t, u, h2, hb, rfl, e, ht, hm⟩ | ⟨f, g, a, b, -, -, -, e⟩ | ⟨f, l, -, -, e⟩
    · cases e
    · cases e
      simp only [wfs] at a1
      refine (append_ok (ty := o.type) hE R hW a1.1 a1.2.1 hm).mono ?_
      rintro σ' V' w' - - ⟨k1, k2⟩
      refine ⟨k1, .inl ?_⟩
      unfold execOp; simp only [hop]
      rw [Sem.bind_ok (builtin_resolve (σ := σ) hb a2)]
      exact run_value k2
    · cases e
      simp only [wfs] at a1
      obtain ⟨w', r1, r2, r3, r4⟩ := copy_ok (ty := o.type) hE R a1.1 a1.2.1 hm
      refine Sim.same r2 r1 ⟨r3, .inl ?_⟩
      unfold execOp; simp only [hop]
      rw [Sem.bind_ok (builtin_resolve (σ := σ) hb a2)]
      exact run_value r4
    · cases e
      simp only [wfs] at a1
      rw [lget_arr] at ht
      obtain ⟨w', r1, r2, rfl, r4⟩ := delete_ok (ty := o.type) hE R ht a1.1 a1.2.1 hm
      refine Sim.same r2 r1 ⟨wf_undef, .inl ?_⟩
      unfold execOp; simp only [hop]
      rw [Sem.bind_ok (builtin_resolve (σ := σ) hb a2)]
      exact run_value r4
    · cases e
    · cases e

omit O in
theorem notCall_enter {f : FuncId} {args : List MV} {o : Op} (ho : mop E ev o h = some (.enter f args)) : ∃ c, o = .call c ∧ oCall E ev c h = some (.enter f args) := by
  have no1 : ∀ {x : Option MR}, OnlyVal x → x = some (.enter f args) → False := fun hv hx => by obtain ⟨v, e⟩ := hv _ hx; cases e
  have no2 : ∀ {x : Option (MV × MH)}, updR x = some (.enter f args) → False := fun hx => by obtain ⟨_, _, _, e⟩ := updR_some hx; cases e
  have no3 : ∀ {x : Option (NewK × MB)}, newR x = some (.enter f args) → False := fun {x} hx => by unfold newR at hx; split at hx <;> cases hx
  cases o <;> simp only [mop] at ho <;> first | (cases ho; done) | exact (no2 ho).elim | exact (no3 ho).elim | exact (no1 (onlyVal_vR _) ho).elim | exact ⟨_, rfl, ho⟩ | skip
  case pick => exact (no1 (ov_pick _ _ _) ho).elim
  case build => exact (no1 (ov_build _ _) ho).elim
  case load => exact (no1 (ov_load _ _) ho).elim
  case nilCheck => exact (no1 (ov_nilCheck _) ho).elim
  case binOp => exact (no1 (ov_bin _ _ _ _) ho).elim
  case unOp => exact (no1 (ov_un _ _) ho).elim
  case makeFunc => exact (no1 (ov_makeFunc _ _ _) ho).elim
  case slice => exact (no1 (ov_slice _ _ _ _ _) ho).elim
  case fieldAddr => exact (no1 (ov_fieldAddr _ _ _) ho).elim
  case field => exact (no1 (ov_field _ _ _) ho).elim
  case indexAddr => exact (no1 (ov_indexAddr _ _ _) ho).elim
  case index => exact (no1 (ov_index _ _ _) ho).elim
  case lookup => exact (no1 (ov_lookup _ _ _ _) ho).elim
  case extract => exact (no1 (ov_extract _ _) ho).elim
  case convert => rcases conv_forms ho with ⟨v, e⟩ | ⟨S, D, e, T, b, -, -, -, -, -, -, -, e⟩ | ⟨S, D, e1, e2, T, xv, -, -, -, -, -, -, -, -, hm⟩ <;> first | cases e | (obtain ⟨_, _, _, _, _, _, _, _, -, -, -, e⟩ := markM_upd hm; cases e)
omit O in
theorem notCall_round {l : Nat} {args : List MV} {o : Op} (ho : mop E ev o h = some (.round l args)) : ∃ c, o = .call c ∧ oCall E ev c h = some (.round l args) := by
  have no1 : ∀ {x : Option MR}, OnlyVal x → x = some (.round l args) → False := fun hv hx => by obtain ⟨v, e⟩ := hv _ hx; cases e
  have no2 : ∀ {x : Option (MV × MH)}, updR x = some (.round l args) → False := fun hx => by obtain ⟨_, _, _, e⟩ := updR_some hx; cases e
  have no3 : ∀ {x : Option (NewK × MB)}, newR x = some (.round l args) → False := fun {x} hx => by unfold newR at hx; split at hx <;> cases hx
  cases o <;> simp only [mop] at ho <;> first | (cases ho; done) | exact (no2 ho).elim | exact (no3 ho).elim | exact (no1 (onlyVal_vR _) ho).elim | exact ⟨_, rfl, ho⟩ | skip
  case pick => exact (no1 (ov_pick _ _ _) ho).elim
  case build => exact (no1 (ov_build _ _) ho).elim
  case load => exact (no1 (ov_load _ _) ho).elim
  case nilCheck => exact (no1 (ov_nilCheck _) ho).elim
  case binOp => exact (no1 (ov_bin _ _ _ _) ho).elim
  case unOp => exact (no1 (ov_un _ _) ho).elim
  case makeFunc => exact (no1 (ov_makeFunc _ _ _) ho).elim
  case slice => exact (no1 (ov_slice _ _ _ _ _) ho).elim
  case fieldAddr => exact (no1 (ov_fieldAddr _ _ _) ho).elim
  case field => exact (no1 (ov_field _ _ _) ho).elim
  case indexAddr => exact (no1 (ov_indexAddr _ _ _) ho).elim
  case index => exact (no1 (ov_index _ _ _) ho).elim
  case lookup => exact (no1 (ov_lookup _ _ _ _) ho).elim
  case extract => exact (no1 (ov_extract _ _) ho).elim
  case convert => rcases conv_forms ho with ⟨v, e⟩ | ⟨S, D, e, T, b, -, -, -, -, -, -, -, e⟩ | ⟨S, D, e1, e2, T, xv, -, -, -, -, -, -, -, -, hm⟩ <;> first | cases e | (obtain ⟨_, _, _, _, _, _, _, _, -, -, -, e⟩ := markM_upd hm; cases e)

/-- A call enters a function. -/
theorem enter_ok (hE : EnvOk E P) (hev : EvR σ V ev ρ) (o : Oper) {f : FuncId} {args : List MV} (ho : mop E ev o.op h = some (.enter f args)) (w : World) :
    E.ext f = none ∧ wfs σ V args ∧ ∀ F, E.fns.get f = some F → F.body.isSome = true → (execOp ρ o).run P w = .ok (.enter f ⟨embs σ args⟩) w := by
  obtain ⟨c, hop, hc⟩ := notCall_enter ho
  obtain ⟨as, ha, hcase⟩ := call_forms hc
  obtain ⟨a1, a2⟩ := args_ok hev ha
  rcases hcase with ⟨u, e⟩ | ⟨x, y, u, h2, -, -, e, -⟩ | ⟨x, y, u, h2, -, -, e, -⟩ | ⟨x, y, t, u, h2, -, -, e, -⟩ | ⟨fo, g, a, b, hcl, hf, hg, e⟩ | ⟨fo, l, -, -, e⟩ <;> cases e
  obtain ⟨f1, f2⟩ := hev fo _ hf
  simp only [wf] at f1
  refine ⟨hg, wfs_append.2 ⟨wfs_append.2 ⟨f1.1, a1⟩, f1.2⟩, fun F hF hb => ?_⟩
  obtain ⟨hF1, hF2⟩ := hE.fns f F hF
  unfold execOp; simp only [hop]
  have hres : (resolve ρ c o.type).run P w = .ok { target := .fn (.func f) ⟨embs σ b⟩, args := ⟨embs σ a⟩ ++ ⟨embs σ as⟩ } w := by
    unfold resolve; simp only [hcl, a2, f2, emb, Deferred.ofValue]; rfl
  rw [Sem.bind_ok hres]
  unfold invoke callFunc
  simp only []
  rw [Sem.bind_ok (show (program).run P w = .ok P w from rfl), hF1]
  simp only []
  rw [if_neg (by simpa using hF2), if_neg (by simp [Option.isNone_iff_eq_none]; intro e; rw [e] at hb; cases hb)]
  simp only [Sem.run_pure]
  congr 2
  rw [← Array.toList_inj]
  simp [embs_map]

/-- A call of yield. -/
theorem round_is (hev : EvR σ V ev ρ) (o : Oper) {l : Nat} {args : List MV} (ho : mop E ev o.op h = some (.round l args)) (w : World) :
    V l ∧ wfs σ V args ∧ (execOp ρ o).run P w = (Instr.yield (σ l).blk ⟨embs σ args⟩).run P w := by
  obtain ⟨c, hop, hc⟩ := notCall_round ho
  obtain ⟨as, ha, hcase⟩ := call_forms hc
  obtain ⟨a1, a2⟩ := args_ok hev ha
  rcases hcase with ⟨u, e⟩ | ⟨x, y, u, h2, -, -, e, -⟩ | ⟨x, y, u, h2, -, -, e, -⟩ | ⟨x, y, t, u, h2, -, -, e, -⟩ | ⟨fo, g, a, b, -, -, -, e⟩ | ⟨fo, l', hcl, hf, e⟩ <;> cases e
  obtain ⟨f1, f2⟩ := hev fo _ hf
  simp only [wf] at f1
  refine ⟨f1, a1, ?_⟩
  unfold execOp; simp only [hop]
  have hres : (resolve ρ c o.type).run P w = .ok { target := .fn (.yield (σ l).blk) #[], args := #[] ++ ⟨embs σ args⟩ } w := by
    unfold resolve; simp only [hcl, a2, f2, emb, Deferred.ofValue]; rfl
  rw [Sem.bind_ok hres]
  unfold invoke
  simp
end ops
end Go.Mini
