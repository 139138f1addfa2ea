/- A part of the proof. -/
import Derived.Test.YtidadlcknkeodaaGreatDoorA02
import Derived.TacticsIn
import Derived.LoopNIn
import Derived.RangeFuncIn
import Derived.RangeFuncLeaves
/- The evaluator's operations against the model's: maps written, copies, appends. -/
namespace Go.Mini
variable [O : Opq]
open Go.RowKit
omit O in
theorem map_del {α β : Type} (f : α → β) : ∀ (l : List α) (n : Nat), (l.eraseIdx n).map f = (l.map f).eraseIdx n := by
  intro l
  induction l with
  | nil => intro n; rfl
  | cons a l ih => intro n; cases n with
    | zero => rfl
    | succ n => simp [ih]
section ops
variable {E : Env} {P : Program} {B : Nat → Prop} {W0 : World} {σ : Sg} {V : Nat → Prop} {h : MH} {w : World} {ev : Ev} {ρ : Operand → Value}
omit O in
theorem eqM_same {K : TypeDesc} {x y : MV} (hK : keyT K = true) (he : eqM K x y = some true) : x = y := by
  unfold eqM at he
  cases K <;> simp only [keyT, Bool.false_eq_true] at hK <;> simp only at he
  case bool =>
    split at he
    · simp only [Option.some.injEq, beq_iff_eq] at he; rw [he]
    · cases he
  case int k0 =>
    split at he
    · rename_i k a k' b'
      by_cases hk : k = k'
      · subst hk
        simp only [decide_true, cond_true, Option.some.injEq, decide_eq_true_eq] at he
        rw [he]
      · simp [hk] at he
    · cases he
  case string =>
    split at he
    · rename_i a b'
      simp only [Option.some.injEq, beqs_eq, decide_eq_true_eq] at he
      rw [he]
    · cases he
omit O in
theorem mfind_same {K : TypeDesc} {k : MV} (hK : keyT K = true) : ∀ (l : List ME) (i j : Nat) (e : ME), mfind K k l i = some (some (j, e)) → e.key = k := by
  intro l
  induction l with
  | nil => intro i j e h; have e' : mfind K k [] i = some none := rfl
           rw [e'] at h; cases h
  | cons x l ih =>
    intro i j e h
    rw [mfind_cons] at h
    split at h
    · rename_i hq; cases h; exact (eqM_same hK hq).symm
    · exact ih _ _ _ h
    · cases h
theorem keyStays {kt : TypeDesc} {k : MV} (hk : ∃ y, eqM kt k y = some true ∧ keyT kt = true) (w : World) : (Instr.keyThatStays (emb σ k) (emb σ k)).run P w = .ok (emb σ k) w := by
  obtain ⟨y, he, hK⟩ := hk
  have hs : Instr.sameBits 10000 (emb σ k) (emb σ k) = true := by
    unfold eqM at he
    cases kt <;> simp only [keyT, Bool.false_eq_true] at hK <;> simp only at he
    case bool => split at he <;> first | (cases he; done) | simp [emb, Instr.sameBits]
    case int => split at he <;> first | (cases he; done) | simp [emb, Instr.sameBits]
    case string =>
      split at he
      · simp only [emb, Instr.sameBits]; rw [byteArray_beq]; simp
      · cases he
  unfold Instr.keyThatStays
  simp [hs]
omit O in
theorem mfind_eq {K : TypeDesc} {k : MV} : ∀ (l : List ME) (i j : Nat) (e : ME), mfind K k l i = some (some (j, e)) → eqM K k e.key = some true := by
  intro l
  induction l with
  | nil => intro i j e h; have e' : mfind K k [] i = some none := rfl
           rw [e'] at h; cases h
  | cons x l ih =>
    intro i j e h
    rw [mfind_cons] at h
    split at h
    · rename_i hq; cases h; exact hq
    · exact ih _ _ _ h
    · cases h
theorem update_ok (hE : EnvOk E P) (R : Rel E.G B W0 σ V h w) (hev : EvR σ V ev ρ) {t : TypeId} {m k x : Operand} {v : MV} {h' : MH}
    (ho : oUpdate E ev t m k x h = some (v, h')) : ∃ w', Rel E.G B W0 σ V h' w' ∧ h'.nx = h.nx ∧ v = undefM ∧ (Instr.mapUpdate t (ρ m) (ρ k) (ρ x)).run P w = .ok () w' := by
  unfold oUpdate at ho
  split at ho
  · rename_i mv kv xv hm hk hx
    obtain ⟨m1, m2⟩ := hev m _ hm
    obtain ⟨k1, k2⟩ := hev k _ hk
    obtain ⟨x1, x2⟩ := hev x _ hx
    unfold updateM at ho
    split at ho
    · rename_i K el id hkd
      obtain ⟨kt, u1, u2, hK⟩ := keyDesc_ok hE hkd
      simp only [wf] at m1
      split at ho
      · rename_i es c hg
        obtain ⟨b1, b2⟩ := R.blk id _ m1 hg
        cases hG : Nat.ble E.G.ro id with
        | false => rw [hG] at ho; cases ho
        | true =>
          rw [hG] at ho
          simp only [cond_true] at ho
          have hG := Nat.le_of_ble_eq_true hG
          rw [m2, k2, x2]
          unfold Instr.mapUpdate
          rw [Sem.bind_ok (r_und u1 w)]
          simp only [emb]
          rw [Sem.bind_ok (r_getObj_map b1)]
          dsimp only
          split at ho
          · rename_i i e hf
            cases ho
            have hfk := findKey_ok (P := P) u2 hK k1 b2 hf w
            obtain ⟨-, h4⟩ := mfind_ok hK k1 es 0 _ b2 hf
            obtain ⟨-, h5⟩ := h4 _ _ rfl
            simp only [Nat.sub_zero] at h5
            have hek := mfind_same hK _ _ _ _ hf
            have hlt : i < es.length := (List.getElem?_eq_some_iff.1 h5).1
            refine ⟨w.putObj (σ id).blk (.map ⟨(lset es i { e with key := kv, val := xv }).map (embE σ)⟩ c), R.write m1 hg rfl hG _ ⟨?_, ?_⟩, rfl, rfl, ?_⟩
            · rw [World.putObj_heap_same (R.lt m1 hg rfl)]
            · intro y hy
              rw [lset_eq] at hy
              rcases List.mem_or_eq_of_mem_set hy with hy | rfl
              · exact b2 y hy
              · exact ⟨k1, x1⟩
            · refine (Sem.bind_ok (checkKey_ok u2 hK _ w)).trans ?_
              refine (Sem.bind_ok hfk).trans ?_
              dsimp only [Option.map_some]
              have hold : (((⟨es.map (embE σ)⟩ : Array MapEntry)[i]?).map (·.key)).getD (emb σ kv) = emb σ kv := by
                simp [h5, embE, hek]
              rw [hold, Sem.bind_ok (keyStays ⟨_, mfind_eq _ _ _ _ hf, hK⟩ w)]
              rw [r_setObj_map _ b1]
              congr 3
              rw [lset_eq, ← Array.toList_inj]
              simp only [Array.toList_modify, List.map_set]
              apply List.ext_getElem?
              intro j
              rw [List.getElem?_modify, List.getElem?_set]
              by_cases hj : i = j
              · subst hj
                rw [List.getElem?_eq_getElem hlt] at h5
                have h5 := Option.some.inj h5
                simp [hlt, embE, h5]
              · simp [hj]
          · rename_i hf
            cases ho
            have hfk := findKey_ok (P := P) u2 hK k1 b2 hf w
            refine ⟨w.putObj (σ id).blk (.map ⟨(es ++ [(⟨kv, xv, c⟩ : ME)]).map (embE σ)⟩ (c + 1)), R.write m1 hg rfl hG _ ⟨?_, ?_⟩, rfl, rfl, ?_⟩
            · rw [World.putObj_heap_same (R.lt m1 hg rfl)]
            · intro y hy
              rcases List.mem_append.1 hy with hy | hy
              · exact b2 y hy
              · simp only [List.mem_singleton] at hy; subst hy; exact ⟨k1, x1⟩
            · refine (Sem.bind_ok (checkKey_ok u2 hK _ w)).trans ?_
              refine (Sem.bind_ok hfk).trans ?_
              dsimp only [Option.map_none]
              rw [r_setObj_map _ b1]
              congr 3
              rw [← Array.toList_inj]
              simp [embE]
          · cases ho
      · cases ho
    · cases ho
  · cases ho
theorem delete_ok (hE : EnvOk E P) (R : Rel E.G B W0 σ V h w) {t : TypeId} {ats : Array TypeId} {ty : TypeId} {m k : MV} (h0 : ats[0]? = some t) (m1 : wf σ V m) (k1 : wf σ V k) {v : MV} {h' : MH}
    (ho : deleteM E t m k h = some (v, h')) : ∃ w', Rel E.G B W0 σ V h' w' ∧ h'.nx = h.nx ∧ v = undefM ∧ (Builtin.delete_ ats ty ⟨[emb σ m, emb σ k]⟩).run P w = .ok (.tuple #[]) w' := by
  unfold deleteM at ho
  split at ho
  · rename_i K el id hkd
    obtain ⟨kt, u1, u2, hK⟩ := keyDesc_ok hE hkd
    simp only [wf] at m1
    split at ho
    · rename_i es c hg
      obtain ⟨b1, b2⟩ := R.blk id _ m1 hg
      cases hG : Nat.ble E.G.ro id with
      | false => rw [hG] at ho; cases ho
      | true =>
        rw [hG] at ho
        simp only [cond_true] at ho
        have hG := Nat.le_of_ble_eq_true hG
        unfold Builtin.delete_
        simp only [h0]
        rw [show ((⟨[emb σ (.mp id), emb σ k]⟩ : Array Value)[0]? : Option Value) = some (emb σ (.mp id)) from rfl, show ((⟨[emb σ (.mp id), emb σ k]⟩ : Array Value)[1]? : Option Value) = some (emb σ k) from rfl]
        dsimp only
        rw [Sem.bind_ok (r_und u1 w)]
        simp only [emb]
        rw [Sem.bind_ok (r_getObj_map b1)]
        dsimp only
        split at ho
        · rename_i i e hf
          cases ho
          have hfk := findKey_ok (P := P) u2 hK k1 b2 hf w
          refine ⟨w.putObj (σ id).blk (.map ⟨(ldel es i).map (embE σ)⟩ c), R.write m1 hg rfl hG _ ⟨?_, ?_⟩, rfl, rfl, ?_⟩
          · rw [World.putObj_heap_same (R.lt m1 hg rfl)]
          · intro y hy
            rw [ldel_eq] at hy
            exact b2 y (List.mem_of_mem_eraseIdx hy)
          · refine (Sem.bind_ok (checkKey_ok u2 hK _ w)).trans ?_
            refine (Sem.bind_ok hfk).trans ?_
            dsimp only [Option.map_some]
            rw [Sem.bind_ok (r_setObj_map _ b1)]
            simp only [Sem.run_pure]
            congr 3
            rw [ldel_eq, ← Array.toList_inj]
            obtain ⟨-, h4⟩ := mfind_ok hK k1 es 0 _ b2 hf
            obtain ⟨-, h5⟩ := h4 _ _ rfl
            simp only [Nat.sub_zero] at h5
            have hlt : i < es.length := (List.getElem?_eq_some_iff.1 h5).1
            unfold Array.eraseIdxIfInBounds
            rw [dif_pos (by simpa using hlt)]
            simp [map_del]
        · rename_i hf
          cases ho
          have hfk := findKey_ok (P := P) u2 hK k1 b2 hf w
          refine ⟨w, R, rfl, rfl, ?_⟩
          refine (Sem.bind_ok (checkKey_ok u2 hK _ w)).trans ?_
          refine (Sem.bind_ok hfk).trans ?_
          dsimp only [Option.map_none]
          rw [Sem.bind_ok (r_setObj_map _ b1), putObj_self b1]
          rfl
        · cases ho
    · cases ho
  · cases ho
/-! ### Copies -/
omit O in
theorem minN_eq (a b : Nat) : minN a b = Nat.min a b := by
  unfold minN
  cases hb : Nat.ble a b with
  | true => have := Nat.le_of_ble_eq_true hb; simp only [cond_true]; exact (Nat.min_eq_left this).symm
  | false =>
    have : ¬ a ≤ b := fun hle => by rw [Nat.ble_eq_true_of_le hle] at hb; cases hb
    simp only [cond_false]; exact (Nat.min_eq_right (by omega)).symm
omit O in
theorem ofBytes_eq (l : List Nat) : ofBytes l = l.map (fun n => MV.int .u8 (.ofNat n)) := by
  induction l with
  | nil => rfl
  | cons a l ih => exact congrArg (MV.int .u8 (.ofNat a) :: ·) ih
omit O in
theorem ofBytes_wf (l : List Nat) : wfs σ V (ofBytes l) ∧ ones (ofBytes l) = true := by
  rw [ofBytes_eq, wfs_iff, ones_iff]
  refine ⟨fun u hu => ?_, fun u hu => ?_⟩
  · obtain ⟨n, -, rfl⟩ := List.mem_map.1 hu; trivial
  · obtain ⟨n, -, rfl⟩ := List.mem_map.1 hu; rfl
theorem ofBytes_emb {l : List Nat} (hl : ∀ x ∈ l, x < 256) : embs σ (ofBytes l) = (l.map UInt8.ofNat).map (fun x => Value.int .u8 (x.toNat : Int)) := by
  rw [ofBytes_eq, embs_map, List.map_map, List.map_map]
  apply List.map_congr_left
  intro n hn
  have := hl n hn
  simp [emb]
  omega
theorem lenOf_ok {x : MV} {n : Nat} (hx : lenM h x = some n) (hm : ∀ id, x ≠ .mp id) (hn : x ≠ .nilM) : (Builtin.lenOf (emb σ x)).run P w = .ok n w := by
  cases x <;> simp only [lenM] at hx <;> first | (cases hx; done) | exact absurd rfl (hm _) | exact absurd rfl hn | skip
  · cases hx; simp only [emb, Builtin.lenOf, bytesV_size, llen_eq]; rfl
  all_goals (cases hx; rfl)
theorem firstCells_ok (R : Rel E.G B W0 σ V h w) {x : MV} {es n : Nat} {c : List MV} (x1 : wf σ V x) (hc : copySrc es n h x = some c) (hle : ∀ m, lenM h x = some m → n ≤ m) :
    wfs σ V c ∧ ones c = true ∧ (Builtin.firstCells es n (emb σ x)).run P w = .ok ⟨embs σ c⟩ w := by
  have key : ∀ {id off len cap : Nat} {d : List MV}, V id → n ≤ len → readCells h id off (Nat.mul len es) = some d → ltake (Nat.mul n es) d = some c →
      wfs σ V c ∧ ones c = true ∧ (Builtin.firstCells es n (.slice (some ⟨(σ id).blk, (σ id).off + off, none⟩) len cap)).run P w = .ok ⟨embs σ c⟩ w := by
    intro id off len cap d hv hnl hr ht
    obtain ⟨r1, r2, r3, r4⟩ := readCells_ok R hv hr
    obtain ⟨hn, rfl⟩ := ltake_some ht
    have hmem : ∀ v ∈ d.take (Nat.mul n es), v ∈ d := fun v hv => List.mem_of_mem_take hv
    refine ⟨(wfs_iff _).2 fun v hv => (wfs_iff _).1 r1 v (hmem v hv), (ones_iff _).2 fun v hv => (ones_iff _).1 r2 v (hmem v hv), ?_⟩
    have := loadCells_ok (P := P) (σ := σ) (w := w) (id := id) (off := off) (l := d.take (Nat.mul n es)) (fun i v hi => r4 i v (by
      rw [List.getElem?_take] at hi
      split at hi
      · exact hi
      · cases hi))
    have hlen : (d.take (Nat.mul n es)).length = n * es := by rw [List.length_take]; simp only [Nat.mul_eq] at hn ⊢; omega
    rw [hlen] at this
    exact this
  have empty : ∀ d : List MV, lenM h x = some 0 → ltake (Nat.mul n es) ([] : List MV) = some d → n = 0 ∧ d = [] := by
    intro d hl hd
    have hn0 : n ≤ 0 := hle 0 hl
    have hn0 : n = 0 := by omega
    subst hn0
    obtain ⟨-, rfl⟩ := ltake_some hd
    simp
  cases x <;> simp only [copySrc, sliceCells] at hc <;> first | (cases hc; done) | skip
  · rename_i b
    split at hc
    · rename_i l hl
      cases hc
      obtain ⟨hn, rfl⟩ := ltake_some hl
      simp only [wf] at x1
      obtain ⟨o1, o2⟩ := ofBytes_wf (σ := σ) (V := V) (b.take n)
      refine ⟨o1, o2, ?_⟩
      simp only [emb, Builtin.firstCells, Sem.run_pure]
      congr 1
      rw [ofBytes_emb (fun x hx => x1 x (List.mem_of_mem_take hx)), ← Array.toList_inj]
      simp [bytesV, List.extract_eq_take_drop, List.map_take]
    · cases hc
  · obtain ⟨rfl, rfl⟩ := empty c rfl hc
    exact ⟨trivial, rfl, rfl⟩
  · rename_i id off len cap
    simp only [wf] at x1
    split at hc
    · rename_i d hd
      exact key x1.1 (hle len rfl) hd hc
    · cases hc
  · rename_i id off l len
    simp only [wf] at x1
    split at hc
    · rename_i d hd
      exact key x1.1 (hle len rfl) hd hc
    · cases hc
  · obtain ⟨rfl, rfl⟩ := empty c rfl hc
    refine ⟨trivial, rfl, ?_⟩
    simp only [emb, Builtin.firstCells, Nat.zero_mul, loadCells, loadCellsFrom]
    rfl
end ops
end Go.Mini
/- The evaluator's operations against the model's: copies and appends; all that writes. -/
namespace Go.Mini
variable [O : Opq]
open Go.RowKit
section ops
variable {E : Env} {P : Program} {B : Nat → Prop} {W0 : World} {σ : Sg} {V : Nat → Prop} {h : MH} {w : World} {ev : Ev} {ρ : Operand → Value}
theorem slice_emb {d : MV} {n : Nat} {c : List MV} {h' : MH} {v : MV} (hd : copyTo E d n c h = some (v, h')) : ∃ a m cp, emb σ d = .slice a m cp := by
  cases d <;> simp only [copyTo] at hd <;> first | (cases hd; done) | exact ⟨_, _, _, rfl⟩
theorem copy_ok (hE : EnvOk E P) (R : Rel E.G B W0 σ V h w) {ats : Array TypeId} {ty : TypeId} {d x : MV} (d1 : wf σ V d) (x1 : wf σ V x) {v : MV} {h' : MH}
    (ho : copyM E ats.toList d x h = some (v, h')) : ∃ w', Rel E.G B W0 σ V h' w' ∧ h'.nx = h.nx ∧ wf σ V v ∧ (Builtin.copy_ ats ty ⟨[emb σ d, emb σ x]⟩).run P w = .ok (emb σ v) w' := by
  unfold copyM at ho
  split at ho
  · rename_i dt hdt
    rw [lget_arr] at hdt
    split at ho
    · rename_i D hD
      have uD := (hE.ty dt D hD).2
      split at ho
      · rename_i e hd
        rw [hd] at uD
        split at ho
        · rename_i es dl xl hes hdl hxl
          split at ho
          · rename_i c hc
            rw [minN_eq] at hc ho
            have hxs : (∀ id, x ≠ .mp id) ∧ x ≠ .nilM := by
              constructor
              · rintro id rfl; simp [copySrc, sliceCells] at hc
              · rintro rfl; simp [copySrc, sliceCells] at hc
            have hln := lenOf_ok (P := P) (σ := σ) (w := w) hxl hxs.1 hxs.2
            obtain ⟨c1, c2, c3⟩ := firstCells_ok (P := P) R x1 hc (fun m hm => by rw [hxl] at hm; cases hm; exact Nat.min_le_left _ _)
            obtain ⟨a, m, cp, hde⟩ := slice_emb (σ := σ) ho
            have hm : m = dl := by
              cases d <;> simp only [lenM] at hdl <;> simp only [emb] at hde <;> first | (cases hde; done) | (cases hdl; done) | (cases hdl; cases hde; rfl)
            subst hm
            have pre : ∀ K : Value → World → Prop, (∃ w', (do
                if let some a := a then storeCells a (embs σ c)
                pure (goInt (Nat.min xl m)) : Sem Value).run P w = .ok (emb σ v) w' ∧ K (emb σ v) w') →
                ∃ w', (Builtin.copy_ ats ty ⟨[emb σ d, emb σ x]⟩).run P w = .ok (emb σ v) w' ∧ K (emb σ v) w' := by
              rintro K ⟨w', hw, hK⟩
              refine ⟨w', ?_, hK⟩
              unfold Builtin.copy_
              simp only [hdt]
              rw [show ((⟨[emb σ d, emb σ x]⟩ : Array Value)[0]? : Option Value) = some (emb σ d) from rfl, show ((⟨[emb σ d, emb σ x]⟩ : Array Value)[1]? : Option Value) = some (emb σ x) from rfl, hde]
              dsimp only
              rw [Sem.bind_ok (r_und uD w)]
              dsimp only
              rw [Sem.bind_ok hln]
              rw [Sem.bind_ok (sizeE_ok hE hes w)]
              rw [Sem.bind_ok c3]
              exact hw
            have fin := pre (fun _ w' => Rel E.G B W0 σ V h' w' ∧ h'.nx = h.nx ∧ wf σ V v) (by
              have wr : ∀ {id off : Nat} {h1 : MH} , V id → a = some ⟨(σ id).blk, (σ id).off + off, none⟩ → writeCells E h id off c = some h1 → (v, h') = (.int .i64 (.ofNat (Nat.min xl m)), h1) →
                  ∃ w', (do
                    if let some a := a then storeCells a (embs σ c)
                    pure (goInt (Nat.min xl m)) : Sem Value).run P w = .ok (emb σ v) w' ∧ Rel E.G B W0 σ V h' w' ∧ h'.nx = h.nx ∧ wf σ V v := by
                intro id off h1 hv ha hw he
                cases he
                obtain ⟨w', r1, r2, r3⟩ := writeCells_ok (P := P) R hv c1 hw
                refine ⟨w', ?_, r1, r3, trivial⟩
                rw [ha]
                dsimp only
                rw [Sem.bind_ok r2]
                rfl
              cases d <;> simp only [copyTo] at ho <;> simp only [emb] at hde <;> first | (cases ho; done) | skip
              · cases ho
                cases hde
                refine ⟨w, ?_, R, rfl, trivial⟩
                dsimp only
                rw [show Nat.min xl 0 = 0 from Nat.min_zero xl]
                rfl
              · rename_i id off len cap
                simp only [wf] at d1
                split at ho
                · rename_i h1 hw
                  cases hde
                  exact wr d1.1 rfl hw (Option.some.inj ho).symm
                · cases ho
              · rename_i id off l len
                simp only [wf] at d1
                split at ho
                · rename_i h1 hw
                  cases hde
                  exact wr d1.1 rfl hw (Option.some.inj ho).symm
                · cases ho)
            obtain ⟨w', f1, f2, f3, f4⟩ := fin
            exact ⟨w', f2, f3, f4, f1⟩
          · cases ho
        · cases ho
      · cases ho
    · cases ho
  · cases ho
/-! ### Appends -/
theorem Rel.take {G : GB} (R : Rel G B W0 σ V h w) {id : Nat} {b0 b : MB} (hv : V id) (hb0 : h.get id = some b0) (hl0 : live b0 = true) (hG : G.ro ≤ id) (o : Obj) (off cap : Nat)
    (hblk : Blk (upd σ h.nx ⟨(σ id).blk, off, cap⟩) (addV V h.nx) h.nx (w.putObj (σ id).blk o) b) :
    Rel G B W0 (upd σ h.nx ⟨(σ id).blk, off, cap⟩) (addV V h.nx) ((h.set id .dead).new b) (w.putObj (σ id).blk o) := by
  have hnV : ¬ V h.nx := fun hv => Nat.lt_irrefl _ (R.vx _ hv)
  have ha := agr_upd (V := V) σ ⟨(σ id).blk, off, cap⟩ hnV
  have hown := R.own id b0 hv hb0 hl0 hG
  have hne : ∀ k, V k → k ≠ h.nx := fun k hk e => hnV (e ▸ hk)
  have hget : ∀ k, k ≠ h.nx → k ≠ id → ((h.set id .dead).new b).get k = h.get k := fun k h1 h2 => by
    rw [MH.get_new, if_neg (by simpa using h1), MH.get_set, if_neg h2]
  have hdead : ((h.set id .dead).new b).get id = some .dead := by
    rw [MH.get_new, if_neg (by simpa using hne id hv), MH.get_set, if_pos rfl]
  have hnew : ((h.set id .dead).new b).get h.nx = some b := by rw [MH.get_new, if_pos (by simp)]
  have hheap : ∀ k, k ≠ (σ id).blk → (w.putObj (σ id).blk o).heap[k]? = w.heap[k]? := fun k hk => World.putObj_heap_other hk
  -- what is live and old lies elsewhere
  have old : ∀ k b', V k → ((h.set id .dead).new b).get k = some b' → live b' = true → h.get k = some b' ∧ (σ k).blk ≠ (σ id).blk := by
    intro k b' hk hb' hl'
    by_cases e : k = id
    · subst e; rw [hdead] at hb'; cases hb'; cases hl'
    · rw [hget k (hne k hk) e] at hb'
      exact ⟨hb', fun e' => e (R.inj k id b' b0 hk hv hb' hb0 hl' hl0 e')⟩
  refine ⟨fun k b' hk hb' => ?_, fun id1 id2 b1 b2 hv1 hv2 h1 h2 l1 l2 he => ?_, fun k b' hk hb' hl' hg => ?_, fun k hk => ?_, fun k b' hb' => ?_, fun k hk => ?_, Nat.le_succ_of_le R.gx,
    ⟨R.below.os, R.below.tape, R.below.output, by simpa [World.putObj] using R.below.size, fun k hk => by rw [hheap k (fun e => hown (e ▸ hk))]; exact R.below.block k hk⟩⟩
  · rcases hk with hk | rfl
    · cases hl' : live b' with
      | false => cases b' <;> first | trivial | cases hl'
      | true =>
        obtain ⟨g1, g2⟩ := old k b' hk hb' hl'
        exact (R.blk k b' hk g1).agr ha (fun _ hx => .inl hx) hk (fun _ => hheap _ g2)
    · rw [hnew] at hb'; cases hb'; exact hblk
  · rcases hv1 with hv1 | rfl <;> rcases hv2 with hv2 | rfl
    · obtain ⟨g1, -⟩ := old _ _ hv1 h1 l1
      obtain ⟨g2, -⟩ := old _ _ hv2 h2 l2
      rw [ha _ hv1, ha _ hv2] at he
      exact R.inj _ _ _ _ hv1 hv2 g1 g2 l1 l2 he
    · obtain ⟨-, g2⟩ := old _ _ hv1 h1 l1
      rw [ha _ hv1, upd_same] at he
      exact absurd he g2
    · obtain ⟨-, g2⟩ := old _ _ hv2 h2 l2
      rw [ha _ hv2, upd_same] at he
      exact absurd he.symm g2
    · rfl
  · rcases hk with hk | rfl
    · obtain ⟨g1, -⟩ := old k b' hk hb' hl'
      rw [ha _ hk]; exact R.own k b' hk g1 hl' hg
    · rw [upd_same]; exact hown
  · obtain ⟨h1, h2, h3⟩ := R.glob k hk
    refine ⟨.inl h1, ?_⟩
    rw [ha _ h1]; exact ⟨h2, h3⟩
  · by_cases e1 : k = h.nx
    · subst e1; exact Nat.lt_succ_self _
    · by_cases e2 : k = id
      · subst e2; exact Nat.lt_succ_of_lt (R.vx _ hv)
      · rw [hget k e1 e2] at hb'; exact Nat.lt_succ_of_lt (R.nx k b' hb')
  · rcases hk with hk | rfl
    · exact Nat.lt_succ_of_lt (R.vx k hk)
    · exact Nat.lt_succ_self _
omit O in
theorem grow_le {need old : Nat} (h1 : old < need) (h2 : need ≤ 1048576) : Builtin.nextslicecap need old ≤ 8388608 := by
  unfold Builtin.nextslicecap
  split
  · omega
  · split
    · omega
    · simp only [Builtin.growBy]
      (repeat' split) <;> omega
end ops
end Go.Mini
/- The evaluator's operations against the model's: appends. -/
namespace Go.Mini
variable [O : Opq]
open Go.RowKit
def tailM (elem : TypeId) (zeros : Bool) (base : Option Addr) (sLen sCap n size : Nat) (s x : Value) (appended : Sem (Array Value)) : Sem Value := do
  let need := sLen + n
  if need ≤ sCap then
    let new ← appended
    if let some a := base then storeCells (a.add (sLen * size)) new.toList
    pure (.slice base need sCap)
  else
    if (need : Int) > IntKind.i64.max ∧ (zeros ∨ (← typeInfo elem).bytes = 0) then runtimePanic (.error "growslice: len out of range")
    if Builtin.nextslicecap need sCap * (← typeInfo elem).bytes > 2 ^ 48 then (if zeros then runtimePanic (.error "growslice: len out of range") else do
      if !(← Builtin.mayShare size sLen n base x) then mark .noRoom
      unsupported (.resourceLimit "append: a slice or a string whose bytes no memory bears"))
    let newCap ← choose (.appendCap need sCap elem)
    askRoom (newCap * (← typeInfo elem).bytes)
    let old ← Builtin.firstCells size sLen s
    let new ← appended
    let rest := Builtin.zeroCells (← zeroValue elem).cells (newCap - need)
    pure (.slice (some (← newRow elem (old ++ new ++ rest))) need newCap)
section ops
variable {E : Env} {P : Program} {B : Nat → Prop} {W0 : World} {σ : Sg} {V : Nat → Prop} {h : MH} {w : World} {ev : Ev} {ρ : Operand → Value}
theorem grow_ok (hE : EnvOk E P) (R : Rel E.G B W0 σ V h w) (hW : ∀ k, B k → k < W0.heap.size) {e : TypeId} {Te : MT} (hTe : E.ty.get e = some Te) (hby : Te.info.bytes ≤ 65536)
    {z : List MV} (hz : zeroM Te = some z) {zeros : Bool} {base : Option Addr} {sLen sCap n : Nat} {s x : Value} {App : Sem (Array Value)} {old c : List MV}
    (hfit : sCap < sLen + n) (hold : ∀ w', (w' = w.drew) → (Builtin.firstCells Te.info.size sLen s).run P w' = .ok ⟨embs σ old⟩ w') (ho1 : wfs σ V old) (ho2 : ones old = true) (ho3 : old.length = sLen * Te.info.size)
    (happ : App.run P w.drew = .ok ⟨embs σ c⟩ w.drew) (hc1 : wfs σ V c) (hc2 : ones c = true) (hc3 : c.length = n * Te.info.size)
    {v : MV} {h' : MH} (ho : appFresh e Te.info.size sLen n (old ++ c) h = some (v, h')) :
    Sim E.G B W0 σ V h h' (fun σ' V' w' => wf σ' V' v ∧ (tailM e zeros base sLen sCap n Te.info.size s x App).run P w = .ok (emb σ' v) w') := by
  unfold appFresh at ho
  cases hb : Nat.ble (Nat.add sLen n) 1048576 with
  | false => rw [hb] at ho; cases ho
  | true =>
    rw [hb] at ho
    cases ho
    have hb := Nat.le_of_ble_eq_true hb
    simp only [Nat.add_eq] at hb
    obtain ⟨ti, tu⟩ := hE.ty e Te hTe
    obtain ⟨m, m1, m2, m3, m4, m5⟩ := zeroM_ok (σ := σ) (V := V) hE hTe hz
    have hgr := grow_le hfit hb
    obtain ⟨cap, hcap, hch⟩ : ∃ cap, sLen + n ≤ cap ∧ (choose (.appendCap (sLen + n) sCap e)).run P w = .ok cap w.drew := by
      refine ⟨(sLen + n) + w.tape w.drawn (.appendCap (sLen + n) sCap e) % (2 ^ 63 - (sLen + n)), by omega, ?_⟩
      rw [run_choose_drew]
      simp [Question.forced, Question.cut]
    let cells : Array Value := ⟨embs σ old⟩ ++ ⟨embs σ c⟩ ++ Builtin.zeroCells (emb σ m).cells (cap - (sLen + n))
    have hzc : Builtin.zeroCells (emb σ m).cells (cap - (sLen + n)) = ⟨embs σ (List.replicate (cap - (sLen + n)) z).flatten⟩ := by
      unfold Builtin.zeroCells
      rw [m2]
      have hzs : (⟨embs σ z⟩ : Array Value).size = Te.info.size := by rw [embs_map]; simpa using m5
      have := rows_rep (σ := σ) (n := cap - (sLen + n)) m5
      rw [hzs] at this ⊢
      exact this
    have hcs : cells = ⟨embs σ (old ++ c ++ (List.replicate (cap - (sLen + n)) z).flatten)⟩ := by
      simp only [cells, hzc, embs_map, List.map_append]
      simp
    have hsz : cells.size = cap * Te.info.size := by
      rw [hcs, embs_map]
      simp only [List.size_toArray, List.length_map, List.length_append, ho3, hc3]
      simp [m5]
      rw [← Nat.add_mul, ← Nat.add_mul]
      congr 1
      omega
    have hblk : Blk (upd σ h.nx ⟨w.drew.heap.size, 0, cap⟩) (addV V h.nx) h.nx (w.drew.alloc (.cells cells e)) (.cells (old ++ c) e Te.info.size true) := by
      have hnV : ¬ V h.nx := fun hv => Nat.lt_irrefl _ (R.vx _ hv)
      have ha := agr_upd (V := V) σ ⟨w.drew.heap.size, 0, cap⟩ hnV
      have hoc : wfs σ V (old ++ c) := wfs_append.2 ⟨ho1, hc1⟩
      refine ⟨cells, (0, 0), by rw [upd_same]; exact heap_new _ _, wfs_agr ha (fun _ hx => .inl hx) _ hoc, ?_, fun i u hi => ?_, fun _ => ?_, .inl rfl⟩
      · rw [ones_iff]; intro u hu
        rcases List.mem_append.1 hu with hu | hu
        · exact (ones_iff _).1 ho2 u hu
        · exact (ones_iff _).1 hc2 u hu
      · rw [upd_same, emb_agr ha u ((wfs_iff _).1 hoc u (List.mem_of_getElem? hi)), hcs, embs_map]
        have hlt := (List.getElem?_eq_some_iff.1 hi).1
        simp only [Nat.zero_add, List.getElem?_toArray, List.getElem?_map]
        rw [List.getElem?_append_left hlt, hi]
        rfl
      · rw [upd_same, hsz]; simp
    refine Sim.new R.drew hW 0 cap hblk ⟨?_, ?_⟩
    · simp only [wf, upd_same]
      exact ⟨.inr rfl, by show 0 + (sLen + n) ≤ cap; omega⟩
    · unfold tailM
      dsimp only
      rw [if_neg (by omega)]
      rw [Sem.bind_ok (r_typeInfo ti w)]
      rw [if_neg (by
        rintro ⟨h1, -⟩
        simp only [IntKind.max, IntKind.signed, IntKind.bits] at h1
        simp at h1
        omega)]
      rw [Sem.bind_ok (r_typeInfo ti w)]
      rw [if_neg (by
        have : Builtin.nextslicecap (sLen + n) sCap * Te.info.bytes ≤ 8388608 * 65536 := Nat.mul_le_mul hgr hby
        omega)]
      rw [Sem.bind_ok hch, Sem.bind_ok (r_typeInfo ti _), Sem.bind_ok (run_askRoom (P := P) (w := w.drew) _), Sem.bind_ok (hold _ rfl), Sem.bind_ok happ, Sem.bind_ok (m1 _)]
      refine (Sem.bind_ok (r_newRow e _ _)).trans ?_
      simp only [Sem.run_pure, emb, upd_same]
      rfl
theorem tail_ok (hE : EnvOk E P) (R : Rel E.G B W0 σ V h w) (hW : ∀ k, B k → k < W0.heap.size) {e : TypeId} {Te : MT} (hTe : E.ty.get e = some Te) (hby : Te.info.bytes ≤ 65536)
    {z : List MV} (hz : zeroM Te = some z) {zeros : Bool} {base : Option Addr} {sLen sCap n : Nat} {s : MV} {x : Value} {App : Sem (Array Value)} {c : List MV} (s1 : wf σ V s) (hs : emb σ s = .slice base sLen sCap)
    (happ : ∀ w', (w' = w ∨ w' = w.drew) → App.run P w' = .ok ⟨embs σ c⟩ w') (hc1 : wfs σ V c) (hc2 : ones c = true) (hc3 : c.length = n * Te.info.size)
    {v : MV} {h' : MH} (ho : appTo E e Te.info.size s n c h = some (v, h')) :
    Sim E.G B W0 σ V h h' (fun σ' V' w' => wf σ' V' v ∧ (tailM e zeros base sLen sCap n Te.info.size (emb σ s) x App).run P w = .ok (emb σ' v) w') := by
  unfold appTo at ho
  split at ho
  · -- nil
    cases hs
    cases hb : Nat.beq n 0 with
    | true =>
      rw [hb] at ho
      cases ho
      have := Nat.eq_of_beq_eq_true hb
      subst this
      refine Sim.same rfl R ⟨trivial, ?_⟩
      unfold tailM
      dsimp only
      rw [if_pos (by omega), Sem.bind_ok (happ w (.inl rfl))]
      rfl
    | false =>
      rw [hb] at ho
      simp only [cond_false] at ho
      have hn : n ≠ 0 := fun e => by subst e; cases hb
      exact grow_ok hE R hW hTe hby hz (old := []) (by omega) (fun w' _ => rfl) trivial rfl (by simp) (happ _ (.inr rfl)) hc1 hc2 hc3 ho
  · -- a known capacity
    rename_i id off len cap
    simp only [emb, Value.slice.injEq] at hs
    obtain ⟨rfl, rfl, rfl⟩ := hs
    simp only [wf] at s1
    cases hb : Nat.ble (Nat.add len n) cap with
    | true =>
      rw [hb] at ho
      simp only [cond_true] at ho
      have hb := Nat.le_of_ble_eq_true hb
      simp only [Nat.add_eq] at hb
      split at ho
      · rename_i h1 hw
        cases ho
        obtain ⟨w', r1, r2, r3⟩ := writeCells_ok (P := P) R s1.1 hc1 hw
        refine Sim.same r3 r1 ⟨by simp only [wf]; exact ⟨s1.1, hb⟩, ?_⟩
        unfold tailM
        dsimp only
        rw [if_pos hb, Sem.bind_ok (happ w (.inl rfl))]
        dsimp only
        simp only [Nat.add_eq, Nat.mul_eq] at r2
        rw [Addr.add_lit, Nat.add_assoc]
        rw [Sem.bind_ok r2]
        rfl
      · cases ho
    | false =>
      rw [hb] at ho
      simp only [cond_false] at ho
      have hb : ¬ len + n ≤ cap := fun hle => by
        have : Nat.ble (Nat.add len n) cap = true := Nat.ble_eq_true_of_le hle
        rw [this] at hb; cases hb
      split at ho
      · rename_i old hr
        obtain ⟨r1, r2, r3, r4⟩ := readCells_ok R s1.1 hr
        have r4' := (readCells_ok R.drew s1.1 hr).2.2.2
        refine grow_ok hE R hW hTe hby hz (old := old) (by omega) (fun w' hw' => ?_) r1 r2 r3 (happ _ (.inr rfl)) hc1 hc2 hc3 ho
        subst hw'
        have := loadCells_ok (P := P) r4'
        rw [r3] at this
        exact this
      · cases ho
  · -- an open one
    rename_i id off l len
    simp only [emb, Value.slice.injEq] at hs
    obtain ⟨rfl, rfl, rfl⟩ := hs
    simp only [wf] at s1
    cases hb : Nat.beq n 0 with
    | true =>
      rw [hb] at ho
      cases ho
      have := Nat.eq_of_beq_eq_true hb
      subst this
      have hcn : c = [] := List.eq_nil_of_length_eq_zero (by simpa using hc3)
      subst hcn
      refine Sim.same rfl R ⟨by simp only [wf]; exact s1, ?_⟩
      unfold tailM
      dsimp only
      rw [if_pos (by omega), Sem.bind_ok (happ w (.inl rfl))]
      rfl
    | false =>
      rw [hb] at ho
      simp only [cond_false] at ho
      have hn : n ≠ 0 := fun e => by subst e; cases hb
      split at ho
      · rename_i cs t' es' hg
        cases hc : (and (Nat.ble E.G.ro id) (and (Nat.beq es' Te.info.size) (and (Nat.beq off (Nat.mul l Te.info.size)) (Nat.beq t' e)))) with
        | false => rw [hc] at ho; cases ho
        | true =>
          rw [hc] at ho
          simp only [cond_true] at ho
          obtain ⟨k1, k2⟩ := and2 hc
          obtain ⟨k2, k3⟩ := and2 k2
          obtain ⟨k3, k4⟩ := and2 k3
          have g4 := Nat.eq_of_beq_eq_true k4
          have g1 := Nat.le_of_ble_eq_true k1
          have g2 := Nat.eq_of_beq_eq_true k2
          have g3 := Nat.eq_of_beq_eq_true k3
          simp only [Nat.mul_eq] at g3
          clear k1 k2 k3 k4 hc
          subst g2
          subst g4
          split at ho
          · rename_i old hr
            have hrd : readCells h id off (Nat.mul len Te.info.size) = some old := by unfold readCells; rw [hg]; exact hr
            obtain ⟨r1, r2, r3, r4⟩ := readCells_ok R s1.1 hrd
            have r4' := (readCells_ok R.drew s1.1 hrd).2.2.2
            by_cases hfit : len + n ≤ (σ id).cap - l
            · -- it goes on in its row
              unfold appFresh at ho
              cases hb2 : Nat.ble (Nat.add len n) 1048576 with
              | false => rw [hb2] at ho; cases ho
              | true =>
                rw [hb2] at ho
                cases ho
                obtain ⟨c0, fz, b1, b2, b3, b4, b5, b6⟩ := R.blk id _ s1.1 hg
                have b5 := b5 rfl
                have hlen : (embs σ c).length = n * Te.info.size := by rw [embs_map]; simpa using hc3
                have hroom : (σ id).off + off + len * Te.info.size + n * Te.info.size ≤ c0.size := by
                  have h2 : (l + len + n) * Te.info.size ≤ (σ id).cap * Te.info.size := Nat.mul_le_mul_right _ (by omega)
                  rw [Nat.add_mul, Nat.add_mul, ← g3] at h2
                  omega
                have hst := storeCells_run (P := P) (b := (σ id).blk) (o := (σ id).off + off + len * Te.info.size) (embs σ c) 0 c0 w b1 b6 (by rw [hlen]; omega) (fun u hu => by
                  rw [embs_map] at hu
                  obtain ⟨u', hu', rfl⟩ := List.mem_map.1 hu
                  exact one_emb σ ((ones_iff _).1 hc2 u' hu'))
                simp only [Nat.add_zero] at hst
                have hls := lsets_get ((σ id).off + off + len * Te.info.size) (embs σ c) c0.toList (by rw [hlen]; simpa using hroom)
                have hnV : ¬ V h.nx := fun hv => Nat.lt_irrefl _ (R.vx _ hv)
                have ha := agr_upd (V := V) σ ⟨(σ id).blk, (σ id).off + off, (σ id).cap - l⟩ hnV
                have hoc : wfs σ V (old ++ c) := wfs_append.2 ⟨r1, hc1⟩
                have hblk : Blk (upd σ h.nx ⟨(σ id).blk, (σ id).off + off, (σ id).cap - l⟩) (addV V h.nx) h.nx
                    (w.putObj (σ id).blk (.cells ⟨lsets ((σ id).off + off + len * Te.info.size) (embs σ c) c0.toList⟩ t' fz)) (.cells (old ++ c) t' Te.info.size true) := by
                  refine ⟨_, fz, by rw [upd_same]; exact World.putObj_heap_same (R.lt s1.1 hg rfl), wfs_agr ha (fun _ hx => .inl hx) _ hoc, ?_, fun i u hi => ?_, fun _ => ?_, ?_⟩
                  · rw [ones_iff]; intro u hu
                    rcases List.mem_append.1 hu with hu | hu
                    · exact (ones_iff _).1 r2 u hu
                    · exact (ones_iff _).1 hc2 u hu
                  · rw [upd_same, emb_agr ha u ((wfs_iff _).1 hoc u (List.mem_of_getElem? hi))]
                    dsimp only
                    rw [List.getElem?_toArray, hls.2, hlen]
                    have r3' : old.length = len * Te.info.size := r3
                    by_cases hi2 : i < old.length
                    · rw [List.getElem?_append_left hi2] at hi
                      rw [if_neg (by omega), Array.getElem?_toList]
                      have := r4 i u hi
                      simp only [World.cell?, b1] at this
                      simpa using this
                    · rw [List.getElem?_append_right (by omega)] at hi
                      have hlt := (List.getElem?_eq_some_iff.1 hi).1
                      rw [if_pos (by omega), embs_map, List.getElem?_map, show (σ id).off + off + i - ((σ id).off + off + len * Te.info.size) = i - old.length by omega, hi]
                      rfl
                  · rw [upd_same]
                    simp only [List.size_toArray, hls.1, Array.length_toList]
                    have h2 : l * Te.info.size + ((σ id).cap - l) * Te.info.size = (σ id).cap * Te.info.size := by rw [← Nat.add_mul]; congr 1; omega
                    omega
                  · simp only [List.size_toArray, hls.1, Array.length_toList]
                    exact b6
                refine ⟨_, _, _, ha, fun _ hx => .inl hx, fun k hx => hx.imp (fun x => x) (fun e => Nat.le_of_eq e.symm), Nat.le_succ _, R.take s1.1 hg rfl g1 _ _ _ hblk, ?_, ?_⟩
                · simp only [wf, MH.nx_set, upd_same]
                  exact ⟨.inr rfl, by show 0 + (len + n) ≤ _; omega⟩
                · unfold tailM
                  dsimp only
                  rw [if_pos hfit, Sem.bind_ok (happ w (.inl rfl))]
                  dsimp only
                  rw [Addr.add_lit, Sem.bind_ok hst]
                  simp only [Sem.run_pure, emb, MH.nx_set, upd_same, Nat.add_zero, Nat.sub_zero]
                  rfl
            · have hgrow := grow_ok (zeros := zeros) (base := some ⟨(σ id).blk, (σ id).off + off, none⟩) (sCap := (σ id).cap - l) (x := x) hE (R.kill hg) hW hTe hby hz (old := old) (s := emb σ (.slo id off l len)) (by omega) (fun w' hw' => by
                subst hw'
                have := loadCells_ok (P := P) r4'
                rw [r3] at this
                exact this) r1 r2 r3 (happ _ (.inr rfl)) hc1 hc2 hc3 ho
              exact hgrow
          · cases ho
      · cases ho
  · cases ho
end ops
end Go.Mini
/- The evaluator's operations against the model's: appends; all that writes. -/
namespace Go.Mini
variable [O : Opq]
open Go.RowKit
section ops
variable {E : Env} {P : Program} {B : Nat → Prop} {W0 : World} {σ : Sg} {V : Nat → Prop} {h : MH} {w : World} {ev : Ev} {ρ : Operand → Value}
theorem appTo_slice {e : TypeId} {es n : Nat} {s : MV} {c : List MV} {r : MV × MH} (ho : appTo E e es s n c h = some r) : ∃ a m cp, emb σ s = .slice a m cp := by
  cases s <;> simp only [appTo] at ho <;> first | (cases ho; done) | exact ⟨_, _, _, rfl⟩
theorem sliceCells_len (R : Rel E.G B W0 σ V h w) {es n : Nat} {x : MV} {c : List MV} (x1 : wf σ V x) (hn : lenM h x = some n) (hc : sliceCells es h x = some c) : c.length = n * es := by
  cases x <;> simp only [sliceCells] at hc <;> simp only [lenM] at hn <;> first | (cases hc; done) | skip
  · cases hc; cases hn; simp
  · cases hn
    simp only [wf] at x1
    exact (readCells_ok R x1.1 hc).2.2.1
  · cases hn
    simp only [wf] at x1
    exact (readCells_ok R x1.1 hc).2.2.1
  · cases hc; cases hn; simp
theorem append_ok (hE : EnvOk E P) (R : Rel E.G B W0 σ V h w) (hW : ∀ k, B k → k < W0.heap.size) {ats : Array TypeId} {ty : TypeId} {s x : MV} (s1 : wf σ V s) (x1 : wf σ V x) {v : MV} {h' : MH}
    (ho : appendM E ats.toList s x h = some (v, h')) : Sim E.G B W0 σ V h h' (fun σ' V' w' => wf σ' V' v ∧ (Builtin.append_ ats ty ⟨[emb σ s, emb σ x]⟩).run P w = .ok (emb σ' v) w') := by
  unfold appendM at ho
  split at ho
  · rename_i st xt hst hxt
    rw [lget_arr] at hst hxt
    split at ho
    · rename_i S X hS hX
      have uS := (hE.ty st S hS).2
      have uX := (hE.ty xt X hX).2
      split at ho
      · rename_i e hd
        rw [hd] at uS
        split at ho
        · cases ho
        · rename_i Te hTe
          obtain ⟨ti, tu⟩ := hE.ty e Te hTe
          cases hc : (and (Nat.blt 0 Te.info.size) (Nat.ble Te.info.bytes 65536)) with
          | false => rw [hc] at ho; cases ho
          | true =>
            rw [hc] at ho
            simp only [cond_true] at ho
            obtain ⟨c1, c2⟩ := and2 hc
            have c1 := blt_lt c1
            have c2 := Nat.le_of_ble_eq_true c2
            split at ho
            · rename_i n c z hsrc hz
              obtain ⟨a, m, cp, hse⟩ := appTo_slice (σ := σ) ho
              obtain ⟨mz, m1, m2, m3, m4, m5⟩ := zeroM_ok (σ := σ) (V := V) hE hTe hz
              -- down to the second half
              have pre : ∀ (zeros : Bool) (App : Sem (Array Value)),
                  (∀ w' u, (tailM e zeros a m cp n Te.info.size (emb σ s) (emb σ x) App).run P w = .ok u w' → (Builtin.append_ ats ty ⟨[emb σ s, emb σ x]⟩).run P w = .ok u w') →
                  (∀ w', (w' = w ∨ w' = w.drew) → App.run P w' = .ok ⟨embs σ c⟩ w') → wfs σ V c → ones c = true → c.length = n * Te.info.size →
                  Sim E.G B W0 σ V h h' (fun σ' V' w' => wf σ' V' v ∧ (Builtin.append_ ats ty ⟨[emb σ s, emb σ x]⟩).run P w = .ok (emb σ' v) w') := by
                intro zeros App hpre happ hc1 hc2 hc3
                refine (tail_ok (zeros := zeros) (x := emb σ x) hE R hW hTe c2 hz s1 hse happ hc1 hc2 hc3 ho).mono ?_
                exact fun _ _ w' _ _ hk => ⟨hk.1, hpre w' _ hk.2⟩
              unfold appSrc at hsrc
              split at hsrc
              · -- zeros
                rename_i kx hdx
                rw [hdx] at uX
                split at hsrc
                · rename_i k nn z' hz'
                  rw [hz] at hz'; cases hz'
                  cases hb : Nat.ble nn 1048576 with
                  | false => rw [hb] at hsrc; cases hsrc
                  | true =>
                    rw [hb] at hsrc
                    cases hsrc
                    have hb := Nat.le_of_ble_eq_true hb
                    have hw : IntKind.i64.wrap (Int.ofNat n) = (n : Int) := wrap_small (by omega)
                    have hmul : n * Te.info.bytes ≤ 1048576 * 65536 := Nat.mul_le_mul hb c2
                    have happ0 : ∀ w' : World, (if n * Te.info.size = 0 then pure #[] else do pure (Builtin.zeroCells (← zeroValue e).cells n) : Sem (Array Value)).run P w' = .ok ⟨embs σ (lrep n z)⟩ w' := by
                      intro w'
                      rw [lrep_eq]
                      by_cases h0 : n * Te.info.size = 0
                      · rw [if_pos h0]
                        have : (List.replicate n z).flatten = [] := List.eq_nil_of_length_eq_zero (by simp [m5, h0])
                        rw [this]; rfl
                      · rw [if_neg h0, Sem.bind_ok (m1 w'), m2]
                        simp only [Sem.run_pure, Builtin.zeroCells]
                        congr 1
                        have hzs : (⟨embs σ z⟩ : Array Value).size = Te.info.size := by rw [embs_map]; simpa using m5
                        have := rows_rep (σ := σ) (n := n) m5
                        rw [hzs] at this ⊢
                        exact this
                    refine pre true (if n * Te.info.size = 0 then pure #[] else do pure (Builtin.zeroCells (← zeroValue e).cells n)) (fun w' u hu => ?_) (fun w' _ => happ0 w') (by rw [lrep_eq]; exact wfs_rep m3) (by rw [lrep_eq]; exact ones_rep m4) (by rw [lrep_eq]; simp [m5])
                    unfold Builtin.append_
                    simp only [hst, hxt]
                    rw [show ((⟨[emb σ s, emb σ (.int k (.ofNat n))]⟩ : Array Value)[0]? : Option Value) = some (emb σ s) from rfl, show ((⟨[emb σ s, emb σ (.int k (.ofNat n))]⟩ : Array Value)[1]? : Option Value) = some (.int k (.ofNat n)) from rfl]
                    dsimp only
                    rw [Sem.bind_ok (r_und uS w)]
                    dsimp only
                    rw [hse]
                    dsimp only
                    rw [Sem.bind_ok (r_size ti w), Sem.bind_ok (r_und uX w)]
                    simp only [asInt, asIntOf, pure_bind, hw, if_true]
                    rw [if_neg (by omega), Sem.bind_ok (r_typeInfo ti w)]
                    rw [if_neg (by
                      have : ((n : Int) * (Te.info.bytes : Int)) = ((n * Te.info.bytes : Nat) : Int) := by simp
                      rw [this]; omega)]
                    simp only [Int.toNat_natCast]
                    rw [hse] at hu
                    unfold tailM at hu
                    simp only [Bool.not_true, Bool.false_eq_true, if_false, if_true, true_or, and_true] at hu ⊢
                    exact hu
                · cases hsrc
              · -- other slices, strings
                rename_i hni
                have hcs : copySrc Te.info.size n h x = some c ∧ lenM h x = some n ∧ (∀ id, x ≠ .mp id) ∧ x ≠ .nilM ∧ c.length = n * Te.info.size := by
                  split at hsrc
                  · rename_i b
                    cases hb : Nat.beq Te.info.size 1 with
                    | false => rw [hb] at hsrc; cases hsrc
                    | true =>
                      rw [hb] at hsrc
                      cases hsrc
                      have hb := Nat.eq_of_beq_eq_true hb
                      refine ⟨?_, rfl, (fun id hid => by cases hid), (fun hid => by cases hid), ?_⟩
                      · unfold copySrc
                        dsimp only
                        rw [llen_eq, ltake_eq, if_pos (by simp)]
                        simp
                      · rw [llen_eq, hb, ofBytes_eq]; simp
                  · rename_i hns
                    split at hsrc
                    · rename_i n' c' hn' hc'
                      cases hsrc
                      have hl := sliceCells_len R x1 hn' hc'
                      refine ⟨?_, hn', ?_, ?_, hl⟩
                      · unfold copySrc
                        split
                        · exact absurd rfl (hns _)
                        · rw [hc']
                          dsimp only
                          rw [ltake_eq, if_pos (by rw [hl]; exact Nat.le_refl _)]
                          rw [List.take_of_length_le (by rw [hl]; exact Nat.le_refl _)]
                      · rintro id rfl; simp [sliceCells] at hc'
                      · rintro rfl; simp [sliceCells] at hc'
                    · cases hsrc
                obtain ⟨k1, k2, k3, k4, k5⟩ := hcs
                obtain ⟨f1, f2, f3⟩ := firstCells_ok (P := P) R x1 k1 (fun q hq => by rw [k2] at hq; cases hq; exact Nat.le_refl _)
                obtain ⟨-, -, f3'⟩ := firstCells_ok (P := P) R.drew x1 k1 (fun q hq => by rw [k2] at hq; cases hq; exact Nat.le_refl _)
                refine pre false (Builtin.firstCells Te.info.size n (emb σ x)) (fun w' u hu => ?_) (fun w' hw' => by rcases hw' with rfl | rfl; exact f3; exact f3') f1 f2 k5
                have hln := lenOf_ok (P := P) (σ := σ) (w := w) k2 k3 k4
                unfold Builtin.append_
                simp only [hst, hxt]
                rw [show ((⟨[emb σ s, emb σ x]⟩ : Array Value)[0]? : Option Value) = some (emb σ s) from rfl, show ((⟨[emb σ s, emb σ x]⟩ : Array Value)[1]? : Option Value) = some (emb σ x) from rfl]
                dsimp only
                rw [Sem.bind_ok (r_und uS w)]
                dsimp only
                rw [hse]
                dsimp only
                rw [Sem.bind_ok (r_size ti w), Sem.bind_ok (r_und uX w)]
                rw [hse] at hu
                have hz0 : (pure (match X.und with | .int _ => true | _ => false) : Sem Bool).run P w = .ok false w := by
                  split
                  · rename_i kk hk; exact absurd hk (hni kk)
                  · rfl
                refine (Sem.bind_ok hz0).trans ?_
                · rw [if_neg Bool.false_ne_true, Sem.bind_ok hln]
                  exact hu
            · cases ho
      · cases ho
    · cases ho
  · cases ho
end ops
end Go.Mini
/- The evaluator's operations against the model's: all that writes; calls. -/
namespace Go.Mini
variable [O : Opq]
open Go.RowKit
section ops
variable {E : Env} {P : Program} {B : Nat → Prop} {W0 : World} {σ : Sg} {V : Nat → Prop} {h : MH} {w : World} {ev : Ev} {ρ : Operand → Value}
omit O in
theorem vR_upd {o : Option MV} {v : MV} {h' : MH} (ho : vR o = some (.upd v h')) : False := ov_upd (onlyVal_vR _) ho
omit O in
theorem newR_upd {o : Option (NewK × MB)} {v : MV} {h' : MH} (ho : newR o = some (.upd v h')) : False := by
  unfold newR at ho; split at ho <;> cases ho
theorem builtin_resolve {c : Call} {b : Builtin} {t : TypeId} {args : List MV} (hb : c.callee = .builtin b) (ha : c.args.map ρ = ⟨embs σ args⟩) :
    (resolve ρ c t).run P w = .ok { target := .builtin b c.argTypes t (c.args.map fun | .const _ => true | _ => false), args := ⟨embs σ args⟩ } w := by
  unfold resolve; simp only [hb, ha]; rfl
theorem upd_ok (hE : EnvOk E P) (R : Rel E.G B W0 σ V h w) (hW : ∀ k, B k → k < W0.heap.size) (hev : EvR σ V ev ρ) (o : Oper) {v : MV} {h' : MH} (ho : mop E ev o.op h = some (.upd v h')) :
    Sim E.G B W0 σ V h h' (UpdK P ρ o w v) := by
  cases hop : o.op <;> rw [hop] at ho <;> simp only [mop] at ho <;> first | (cases ho; done) | exact (vR_upd ho).elim | exact (newR_upd ho).elim | skip
  case pick => exact (ov_upd (ov_pick _ _ _) ho).elim
  case build => exact (ov_upd (ov_build _ _) ho).elim
  case load => exact (ov_upd (ov_load _ _) ho).elim
  case nilCheck => exact (ov_upd (ov_nilCheck _) ho).elim
  case binOp => exact (ov_upd (ov_bin _ _ _ _) ho).elim
  case unOp => exact (ov_upd (ov_un _ _) ho).elim
  case makeFunc => exact (ov_upd (ov_makeFunc _ _ _) ho).elim
  case slice => exact (ov_upd (ov_slice _ _ _ _ _) ho).elim
  case fieldAddr => exact (ov_upd (ov_fieldAddr _ _ _) ho).elim
  case field => exact (ov_upd (ov_field _ _ _) ho).elim
  case indexAddr => exact (ov_upd (ov_indexAddr _ _ _) ho).elim
  case index => exact (ov_upd (ov_index _ _ _) ho).elim
  case lookup => exact (ov_upd (ov_lookup _ _ _ _) ho).elim
  case extract => exact (ov_upd (ov_extract _ _) ho).elim
  case convert s d x => exact conv_upd hE R hW hev hop ho
  case store t x y =>
    obtain ⟨v', h'', e1, e2⟩ := updR_some ho
    cases e2
    exact store_ok hE R hev hop e1
  case range t x =>
    obtain ⟨v', h'', e1, e2⟩ := updR_some ho
    cases e2
    exact range_ok hE R hW hev hop e1
  case next it s =>
    obtain ⟨v', h'', e1, e2⟩ := updR_some ho
    cases e2
    exact upd_next R hev hop e1
  case mapUpdate t m k x =>
    obtain ⟨v', h'', e1, e2⟩ := updR_some ho
    cases e2
    obtain ⟨w', r1, r2, rfl, r4⟩ := update_ok hE R hev e1
    refine Sim.same r2 r1 ⟨wf_undef, .inr ⟨rfl, ?_⟩⟩
    unfold execOp; simp only [hop]
    exact run_unit r4
  case insert t m k x =>
    obtain ⟨v', h'', e1, e2⟩ := updR_some ho
    cases e2
    obtain ⟨w', r1, r2, rfl, r4⟩ := update_ok hE R hev e1
    refine Sim.same r2 r1 ⟨wf_undef, .inr ⟨rfl, ?_⟩⟩
    unfold execOp; simp only [hop]
    exact run_unit r4
  case call c =>
    obtain ⟨args, ha, hcase⟩ := call_forms ho
    obtain ⟨a1, a2⟩ := args_ok hev ha
    rcases hcase with ⟨u, e⟩ | ⟨x, y, u, h2, hb, rfl, e, hm⟩ | ⟨x, y, u, h2, hb, rfl, e, hm⟩ | ⟨x, y, t, u, h2, hb, rfl, e, ht, hm⟩ | ⟨f, g, a, b, -, -, -, e⟩ | ⟨f, l, -, -, e⟩
    · cases e
    · cases e
      simp only [wfs] at a1
      refine (append_ok (ty := o.type) hE R hW a1.1 a1.2.1 hm).mono ?_
      rintro σ' V' w' - - ⟨k1, k2⟩
      refine ⟨k1, .inl ?_⟩
      unfold execOp; simp only [hop]
      rw [Sem.bind_ok (builtin_resolve (σ := σ) hb a2)]
      exact run_value k2
    · cases e
      simp only [wfs] at a1
      obtain ⟨w', r1, r2, r3, r4⟩ := copy_ok (ty := o.type) hE R a1.1 a1.2.1 hm
      refine Sim.same r2 r1 ⟨r3, .inl ?_⟩
      unfold execOp; simp only [hop]
      rw [Sem.bind_ok (builtin_resolve (σ := σ) hb a2)]
      exact run_value r4
    · cases e
      simp only [wfs] at a1
      rw [lget_arr] at ht
      obtain ⟨w', r1, r2, rfl, r4⟩ := delete_ok (ty := o.type) hE R ht a1.1 a1.2.1 hm
      refine Sim.same r2 r1 ⟨wf_undef, .inl ?_⟩
      unfold execOp; simp only [hop]
      rw [Sem.bind_ok (builtin_resolve (σ := σ) hb a2)]
      exact run_value r4
    · cases e
    · cases e
omit O in
theorem notCall_enter {f : FuncId} {args : List MV} {o : Op} (ho : mop E ev o h = some (.enter f args)) : ∃ c, o = .call c ∧ oCall E ev c h = some (.enter f args) := by
  have no1 : ∀ {x : Option MR}, OnlyVal x → x = some (.enter f args) → False := fun hv hx => by obtain ⟨v, e⟩ := hv _ hx; cases e
  have no2 : ∀ {x : Option (MV × MH)}, updR x = some (.enter f args) → False := fun hx => by obtain ⟨_, _, _, e⟩ := updR_some hx; cases e
  have no3 : ∀ {x : Option (NewK × MB)}, newR x = some (.enter f args) → False := fun {x} hx => by unfold newR at hx; split at hx <;> cases hx
  cases o <;> simp only [mop] at ho <;> first | (cases ho; done) | exact (no2 ho).elim | exact (no3 ho).elim | exact (no1 (onlyVal_vR _) ho).elim | exact ⟨_, rfl, ho⟩ | skip
  case pick => exact (no1 (ov_pick _ _ _) ho).elim
  case build => exact (no1 (ov_build _ _) ho).elim
  case load => exact (no1 (ov_load _ _) ho).elim
  case nilCheck => exact (no1 (ov_nilCheck _) ho).elim
  case binOp => exact (no1 (ov_bin _ _ _ _) ho).elim
  case unOp => exact (no1 (ov_un _ _) ho).elim
  case makeFunc => exact (no1 (ov_makeFunc _ _ _) ho).elim
  case slice => exact (no1 (ov_slice _ _ _ _ _) ho).elim
  case fieldAddr => exact (no1 (ov_fieldAddr _ _ _) ho).elim
  case field => exact (no1 (ov_field _ _ _) ho).elim
  case indexAddr => exact (no1 (ov_indexAddr _ _ _) ho).elim
  case index => exact (no1 (ov_index _ _ _) ho).elim
  case lookup => exact (no1 (ov_lookup _ _ _ _) ho).elim
  case extract => exact (no1 (ov_extract _ _) ho).elim
  case convert => rcases conv_forms ho with ⟨v, e⟩ | ⟨S, D, e, T, b, -, -, -, -, -, -, -, e⟩ | ⟨S, D, e1, e2, T, xv, -, -, -, -, -, -, -, -, hm⟩ <;> first | cases e | (obtain ⟨_, _, _, _, _, _, _, _, -, -, -, e⟩ := markM_upd hm; cases e)
omit O in
theorem notCall_round {l : Nat} {args : List MV} {o : Op} (ho : mop E ev o h = some (.round l args)) : ∃ c, o = .call c ∧ oCall E ev c h = some (.round l args) := by
  have no1 : ∀ {x : Option MR}, OnlyVal x → x = some (.round l args) → False := fun hv hx => by obtain ⟨v, e⟩ := hv _ hx; cases e
  have no2 : ∀ {x : Option (MV × MH)}, updR x = some (.round l args) → False := fun hx => by obtain ⟨_, _, _, e⟩ := updR_some hx; cases e
  have no3 : ∀ {x : Option (NewK × MB)}, newR x = some (.round l args) → False := fun {x} hx => by unfold newR at hx; split at hx <;> cases hx
  cases o <;> simp only [mop] at ho <;> first | (cases ho; done) | exact (no2 ho).elim | exact (no3 ho).elim | exact (no1 (onlyVal_vR _) ho).elim | exact ⟨_, rfl, ho⟩ | skip
  case pick => exact (no1 (ov_pick _ _ _) ho).elim
  case build => exact (no1 (ov_build _ _) ho).elim
  case load => exact (no1 (ov_load _ _) ho).elim
  case nilCheck => exact (no1 (ov_nilCheck _) ho).elim
  case binOp => exact (no1 (ov_bin _ _ _ _) ho).elim
  case unOp => exact (no1 (ov_un _ _) ho).elim
  case makeFunc => exact (no1 (ov_makeFunc _ _ _) ho).elim
  case slice => exact (no1 (ov_slice _ _ _ _ _) ho).elim
  case fieldAddr => exact (no1 (ov_fieldAddr _ _ _) ho).elim
  case field => exact (no1 (ov_field _ _ _) ho).elim
  case indexAddr => exact (no1 (ov_indexAddr _ _ _) ho).elim
  case index => exact (no1 (ov_index _ _ _) ho).elim
  case lookup => exact (no1 (ov_lookup _ _ _ _) ho).elim
  case extract => exact (no1 (ov_extract _ _) ho).elim
  case convert => rcases conv_forms ho with ⟨v, e⟩ | ⟨S, D, e, T, b, -, -, -, -, -, -, -, e⟩ | ⟨S, D, e1, e2, T, xv, -, -, -, -, -, -, -, -, hm⟩ <;> first | cases e | (obtain ⟨_, _, _, _, _, _, _, _, -, -, -, e⟩ := markM_upd hm; cases e)
theorem enter_ok (hE : EnvOk E P) (hev : EvR σ V ev ρ) (o : Oper) {f : FuncId} {args : List MV} (ho : mop E ev o.op h = some (.enter f args)) (w : World) :
    E.ext f = none ∧ wfs σ V args ∧ ∀ F, E.fns.get f = some F → F.body.isSome = true → (execOp ρ o).run P w = .ok (.enter f ⟨embs σ args⟩) w := by
  obtain ⟨c, hop, hc⟩ := notCall_enter ho
  obtain ⟨argz, ha, hcase⟩ := call_forms hc
  obtain ⟨a1, a2⟩ := args_ok hev ha
  rcases hcase with ⟨u, e⟩ | ⟨x, y, u, h2, -, -, e, -⟩ | ⟨x, y, u, h2, -, -, e, -⟩ | ⟨x, y, t, u, h2, -, -, e, -⟩ | ⟨fo, g, a, b, hcl, hf, hg, e⟩ | ⟨fo, l, -, -, e⟩ <;> cases e
  obtain ⟨f1, f2⟩ := hev fo _ hf
  simp only [wf] at f1
  refine ⟨hg, wfs_append.2 ⟨wfs_append.2 ⟨f1.1, a1⟩, f1.2⟩, fun F hF hb => ?_⟩
  obtain ⟨hF1, hF2⟩ := hE.fns f F hF
  unfold execOp; simp only [hop]
  have hres : (resolve ρ c o.type).run P w = .ok { target := .fn (.func f) ⟨embs σ b⟩, args := ⟨embs σ a⟩ ++ ⟨embs σ argz⟩ } w := by
    unfold resolve; simp only [hcl, a2, f2, emb, Deferred.ofValue]; rfl
  rw [Sem.bind_ok hres]
  unfold invoke callFunc
  simp only []
  rw [Sem.bind_ok (show (program).run P w = .ok P w from rfl), hF1]
  simp only []
  rw [if_neg (by simpa using hF2), if_neg (by simp [Option.isNone_iff_eq_none]; intro e; rw [e] at hb; cases hb)]
  simp only [Sem.run_pure]
  congr 2
  rw [← Array.toList_inj]
  simp [embs_map]
theorem round_is (hev : EvR σ V ev ρ) (o : Oper) {l : Nat} {args : List MV} (ho : mop E ev o.op h = some (.round l args)) (w : World) :
    V l ∧ wfs σ V args ∧ (execOp ρ o).run P w = (Instr.yield (σ l).blk ⟨embs σ args⟩).run P w := by
  obtain ⟨c, hop, hc⟩ := notCall_round ho
  obtain ⟨argz, ha, hcase⟩ := call_forms hc
  obtain ⟨a1, a2⟩ := args_ok hev ha
  rcases hcase with ⟨u, e⟩ | ⟨x, y, u, h2, -, -, e, -⟩ | ⟨x, y, u, h2, -, -, e, -⟩ | ⟨x, y, t, u, h2, -, -, e, -⟩ | ⟨fo, g, a, b, -, -, -, e⟩ | ⟨fo, l', hcl, hf, e⟩ <;> cases e
  obtain ⟨f1, f2⟩ := hev fo _ hf
  simp only [wf] at f1
  refine ⟨f1, a1, ?_⟩
  unfold execOp; simp only [hop]
  have hres : (resolve ρ c o.type).run P w = .ok { target := .fn (.yield (σ l).blk) #[], args := #[] ++ ⟨embs σ args⟩ } w := by
    unfold resolve; simp only [hcl, a2, f2, emb, Deferred.ofValue]; rfl
  rw [Sem.bind_ok hres]
  unfold invoke
  simp
end ops
end Go.Mini
/- The evaluator's code against the model's: activations, calls, regions in their given order, statements. -/
namespace Go.Mini
variable [O : Opq]
open Go.RowKit
def markOf (σ : Sg) (d : Nat) : Deferred := { target := .collected (σ d).blk, args := #[] }
structure ActR (σ : Sg) (V : Nat → Prop) (m : MA) (a : Act) : Prop where
  tm : TmR σ V m.tmps m.nt a.tmps
  df : a.defers = m.defs.map (markOf σ)
  dv : ∀ d ∈ m.defs, V d
theorem ActR.agr {V V' : Nat → Prop} {σ σ' : Sg} {m : MA} {a : Act} (h : Agr V σ σ') (hV : ∀ id, V id → V' id) (ha : ActR σ V m a) : ActR σ' V' m a :=
  ⟨ha.tm.agr h hV, by rw [ha.df]; exact List.map_congr_left fun d hd => by simp only [markOf, h d (ha.dv d hd)], fun d hd => hV d (ha.dv d hd)⟩
theorem ActR.put {σ : Sg} {V : Nat → Prop} {m : MA} {a : Act} (ha : ActR σ V m a) (dst : Option Tmp) {v : MV} (hv : wf σ V v) : ActR σ V (m.put dst v) (a.put dst (emb σ v)) := by
  cases dst with
  | none => exact ha
  | some d =>
    unfold MA.put Act.put
    cases hb : Nat.blt d m.nt with
    | true =>
      simp only [hb, cond_true]
      have hlt := blt_lt hb
      refine ⟨⟨by simpa using ha.tm.size, fun k u hk => ?_⟩, ha.df, ha.dv⟩
      rw [Tr.get_put] at hk
      split at hk
      · rename_i e
        cases hk
        refine ⟨hv, ?_⟩
        rw [e, Array.getElem?_setIfInBounds, if_pos rfl, if_pos (by rw [ha.tm.size]; exact hlt)]
      · rename_i e
        obtain ⟨h1, h2⟩ := ha.tm.cell k u hk
        exact ⟨h1, by rw [Array.getElem?_setIfInBounds_ne (Ne.symm e)]; exact h2⟩
    | false =>
      simp only [hb, cond_false]
      have hge : ¬ d < m.nt := fun hlt => by rw [lt_blt hlt] at hb; cases hb
      have : a.tmps.setIfInBounds d (emb σ v) = a.tmps := by
        apply Array.ext_getElem?
        intro i
        rw [Array.getElem?_setIfInBounds]
        split
        · rename_i e
          subst e
          rw [if_neg (by rw [ha.tm.size]; exact hge)]
          rw [Array.getElem?_eq_none (by rw [ha.tm.size]; exact Nat.le_of_not_lt hge)]
        · rfl
      exact ⟨by rw [this]; exact ha.tm, ha.df, ha.dv⟩
def After (G : GB) (B : Nat → Prop) (W0 : World) (σ : Sg) (V : Nat → Prop) (h h' : MH) (w' : World) (K : Sg → (Nat → Prop) → Prop) : Prop :=
  ∃ σ' V', Agr V σ σ' ∧ (∀ id, V id → V' id) ∧ (∀ id, V' id → V id ∨ h.nx ≤ id) ∧ h.nx ≤ h'.nx ∧ Rel G B W0 σ' V' h' w' ∧ K σ' V'
theorem After.trans {G : GB} {B : Nat → Prop} {W0 : World} {σ σ' : Sg} {V V' : Nat → Prop} {h h' h'' : MH} {w' : World} {K : Sg → (Nat → Prop) → Prop}
    (h1 : Agr V σ σ') (h2 : ∀ id, V id → V' id) (h3 : ∀ id, V' id → V id ∨ h.nx ≤ id) (h4 : h.nx ≤ h'.nx) (ha : After G B W0 σ' V' h' h'' w' K) : After G B W0 σ V h h'' w' K := by
  obtain ⟨σ2, V2, g1, g2, g3, g4, g5, g6⟩ := ha
  refine ⟨σ2, V2, h1.trans h2 g1, fun id hid => g2 id (h2 id hid), fun id hid => ?_, Nat.le_trans h4 g4, g5, g6⟩
  rcases g3 id hid with h | h
  · exact h3 id h
  · exact .inr (Nat.le_trans h4 h)
def EndK (G : GB) (B : Nat → Prop) (W0 : World) (σ : Sg) (V : Nat → Prop) (h h' : MH) (v : MV) : Ending → World → Prop :=
  fun e w' => After G B W0 σ V h h' w' fun σ' V' => wf σ' V' v ∧ e = .returned (emb σ' v)
def fence : Option Nat → Fence
  | none => Fence.wide
  | some b => Fence.wide.inRound b
omit O in
theorem fence_fn (r : Option Nat) (f : FuncId) : (fence r).fn f := by cases r <;> trivial
omit O in
theorem fence_depth (r : Option Nat) : (fence r).depth = none := by cases r <;> rfl
omit O in
theorem fence_round (r : Option Nat) : (fence r).round = r := by cases r <;> rfl
omit O in
theorem fence_calls {r : Option Nat} {n : Nat} {P : Program} {f : FuncId} {args : Array Value} {w : World} {R : Ending → World → Prop} (h : Calls P f args w R) : CallsIn (fence r) n P f args w R := by
  cases r with
  | none => exact callsIn_wide.2 h
  | some b => exact callsIn_wide.2 h
omit O in
theorem fence_round_in {r : Option Nat} {n : Nat} {P : Program} {l : Nat} {f : FuncId} {tmps : Array Value} {assign body : Code} {w : World} {R : Ending → World → Prop}
    (h : RoundIn Fence.wide n P l f tmps assign body w R) : RoundIn (fence r) n P l f tmps assign body w R := by
  cases r with
  | none => exact h
  | some b => exact h
def GoOk (E : Env) (P : Program) (B : Nat → Prop) (W0 : World) (go : Task → MH → Option (MV × MH)) : Prop :=
  (∀ f args h v h', go (.call f args) h = some (v, h') → ∃ F, E.fns.get f = some F ∧ F.body.isSome = true ∧
    ∀ σ V w, Rel E.G B W0 σ V h w → wfs σ V args → Calls P f ⟨embs σ args⟩ w (EndK E.G B W0 σ V h h' v)) ∧
  (∀ l args h v h', go (.round l args) h = some (v, h') → ∀ σ V w, Rel E.G B W0 σ V h w → V l → wfs σ V args →
    ∃ f tm assign body, (Instr.yield (σ l).blk ⟨embs σ args⟩).run P w = .ok (.round (σ l).blk f tm assign body) w ∧
      RoundIn Fence.wide 0 P (σ l).blk f tm assign body w (EndK E.G B W0 σ V h h' v))
section
variable {E : Env} {P : Program} {B : Nat → Prop} {W0 : World} {σ : Sg} {V : Nat → Prop} {h : MH} {w : World}
theorem evR (R : Rel E.G B W0 σ V h w) {m : MA} {a : Act} (ha : ActR σ V m a) : EvR σ V (m.eval E.G) a.eval := by
  intro x v hx
  cases x with
  | tmp t =>
    obtain ⟨h1, h2⟩ := ha.tm.cell t v hx
    refine ⟨h1, ?_⟩
    show a.tmps.getD t undef = _
    rw [Array.getD_eq_getD_getElem?, h2]; rfl
  | const u =>
    obtain ⟨h1, h2⟩ := ofV_ok σ V u v hx
    exact ⟨h2, h1.symm⟩
  | global g =>
    simp only [MA.eval] at hx
    cases hb : Nat.blt g E.G.g0 with
    | false => rw [hb] at hx; cases hx
    | true =>
      rw [hb] at hx
      cases hx
      obtain ⟨h1, h2, h3⟩ := R.glob g (blt_lt hb)
      refine ⟨h1, ?_⟩
      simp only [Act.eval, emb, h2, h3]
  | func f =>
    simp only [MA.eval, Option.some.injEq] at hx
    subst hx
    exact ⟨by simp only [wf, wfs]; exact ⟨trivial, trivial⟩, rfl⟩
theorem oper_ok (hE : EnvOk E P) (hW : ∀ k, B k → k < W0.heap.size) {go : Task → MH → Option (MV × MH)} (hgo : GoOk E P B W0 go) (r : Option Nat) {o : Oper} (hnd : ∀ c, o.op ≠ .defer c)
    (R : Rel E.G B W0 σ V h w) {m : MA} {a : Act} (ha : ActR σ V m a) {v : MV} {h' : MH} (ho : opRes go h (mop E (m.eval E.G) o.op h) = some (v, h'))
    {K : Act → World → Prop} {Q : Exit → Act → World → Prop} (hK : ∀ a' w', After E.G B W0 σ V h h' w' (fun σ' V' => ActR σ' V' (m.put o.dst v) a') → K a' w') :
    o.wpIn (fence r) 0 P a w K Q := by
  have hev := evR (E := E) R ha
  unfold Oper.wpIn
  refine ⟨fun f _ => fence_fn r f, ?_⟩
  rw [Oper.semAt_eq _ _ _ hnd]
  cases hm : mop E (m.eval E.G) o.op h with
  | none => rw [hm] at ho; cases ho
  | some res =>
    rw [hm] at ho
    cases res with
    | val u =>
      simp only [opRes, Option.some.injEq, Prod.mk.injEq] at ho
      obtain ⟨rfl, rfl⟩ := ho
      obtain ⟨h1, h2⟩ := look_ok hE R hev o hm
      rw [h2, Oper.uponIn_value]
      exact hK _ _ ⟨σ, V, Agr.refl _ _, fun _ hx => hx, fun _ hx => .inl hx, Nat.le_refl _, R, ha.put o.dst h1⟩
    | new k b =>
      simp only [opRes, Option.some.injEq, Prod.mk.injEq] at ho
      obtain ⟨rfl, rfl⟩ := ho
      have hnV : ¬ V h.nx := fun hv => Nat.lt_irrefl _ (R.vx _ hv)
      obtain ⟨obj, h1, h2, h3⟩ := new_ok hE hev o hm hnV w
      rw [h1, Oper.uponIn_value]
      have hag := agr_upd (V := V) σ ⟨w.heap.size, 0, 0⟩ hnV
      exact hK _ _ ⟨_, _, hag, fun _ hx => .inl hx, fun _ hx => hx.imp (fun x => x) (fun e => Nat.le_of_eq e.symm), Nat.le_succ _, R.alloc (R.size hW) 0 0 h2, (ha.agr hag (fun _ hx => .inl hx)).put o.dst h3⟩
    | upd u h1 =>
      simp only [opRes, Option.some.injEq, Prod.mk.injEq] at ho
      obtain ⟨rfl, rfl⟩ := ho
      obtain ⟨σ', V', w', g1, g2, g3, g4, g5, g6, g7⟩ := upd_ok hE R hW hev o hm
      have key := hK (a.put o.dst (emb σ' u)) w' ⟨σ', V', g1, g2, g3, g4, g5, (ha.agr g1 g2).put o.dst g6⟩
      rcases g7 with g7 | ⟨rfl, g7⟩
      · rw [g7, Oper.uponIn_value]; exact key
      · rw [g7, Oper.uponIn_skip]
        exact key
    | enter f args =>
      simp only [opRes] at ho
      obtain ⟨F, hF, hb, hcall⟩ := hgo.1 f args h v h' ho
      obtain ⟨-, h2, h3⟩ := enter_ok hE hev o hm w
      rw [h3 F hF hb, Oper.uponIn_enter]
      refine ⟨fun hd => (by rw [fence_depth] at hd; cases hd), fence_calls ?_⟩
      refine (hcall σ V w R h2).mono ?_
      rintro e w' ⟨σ', V', g1, g2, g3, g4, g5, g6, rfl⟩
      exact hK _ _ ⟨σ', V', g1, g2, g3, g4, g5, (ha.agr g1 g2).put o.dst g6⟩
    | round l args =>
      simp only [opRes] at ho
      obtain ⟨h1, h2, h3⟩ := round_is hev o hm w
      obtain ⟨f, tm, assign, body, hy, hround⟩ := hgo.2 l args h v h' ho σ V w R h1 h2
      rw [h3, hy, Oper.uponIn_round]
      refine ⟨fun hd => (by rw [fence_depth] at hd; cases hd), fence_round_in ?_⟩
      refine hround.mono ?_
      rintro e w' ⟨σ', V', g1, g2, g3, g4, g5, g6, rfl⟩
      exact hK _ _ ⟨σ', V', g1, g2, g3, g4, g5, (ha.agr g1 g2).put o.dst g6⟩
theorem wanted_ok {m : MA} {a : Act} (ha : ActR σ V m a) {ops : Array Oper} {o : Oper} {b : Bool} (hw : wantedM ops m o = some b) : Region.wanted o (yielded ops a.tmps) = b := by
  unfold wantedM at hw
  unfold Region.wanted
  split at hw
  · rename_i hg
    cases hw
    simp only [hg]
  · rename_i j want hg
    simp only [hg]
    split at hw
    · rename_i g hgo
      rw [lget_arr] at hgo
      split at hw
      · rename_i d hd
        split at hw
        · rename_i c hc
          cases hw
          obtain ⟨-, h2⟩ := ha.tm.cell d _ hc
          unfold yielded
          simp only [hgo, Option.bind_some, hd, h2, emb]
          cases c <;> cases want <;> rfl
        · rename_i vs hc
          cases hw
          obtain ⟨-, h2⟩ := ha.tm.cell d _ hc
          unfold yielded
          simp only [hgo, Option.bind_some, hd, h2, emb]
          cases want <;> rfl
        · cases hw
      · cases hw
    · cases hw
omit O in
theorem runOps_cons {go : Task → MH → Option (MV × MH)} (ops : Array Oper) (o : Oper) (l : List Oper) (m : MA) (h : MH) : runOps E go ops (o :: l) m h =
    (match wantedM ops m o with
    | some true => match opRes go h (mop E (m.eval E.G) o.op h) with
      | some (v, h') => runOps E go ops l (m.put o.dst v) h'
      | none => none
    | some false => runOps E go ops l (m.put o.dst undefM) h
    | none => none) := rfl
theorem runOps_ok (hE : EnvOk E P) (hW : ∀ k, B k → k < W0.heap.size) {go : Task → MH → Option (MV × MH)} (hgo : GoOk E P B W0 go) (r : Option Nat) (ops : Array Oper) {Q : Exit → Act → World → Prop} :
    ∀ (l : List Oper), (∀ o ∈ l, ∀ c, o.op ≠ .defer c) → ∀ (σ : Sg) (V : Nat → Prop) (h : MH) (w : World) (m m' : MA) (h' : MH) (a : Act), Rel E.G B W0 σ V h w → ActR σ V m a → runOps E go ops l m h = some (m', h') →
      (∀ a' w', After E.G B W0 σ V h h' w' (fun σ' V' => ActR σ' V' m' a') → Q .normal a' w') → wpListIn (fence r) 0 P ops Q l a w := by
  intro l
  induction l with
  | nil =>
    intro _ σ V h w m m' h' a R ha hr hQ
    have e : runOps E go ops [] m h = some (m, h) := rfl
    rw [e] at hr; cases hr
    exact hQ a w ⟨σ, V, Agr.refl _ _, fun _ hx => hx, fun _ hx => .inl hx, Nat.le_refl _, R, ha⟩
  | cons o l ih =>
    intro hnd σ V h w m m' h' a R ha hr hQ
    rw [runOps_cons] at hr
    split at hr
    · rename_i hw
      have hw' := wanted_ok ha hw
      split at hr
      · rename_i v h1 ho
        unfold wpListIn
        rw [if_pos hw']
        refine oper_ok hE hW hgo r (hnd o (by simp)) R ha ho ?_
        rintro a1 w1 ⟨σ1, V1, g1, g2, g3, g4, g5, g6⟩
        exact ih (fun x hx => hnd x (by simp [hx])) σ1 V1 h1 w1 _ m' h' a1 g5 g6 hr (fun a2 w2 hA => hQ a2 w2 (hA.trans g1 g2 g3 g4))
      · cases hr
    · rename_i hw
      have hw' := wanted_ok ha hw
      unfold wpListIn
      rw [if_neg (by rw [hw']; exact Bool.false_ne_true)]
      refine ⟨fun f _ => fence_fn r f, ?_⟩
      exact ih (fun x hx => hnd x (by simp [hx])) σ V h w _ m' h' _ R (ha.put o.dst wf_undef) hr hQ
    · cases hr
end
end Go.Mini
/- The evaluator's code against the model's: statements. -/
namespace Go.Mini
variable [O : Opq]
open Go.RowKit
section scope
variable {F : Fence} {n : Nat} {P : Program} {Q : Exit → Act → World → Prop} {a : Act} {w : World} {b : Frame} {k : List Item} {cs : List Frame}
omit O in
theorem stepR_scope {c : Code} : step P (lone (b.atR a (.code (.scope c) :: k)) cs w) = .next (lone (b.atR a (.code c :: .inScope c :: k)) cs w) :=
  step_lone_go (by simp [stepG, stepG.exec, Frame.atR])
omit O in
theorem stepR_inScope {c : Code} : step P (lone (b.atR a (.inScope c :: k)) cs w) = .next (lone (b.atR a k) cs w) :=
  step_lone_go (by simp [stepG, stepG.exec, Frame.atR])
def noGoto (Q : Exit → Act → World → Prop) : Exit → Act → World → Prop
  | .goto _, _, _ => False
  | e, a, w => Q e a w
def oneGoto (F : Fence) (n : Nat) (P : Program) (c : Code) (Q : Exit → Act → World → Prop) : Exit → Act → World → Prop
  | .goto l, a, w => ∃ c', findLabel c l = some c' ∧ c'.wpIn F n P (noGoto Q) a w
  | e, a, w => Q e a w
omit O in
theorem scope_tail {c c' : Code} (h : c'.wpIn F n P (noGoto Q) a w) (hro : b.roundOf = F.round) (hb : F.fn b.fn) (hr : F.room (cs.length + 1 + n)) :
    ∃ e a' w', Q e a' w' ∧ ArrivesIn (Machine.fenced P F) P (lone (b.atR a (.code c' :: .inScope c :: k)) cs w) b k cs e a' w' := by
  obtain ⟨e, a₁, w₁, hq, harr⟩ := h b (.inScope c :: k) cs hro hb hr
  cases e with
  | normal => exact ⟨.normal, a₁, w₁, hq, StepsIn.trans harr (.one (fenced_calm hb hr rfl) stepR_inScope)⟩
  | exit id =>
    have hx : exitTo id (.inScope c :: k) = exitTo id k := by simp [exitTo]
    exact ⟨.exit id, a₁, w₁, hq, fun k' hk => harr.1 k' (by rw [hx]; exact hk), fun hr' hk => let ⟨k₁, h1, h2⟩ := harr.2 hr' (by rw [hx]; exact hk); ⟨k₁, h1, h2⟩⟩
  | goto l => exact hq.elim
  | ret => exact ⟨_, a₁, w₁, hq, harr⟩
  | panic ch => exact ⟨_, a₁, w₁, hq, harr⟩
  | outgrown => exact ⟨_, a₁, w₁, hq, harr⟩
omit O in
theorem wpIn_scope {c : Code} (h : c.wpIn F n P (oneGoto F n P c Q) a w) : (Code.scope c).wpIn F n P Q a w := by
  intro b k cs hro hb hr
  have h0 : (lone (b.atR a (.code (.scope c) :: k)) cs w).fenced P F := fenced_calm hb hr rfl
  obtain ⟨e, a₁, w₁, hq, harr⟩ := h b (.inScope c :: k) cs hro hb hr
  cases e with
  | normal => exact ⟨.normal, a₁, w₁, hq, .head h0 stepR_scope (StepsIn.trans harr (.one (fenced_calm hb hr rfl) stepR_inScope))⟩
  | exit id =>
    have hx : exitTo id (.inScope c :: k) = exitTo id k := by simp [exitTo]
    exact ⟨.exit id, a₁, w₁, hq, fun k' hk => .head h0 stepR_scope (harr.1 k' (by rw [hx]; exact hk)), fun hr' hk => let ⟨k₁, h1, h2⟩ := harr.2 hr' (by rw [hx]; exact hk); ⟨k₁, h1, .head h0 stepR_scope h2⟩⟩
  | goto l =>
    obtain ⟨c', hc', hw⟩ := hq
    have hs := harr.1 (.code c' :: .inScope c :: k) (by simp [gotoIn, hc'])
    obtain ⟨e, a2, w2, hq2, harr2⟩ := scope_tail (b := b) (k := k) (cs := cs) (c := c) hw hro hb hr
    exact ⟨e, a2, w2, hq2, .of_steps (.head h0 stepR_scope hs) harr2⟩
  | ret => exact ⟨_, a₁, w₁, hq, .of_steps (.one h0 stepR_scope) harr⟩
  | panic ch => exact ⟨_, a₁, w₁, hq, .of_steps (.one h0 stepR_scope) harr⟩
  | outgrown => exact ⟨_, a₁, w₁, hq, .of_steps (.one h0 stepR_scope) harr⟩
end scope
def ex : MX → Exit
  | .normal => .normal
  | .exit id => .exit id
  | .goto l => .goto l
  | .ret => .ret
def OutK (G : GB) (B : Nat → Prop) (W0 : World) (σ : Sg) (V : Nat → Prop) (h : MH) (o : MO) : Exit → Act → World → Prop :=
  fun e a' w' => e = ex o.e ∧ After G B W0 σ V h o.h w' fun σ' V' => ActR σ' V' o.a a'
def RdOk (σ : Sg) (V : Nat → Prop) (rd r : Option Nat) : Prop :=
  (rd = none ∧ r = none) ∨ ∃ l, rd = some l ∧ V l ∧ r = some (σ l).blk
omit O in
theorem RdOk.agr {V V' : Nat → Prop} {σ σ' : Sg} {rd r : Option Nat} (h : Agr V σ σ') (hV : ∀ id, V id → V' id) (hr : RdOk σ V rd r) : RdOk σ' V' rd r := by
  rcases hr with hr | ⟨l, h1, h2, h3⟩
  · exact .inl hr
  · exact .inr ⟨l, h1, hV l h2, by rw [h3, h l h2]⟩
section
variable {E : Env} {P : Program} {B : Nat → Prop} {W0 : World}
def StmtOk (E : Env) (P : Program) (B : Nat → Prop) (W0 : World) (rd : Option Nat) (ih : Ih) : Prop :=
  ∀ c m h o, ih c m h = some o → ∀ σ V w a r, Rel E.G B W0 σ V h w → ActR σ V m a → RdOk σ V rd r → c.wpIn (fence r) 0 P (OutK E.G B W0 σ V h o) a w
omit O in
theorem loopM_succ (body : MA → MH → Option MO) (n : Nat) (a : MA) (h : MH) : loopM body (n + 1) a h = (match body a h with
    | some ⟨.normal, a', h'⟩ => loopM body n a' h'
    | r => r) := rfl
omit O in
theorem rounds_mono {F : Fence} {n : Nat} {c : Code} {Q Q' : Exit → Act → World → Prop} (hq : ∀ e a w, Q e a w → Q' e a w) : ∀ (k : Nat) (a : Act) (w : World), Code.roundsIn F n P c Q k a w → Code.roundsIn F n P c Q' k a w := by
  intro k
  induction k with
  | zero => intro a w h; exact h
  | succ k ih =>
    intro a w h
    rw [Code.roundsIn] at h ⊢
    refine wpIn_mono h ?_
    intro e a1 w1 he
    cases e <;> first | exact ih _ _ he | exact hq _ _ _ he
theorem loop_ok {rd : Option Nat} {ih : Ih} (hih : StmtOk E P B W0 rd ih) (c : Code) : ∀ (k : Nat) (m : MA) (h : MH) (o : MO), loopM (ih c) k m h = some o →
    ∀ σ V w a r, Rel E.G B W0 σ V h w → ActR σ V m a → RdOk σ V rd r → Code.roundsIn (fence r) 0 P c (OutK E.G B W0 σ V h o) k a w := by
  intro k
  induction k with
  | zero => intro m h o ho; cases ho
  | succ k ihk =>
    intro m h o ho σ V w a r R ha hr
    rw [loopM_succ] at ho
    rw [Code.roundsIn]
    split at ho
    · rename_i m1 h1 hb
      refine wpIn_mono (hih c m h _ hb σ V w a r R ha hr) ?_
      rintro e a1 w1 ⟨rfl, σ1, V1, g1, g2, g3, g4, g5, g6⟩
      exact rounds_mono (fun e a2 w2 hq => ⟨hq.1, hq.2.trans g1 g2 g3 g4⟩) k a1 w1 (ihk m1 h1 o ho σ1 V1 w1 a1 r g5 g6 (hr.agr g1 g2))
    · rename_i hn
      refine wpIn_mono (hih c m h o ho σ V w a r R ha hr) ?_
      rintro e a1 w1 ⟨rfl, hA⟩
      cases hoe : o.e with
      | normal => exact absurd ho (by obtain ⟨e, a', h'⟩ := o; simp only at hoe; subst hoe; exact hn _ _)
      | exit id => exact ⟨by rw [hoe], hA⟩
      | goto l => exact ⟨by rw [hoe], hA⟩
      | ret => exact ⟨by rw [hoe], hA⟩
/-! ### Ranges over functions -/
omit O in
theorem r_getLoop {w : World} {b : Nat} {r : Loop} (hb : w.heap[b]? = some (.loop r)) : (Instr.getLoop b).run P w = .ok r w := by
  unfold Instr.getLoop
  rw [Sem.bind_ok (run_getObj_loop (P := P) hb)]
  rfl
theorem enter_loop {σ : Sg} {V : Nat → Prop} {h : MH} {w : World} {m : MA} {a : Act} {rd r : Option Nat} (hW : ∀ k, B k → k < W0.heap.size) (R : Rel E.G B W0 σ V h w) (ha : ActR σ V m a) (hr : RdOk σ V rd r)
    {ps : Array Tmp} {assign body : Code} {l : Nat} {m' : MA} {h' : MH} (ho : enterM m ps.toList assign body rd h = some (l, m', h')) (fn : FuncId) :
    ∃ mark w1 σ1 V1, (Instr.enterLoop fn a.tmps ps assign body r).run P w = .ok ((σ1 l).blk, mark) w1 ∧ Agr V σ σ1 ∧ (∀ id, V id → V1 id) ∧ (∀ id, V1 id → V id ∨ h.nx ≤ id) ∧ h.nx ≤ h'.nx ∧
      Rel E.G B W0 σ1 V1 h' w1 ∧ V1 l ∧ ActR σ1 V1 m' { a with defers := mark ++ a.defers } := by
  have hnV : ¬ V h.nx := fun hv => Nat.lt_irrefl _ (R.vx _ hv)
  unfold enterM at ho
  rcases hr with ⟨rfl, rfl⟩ | ⟨l0, rfl, hv0, rfl⟩
  · simp only [Option.some.injEq, Prod.mk.injEq] at ho
    obtain ⟨rfl, rfl, rfl⟩ := ho
    -- the block for deferred calls
    have R1 : Rel E.G B W0 (upd σ h.nx ⟨w.heap.size, 0, 0⟩) (addV V h.nx) (h.new .defd) (w.alloc (.deferred (some []))) :=
      R.alloc (R.size hW) 0 0 (by show (w.alloc _).heap[_]? = _; rw [upd_same]; exact heap_new w _)
    have a1 := agr_upd (V := V) σ ⟨w.heap.size, 0, 0⟩ hnV
    obtain ⟨σ1, hσ1⟩ : ∃ σ1, upd σ h.nx ⟨w.heap.size, 0, 0⟩ = σ1 := ⟨_, rfl⟩
    obtain ⟨w1, hw1⟩ : ∃ w1, w.alloc (.deferred (some [])) = w1 := ⟨_, rfl⟩
    have hs1 : (σ1 h.nx).blk = w.heap.size := by rw [← hσ1, upd_same]
    rw [hσ1, hw1] at R1
    rw [hσ1] at a1
    have hV1 : addV V h.nx h.nx := .inr rfl
    have hnV2 : ¬ addV V h.nx (h.nx + 1) := by rintro (hv | hv); exact absurd (R.vx _ hv) (by omega); omega
    have a2 := agr_upd (V := addV V h.nx) σ1 ⟨w1.heap.size, 0, 0⟩ hnV2
    have htm := (ha.tm.agr a1 (fun _ hx => Or.inl hx) : TmR σ1 (addV V h.nx) m.tmps m.nt a.tmps)
    let L : ML := ⟨.ready, none, m.tmps, m.nt, ps.toList, assign, body, h.nx⟩
    have R2 : Rel E.G B W0 (upd σ1 (h.nx + 1) ⟨w1.heap.size, 0, 0⟩) (addV (addV V h.nx) (h.nx + 1)) ((h.new .defd).new (.loop L)) (w1.alloc (.loop { state := .ready, pending := none, fn, tmps := a.tmps, params := ps, assign, body, defers := w.heap.size })) := by
      refine R1.alloc (R1.size hW) 0 0 ⟨a.tmps, fn, ?_, htm.agr a2 (fun _ hx => .inl hx), .inl hV1⟩
      show (w1.alloc _).heap[_]? = _
      rw [MH.nx_new, upd_same]
      refine (heap_new w1 _).trans ?_
      simp only [embL, L, a2 _ hV1, hs1]
    refine ⟨[{ target := .collected w.heap.size, args := #[] }], _, _, _, ?_, a1.trans (fun _ hx => .inl hx) a2, fun _ hx => .inl (.inl hx), ?_, by simp; omega, R2, .inr rfl, ?_⟩
    · unfold Instr.enterLoop
      simp only [upd_same]
      rw [Sem.bind_ok (r_newObj _ w), hw1]
      simp only [pure_bind]
      rfl
    · rintro id ((hv | hv) | hv)
      · exact .inl hv
      · exact .inr (by omega)
      · exact .inr (by omega)
    · refine ⟨(htm.agr a2 (fun _ hx => .inl hx)), ?_, ?_⟩
      · simp only [List.map_cons, List.singleton_append, markOf, a2 _ hV1, hs1, List.cons.injEq, true_and]
        rw [ha.df]
        exact List.map_congr_left fun d hd => by
          have e1 := a1 d (ha.dv d hd)
          have e2 := a2 d (.inl (ha.dv d hd))
          simp only [markOf, e2, e1]
      · intro d hd
        rcases List.mem_cons.1 hd with rfl | hd
        · exact .inl hV1
        · exact .inl (.inl (ha.dv d hd))
  · dsimp only at ho
    split at ho
    · rename_i L0 hg
      simp only [Option.some.injEq, Prod.mk.injEq] at ho
      obtain ⟨rfl, rfl, rfl⟩ := ho
      obtain ⟨tm0, fn0, b1, b2, b3⟩ := R.blk l0 _ hv0 hg
      have a1 := agr_upd (V := V) σ ⟨w.heap.size, 0, 0⟩ hnV
      have R2 : Rel E.G B W0 (upd σ h.nx ⟨w.heap.size, 0, 0⟩) (addV V h.nx) (h.new (.loop ⟨.ready, none, m.tmps, m.nt, ps.toList, assign, body, L0.defers⟩))
          (w.alloc (.loop { state := .ready, pending := none, fn, tmps := a.tmps, params := ps, assign, body, defers := (σ L0.defers).blk })) := by
        refine R.alloc (R.size hW) 0 0 ⟨a.tmps, fn, ?_, ha.tm.agr a1 (fun _ hx => .inl hx), .inl b3⟩
        rw [upd_same]
        refine (heap_new w _).trans ?_
        simp only [embL, a1 _ b3]
      refine ⟨[], _, _, _, ?_, a1, fun _ hx => .inl hx, fun _ hx => hx.imp (fun x => x) (fun e => Nat.le_of_eq e.symm), Nat.le_succ _, R2, .inr rfl, ?_⟩
      · unfold Instr.enterLoop
        simp only [upd_same]
        rw [Sem.bind_ok (r_getLoop (P := P) b1)]
        simp only [pure_bind, embL]
        rfl
      · exact (ha.agr a1 (fun _ hx => Or.inl hx) : ActR _ (addV V h.nx) m a)
    · cases ho
end
end Go.Mini
/- The evaluator's code against the model's: statements, calls, rounds. -/
namespace Go.Mini
variable [O : Opq]
open Go.RowKit
section
variable {E : Env} {P : Program} {B : Nat → Prop} {W0 : World}
def DrawOk (E : Env) (P : Program) (B : Nat → Prop) (W0 : World) (go : Task → MH → Option (MV × MH)) : Prop :=
  ∀ (id : Nat) (ops : Array Oper) (l : List PE) (m m' : MA) (h h' : MH), planP ops = some l → runPi E go ops l [] m h = some (m', h') → ∀ σ V w a r, Rel E.G B W0 σ V h w → ActR σ V m a →
    (Code.region id ops true).wpIn (fence r) 0 P (fun e a' w' => e = .normal ∧ After E.G B W0 σ V h h' w' fun σ' V' => ActR σ' V' m' a') a w
theorem end_loop {σ : Sg} {V : Nat → Prop} {h : MH} {w : World} {m : MA} {l : Nat} {o : MO} (R : Rel E.G B W0 σ V h w) (hG : E.G.ro ≤ l) (hl : V l) (ho : endM l m h = some o) :
    ∃ jump w', (Instr.endLoop (σ l).blk).run P w = .ok jump w' ∧ exitOf jump = some o.e ∧ o.a = m ∧ o.h.nx = h.nx ∧ Rel E.G B W0 σ V o.h w' := by
  unfold endM at ho
  split at ho
  · rename_i L hg
    obtain ⟨tm, fn, b1, b2, b3⟩ := R.blk l _ hl hg
    have fin : ∀ e, L.state ≠ .busy → exitOf L.pending = some e → o = ⟨e, m, h.set l (.loop { L with state := .exhausted })⟩ → _ := fun e hs he hoe =>
      (show ∃ jump w', (Instr.endLoop (σ l).blk).run P w = .ok jump w' ∧ exitOf jump = some o.e ∧ o.a = m ∧ o.h.nx = h.nx ∧ Rel E.G B W0 σ V o.h w' by
        subst hoe
        refine ⟨L.pending, w.putObj (σ l).blk (.loop (embL σ { L with state := .exhausted } tm fn)), ?_, he, rfl, rfl, R.write hl hg rfl hG _ ⟨tm, fn, World.putObj_heap_same (R.lt hl hg rfl), b2, b3⟩⟩
        unfold Instr.endLoop
        rw [Sem.bind_ok (r_getLoop (P := P) b1)]
        rw [if_neg (by simp only [embL]; simpa using hs)]
        rw [Sem.bind_ok (run_setObj_loop (P := P) _ b1)]
        rfl)
    split at ho
    · cases ho
    · rename_i hs
      split at ho
      · rename_i e he
        exact fin e hs he (Option.some.inj ho).symm
      · cases ho
  · cases ho
theorem stmt_ok (hE : EnvOk E P) (hW : ∀ k, B k → k < W0.heap.size) {go : Task → MH → Option (MV × MH)} (hgo : GoOk E P B W0 go) (hd : DrawOk E P B W0 go) (rd : Option Nat) {ih : Ih}
    (hih : StmtOk E P B W0 rd ih) : StmtOk E P B W0 rd (codeStep E go rd ih) := by
  intro c m h o ho σ V w a r R ha hr
  have here : ∀ e, o = ⟨e, m, h⟩ → OutK E.G B W0 σ V h o (ex e) a w := fun e he => by
    subst he; exact ⟨rfl, σ, V, Agr.refl _ _, fun _ hx => hx, fun _ hx => .inl hx, Nat.le_refl _, R, ha⟩
  cases c with
  | skip => exact wpIn_skip (here .normal (Option.some.inj ho).symm)
  | label l => exact wpIn_label (here .normal (Option.some.inj ho).symm)
  | ret => exact wpIn_ret (here .ret (Option.some.inj ho).symm)
  | exit id => exact wpIn_exit (here (.exit id) (Option.some.inj ho).symm)
  | goto l => exact wpIn_goto (here (.goto l) (Option.some.inj ho).symm)
  | refuse why => cases ho
  | seq x y =>
    simp only [codeStep, cSeq] at ho
    refine wpIn_seq ?_
    split at ho
    · rename_i m1 h1 hx
      refine wpIn_mono (hih x m h _ hx σ V w a r R ha hr) ?_
      rintro e a1 w1 ⟨rfl, σ1, V1, g1, g2, g3, g4, g5, g6⟩
      exact wpIn_mono (hih y m1 h1 o ho σ1 V1 w1 a1 r g5 g6 (hr.agr g1 g2)) (fun e a2 w2 hq => ⟨hq.1, hq.2.trans g1 g2 g3 g4⟩)
    · rename_i hn
      refine wpIn_mono (hih x m h o ho σ V w a r R ha hr) ?_
      rintro e a1 w1 ⟨rfl, hA⟩
      cases hoe : o.e with
      | normal => exact absurd ho (by obtain ⟨e, a', h'⟩ := o; simp only at hoe; subst hoe; exact hn _ _)
      | exit id => exact ⟨by rw [hoe], hA⟩
      | goto l => exact ⟨by rw [hoe], hA⟩
      | ret => exact ⟨by rw [hoe], hA⟩
  | cond c x y =>
    simp only [codeStep, cCond] at ho
    split at ho
    · rename_i b hc
      have := (evR R ha c _ hc).2
      refine wpIn_cond (t := b) this ?_
      have := hih _ m h o ho σ V w a r R ha hr
      cases b <;> exact this
    · cases ho
  | block id c =>
    simp only [codeStep, cBlock] at ho
    refine wpIn_block ?_
    split at ho
    · rename_i id' m1 h1 hx
      cases ho
      refine wpIn_mono (hih c m h _ hx σ V w a r R ha hr) ?_
      rintro e a1 w1 ⟨rfl, hA⟩
      simp only [ex, Exit.inBlock]
      cases hb : Nat.beq id' id with
      | true =>
        have := Nat.eq_of_beq_eq_true hb
        rw [if_pos this]
        exact ⟨rfl, hA⟩
      | false =>
        have : id' ≠ id := fun e => by subst e; rw [Nat.beq_refl] at hb; cases hb
        rw [if_neg this]
        exact ⟨rfl, hA⟩
    · rename_i hn
      refine wpIn_mono (hih c m h o ho σ V w a r R ha hr) ?_
      rintro e a1 w1 ⟨rfl, hA⟩
      cases hoe : o.e with
      | normal => exact ⟨by rw [hoe], hA⟩
      | exit id' => exact absurd ho (by obtain ⟨e, a', h'⟩ := o; simp only at hoe; subst hoe; exact hn _ _ _)
      | goto l => exact ⟨by rw [hoe], hA⟩
      | ret => exact ⟨by rw [hoe], hA⟩
  | loop c => exact wpIn_loop_rounds 100000 (loop_ok hih c 100000 m h o ho σ V w a r R ha hr)
  | scope c =>
    simp only [codeStep, cScope] at ho
    refine wpIn_scope ?_
    split at ho
    · rename_i l m1 h1 hx
      split at ho
      · rename_i c' hc'
        refine wpIn_mono (hih c m h _ hx σ V w a r R ha hr) ?_
        rintro e a1 w1 ⟨rfl, σ1, V1, g1, g2, g3, g4, g5, g6⟩
        refine ⟨c', hc', ?_⟩
        split at ho
        · cases ho
        · rename_i hn
          refine wpIn_mono (hih c' m1 h1 o ho σ1 V1 w1 a1 r g5 g6 (hr.agr g1 g2)) ?_
          rintro e a2 w2 ⟨rfl, hA⟩
          have hA := hA.trans g1 g2 g3 g4
          cases hoe : o.e with
          | normal => exact ⟨by rw [hoe], hA⟩
          | exit id' => exact ⟨by rw [hoe], hA⟩
          | goto l' => exact absurd ho (by obtain ⟨e, a', h'⟩ := o; simp only at hoe; subst hoe; exact hn _ _ _)
          | ret => exact ⟨by rw [hoe], hA⟩
      · cases ho
    · rename_i hn
      refine wpIn_mono (hih c m h o ho σ V w a r R ha hr) ?_
      rintro e a1 w1 ⟨rfl, hA⟩
      cases hoe : o.e with
      | normal => exact ⟨by rw [hoe], hA⟩
      | exit id' => exact ⟨by rw [hoe], hA⟩
      | goto l' => exact absurd ho (by obtain ⟨e, a', h'⟩ := o; simp only at hoe; subst hoe; exact hn _ _ _)
      | ret => exact ⟨by rw [hoe], hA⟩
  | region id ops draw =>
    simp only [codeStep, cRegion] at ho
    split at ho
    · rename_i m1 h1 hx
      cases ho
      cases draw with
      | true =>
        simp only [cond_true] at hx
        split at hx
        · rename_i l hl
          exact hd id ops l m m1 h h1 hl hx σ V w a r R ha
        · cases hx
      | false =>
        simp only [cond_false] at hx
        cases hns : ops.toList.all noSel with
        | false => rw [hns] at hx; cases hx
        | true =>
          rw [hns] at hx
          simp only [cond_true] at hx
          refine wpIn_region_list (runOps_ok hE hW hgo r ops ops.toList (fun o ho c hc => ?_) σ V h w m m1 h1 a R ha hx (fun a' w' hA => ⟨rfl, hA⟩))
          have := List.all_eq_true.1 hns o ho
          simp [noSel, hc] at this
    · cases ho
  | rangeFunc f ps assign body =>
    simp only [codeStep, cRange] at ho
    split at ho
    · rename_i g first captured hf
      obtain ⟨f1, f2⟩ := evR R ha f _ hf
      simp only [wf] at f1
      split at ho
      · rename_i l m1 h1 hext hent
        split at ho
        · rename_i u h2 hcall
          refine wpIn_rangeFunc ?_
          intro fn _
          obtain ⟨mark, w1, σ1, V1, e1, g1, g2, g3, g4, g5, g6, g7⟩ := enter_loop (P := P) hW R ha hr hent fn
          obtain ⟨F, hF, hbody, hcalls⟩ := hgo.1 g _ h1 u h2 hcall
          obtain ⟨hF1, hF2⟩ := hE.fns g F hF
          have hwargs : wfs σ1 V1 (first ++ [.yld l] ++ captured) := wfs_append.2 ⟨wfs_append.2 ⟨wfs_agr g1 g2 _ f1.1, by simp only [wfs]; exact ⟨g6, trivial⟩⟩, wfs_agr g1 g2 _ f1.2⟩
          have hlG : E.G.ro ≤ l := by
            rcases hr with ⟨rfl, -⟩ | ⟨l0, rfl, -, -⟩
            · simp only [enterM, Option.some.injEq, Prod.mk.injEq] at hent
              obtain ⟨rfl, -, -⟩ := hent
              exact Nat.le_succ_of_le R.gx
            · simp only [enterM] at hent
              split at hent
              · simp only [Option.some.injEq, Prod.mk.injEq] at hent
                obtain ⟨rfl, -, -⟩ := hent
                exact R.gx
              · cases hent
          have hres : (resolve a.eval (rangeCall f (σ1 l).blk) 0).run P w1 = .ok { target := .fn (.func g) ⟨embs σ1 captured⟩, args := ⟨embs σ1 first⟩ ++ #[.func (.yield (σ1 l).blk) #[] #[]] } w1 := by
            unfold resolve
            simp only [f2, emb, Deferred.ofValue]
            rw [embs_agr g1 _ f1.1, embs_agr g1 _ f1.2]
            simp [Act.eval]
          have hinv : (invoke (.fn (.func g) ⟨embs σ1 captured⟩) (⟨embs σ1 first⟩ ++ #[.func (.yield (σ1 l).blk) #[] #[]])).run P w1 = .ok (.enter g ⟨embs σ1 (first ++ [.yld l] ++ captured)⟩) w1 := by
            unfold invoke callFunc
            simp only []
            rw [Sem.bind_ok (show (program).run P w1 = .ok P w1 from rfl), hF1]
            simp only []
            rw [if_neg (by simpa using hF2), if_neg (by simp [Option.isNone_iff_eq_none]; intro e; rw [e] at hbody; cases hbody)]
            simp only [Sem.run_pure]
            congr 2
            rw [← Array.toList_inj]
            simp [embs_map, emb]
          refine ⟨(σ1 l).blk, mark, w1, _, w1, g, _, w1, by rw [fence_round]; exact e1, hres, fun f' _ => fence_fn r f', hinv, fun hd => (by rw [fence_depth] at hd; cases hd), fence_calls ?_⟩
          refine (hcalls σ1 V1 w1 g5 hwargs).mono ?_
          rintro e w2 ⟨σ2, V2, k1, k2, k3, k4, k5, k6, rfl⟩
          obtain ⟨jump, w3, j1, j2, j3, j4, j5⟩ := end_loop (P := P) k5 hlG (k2 l g6) ho
          have hl2 : (σ2 l).blk = (σ1 l).blk := by rw [k1 l g6]
          rw [hl2] at j1
          refine ⟨jump, w3, j1, ?_⟩
          have hA : After E.G B W0 σ V h o.h w3 (fun σ' V' => ActR σ' V' o.a { a with defers := mark ++ a.defers }) := by
            refine After.trans g1 g2 g3 g4 (After.trans k1 k2 k3 k4 ?_)
            exact ⟨σ2, V2, Agr.refl _ _, fun _ hx => hx, fun _ hx => .inl hx, Nat.le_of_eq j4.symm, j5, by rw [j3]; exact g7.agr k1 k2⟩
          cases jump with
          | none =>
            simp only [exitOf, Option.some.injEq] at j2
            exact ⟨by rw [← j2]; rfl, hA⟩
          | some c =>
            dsimp only
            cases c <;> simp only [exitOf] at j2 <;> first | (cases j2; done) | skip
            · rename_i id
              exact wpIn_exit ⟨by rw [← Option.some.inj j2]; rfl, hA⟩
            · rename_i l'
              exact wpIn_goto ⟨by rw [← Option.some.inj j2]; rfl, hA⟩
            · exact wpIn_ret ⟨by rw [← Option.some.inj j2]; rfl, hA⟩
        · cases ho
      · cases ho
    · cases ho
theorem code_ok (hE : EnvOk E P) (hW : ∀ k, B k → k < W0.heap.size) {go : Task → MH → Option (MV × MH)} (hgo : GoOk E P B W0 go) (hd : DrawOk E P B W0 go) (rd : Option Nat) :
    ∀ n, StmtOk E P B W0 rd (code E go rd n) := by
  intro n
  induction n with
  | zero => intro c m h o ho; cases ho
  | succ n ih => exact stmt_ok hE hW hgo hd rd ih
end
end Go.Mini
/- The evaluator's calls against the model's. -/
namespace Go.Mini
variable [O : Opq]
open Go.RowKit
section
variable {E : Env} {P : Program} {B : Nat → Prop} {W0 : World}
def oneOf : List MV → MV
  | [v] => v
  | vs => .tup vs
omit O in
theorem putArgs_cons (v : MV) (l : List MV) (t : Tr MV) (i : Nat) : putArgs (v :: l) t i = putArgs l (t.put i v) (i + 1) := rfl
omit O in
theorem putArgs_get : ∀ (l : List MV) (t : Tr MV) (i k : Nat), (putArgs l t i).get k = if i ≤ k ∧ k < i + l.length then l[k - i]? else t.get k := by
  intro l
  induction l with
  | nil => intro t i k; rw [if_neg (by simp)]; rfl
  | cons v l ih =>
    intro t i k
    rw [putArgs_cons, ih, Tr.get_put]
    simp only [List.length_cons]
    by_cases h1 : i + 1 ≤ k ∧ k < i + 1 + l.length
    · rw [if_pos h1, if_pos (by omega), show k - i = (k - (i + 1)) + 1 by omega]; simp
    · rw [if_neg h1]
      by_cases h2 : k = i
      · subst h2; rw [if_pos rfl, if_pos (by omega)]; simp
      · rw [if_neg h2, if_neg (by omega)]
theorem args_tm {σ : Sg} {V : Nat → Prop} {args : List MV} (hw : wfs σ V args) (nt : Nat) :
    TmR σ V (putArgs args .nil 0) (Nat.max nt (llen args 0)) ((⟨embs σ args⟩ : Array Value) ++ Array.replicate (nt - (⟨embs σ args⟩ : Array Value).size) undef) := by
  have hl : (embs σ args).length = args.length := by rw [embs_map]; simp
  refine ⟨?_, fun k v hk => ?_⟩
  · simp only [Array.size_append, List.size_toArray, hl, Array.size_replicate, llen_eq]
    show _ = Nat.max nt (args.length + 0)
    have : Nat.max nt (args.length + 0) = max nt args.length := rfl
    rw [this]; omega
  · rw [putArgs_get] at hk
    split at hk
    · rename_i hc
      simp only [Nat.sub_zero] at hk
      refine ⟨(wfs_iff _).1 hw v (List.mem_of_getElem? hk), ?_⟩
      rw [Array.getElem?_append_left (by simp [hl]; omega)]
      rw [embs_map]; simp [hk]
    · rw [Tr.get_nil] at hk; cases hk
omit O in
theorem defsOk_cons (d : Nat) (l : List Nat) (h : MH) : defsOk E (d :: l) h = (match h.get d with | some .defd => cond (Nat.ble E.G.ro d) (defsOk E l (h.set d .dead)) none | _ => none) := rfl
omit O in
theorem resM_cons (m : MA) (h : MH) (r : ResultVar) (l : List ResultVar) : resM E m h (r :: l) =
    (match r with
    | .tmp t => match m.tmps.get t, resM E m h l with | some v, some vs => some (v :: vs) | _, _ => none
    | .cell p t => match tyOf E t, m.tmps.get p, resM E m h l with
      | some T, some (.ptr id off), some vs => match readAt T h id off with | some v => some (v :: vs) | none => none
      | _, _, _ => none) := rfl
theorem results_ok (hE : EnvOk E P) {σ : Sg} {V : Nat → Prop} {h : MH} {w : World} {m : MA} {tmps : Array Value} (R : Rel E.G B W0 σ V h w) (ha : TmR σ V m.tmps m.nt tmps) : ∀ (l : List ResultVar) (vs : List MV), resM E m h l = some vs →
    wfs σ V vs ∧ (l.mapM (m := Sem) fun
      | .tmp t => pure (tmps.getD t undef)
      | .cell a t => do loadVar t (← asAddr (tmps.getD a undef))).run P w = .ok (embs σ vs) w := by
  intro l
  induction l with
  | nil => intro vs hv; have e : resM E m h [] = some [] := rfl
           rw [e] at hv; cases hv; exact ⟨trivial, rfl⟩
  | cons r l ih =>
    intro vs hv
    rw [resM_cons] at hv
    rw [List.mapM_cons]
    cases r with
    | tmp t =>
      dsimp only at hv
      split at hv
      · rename_i v us hv1 hv2
        cases hv
        obtain ⟨h1, h2⟩ := ih us hv2
        obtain ⟨g1, g2⟩ := ha.cell t v hv1
        refine ⟨by simp only [wfs]; exact ⟨g1, h1⟩, ?_⟩
        simp only [pure_bind]
        rw [Sem.bind_ok h2]
        simp only [Sem.run_pure, embs, Array.getD_eq_getD_getElem?, g2]
        rfl
      · cases hv
    | cell p t =>
      dsimp only at hv
      split at hv
      · rename_i T id off us hT hp hv2
        split at hv
        · rename_i v hr
          cases hv
          obtain ⟨h1, h2⟩ := ih us hv2
          obtain ⟨g1, g2⟩ := ha.cell p _ hp
          simp only [wf] at g1
          obtain ⟨k1, k2⟩ := readAt_ok hE R hT g1 hr
          refine ⟨by simp only [wfs]; exact ⟨k1, h1⟩, ?_⟩
          have hc : (do loadVar t (← asAddr (tmps.getD p undef)) : Sem Value).run P w = .ok (emb σ v) w := by
            rw [Array.getD_eq_getD_getElem?, g2]; exact k2
          refine (Sem.bind_ok hc).trans ?_
          rw [Sem.bind_ok h2]
          rfl
        · cases hv
      · cases hv
theorem results_is (hE : EnvOk E P) {σ : Sg} {V : Nat → Prop} {h : MH} {w : World} {m : MA} {tmps : Array Value} (R : Rel E.G B W0 σ V h w) (ha : TmR σ V m.tmps m.nt tmps) {F : Func} {vs : List MV} (hr : resM E m h F.results.toList = some vs) :
    ∃ v : MV, oneOf vs = v ∧ wf σ V v ∧ (results F tmps).run P w = .ok (emb σ v) w := by
  obtain ⟨h1, h2⟩ := results_ok (P := P) hE R ha _ _ hr
  unfold results
  have hm : (F.results.mapM (m := Sem) fun
      | .tmp t => pure (tmps.getD t undef)
      | .cell a t => do loadVar t (← asAddr (tmps.getD a undef))).run P w = .ok ⟨embs σ vs⟩ w := by
    rw [Array.mapM_eq_mapM_toList, ← bind_pure_comp]
    exact (Sem.bind_ok h2).trans rfl
  refine ⟨_, rfl, ?_, ?_⟩
  · unfold oneOf
    split
    · simp only [wfs] at h1; exact h1.1
    · simp only [wf]; exact h1
  · refine (Sem.bind_ok hm).trans ?_
    cases vs with
    | nil => simp [embs, oneOf, emb]
    | cons v vs => cases vs with
      | nil => simp [embs, oneOf]
      | cons u vs => simp [embs, oneOf, emb]
omit O in
theorem take_deferred {w : World} {b : Nat} {ds : List Deferred} (hb : w.heap[b]? = some (.deferred (some ds))) : (Instr.takeDeferred b).run P w = .ok ds (w.putObj b (.deferred none)) := by
  unfold Instr.takeDeferred
  simp [getObj, setObj, Sem.run, hb, World.putObj]
theorem leave_ok (hE : EnvOk E P) {F : Func} {tmps : Array Value} {m : MA} {K : Ending → World → Prop} : ∀ (ds : List Nat) (σ : Sg) (V : Nat → Prop) (h h' : MH) (w : World), (∀ d ∈ ds, V d) → Rel E.G B W0 σ V h w → TmR σ V m.tmps m.nt tmps →
    defsOk E ds h = some h' → (∃ vs, resM E m h' F.results.toList = some vs) →
    (∀ w' v, Rel E.G B W0 σ V h' w' → h'.nx = h.nx → (∃ vs, resM E m h' F.results.toList = some vs ∧ oneOf vs = v) → wf σ V v → K (.returned (emb σ v)) w') →
    LeavesInM Fence.wide 0 P F tmps K (ds.map (markOf σ)) .returning w := by
  intro ds
  induction ds with
  | nil =>
    intro σ V h h' w _ R ht hd hr hK
    have e : defsOk E [] h = some h := rfl
    rw [e] at hd; cases hd
    obtain ⟨vs, hvs⟩ := hr
    obtain ⟨v, hv, hw, hrun⟩ := results_is (P := P) hE R ht hvs
    show LeavesIn Fence.wide 0 P F tmps K [] .returning w
    exact ⟨_, hrun, hK w v R rfl ⟨vs, hvs, hv⟩ hw⟩
  | cons d ds ih =>
    intro σ V h h' w hdv R ht hd hr hK
    rw [defsOk_cons] at hd
    split at hd
    · rename_i hg
      cases hG : Nat.ble E.G.ro d with
      | false => rw [hG] at hd; cases hd
      | true =>
      rw [hG] at hd
      simp only [cond_true] at hd
      have hG := Nat.le_of_ble_eq_true hG
      have hb : w.heap[(σ d).blk]? = some (.deferred (some [])) := R.blk d _ (hdv d (by simp)) hg
      have R1 : Rel E.G B W0 σ V (h.set d .dead) (w.putObj (σ d).blk (.deferred none)) :=
        R.write (hdv d (by simp)) hg rfl hG _ trivial
      refine ⟨by simp, .inl ⟨(σ d).blk, _, rfl, take_deferred hb, ?_⟩⟩
      exact ih σ V _ h' _ (fun x hx => hdv x (by simp [hx])) R1 ht hd hr (fun w' v r1 r2 r3 r4 => hK w' v r1 r2 r3 r4)
    · cases hd
omit O in
theorem ret_inv {F : Func} {m : MA} {h h' : MH} {v : MV} (ho : retM E F m h = some (v, h')) : defsOk E m.defs h = some h' ∧ ∃ vs, resM E m h' F.results.toList = some vs ∧ oneOf vs = v := by
  unfold retM at ho
  split at ho
  · cases ho
  · rename_i h1 hd
    split at ho
    · rename_i u hr
      cases ho
      exact ⟨hd, _, hr, rfl⟩
    · rename_i vs hn hr
      cases ho
      refine ⟨hd, _, hr, ?_⟩
      unfold oneOf
      split
      · exact absurd rfl (hn _)
      · rfl
    · cases ho
def OrcOk (E : Env) (P : Program) (B : Nat → Prop) (W0 : World) : Prop :=
  ∀ f args h v h', E.orc f args h = some (v, h') → ∀ σ V w, Rel E.G B W0 σ V h w → wfs σ V args → Calls P f ⟨embs σ args⟩ w (EndK E.G B W0 σ V h h' v)
theorem call_ok (hE : EnvOk E P) (hO : OrcOk E P B W0) (hW : ∀ k, B k → k < W0.heap.size) {go : Task → MH → Option (MV × MH)} (hgo : GoOk E P B W0 go) (hd : DrawOk E P B W0 go) {f : FuncId} {args : List MV} {h h' : MH} {v : MV} (ho : rCall E go f args h = some (v, h')) :
    ∃ F, E.fns.get f = some F ∧ F.body.isSome = true ∧ ∀ σ V w, Rel E.G B W0 σ V h w → wfs σ V args → Calls P f ⟨embs σ args⟩ w (EndK E.G B W0 σ V h h' v) := by
  unfold rCall at ho
  split at ho
  · rename_i F hF
    split at ho
    · rename_i body hb
      refine ⟨F, hF, by rw [hb]; rfl, fun σ V w R hw => ?_⟩
      cases horc : E.orc f args h with
      | some r =>
        rw [horc] at ho
        cases ho
        exact hO f args h v h' horc σ V w R hw
      | none =>
      rw [horc] at ho
      simp only at ho
      refine callsIn_wide.1 (callsIn_of_wp_marks (F := Fence.wide) (n := 0) (hE.fns f F hF).1 hb trivial ?_)
      cases hc : code E go none 1000 body ⟨putArgs args .nil 0, Nat.max F.ntmps (llen args 0), []⟩ h with
      | none => rw [hc] at ho; cases ho
      | some o =>
        rw [hc] at ho
        have ha : ActR σ V ⟨putArgs args .nil 0, Nat.max F.ntmps (llen args 0), []⟩ { tmps := (⟨embs σ args⟩ : Array Value) ++ Array.replicate (F.ntmps - (⟨embs σ args⟩ : Array Value).size) undef, defers := [] } :=
          ⟨args_tm hw _, rfl, fun d hd => by cases hd⟩
        have hwp := code_ok hE hW hgo hd none 1000 body _ h o hc σ V w _ none R ha (.inl ⟨rfl, rfl⟩)
        refine wpIn_mono hwp ?_
        rintro e a1 w1 ⟨rfl, σ1, V1, g1, g2, g3, g4, g5, g6⟩
        have key : retM E F o.a o.h = some (v, h') → LeavesInM Fence.wide 0 P F a1.tmps (EndK E.G B W0 σ V h h' v) a1.defers .returning w1 := by
          intro hret
          obtain ⟨hdf, vs, hvs, hv⟩ := ret_inv hret
          rw [g6.df]
          refine leave_ok (P := P) hE o.a.defs σ1 V1 o.h h' w1 g6.dv g5 g6.tm hdf ⟨vs, hvs⟩ ?_
          rintro w2 v2 r1 r2 ⟨vs2, h2, hv2⟩ r4
          rw [hvs] at h2
          cases h2
          rw [hv] at hv2
          subst hv2
          exact ⟨σ1, V1, g1, g2, g3, by rw [r2]; exact g4, r1, r4, rfl⟩
        obtain ⟨oe, oa, oh⟩ := o
        cases oe with
        | normal => exact key ho
        | ret => exact key ho
        | exit id => cases ho
        | goto l => cases ho
    · cases ho
  · cases ho
/-! ### Rounds -/
theorem putParams_ok {σ : Sg} {V : Nat → Prop} {nt : Nat} : ∀ (ps : List Nat) (t : Tr MV) (vs : List MV) (t' : Tr MV) (a : Array Value), TmR σ V t nt a → wfs σ V vs → putParams ps t vs = some t' → (∀ p ∈ ps, p < nt) →
    ps.length = vs.length ∧ TmR σ V t' nt ((ps.zip (embs σ vs)).foldl (fun tmps p => tmps.setIfInBounds p.1 p.2) a) := by
  intro ps
  induction ps with
  | nil =>
    intro t vs t' a ht hw ho _
    cases vs with
    | nil =>
      have e : putParams [] t [] = some t := rfl
      rw [e] at ho; cases ho
      exact ⟨rfl, ht⟩
    | cons v vs => cases ho
  | cons p ps ih =>
    intro t vs t' a ht hw ho hp
    cases vs with
    | nil => cases ho
    | cons v vs =>
      have e : putParams (p :: ps) t (v :: vs) = putParams ps (t.put p v) vs := rfl
      rw [e] at ho
      simp only [wfs] at hw
      have hlt := hp p (by simp)
      have ht1 : TmR σ V (t.put p v) nt (a.setIfInBounds p (emb σ v)) := by
        refine ⟨by simpa using ht.size, fun k u hk => ?_⟩
        rw [Tr.get_put] at hk
        split at hk
        · rename_i e
          cases hk
          refine ⟨hw.1, ?_⟩
          rw [e, Array.getElem?_setIfInBounds, if_pos rfl, if_pos (by rw [ht.size]; exact hlt)]
        · rename_i e
          obtain ⟨h1, h2⟩ := ht.cell k u hk
          exact ⟨h1, by rw [Array.getElem?_setIfInBounds_ne (Ne.symm e)]; exact h2⟩
      obtain ⟨h1, h2⟩ := ih _ vs t' _ ht1 hw.2 ho (fun q hq => hp q (by simp [hq]))
      exact ⟨by simp [h1], by simpa [embs] using h2⟩
end
end Go.Mini
/- The evaluator's rounds against the model's; the evaluator is sound but for drawn regions. -/
namespace Go.Mini
variable [O : Opq]
open Go.RowKit
section
variable {E : Env} {P : Program} {B : Nat → Prop} {W0 : World}
theorem round_post {σ : Sg} {V : Nat → Prop} {h' : MH} {w : World} {l : Nat} {v : MV} {o : MO} {a : Act} (hG : E.G.ro ≤ l) (hl : V l) (R : Rel E.G B W0 σ V o.h w) (ho : roundEnd l (some o) = some (v, h')) {K : Ending → World → Prop}
    (hK : ∀ w', Rel E.G B W0 σ V h' w' → h'.nx = o.h.nx → wf σ V v → K (.returned (emb σ v)) w') : roundPost P (σ l).blk K (ex o.e) a w := by
  obtain ⟨oe, oa, oh⟩ := o
  simp only [roundEnd] at ho
  split at ho
  · rename_i L hg
    obtain ⟨tm, fn, b1, b2, b3⟩ := R.blk l _ hl hg
    cases ho
    have fin : ∀ (st : LoopState) (j : Option Code), Rel E.G B W0 σ V (oh.set l (.loop { L with state := st, pending := j })) (w.putObj (σ l).blk (.loop (embL σ { L with state := st, pending := j } tm fn))) :=
      fun st j => R.write hl hg rfl hG _ ⟨tm, fn, World.putObj_heap_same (R.lt hl hg rfl), b2, b3⟩
    have run : ∀ (j : Option Code), (Instr.endRound (σ l).blk j).run P w = .ok (.bool j.isNone) (w.putObj (σ l).blk (.loop (embL σ { L with state := if j.isNone then .ready else .done, pending := j } tm fn))) := by
      intro j
      unfold Instr.endRound
      rw [Sem.bind_ok (r_getLoop (P := P) b1), Sem.bind_ok (run_setObj_loop (P := P) _ b1)]
      rfl
    cases oe with
    | normal => exact ⟨_, _, run none, hK _ (fin _ _) rfl trivial⟩
    | ret => exact ⟨_, _, run (some .ret), hK _ (fin _ _) rfl trivial⟩
    | exit id => exact ⟨_, _, run (some (.exit id)), hK _ (fin _ _) rfl trivial⟩
    | goto t => exact ⟨_, _, run (some (.goto t)), hK _ (fin _ _) rfl trivial⟩
  · cases ho
theorem round_ok (hE : EnvOk E P) (hW : ∀ k, B k → k < W0.heap.size) {go : Task → MH → Option (MV × MH)} (hgo : GoOk E P B W0 go) (hd : DrawOk E P B W0 go) {l : Nat} {args : List MV} {h h' : MH} {v : MV} (ho : rRound E go l args h = some (v, h'))
    {σ : Sg} {V : Nat → Prop} {w : World} (R : Rel E.G B W0 σ V h w) (hl : V l) (hw : wfs σ V args) :
    ∃ f tm assign body, (Instr.yield (σ l).blk ⟨embs σ args⟩).run P w = .ok (.round (σ l).blk f tm assign body) w ∧ RoundIn Fence.wide 0 P (σ l).blk f tm assign body w (EndK E.G B W0 σ V h h' v) := by
  unfold rRound at ho
  split at ho
  · rename_i L hg
    obtain ⟨tm, fn, b1, b2, b3⟩ := R.blk l _ hl hg
    cases hc : (and (Nat.ble E.G.ro l) (L.params.all fun p => Nat.blt p L.nt)) with
    | false => rw [hc] at ho; cases ho
    | true =>
      rw [hc] at ho
      simp only [cond_true] at ho
      obtain ⟨c1, c2⟩ := and2 hc
      have hG := Nat.le_of_ble_eq_true c1
      have hp : ∀ p ∈ L.params, p < L.nt := fun p hp => blt_lt (List.all_eq_true.1 c2 p hp)
      split at ho
      · rename_i t ht
        obtain ⟨hlen, htm⟩ := putParams_ok L.params L.tmps args t tm b2 hw ht hp
        refine ⟨fn, (L.params.zip (embs σ args)).foldl (fun tmps p => tmps.setIfInBounds p.1 p.2) tm, L.assign, L.body, ?_, ?_⟩
        · unfold Instr.yield
          rw [Sem.bind_ok (r_getLoop (P := P) b1)]
          rw [if_neg (by simp [embL, hlen, embs_map])]
          simp only [Sem.run_pure, embL]
          congr 2
          rw [← Array.foldl_toList]
          simp
        · refine roundIn_of_wpIn (F := Fence.wide) (l := (σ l).blk) trivial ?_
          split at ho
          · rename_i m1 h1 hcode
            have ha : ActR σ V ⟨t, L.nt, []⟩ { tmps := (L.params.zip (embs σ args)).foldl (fun tmps p => tmps.setIfInBounds p.1 p.2) tm, defers := [] } := ⟨htm, rfl, fun d hd => by cases hd⟩
            have hwp := code_ok hE hW hgo hd (some l) 1000 L.assign _ h _ hcode σ V w _ (some (σ l).blk) R ha (.inr ⟨l, rfl, hl, rfl⟩)
            refine wpIn_mono hwp ?_
            rintro e a1 w1 ⟨rfl, σ1, V1, g1, g2, g3, g4, g5, g6⟩
            simp only [ex, Exit.then]
            have hl1 := g2 l hl
            have hbl : (σ1 l).blk = (σ l).blk := by rw [g1 l hl]
            cases hb : roundBody E go l L.body m1 h1 with
            | none => rw [hb] at ho; cases ho
            | some o =>
              rw [hb] at ho
              unfold roundBody at hb
              split at hb
              · rename_i L1 hg1
                obtain ⟨tm1, fn1, k1, k2, k3⟩ := g5.blk l _ hl1 hg1
                split at hb
                · rename_i hst
                  have R2 : Rel E.G B W0 σ1 V1 (h1.set l (.loop { L1 with state := .busy })) (w1.putObj (σ1 l).blk (.loop (embL σ1 { L1 with state := .busy } tm1 fn1))) :=
                    g5.write hl1 hg1 rfl hG _ ⟨tm1, fn1, World.putObj_heap_same (g5.lt hl1 hg1 rfl), k2, k3⟩
                  refine ⟨w1.putObj (σ1 l).blk (.loop (embL σ1 { L1 with state := .busy } tm1 fn1)), ?_, ?_⟩
                  · unfold Instr.beginRound
                    rw [← hbl]
                    rw [Sem.bind_ok (r_getLoop (P := P) k1), Sem.bind_ok (run_setObj_loop (P := P) _ k1)]
                    simp only [embL, hst]
                    rfl
                  · have hwp2 := code_ok hE hW hgo hd (some l) 1000 L.body m1 _ o hb σ1 V1 _ a1 (some (σ l).blk) R2 g6 (.inr ⟨l, rfl, hl1, by rw [hbl]⟩)
                    refine wpIn_mono hwp2 ?_
                    rintro e a2 w2 ⟨rfl, σ2, V2, j1, j2, j3, j4, j5, j6⟩
                    have hbl2 : (σ2 l).blk = (σ l).blk := by rw [j1 l hl1]; exact hbl
                    rw [← hbl2]
                    refine round_post hG (j2 l hl1) j5 ho ?_
                    intro w3 r1 r2 r3
                    refine After.trans g1 g2 g3 g4 (After.trans (h' := o.h) j1 j2 (fun id hid => j3 id hid) j4 ?_)
                    exact ⟨σ2, V2, Agr.refl _ _, fun _ hx => hx, fun _ hx => .inl hx, Nat.le_of_eq r2.symm, r1, r3, rfl⟩
                · cases hb
              · cases hb
          · cases ho
      · cases ho
  · cases ho
omit O in
theorem run_succ (n : Nat) (t : Task) (h : MH) : run E (n + 1) t h = runStep E (run E n) t h := rfl
theorem run_ok (hE : EnvOk E P) (hO : OrcOk E P B W0) (hW : ∀ k, B k → k < W0.heap.size) (hdr : ∀ go, GoOk E P B W0 go → DrawOk E P B W0 go) : ∀ n, GoOk E P B W0 (run E n) := by
  intro n
  induction n with
  | zero => exact ⟨fun f args h v h' ho => (by cases ho), fun l args h v h' ho => (by cases ho)⟩
  | succ n ih =>
    refine ⟨fun f args h v h' ho => ?_, fun l args h v h' ho σ V w R hl hw => ?_⟩
    · rw [run_succ] at ho
      exact call_ok hE hO hW ih (hdr _ ih) ho
    · rw [run_succ] at ho
      exact round_ok hE hW ih (hdr _ ih) ho R hl hw
end
end Go.Mini
/- The evaluator's drawn regions: an operation depends on its operands alone. -/
namespace Go.Mini
variable [O : Opq]
open Go.RowKit
section
variable {E : Env} {h : MH} {ev ev' : Ev}
omit O in
theorem evs_congr : ∀ (l : List Operand), (∀ x ∈ l, ev x = ev' x) → evs ev l = evs ev' l := by
  intro l
  induction l with
  | nil => intro _; rfl
  | cons x l ih => intro hx; rw [evs_cons, evs_cons, hx x (by simp), ih (fun y hy => hx y (by simp [hy]))]
omit O in
theorem mfill_congr (place : Nat → Option (Nat × Nat)) : ∀ (ps : List (Nat × Operand)) (cells : List MV), (∀ p ∈ ps, ev p.2 = ev' p.2) → mfill place ev ps cells = mfill place ev' ps cells := by
  intro ps
  induction ps with
  | nil => intro cells _; rfl
  | cons p ps ih =>
    intro cells hx
    rw [mfill_cons, mfill_cons, hx p (by simp)]
    have : ∀ c, mfill place ev ps c = mfill place ev' ps c := fun c => ih c (fun q hq => hx q (by simp [hq]))
    simp only [this]
omit O in
theorem optNat_congr (o : Option Operand) (hx : ∀ x ∈ o.toList, ev x = ev' x) : optNat ev o = optNat ev' o := by
  cases o with
  | none => rfl
  | some x => unfold optNat; dsimp only; rw [hx x (by simp)]
omit O in
theorem mop_congr (o : Op) (hc : ∀ x ∈ o.operands, ev x = ev' x) : mop E ev o h = mop E ev' o h := by
  cases o <;> simp only [mop]
  case move x => rw [hc x (by simp [Op.operands])]
  case assign x => rw [hc x (by simp [Op.operands])]
  case pick c a b => unfold oPick; rw [hc c (by simp [Op.operands]), hc a (by simp [Op.operands]), hc b (by simp [Op.operands])]
  case box t x => unfold oBox; rw [hc x (by simp [Op.operands])]
  case build t ps =>
    have hp : ∀ p ∈ ps.toList, ev p.2 = ev' p.2 := fun p hp => hc p.2 (by simp only [Op.operands, List.mem_toArray, List.mem_map]; exact ⟨p, hp, rfl⟩)
    have hm : ∀ pl c, mfill pl ev ps.toList c = mfill pl ev' ps.toList c := fun pl c => mfill_congr pl _ c hp
    unfold oBuild; simp only [hm]
  case buildSlice t n ps =>
    have hp : ∀ p ∈ ps.toList, ev p.2 = ev' p.2 := fun p hp => hc p.2 (by simp only [Op.operands, List.mem_toArray, List.mem_map]; exact ⟨p, hp, rfl⟩)
    have hm : ∀ pl c, mfill pl ev ps.toList c = mfill pl ev' ps.toList c := fun pl c => mfill_congr pl _ c hp
    unfold oBuildSlice; simp only [hm]
  case load t x => unfold oLoad; rw [hc x (by simp [Op.operands])]
  case store t x y => unfold oStore; rw [hc x (by simp [Op.operands]), hc y (by simp [Op.operands])]
  case nilCheck x => unfold oNilCheck; rw [hc x (by simp [Op.operands])]
  case binOp op t x y yt => unfold oBin oSym oBin0; rw [hc x (by simp [Op.operands]), hc y (by simp [Op.operands])]
  case unOp op t x => unfold oUn; rw [hc x (by simp [Op.operands])]
  case convert s d x => unfold oConv; rw [hc x (by simp [Op.operands])]
  case makeFunc f a b =>
    unfold oMakeFunc
    rw [evs_congr a.toList (fun x hx => hc x (by simp only [Op.operands, Array.mem_append]; exact .inl (by simpa using hx))), evs_congr b.toList (fun x hx => hc x (by simp only [Op.operands, Array.mem_append]; exact .inr (by simpa using hx)))]
  case makeMap t r =>
    cases r with
    | none => rfl
    | some x => unfold oMakeMap; dsimp only; rw [hc x (by simp [Op.operands])]
  case makeSlice t l c => unfold oMakeSlice evN; rw [hc l (by simp [Op.operands]), hc c (by simp [Op.operands])]
  case slice t x lo hi mx =>
    unfold oSlice
    rw [hc x (by simp [Op.operands]), optNat_congr lo (fun y hy => hc y (by simp only [Op.operands, Array.mem_append, Option.mem_toArray]; simp at hy; exact .inl (.inl (.inr hy)))),
      optNat_congr hi (fun y hy => hc y (by simp only [Op.operands, Array.mem_append, Option.mem_toArray]; simp at hy; exact .inl (.inr hy))),
      optNat_congr mx (fun y hy => hc y (by simp only [Op.operands, Array.mem_append, Option.mem_toArray]; simp at hy; exact .inr hy))]
  case fieldAddr t x f => unfold oFieldAddr; rw [hc x (by simp [Op.operands])]
  case field t x f => unfold oField; rw [hc x (by simp [Op.operands])]
  case indexAddr t x i => unfold oIndexAddr evN; rw [hc x (by simp [Op.operands]), hc i (by simp [Op.operands])]
  case index t x i => unfold oIndex evN; rw [hc x (by simp [Op.operands]), hc i (by simp [Op.operands])]
  case lookup t m k ok => unfold oLookup; rw [hc m (by simp [Op.operands]), hc k (by simp [Op.operands])]
  case mapUpdate t m k v => unfold oUpdate; rw [hc m (by simp [Op.operands]), hc k (by simp [Op.operands]), hc v (by simp [Op.operands])]
  case insert t m k v => unfold oUpdate; rw [hc m (by simp [Op.operands]), hc k (by simp [Op.operands]), hc v (by simp [Op.operands])]
  case range t x => unfold oRange; rw [hc x (by simp [Op.operands])]
  case next it s => unfold oNext; rw [hc it (by simp [Op.operands])]
  case entry it => unfold oEntry; rw [hc it (by simp [Op.operands])]
  case extract t i => unfold oExtract; rw [hc t (by simp [Op.operands])]
  case call c =>
    unfold oCall
    rw [evs_congr c.args.toList (fun x hx => hc x (by simp only [Op.operands, Call.operands, Array.mem_append]; exact .inr (by simpa using hx)))]
    cases hcl : c.callee with
    | value f => dsimp only; rw [hc f (by simp [Op.operands, Call.operands, hcl])]
    | invoke r m => rfl
    | builtin b => rfl
omit O in
theorem new_heap {o : Op} {k : NewK} {b : MB} (h' : MH) (ho : mop E ev o h = some (.new k b)) : mop E ev o h' = some (.new k b) := by
  cases o <;> simp only [mop] at ho ⊢ <;> first | exact ho | exact (vR_new ho).elim | exact (updR_new ho).elim | skip
  case load => exact (ov_new (ov_load _ _) ho).elim
  case convert => rcases conv_forms ho with ⟨v, e⟩ | ⟨S, D, e, T, b, -, -, -, -, -, -, -, e⟩ | ⟨S, D, e1, e2, T, xv, -, -, -, -, -, -, -, -, hm⟩ <;> first | cases e | (obtain ⟨_, _, _, _, _, _, _, _, -, -, -, e⟩ := markM_upd hm; cases e)
  case lookup => exact (ov_new (ov_lookup _ _ _ _) ho).elim
  case call => exact (call_new ho).elim
end
end Go.Mini
