/- Answers of several oracles: sha.turned, strings.Join, sha.Sum at known bytes. -/
import Derived.Test.YthbialpbkpiekaaGreatDoorEF
import Derived.Laws.Rows
import Derived.Lib.Join
import Derived.Lib.Index
namespace Go.Mini
open Go.RowKit
abbrev Orc := FuncId → List MV → MH → Option (MV × MH)
noncomputable def noOrc : Orc := fun _ _ _ => none
noncomputable def orOrc (o1 o2 : Orc) : Orc := fun f args h => match o1 f args h with | some r => some r | none => o2 f args h

section
variable [O : Opq]
/-- What is asked of an oracle's answers. -/
def OrcIs (G : GB) (P : Program) (B : Nat → Prop) (W0 : World) (o : Orc) : Prop :=
  ∀ f args h v h', o f args h = some (v, h') → ∀ σ V w, Rel G B W0 σ V h w → wfs σ V args → Calls P f ⟨embs σ args⟩ w (EndK G B W0 σ V h h' v)
theorem orcIs_no {G : GB} {P : Program} {B : Nat → Prop} {W0 : World} : OrcIs G P B W0 noOrc := fun f args h v h' e => by cases e
theorem orcIs_or {G : GB} {P : Program} {B : Nat → Prop} {W0 : World} {o1 o2 : Orc} (h1 : OrcIs G P B W0 o1) (h2 : OrcIs G P B W0 o2) : OrcIs G P B W0 (orOrc o1 o2) := by
  intro f args h v h' e
  unfold orOrc at e
  split at e
  · rename_i r hr
    cases e
    exact h1 f args h v h' hr
  · exact h2 f args h v h' e
theorem orcOk_of {E : Env} {P : Program} {B : Nat → Prop} {W0 : World} (h : OrcIs E.G P B W0 E.orc) : OrcOk E P B W0 := h
end

/-! ### sha.turned -/
def rotI (x : Int) (n : Nat) : Int := bits .or .u32 (x * 2 ^ n % 4294967296) (x / 2 ^ (32 - n))
noncomputable def turnI (x : Int) (ps : List Nat) : Int → Int := List.rec (fun y => y) (fun p _ ih y => ih (bits .xor .u32 y (rotI x (32 - p)))) ps
theorem turnI_eq (x : Int) (ps : List Nat) : ∀ y, turnI x ps y = ps.foldl (fun y p => bits .xor .u32 y (rotI x (32 - p))) y := by
  induction ps with
  | nil => intro y; rfl
  | cons p ps ih => intro y; exact ih _
noncomputable def placesOf (l : List MV) : Option (List Nat) :=
  List.rec (some []) (fun v _ ih => match v with
    | .int .i64 (.ofNat n) => cond (and (Nat.ble 1 n) (Nat.ble n 31)) (match ih with | some r => some (n :: r) | none => none) none
    | _ => none) l
theorem placesOf_cons (v : MV) (l : List MV) : placesOf (v :: l) = (match v with
    | .int .i64 (.ofNat n) => cond (and (Nat.ble 1 n) (Nat.ble n 31)) (match placesOf l with | some r => some (n :: r) | none => none) none
    | _ => none) := rfl
theorem placesOf_ok : ∀ (l : List MV) (ps : List Nat), placesOf l = some ps → (∀ p ∈ ps, 1 ≤ p ∧ p ≤ 31) ∧ l = ps.map (fun n => .int .i64 (.ofNat n)) := by
  intro l
  induction l with
  | nil => intro ps h; have e : placesOf [] = some [] := rfl
           rw [e] at h; cases h; exact ⟨fun p hp => (by cases hp), rfl⟩
  | cons v l ih =>
    intro ps h
    rw [placesOf_cons] at h
    split at h
    · rename_i n
      cases hc : (and (Nat.ble 1 n) (Nat.ble n 31)) with
      | false => rw [hc] at h; cases h
      | true =>
        rw [hc] at h
        simp only [cond_true] at h
        obtain ⟨c1, c2⟩ := and2 hc
        split at h
        · rename_i r hr
          cases h
          obtain ⟨i1, i2⟩ := ih r hr
          refine ⟨fun p hp => ?_, by rw [i2]; rfl⟩
          rcases List.mem_cons.1 hp with rfl | hp
          · exact ⟨Nat.le_of_ble_eq_true c1, Nat.le_of_ble_eq_true c2⟩
          · exact i1 p hp
        · cases h
    · cases h
noncomputable def orcTurn (f : Nat) : Orc := fun g args h =>
  cond (Nat.beq g f) (match args with
    | [.int .u32 x, .sl id off len _] => cond (Nat.ble len 64) (match readCells h id off len with
      | some l => match placesOf l with | some ps => some (.int .u32 (turnI x ps 0), h) | none => none
      | none => none) none
    | _ => none) none

section
variable [O : Opq] {G : GB} {P : Program} {B : Nat → Prop} {W0 : World}
theorem rel_cells {σ : Sg} {V : Nat → Prop} {h : MH} {w : World} (R : Rel G B W0 σ V h w) {id off n : Nat} {l : List MV} (hv : V id) (hr : readCells h id off n = some l) :
    l.length = n ∧ wfs σ V l ∧ ∀ i v, l[i]? = some v → w.cell? ⟨(σ id).blk, (σ id).off + off + i, none⟩ = some (emb σ v) := by
  unfold readCells at hr
  split at hr
  · rename_i cs t es o hg
    obtain ⟨c, fz, h1, h2, -, h4, -, -⟩ := R.blk id _ hv hg
    obtain ⟨l1, l2⟩ := ltake_some hr
    rw [ldrop_eq] at l1 l2
    have hget : ∀ i v, l[i]? = some v → cs[off + i]? = some v := fun i v hi => by
      rw [l2, List.getElem?_take] at hi
      split at hi
      · rwa [List.getElem?_drop] at hi
      · cases hi
    refine ⟨by rw [l2, List.length_take]; omega, (wfs_iff _).2 fun v hv' => ?_, fun i v hi => ?_⟩
    · obtain ⟨i, hi⟩ := List.mem_iff_getElem?.1 hv'
      exact (wfs_iff _).1 h2 v (List.mem_of_getElem? (hget i v hi))
    · rw [cell_of_row w _ _ c t fz h1, Nat.add_assoc]
      exact h4 _ v (hget i v hi)
  · cases hr
theorem orcTurn_ok (hW : ∀ k, B k → k < W0.heap.size) {f : Nat} (hc : ∀ (x : Int) (b o cap : Nat) (ps : List Nat), (∀ p ∈ ps, 1 ≤ p ∧ p ≤ 31) → ps.length ≤ 64 → ∀ w : World, (∀ i (h : i < ps.length), w.cell? ⟨b, o + i, none⟩ = some (.int .i64 (ps[i] : Nat))) →
      Calls P f #[.int .u32 x, .slice (some ⟨b, o, none⟩) ps.length cap] w (fun e w' => e = .returned (.int .u32 (ps.foldl (fun y p => bits .xor .u32 y (rotI x (32 - p))) 0)) ∧ w = w')) : OrcIs G P B W0 (orcTurn f) := by
  intro g args h v h' ho σ V w R hw
  unfold orcTurn at ho
  cases hg : Nat.beq g f with
  | false => rw [hg] at ho; cases ho
  | true =>
    rw [hg] at ho
    obtain rfl := Nat.eq_of_beq_eq_true hg
    simp only [cond_true] at ho
    split at ho
    · rename_i x id off len cap
      cases hl : Nat.ble len 64 with
      | false => rw [hl] at ho; cases ho
      | true =>
        rw [hl] at ho
        simp only [cond_true] at ho
        split at ho
        · rename_i l hr
          split at ho
          · rename_i ps hps
            cases ho
            obtain ⟨p1, p2⟩ := placesOf_ok l ps hps
            simp only [wfs, wf] at hw
            obtain ⟨r1, -, r3⟩ := rel_cells R hw.2.1.1 hr
            have hlen : len = ps.length := by rw [← r1, p2]; simp
            subst hlen
            have := hc x (σ id).blk ((σ id).off + off) cap ps p1 (Nat.le_of_ble_eq_true hl) w (fun i hi => r3 i (.int .i64 (.ofNat ps[i])) (by rw [p2]; simp [hi]))
            refine this.mono ?_
            rintro e w' ⟨rfl, rfl⟩
            rw [← turnI_eq]
            exact endK_same (v := .int .u32 (turnI x ps 0)) R hW (Below.refl _ _) (by simp only [wf])
          · cases ho
        · cases ho
    · cases ho
end
end Go.Mini
/- The oracle of strings.Join. -/
namespace Go.Mini
open Go.RowKit
noncomputable def strsOf (l : List MV) : Option (List (List Nat)) :=
  List.rec (some []) (fun v _ ih => match v with
    | .str s => match ih with | some r => some (s :: r) | none => none
    | _ => none) l
theorem strsOf_cons (v : MV) (l : List MV) : strsOf (v :: l) = (match v with
    | .str s => match strsOf l with | some r => some (s :: r) | none => none
    | _ => none) := rfl
theorem strsOf_ok : ∀ (l : List MV) (ss : List (List Nat)), strsOf l = some ss → l = ss.map .str := by
  intro l
  induction l with
  | nil => intro ss h; have e : strsOf [] = some [] := rfl
           rw [e] at h; cases h; rfl
  | cons v l ih =>
    intro ss h
    rw [strsOf_cons] at h
    split at h
    · rename_i s
      split at h
      · rename_i r hr
        cases h
        rw [ih r hr]; rfl
      · cases h
    · cases h
/-- The further elements, each behind a separator. -/
noncomputable def joinTN (sep : List Nat) (r : List (List Nat)) : List Nat := List.rec [] (fun x _ ih => sep ++ (x ++ ih)) r
noncomputable def joinN (sep : List Nat) (ls : List (List Nat)) : List Nat := List.rec [] (fun x r _ => x ++ joinTN sep r) ls
theorem joinTN_map (sep : List Nat) (r : List (List Nat)) : Lib.joinTail (sep.map UInt8.ofNat) (r.map (·.map UInt8.ofNat)) = (joinTN sep r).map UInt8.ofNat := by
  induction r with
  | nil => rfl
  | cons x r ih =>
    have e : joinTN sep (x :: r) = sep ++ (x ++ joinTN sep r) := rfl
    rw [e]
    have ih' := ih
    unfold Lib.joinTail at ih' ⊢
    simp only [List.map_cons, List.flatten_cons, List.map_append, List.append_assoc]
    rw [ih']
theorem joinN_map (sep : List Nat) (ls : List (List Nat)) : Lib.join (ls.map (·.map UInt8.ofNat)) (sep.map UInt8.ofNat) = (joinN sep ls).map UInt8.ofNat := by
  cases ls with
  | nil => rfl
  | cons x r =>
    have e : joinN sep (x :: r) = x ++ joinTN sep r := rfl
    rw [e, List.map_cons, Lib.join_cons, joinTN_map, List.map_append]
theorem joinTN_mem (sep : List Nat) (r : List (List Nat)) : ∀ b ∈ joinTN sep r, b ∈ sep ∨ ∃ x ∈ r, b ∈ x := by
  induction r with
  | nil => intro b hb; cases hb
  | cons x r ih =>
    intro b hb
    have e : joinTN sep (x :: r) = sep ++ (x ++ joinTN sep r) := rfl
    rw [e] at hb
    simp only [List.mem_append] at hb
    rcases hb with h | h | h
    · exact .inl h
    · exact .inr ⟨x, by simp, h⟩
    · rcases ih b h with h | ⟨y, hy, h⟩
      · exact .inl h
      · exact .inr ⟨y, by simp [hy], h⟩
theorem joinN_mem (sep : List Nat) (ls : List (List Nat)) : ∀ b ∈ joinN sep ls, b ∈ sep ∨ ∃ x ∈ ls, b ∈ x := by
  cases ls with
  | nil => intro b hb; cases hb
  | cons x r =>
    intro b hb
    have e : joinN sep (x :: r) = x ++ joinTN sep r := rfl
    rw [e] at hb
    rcases List.mem_append.1 hb with h | h
    · exact .inr ⟨x, by simp, h⟩
    · rcases joinTN_mem sep r b h with h | ⟨y, hy, h⟩
      · exact .inl h
      · exact .inr ⟨y, by simp [hy], h⟩
noncomputable def joinR (h : MH) (sep : List Nat) : Option (List MV) → Option (MV × MH)
  | some l => match strsOf l with
    | some ss => cond (and (Nat.ble (llen ss 0) 65536) (Nat.ble (llen (joinN sep ss) 0) 65536)) (some (.str (joinN sep ss), h)) none
    | none => none
  | none => none
noncomputable def orcJoin (f : Nat) : Orc := fun g args h =>
  cond (Nat.beq g f) (match args with
    | [.sl id off len _, .str sep] => joinR h sep (readCells h id off len)
    | [.slo id off _ len, .str sep] => joinR h sep (readCells h id off len)
    | _ => none) none

section
variable [O : Opq] {G : GB} {P : Program} {B : Nat → Prop} {W0 : World}
def JoinC (P : Program) (f : Nat) : Prop := ∀ (bk o c : Nat) (xs : List ByteArray) (sep : ByteArray) (w : World), (∀ (j : Nat) x, xs[j]? = some x → w.cell? ⟨bk, o + j, none⟩ = some (.string x)) → bk < w.heap.size → xs.length ≤ 140737488355328 → xs.length ≤ c →
    (Lib.join (xs.map (·.data.toList)) sep.data.toList).length ≤ 140737488355328 →
    Calls P f #[.slice (some ⟨bk, o, none⟩) xs.length c, .string sep] w fun e w' => e = .returned (.string ⟨(Lib.join (xs.map (·.data.toList)) sep.data.toList).toArray⟩) ∧ Below w.heap.size w w'
theorem joinR_ok (hW : ∀ k, B k → k < W0.heap.size) {f : Nat} (hc : JoinC P f) {σ : Sg} {V : Nat → Prop} {h h' : MH} {w : World} {v : MV} {sep : List Nat} {id off len cap : Nat} (R : Rel G B W0 σ V h w) (hv : V id) (hs : ∀ b ∈ sep, b < 256) (hcap : len ≤ cap)
    (ho : joinR h sep (readCells h id off len) = some (v, h')) : Calls P f #[.slice (some ⟨(σ id).blk, (σ id).off + off, none⟩) len cap, .string (bytesV sep)] w (EndK G B W0 σ V h h' v) := by
  unfold joinR at ho
  split at ho
  · rename_i l hr
    split at ho
    · rename_i ss hss
      cases hq : (and (Nat.ble (llen ss 0) 65536) (Nat.ble (llen (joinN sep ss) 0) 65536)) with
      | false => rw [hq] at ho; cases ho
      | true =>
        rw [hq] at ho
        cases ho
        obtain ⟨q1, q2⟩ := and2 hq
        have q1 := Nat.le_of_ble_eq_true q1
        have q2 := Nat.le_of_ble_eq_true q2
        rw [llen_eq] at q1 q2
        have hl := strsOf_ok l ss hss
        have hget := hr
        unfold readCells at hget
        split at hget
        · rename_i cs t es o hg
          obtain ⟨r1, r2, r3⟩ := rel_cells R hv hr
          have hlt := R.lt hv hg rfl
          have hmap : (ss.map bytesV).map (·.data.toList) = ss.map (·.map UInt8.ofNat) := by
            rw [List.map_map]; exact List.map_congr_left fun x _ => by simp [bytesV]
          have hsep : (bytesV sep).data.toList = sep.map UInt8.ofNat := by simp [bytesV]
          have hlen : len = (ss.map bytesV).length := by rw [← r1, hl]; simp
          subst hlen
          have := hc (σ id).blk ((σ id).off + off) cap (ss.map bytesV) (bytesV sep) w (fun j x hj => by
            rw [List.getElem?_map] at hj
            cases hs2 : ss[j]? with
            | none => rw [hs2] at hj; cases hj
            | some s =>
              rw [hs2] at hj; cases hj
              exact r3 j (.str s) (by rw [hl, List.getElem?_map, hs2]; rfl)) hlt (by simp; omega) hcap (by rw [hmap, hsep, joinN_map]; simp; omega)
          refine this.mono ?_
          rintro e w' ⟨rfl, hb⟩
          rw [hmap, hsep, joinN_map]
          refine endK_same (v := .str (joinN sep ss)) R hW hb ?_
          simp only [wf]
          intro b hb'
          rcases joinN_mem sep ss b hb' with h1 | ⟨x, hx, h1⟩
          · exact hs b h1
          · have := (wfs_iff _).1 r2 (.str x) (by rw [hl]; exact List.mem_map.2 ⟨x, hx, rfl⟩)
            simp only [wf] at this
            exact this b h1
        · cases hget
    · cases ho
  · cases ho
theorem orcJoin_ok (hW : ∀ k, B k → k < W0.heap.size) {f : Nat} (hc : JoinC P f) : OrcIs G P B W0 (orcJoin f) := by
  intro g args h v h' ho σ V w R hw
  unfold orcJoin at ho
  cases hg : Nat.beq g f with
  | false => rw [hg] at ho; cases ho
  | true =>
    rw [hg] at ho
    obtain rfl := Nat.eq_of_beq_eq_true hg
    simp only [cond_true] at ho
    split at ho
    · rename_i id off len cap sep
      simp only [wfs, wf] at hw
      exact joinR_ok hW hc R hw.1.1 hw.2.1 hw.1.2 ho
    · rename_i id off l len sep
      simp only [wfs, wf] at hw
      exact joinR_ok hW hc (cap := (σ id).cap - l) R hw.1.1 hw.2.1 (by omega) ho
    · cases ho
end
end Go.Mini
/- The oracle of sha.Sum at known bytes, out of runs on a heap of its own. -/
namespace Go.Mini
open Go.RowKit
noncomputable def u32s (l : List Nat) : List MV := List.rec [] (fun n _ ih => .int .u32 (.ofNat n) :: ih) l
theorem u32s_eq (l : List Nat) : u32s l = l.map (fun n => .int .u32 (.ofNat n)) := by
  induction l with
  | nil => rfl
  | cons n l ih => exact congrArg (MV.int .u32 (.ofNat n) :: ·) ih
noncomputable def resB : Option (MV × MH) → Option (List Nat)
  | some (.agg l, _) => bytesOf l
  | _ => none
/-- The two tables, and bytes at number a. -/
structure ShaT where
  s0 : Nat
  l0 : List Nat
  t0 : TypeId
  s1 : Nat
  l1 : List Nat
  t1 : TypeId
  u8 : TypeId
noncomputable def ShaT.b0 (T : ShaT) : MB := .cells (u32s T.l0) T.t0 1 false
noncomputable def ShaT.b1 (T : ShaT) : MB := .cells (u32s T.l1) T.t1 1 false
noncomputable def ShaT.tab (T : ShaT) : Tr MB := (Tr.nil.put T.s0 T.b0).put T.s1 T.b1
noncomputable def ShaT.at (T : ShaT) (a : Nat) (bs : List Nat) : Tr MB := T.tab.put a (.cells (ofBytes bs) T.u8 1 false)
/-- The run of f at these bytes gives those. -/
def SumFact (E : Env) (T : ShaT) (f n a : Nat) (bs out : List Nat) : Prop := resB (run E n (.call f [.slo a 0 0 bs.length]) (start ⟨a + 1, a⟩ (T.at a bs))) = some out

section
variable [O : Opq]
theorem blk_u32 {σ σ' : Sg} {V V' : Nat → Prop} {id es : Nat} {w : World} {l : List Nat} {t : TypeId} (h : Blk σ V id w (.cells (u32s l) t es false)) (e : σ' id = σ id) : Blk σ' V' id w (.cells (u32s l) t es false) := by
  obtain ⟨c, fz, k1, -, k3, k4, -, k6⟩ := h
  have hi : ∀ v ∈ u32s l, ∃ n : Nat, v = .int .u32 (.ofNat n) := fun v hv => by
    rw [u32s_eq] at hv; obtain ⟨n, -, rfl⟩ := List.mem_map.1 hv; exact ⟨n, rfl⟩
  refine ⟨c, fz, by rw [e]; exact k1, (wfs_iff _).2 fun v hv => ?_, k3, fun i v hv => ?_, fun hf => (by cases hf), k6⟩
  · obtain ⟨n, rfl⟩ := hi v hv; simp only [wf]
  · obtain ⟨n, rfl⟩ := hi v (List.mem_of_getElem? hv)
    rw [e]
    have := k4 i _ hv
    simpa only [emb] using this
omit O in
theorem at_get (T : ShaT) (a : Nat) (bs : List Nat) (k : Nat) (b : MB) (h : (T.at a bs).get k = some b) : (k = a ∧ b = .cells (ofBytes bs) T.u8 1 false) ∨ (k ≠ a ∧ k = T.s1 ∧ b = T.b1) ∨ (k ≠ a ∧ k ≠ T.s1 ∧ k = T.s0 ∧ b = T.b0) := by
  unfold ShaT.at ShaT.tab at h
  rw [Tr.get_put] at h
  split at h
  · rename_i e; cases h; exact .inl ⟨e, rfl⟩
  · rename_i e
    rw [Tr.get_put] at h
    split at h
    · rename_i e1; cases h; exact .inr (.inl ⟨e, e1, rfl⟩)
    · rename_i e1
      rw [Tr.get_put] at h
      split at h
      · rename_i e2; cases h; exact .inr (.inr ⟨e, e1, e2, rfl⟩)
      · rw [Tr.get_nil] at h; cases h

theorem sum_of {E : Env} {P : Program} (hE : EnvOk E P) {T : ShaT} {f n a : Nat} (hG : E.G = ⟨a + 1, a⟩) (hO : ∀ w : World, OrcIs E.G P (· < w.heap.size) w E.orc) (hs0 : T.s0 < a) (hs1 : T.s1 < a) {bs out : List Nat} (fact : SumFact E T f n a bs out)
    {G : GB} {B : Nat → Prop} {W0 : World} (hW : ∀ k, B k → k < W0.heap.size) {σ : Sg} {V : Nat → Prop} {h : MH} {w : World} (R : Rel G B W0 σ V h w) (hGg : G.g0 = a) (h0 : h.get T.s0 = some T.b0) (h1 : h.get T.s1 = some T.b1)
    {id off len es cap : Nat} {o : Bool} {cs l : List MV} (hv : V id) (hida : a ≤ id) (hg : h.get id = some (.cells cs T.u8 es o)) (hl : ltake len (ldrop off cs) = some l) (hb : bytesOf l = some bs) (hcap : len ≤ cap) :
    Calls P f #[.slice (some ⟨(σ id).blk, (σ id).off + off, none⟩) len cap] w (EndK G B W0 σ V h h (.agg (ofBytes out))) := by
  obtain ⟨b1, b2⟩ := bytesOf_ok l bs hb
  obtain ⟨l1, l2⟩ := ltake_some hl
  rw [ldrop_eq] at l1 l2
  have hll : l.length = len := by rw [l2, List.length_take]; omega
  have hlen : len = bs.length := by rw [← hll, b2]; simp
  subst hlen
  obtain ⟨σ0, hσ0⟩ : ∃ σ0 : Sg, σ0 = fun k => if k = a then ⟨(σ id).blk, (σ id).off + off, cap⟩ else σ k := ⟨_, rfl⟩
  have ea : σ0 a = ⟨(σ id).blk, (σ id).off + off, cap⟩ := by rw [hσ0]; simp
  have ek : ∀ k, k ≠ a → σ0 k = σ k := fun k hk => by rw [hσ0]; simp [hk]
  have g0 := R.glob T.s0 (by omega)
  have g1 := R.glob T.s1 (by omega)
  have hS : StartOk ⟨a + 1, a⟩ (T.at a bs) σ0 w := by
    refine ⟨Nat.le_succ a, fun k b hk => ?_, fun k hk => ?_, fun k b hk => ?_, fun k k' b b' hk hk' _ _ he => ?_⟩
    · rcases at_get T a bs k b hk with ⟨rfl, -⟩ | ⟨-, rfl, -⟩ | ⟨-, -, rfl, -⟩
      · exact Nat.lt_succ_self _
      · show _ < a + 1; omega
      · show _ < a + 1; omega
    · have hk : k < a := hk
      rw [ek k (by omega)]
      obtain ⟨-, j1, j2⟩ := R.glob k (by omega)
      exact ⟨j1, j2⟩
    · rcases at_get T a bs k b hk with ⟨rfl, rfl⟩ | ⟨hne, rfl, rfl⟩ | ⟨hne, -, rfl, rfl⟩
      · obtain ⟨c, fz, k1, -, -, k4, -, k6⟩ := R.blk id _ hv hg
        obtain ⟨w1, w2⟩ := ofBytes_wf (σ := σ0) (V := fun x => x < k + 1) bs
        refine ⟨c, fz, by rw [ea]; exact k1, w1, w2, fun i v hi => ?_, fun hf => (by cases hf), k6⟩
        rw [ofBytes_eq, ← b2] at hi
        rw [l2, List.getElem?_take] at hi
        split at hi
        · rename_i hlt
          rw [List.getElem?_drop] at hi
          have := k4 (off + i) v hi
          have hvi : ∃ n : Nat, v = .int .u8 (.ofNat n) := by
            have hm : l[i]? = some v := by rw [l2, List.getElem?_take, if_pos hlt, List.getElem?_drop]; exact hi
            rw [b2, List.getElem?_map] at hm
            cases hbi : bs[i]? with
            | none => rw [hbi] at hm; cases hm
            | some n => rw [hbi] at hm; cases hm; exact ⟨n, rfl⟩
          obtain ⟨n, rfl⟩ := hvi
          rw [ea]
          simpa only [emb, Nat.add_assoc] using this
        · cases hi
      · exact blk_u32 (R.blk T.s1 _ g1.1 h1) (ek _ hne)
      · exact blk_u32 (R.blk T.s0 _ g0.1 h0) (ek _ hne)
    · have key : ∀ s, s < a → V s → (∃ b, h.get s = some b ∧ live b = true) → (σ id).blk = (σ s).blk → False := fun s hs hvs ⟨b, hb, hlv⟩ e => by
        have := R.inj id s _ _ hv hvs hg hb rfl hlv e
        omega
      rcases at_get T a bs k b hk with ⟨rfl, -⟩ | ⟨hne, rfl, -⟩ | ⟨hne, -, rfl, -⟩ <;> rcases at_get T _ bs k' b' hk' with ⟨rfl, -⟩ | ⟨hne', rfl, -⟩ | ⟨hne', -, rfl, -⟩
      · rfl
      · rw [ea, ek _ hne'] at he; exact (key _ hs1 g1.1 ⟨_, h1, rfl⟩ he).elim
      · rw [ea, ek _ hne'] at he; exact (key _ hs0 g0.1 ⟨_, h0, rfl⟩ he).elim
      · rw [ea, ek _ hne] at he; exact (key _ hs1 g1.1 ⟨_, h1, rfl⟩ he.symm).elim
      · rfl
      · rw [ek _ hne, ek _ hne', g1.2.1, g0.2.1] at he; exact he
      · rw [ea, ek _ hne] at he; exact (key _ hs0 g0.1 ⟨_, h0, rfl⟩ he.symm).elim
      · rw [ek _ hne, ek _ hne', g1.2.1, g0.2.1] at he; exact he
      · rfl
  unfold SumFact resB at fact
  split at fact
  · rename_i vs h' he
    obtain ⟨o1, o2⟩ := bytesOf_ok vs out fact
    obtain ⟨F, -, -, hc⟩ := (run_ok (B := (· < w.heap.size)) (W0 := w) hE (hO w) (fun _ hk => hk) (fun go hgo => draw_ok hE (fun _ hk => hk) hgo) n).1 f _ (start ⟨a + 1, a⟩ (T.at a bs)) _ _ he
    have R0 : Rel E.G (· < w.heap.size) w σ0 (fun x => x < a + 1) (start ⟨a + 1, a⟩ (T.at a bs)) w := by rw [hG]; exact rel_start hS
    have := hc σ0 (fun x => x < a + 1) w R0 (by simp only [wfs, wf]; exact ⟨⟨Nat.lt_succ_self _, by rw [ea]; simpa using hcap⟩, trivial⟩)
    have e : (⟨embs σ0 [.slo a 0 0 bs.length]⟩ : Array Value) = #[.slice (some ⟨(σ id).blk, (σ id).off + off, none⟩) bs.length cap] := by
      simp only [embs, emb, ea, Nat.add_zero, Nat.sub_zero]
    rw [e] at this
    refine this.mono ?_
    rintro e w' ⟨σ', V', -, -, -, -, R', hwf, rfl⟩
    have e2 : emb σ' (.agg vs) = emb σ (.agg (ofBytes out)) := by
      rw [o2, ← ofBytes_eq]
      simp only [emb, ofBytes_emb o1]
    rw [e2]
    obtain ⟨w1, w2⟩ := ofBytes_wf (σ := σ) (V := V) out
    exact endK_same (v := .agg (ofBytes out)) R hW R'.below.below (by simp only [wf]; exact ⟨w1, w2⟩)
  · cases fact

noncomputable def findSum (tab : List (List Nat × List Nat)) (b : List Nat) : Option (List Nat) := List.rec none (fun p _ ih => Bool.rec ih (some p.2) (eqNs p.1 b)) tab
omit O in
theorem findSum_mem {tab : List (List Nat × List Nat)} {b out : List Nat} (h : findSum tab b = some out) : (b, out) ∈ tab := by
  induction tab with
  | nil => cases h
  | cons p tab ih =>
    have e : findSum (p :: tab) b = Bool.rec (findSum tab b) (some p.2) (eqNs p.1 b) := rfl
    rw [e] at h
    cases hq : eqNs p.1 b with
    | false => rw [hq] at h; exact List.mem_cons_of_mem _ (ih h)
    | true => rw [hq] at h; cases h; rw [← eqNs_eq _ _ hq]; exact List.mem_cons_self
noncomputable def isB (b : MB) : Option MB → Bool
  | some x => eqB x b
  | none => false
noncomputable def orcSum (T : ShaT) (f a : Nat) (tab : List (List Nat × List Nat)) : Orc := fun g args h =>
  cond (Nat.beq g f) (match args with
    | [.slo id off _ len] => cond (and (Nat.ble a id) (and (isB T.b0 (h.get T.s0)) (isB T.b1 (h.get T.s1)))) (match h.get id with
      | some (.cells cs t _ _) => cond (Nat.beq t T.u8) (match ltake len (ldrop off cs) with
        | some l => match bytesOf l with
          | some bs => match findSum tab bs with | some out => some (.agg (ofBytes out), h) | none => none
          | none => none
        | none => none) none
      | _ => none) none
    | _ => none) none
theorem orcSum_ok {E : Env} {P : Program} (hE : EnvOk E P) {T : ShaT} {f n a : Nat} (hG : E.G = ⟨a + 1, a⟩) (hO : ∀ w : World, OrcIs E.G P (· < w.heap.size) w E.orc) (hs0 : T.s0 < a) (hs1 : T.s1 < a) {tab : List (List Nat × List Nat)} (facts : ∀ p ∈ tab, SumFact E T f n a p.1 p.2)
    {G : GB} {B : Nat → Prop} {W0 : World} (hW : ∀ k, B k → k < W0.heap.size) (hGg : G.g0 = a) : OrcIs G P B W0 (orcSum T f a tab) := by
  intro g args h v h' ho σ V w R hw
  unfold orcSum at ho
  cases hg : Nat.beq g f with
  | false => rw [hg] at ho; cases ho
  | true =>
    rw [hg] at ho
    obtain rfl := Nat.eq_of_beq_eq_true hg
    simp only [cond_true] at ho
    split at ho
    · rename_i id off l0 len
      cases hq : (and (Nat.ble a id) (and (isB T.b0 (h.get T.s0)) (isB T.b1 (h.get T.s1)))) with
      | false => rw [hq] at ho; cases ho
      | true =>
        rw [hq] at ho
        simp only [cond_true] at ho
        obtain ⟨q1, q2⟩ := and2 hq
        obtain ⟨q2, q3⟩ := and2 q2
        have isb : ∀ (b : MB) (x : Option MB), isB b x = true → x = some b := fun b x hx => by
          unfold isB at hx
          split at hx
          · rename_i y; rw [eqB_eq _ _ hx]
          · cases hx
        split at ho
        · rename_i cs t es o hget
          cases ht : Nat.beq t T.u8 with
          | false => rw [ht] at ho; cases ho
          | true =>
            rw [ht] at ho
            simp only [cond_true] at ho
            have ht := Nat.eq_of_beq_eq_true ht
            subst ht
            split at ho
            · rename_i l hl
              split at ho
              · rename_i bs hbs
                split at ho
                · rename_i out hout
                  cases ho
                  simp only [wfs, wf] at hw
                  exact sum_of hE hG hO hs0 hs1 (facts _ (findSum_mem hout)) hW R hGg (isb _ _ q2) (isb _ _ q3) (cap := (σ id).cap - l0) hw.1.1 (Nat.le_of_ble_eq_true q1) hget hl hbs (by omega)
                · cases ho
              · cases ho
            · cases ho
        · cases ho
    · cases ho
end
end Go.Mini
/- The oracle of a function at given arguments; a start with the tables of sha. -/
namespace Go.Mini
open Go.RowKit
/-- The answer b of a function f at the arguments ex. -/
noncomputable def orcArgs (f : Nat) (ex : List MV) (b : Bool) : Orc := fun g args h => cond (and (Nat.beq g f) (eqvs args ex)) (some (.bool b, h)) none
section
variable [O : Opq] {G : GB} {P : Program} {B : Nat → Prop} {W0 : World}
theorem orcArgs_ok (hW : ∀ k, B k → k < W0.heap.size) {f : Nat} {ex : List MV} {b : Bool} {vals : Array Value} (hex : ∀ σ : Sg, (⟨embs σ ex⟩ : Array Value) = vals)
    (hc : ∀ w, Kept B W0 w → Calls P f vals w (fun e w' => e = .returned (.bool b) ∧ Below w.heap.size w w')) : OrcIs G P B W0 (orcArgs f ex b) := by
  intro g args h v h' ho σ V w R hw
  unfold orcArgs at ho
  cases hg : (and (Nat.beq g f) (eqvs args ex)) with
  | false => rw [hg] at ho; cases ho
  | true =>
    rw [hg] at ho
    cases ho
    obtain ⟨q1, q2⟩ := and2 hg
    obtain rfl := Nat.eq_of_beq_eq_true q1
    rw [eqvs_eq _ _ q2, hex σ]
    refine (hc w R.below).mono ?_
    rintro e w' ⟨rfl, hb⟩
    exact endK_same (v := .bool b) R hW hb (by simp only [wf])
theorem blk_of_cells {l : List Nat} {id : Nat} {t : TypeId} {w : World} {fz : Nat × Nat} {σ : Sg} {V : Nat → Prop} (h : w.heap[(σ id).blk]? = some (.cells ((l.map fun (n : Nat) => Value.int .u32 n).toArray) t fz)) (h0 : (σ id).off = 0) (hf : fz.1 = fz.2) : Blk σ V id w (.cells (u32s l) t 1 false) := by
  refine ⟨_, fz, h, ?_, ?_, fun i v hv => ?_, fun hf => (by cases hf), .inl hf⟩
  · rw [wfs_iff]; intro v hv; rw [u32s_eq] at hv; obtain ⟨n, -, rfl⟩ := List.mem_map.1 hv; simp only [wf]
  · rw [ones_iff]; intro v hv; rw [u32s_eq] at hv; obtain ⟨n, -, rfl⟩ := List.mem_map.1 hv; rfl
  · rw [u32s_eq, List.getElem?_map] at hv
    rw [h0, Nat.zero_add]
    simp only [List.getElem?_toArray, List.getElem?_map]
    cases hl : l[i]? with
    | none => rw [hl] at hv; cases hv
    | some n => rw [hl] at hv; cases hv; rfl
theorem startOk_sha {G : GB} (T : ShaT) {w : World} (hle : G.g0 ≤ G.ro) (h0 : T.s0 < G.g0) (h1 : T.s1 < G.g0) {f0 f1 : Nat × Nat} (hf0 : f0.1 = f0.2) (hf1 : f1.1 = f1.2)
    (c0 : w.heap[T.s0]? = some (.cells ((T.l0.map fun (n : Nat) => Value.int .u32 n).toArray) T.t0 f0)) (c1 : w.heap[T.s1]? = some (.cells ((T.l1.map fun (n : Nat) => Value.int .u32 n).toArray) T.t1 f1)) :
    StartOk G T.tab (fun id => ⟨id, 0, 0⟩) w := by
  have hget : ∀ k b, T.tab.get k = some b → (k = T.s1 ∧ b = T.b1) ∨ (k = T.s0 ∧ b = T.b0) := fun k b hk => by
    unfold ShaT.tab at hk
    rw [Tr.get_put] at hk
    split at hk
    · rename_i e; cases hk; exact .inl ⟨e, rfl⟩
    · rw [Tr.get_put] at hk
      split at hk
      · rename_i e; cases hk; exact .inr ⟨e, rfl⟩
      · rw [Tr.get_nil] at hk; cases hk
  refine ⟨hle, fun k b hk => ?_, fun _ _ => ⟨rfl, rfl⟩, fun k b hk => ?_, fun k k' b b' _ _ _ _ he => he⟩
  · rcases hget k b hk with ⟨rfl, -⟩ | ⟨rfl, -⟩ <;> omega
  · rcases hget k b hk with ⟨rfl, rfl⟩ | ⟨rfl, rfl⟩
    · exact blk_of_cells c1 rfl hf1
    · exact blk_of_cells c0 rfl hf0
end
end Go.Mini
/- The oracles of maps.Clone, stringslite.Index and of an iterator over nothing. -/
namespace Go.Mini
open Go.RowKit
noncomputable def orcClone (f : Nat) : Orc := fun g args h =>
  cond (Nat.beq g f) (match args with
    | [.mp id] => match h.get id with
      | some (.map es c) => some (.mp h.nx, h.new (.map es c))
      | _ => none
    | _ => none) none
noncomputable def orcIndex (f : Nat) : Orc := fun g args h =>
  cond (Nat.beq g f) (match args with
    | [.str s, .str t] => cond (Nat.ble (llen s 0) 65536) (some (.int .i64 (Lib.index (s.map UInt8.ofNat) (t.map UInt8.ofNat)), h)) none
    | _ => none) none
/-- f is an iterator over what is in a box; the box holds nothing; the number is opaque. -/
noncomputable def orcIter (f n : Nat) : Orc := fun g args h =>
  cond (Nat.beq g f) (match args with
    | [.yld _, .ptr p 0, .ptr q 0] => match h.get p, h.get q with
      | some (.cells [.opq k] _ _ _), some (.cells [.nilS] _ _ _) => cond (Nat.beq k n) (some (.tup [], h)) none
      | _, _ => none
    | _ => none) none
section
variable [O : Opq] {G : GB} {P : Program} {B : Nat → Prop} {W0 : World}
theorem orcClone_ok (hW : ∀ k, B k → k < W0.heap.size) {f : Nat} (hc : ∀ (b : Nat) (es : Array MapEntry) (clock : Nat) (w : World), w.heap[b]? = some (.map es clock) →
      Calls P f #[.map (some b)] w (fun e w' => e = .returned (.map (some w.heap.size)) ∧ w' = w.alloc (.map es clock))) : OrcIs G P B W0 (orcClone f) := by
  intro g args h v h' ho σ V w R hw
  unfold orcClone at ho
  cases hg : Nat.beq g f with
  | false => rw [hg] at ho; cases ho
  | true =>
    rw [hg] at ho
    obtain rfl := Nat.eq_of_beq_eq_true hg
    simp only [cond_true] at ho
    split at ho
    · rename_i id
      split at ho
      · rename_i es c hget
        cases ho
        simp only [wfs, wf] at hw
        obtain ⟨b1, b2⟩ := R.blk id _ hw.1 hget
        refine (hc (σ id).blk _ c w b1).mono ?_
        rintro e w' ⟨rfl, rfl⟩
        have hnV : ¬ V h.nx := fun hv => Nat.lt_irrefl _ (R.vx _ hv)
        have ha := agr_upd (V := V) σ ⟨w.heap.size, 0, 0⟩ hnV
        have hblk : Blk (upd σ h.nx ⟨w.heap.size, 0, 0⟩) (addV V h.nx) h.nx (w.alloc (.map ⟨es.map (embE σ)⟩ c)) (.map es c) := by
          refine ⟨?_, fun x hx => (wfE_agr ha (fun _ hv => .inl hv) (b2 x hx)).1⟩
          rw [upd_same, World.alloc_heap_new]
          congr 3
          exact List.map_congr_left fun x hx => ((wfE_agr ha (V' := addV V h.nx) (fun _ hv => .inl hv) (b2 x hx)).2).symm
        refine ⟨_, _, ha, fun _ hv => .inl hv, fun k hk => ?_, Nat.le_succ _, R.alloc (R.size hW) 0 0 hblk, ?_, ?_⟩
        · rcases hk with hk | rfl
          · exact .inl hk
          · exact .inr (Nat.le_refl _)
        · simp only [wf]; exact .inr rfl
        · simp only [emb, upd_same]
      · cases ho
    · cases ho
theorem orcIndex_ok (hW : ∀ k, B k → k < W0.heap.size) {f : Nat} (hc : ∀ (s t : ByteArray) (w : World), Kept B W0 w → s.size < 4294967281 →
      Calls P f #[.string s, .string t] w (fun e w' => e = .returned (.int .i64 (Lib.index s.data.toList t.data.toList)) ∧ w' = w)) : OrcIs G P B W0 (orcIndex f) := by
  intro g args h v h' ho σ V w R hw
  unfold orcIndex at ho
  cases hg : Nat.beq g f with
  | false => rw [hg] at ho; cases ho
  | true =>
    rw [hg] at ho
    obtain rfl := Nat.eq_of_beq_eq_true hg
    simp only [cond_true] at ho
    split at ho
    · rename_i s t
      cases hq : Nat.ble (llen s 0) 65536 with
      | false => rw [hq] at ho; cases ho
      | true =>
        rw [hq] at ho
        cases ho
        have hq := Nat.le_of_ble_eq_true hq
        rw [llen_eq] at hq
        refine (hc (bytesV s) (bytesV t) w R.below (by rw [bytesV_size]; omega)).mono ?_
        rintro e w' ⟨rfl, rfl⟩
        have e : ∀ a : List Nat, (bytesV a).data.toList = a.map UInt8.ofNat := fun a => by simp [bytesV]
        rw [e, e]
        exact endK_same (v := .int .i64 _) R hW (Below.refl _ _) (by simp only [wf])
    · cases ho
theorem orcIter_ok (hW : ∀ k, B k → k < W0.heap.size) {f n : Nat} {idx : Int} (hn : O.val n = .int .i64 idx) (hc : ∀ (y : Value) (p o1 q o2 : Nat) (w : World), w.cell? ⟨p, o1, none⟩ = some (.int .i64 idx) → w.cell? ⟨q, o2, none⟩ = some (.slice none 0 0) →
      Calls P f #[y, .pointer (some ⟨p, o1, none⟩), .pointer (some ⟨q, o2, none⟩)] w (fun e w' => e = .returned (.tuple #[]) ∧ w = w')) : OrcIs G P B W0 (orcIter f n) := by
  intro g args h v h' ho σ V w R hw
  unfold orcIter at ho
  cases hg : Nat.beq g f with
  | false => rw [hg] at ho; cases ho
  | true =>
    rw [hg] at ho
    obtain rfl := Nat.eq_of_beq_eq_true hg
    simp only [cond_true] at ho
    split at ho
    · rename_i l p q
      split at ho
      · rename_i k t1 e1 o1 t2 e2 o2 h1 h2
        cases hk : Nat.beq k n with
        | false => rw [hk] at ho; cases ho
        | true =>
          rw [hk] at ho
          cases ho
          obtain rfl := Nat.eq_of_beq_eq_true hk
          simp only [wfs, wf] at hw
          obtain ⟨c1, f1, a1, -, -, a2, -, -⟩ := R.blk p _ hw.2.1 h1
          obtain ⟨c2, f2, b1, -, -, b2, -, -⟩ := R.blk q _ hw.2.2.1 h2
          have x1 := a2 0 _ rfl
          have x2 := b2 0 _ rfl
          simp only [emb] at x1 x2
          rw [hn] at x1
          refine (hc (emb σ (.yld l)) (σ p).blk ((σ p).off + 0) (σ q).blk ((σ q).off + 0) w (by rw [cell_of_row w _ _ c1 t1 f1 a1]; exact x1) (by rw [cell_of_row w _ _ c2 t2 f2 b1]; exact x2)).mono ?_
          rintro e w' ⟨rfl, rfl⟩
          exact endK_same (v := .tup []) R hW (Below.refl _ _) (by simp only [wf, wfs])
      · cases ho
    · cases ho
end
end Go.Mini
