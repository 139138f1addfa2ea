/- A function of byte strings, out of a run on a heap of its own: it returns fresh bytes and no error. -/
import Derived.Test.YthbialpbkpiekaaGreatDoorTD
namespace Go.MiniT
open Go Go.Mini Go.RowKit
noncomputable def atsN (u : TypeId) (l : List (List Nat)) : Nat → Tr MB → Tr MB := List.rec (fun _ t => t) (fun b _ ih a t => ih (Nat.succ a) (t.put a (.cells (ofBytes b) u 1 false))) l
theorem atsN_get (u : TypeId) : ∀ (l : List (List Nat)) (a : Nat) (t : Tr MB) (k : Nat), (atsN u l a t).get k = if a ≤ k ∧ k < a + l.length then (l[k - a]?).map (fun b => MB.cells (ofBytes b) u 1 false) else t.get k := by
  intro l
  induction l with
  | nil => intro a t k; rw [if_neg (by simp)]; rfl
  | cons b l ih =>
    intro a t k
    have e : atsN u (b :: l) a t = atsN u l (a + 1) (t.put a (.cells (ofBytes b) u 1 false)) := rfl
    rw [e, ih]
    simp only [List.length_cons]
    by_cases h1 : a + 1 ≤ k ∧ k < a + 1 + l.length
    · rw [if_pos h1, if_pos (by omega), show k - a = (k - (a + 1)) + 1 by omega]; simp
    · rw [if_neg h1, Tr.get_put]
      by_cases h2 : k = a
      · subst h2; rw [if_pos rfl, if_pos (by omega)]; simp
      · rw [if_neg h2, if_neg (by omega)]
noncomputable def argsN (l : List (List Nat)) : Nat → List MV → List MV := List.rec (fun _ t => t) (fun b _ ih a t => .slo a 0 0 (llen b 0) :: ih (Nat.succ a) t) l
noncomputable def resP (ro : Nat) : Option (MV × MH) → Option (List Nat)
  | some (.tup [.slo r 0 0 n, .int .i64 (.ofNat 0)], h) => match h.get r with
    | some (.cells cs t es true) => cond (and (Nat.ble ro r) (and (and (Nat.beq t shaT.u8) (Nat.beq es 1)) (Nat.beq (llen cs 0) n))) (bytesOf cs) none
    | _ => none
  | _ => none
def FnFact (E : Env) (f n a : Nat) (ib : List (List Nat)) (tail : List MV) (out : List Nat) : Prop := resP (Nat.add a (llen ib 0)) (Go.Mini.run E n (.call f (argsN ib a tail)) (Go.Mini.start ⟨Nat.add a (llen ib 0), a⟩ (atsN shaT.u8 ib a shaT.tab))) = some out
/-- Bytes at a place. -/
structure BytesIn (w : World) (r : RI) (bs : List Nat) : Prop where
  row : ∃ (c : Array Value) (fz : Nat × Nat), w.heap[r.blk]? = some (.cells c shaT.u8 fz) ∧ (∀ (i n : Nat), bs[i]? = some n → c[r.off + i]? = some (Value.int .u8 (n : Nat))) ∧ (fz.1 = fz.2 ∨ c.size ≤ fz.1)
  cap : bs.length ≤ r.cap
/-- .. made anew. -/
structure Fresh (w w' : World) (r : RI) (bs : List Nat) : Prop where
  row : ∃ (c : Array Value) (fz : Nat × Nat), w'.heap[r.blk]? = some (.cells c shaT.u8 fz) ∧ (∀ (i n : Nat), bs[i]? = some n → c[r.off + i]? = some (Value.int .u8 (n : Nat))) ∧ r.off + r.cap * 1 ≤ c.size ∧ (fz.1 = fz.2 ∨ c.size ≤ fz.1)
  cap : bs.length ≤ r.cap
  new : w.heap.size ≤ r.blk
  bytes : ∀ b ∈ bs, b < 256
def slV (r : RI) (n : Nat) : Value := .slice (some ⟨r.blk, r.off, none⟩) n r.cap
structure ShaIn (w : World) : Prop where
  s0 : WordsAt w shaT.s0 shaT.l0 shaT.t0
  s1 : WordsAt w shaT.s1 shaT.l1 shaT.t1
/-- The contract of a function at given bytes. -/
def FnC (P : Program) (f : Nat) (ib : List (List Nat)) (tail : List Value) (out : List Nat) : Prop :=
  ∀ (w : World) (rs : List RI), ShaIn w → rs.length = ib.length → (∀ (i : Nat) (r : RI) (bs : List Nat), rs[i]? = some r → ib[i]? = some bs → BytesIn w r bs) → (∀ (i j : Nat) (r r' : RI), rs[i]? = some r → rs[j]? = some r' → r.blk = r'.blk → i = j) → (∀ r ∈ rs, r.blk ≠ shaT.s0 ∧ r.blk ≠ shaT.s1) →
    Calls P f ⟨(rs.zip ib).map (fun x => slV x.1 x.2.length) ++ tail⟩ w fun e w' => Below w.heap.size w w' ∧ ∃ r, Fresh w w' r out ∧ e = .returned (.tuple #[slV r out.length, .int .i64 0])
noncomputable def rsS (a : Nat) (rs : List RI) : Sg := fun k => if k < a then ⟨k, 0, 0⟩ else (rs[k - a]?).getD ⟨k, 0, 0⟩
section
variable [O : Opq]
theorem bytes_blk {w : World} {σ : Sg} {V : Nat → Prop} {k : Nat} {r : RI} {bs : List Nat} (h : BytesIn w r bs) (e : σ k = r) : Blk σ V k w (.cells (ofBytes bs) shaT.u8 1 false) := by
  obtain ⟨⟨c, fz, h1, h2, h3⟩, -⟩ := h
  obtain ⟨w1, w2⟩ := ofBytes_wf (σ := σ) (V := V) bs
  refine ⟨c, fz, by rw [e]; exact h1, w1, w2, fun i v hv => ?_, fun hf => (by cases hf), h3⟩
  rw [ofBytes_eq, List.getElem?_map] at hv
  cases hi : bs[i]? with
  | none => rw [hi] at hv; cases hv
  | some n =>
    rw [hi] at hv; cases hv
    rw [e]
    exact h2 i n hi
theorem argsN_emb (σ : Sg) : ∀ (ib : List (List Nat)) (rs : List RI) (a : Nat) (tail : List MV), rs.length = ib.length → (∀ i r, rs[i]? = some r → σ (a + i) = r) → embs σ (argsN ib a tail) = (rs.zip ib).map (fun x => slV x.1 x.2.length) ++ embs σ tail := by
  intro ib
  induction ib with
  | nil => intro rs a tail hl _; cases rs with
    | nil => rfl
    | cons r rs => simp at hl
  | cons b ib ih =>
    intro rs a tail hl hσ
    cases rs with
    | nil => simp at hl
    | cons r rs =>
      have e : argsN (b :: ib) a tail = .slo a 0 0 (llen b 0) :: argsN ib (a + 1) tail := rfl
      have h0 : σ a = r := hσ 0 r rfl
      rw [e]
      simp only [embs, List.zip_cons_cons, List.map_cons, List.cons_append]
      rw [ih rs (a + 1) tail (by simpa using hl) (fun i r' hi => by rw [Nat.add_assoc, Nat.add_comm 1 i]; exact hσ (i + 1) r' (by simpa using hi))]
      simp only [emb, h0, slV, llen_eq, Nat.add_zero, Nat.sub_zero]
omit O in
theorem argsN_wf (σ : Sg) (V : Nat → Prop) : ∀ (ib : List (List Nat)) (a : Nat) (tail : List MV), (∀ i, i < ib.length → V (a + i)) → (∀ i bs, ib[i]? = some bs → bs.length ≤ (σ (a + i)).cap) → wfs σ V tail → wfs σ V (argsN ib a tail) := by
  intro ib
  induction ib with
  | nil => intro a tail _ _ h; exact h
  | cons b ib ih =>
    intro a tail hV hc ht
    have e : argsN (b :: ib) a tail = .slo a 0 0 (llen b 0) :: argsN ib (a + 1) tail := rfl
    rw [e]
    simp only [wfs, wf]
    refine ⟨⟨hV 0 (by simp), ?_⟩, ih (a + 1) tail (fun i hi => ?_) (fun i bs hi => ?_) ht⟩
    · rw [llen_eq]; have := hc 0 b rfl; simpa using this
    · have := hV (i + 1) (by simpa using hi); rwa [show a + (i + 1) = a + 1 + i by omega] at this
    · have := hc (i + 1) bs (by simpa using hi); rwa [show a + (i + 1) = a + 1 + i by omega] at this
set_option maxHeartbeats 1000000 in
theorem fact_c {E : Env} {P : Program} (hE : EnvOk E P) {f n a : Nat} {ib : List (List Nat)} {tail : List MV} {out : List Nat} (hG : E.G = ⟨a + ib.length, a⟩) (hO : ∀ w : World, OrcIs E.G P (· < w.heap.size) w E.orc)
    (hs0 : shaT.s0 < a) (hs1 : shaT.s1 < a) (hne : shaT.s0 ≠ shaT.s1) (htail : ∀ σ V, wfs σ V tail) {tailV : List Value} (htv : ∀ σ, embs σ tail = tailV) (fact : FnFact E f n a ib tail out) : FnC P f ib tailV out := by
  intro w rs hsha hlen hargs hdist hfar
  obtain ⟨σ0, hσ⟩ : ∃ σ0, σ0 = rsS a rs := ⟨_, rfl⟩
  have eA : ∀ i r, rs[i]? = some r → σ0 (a + i) = r := fun i r hi => by
    rw [hσ]; unfold rsS
    rw [if_neg (by omega), show a + i - a = i by omega, hi]; rfl
  have eG : ∀ k, k < a → σ0 k = ⟨k, 0, 0⟩ := fun k hk => by rw [hσ]; unfold rsS; rw [if_pos hk]
  have hget : ∀ k b, (atsN shaT.u8 ib a shaT.tab).get k = some b → (∃ i bs, k = a + i ∧ ib[i]? = some bs ∧ b = .cells (ofBytes bs) shaT.u8 1 false) ∨ (k = shaT.s1 ∧ b = shaT.b1) ∨ (k = shaT.s0 ∧ b = shaT.b0) := fun k b hk => by
    rw [atsN_get] at hk
    split at hk
    · rename_i hc
      cases hi : ib[k - a]? with
      | none => rw [hi] at hk; cases hk
      | some bs => rw [hi] at hk; cases hk; exact .inl ⟨k - a, bs, by omega, hi, rfl⟩
    · unfold ShaT.tab at hk
      rw [Tr.get_put] at hk
      split at hk
      · rename_i e; cases hk; exact .inr (.inl ⟨e, rfl⟩)
      · rw [Tr.get_put] at hk
        split at hk
        · rename_i e; cases hk; exact .inr (.inr ⟨e, rfl⟩)
        · rw [Tr.get_nil] at hk; cases hk
  have hrs : ∀ i bs, ib[i]? = some bs → ∃ r, rs[i]? = some r ∧ BytesIn w r bs := fun i bs hi => by
    have hlt := (List.getElem?_eq_some_iff.1 hi).1
    have : rs[i]? = some (rs[i]'(by omega)) := List.getElem?_eq_getElem (by omega)
    exact ⟨_, this, hargs i _ bs this hi⟩
  have hS : StartOk ⟨a + ib.length, a⟩ (atsN shaT.u8 ib a shaT.tab) σ0 w := by
    refine ⟨Nat.le_add_right _ _, fun k b hk => ?_, fun k hk => by rw [eG k hk]; exact ⟨rfl, rfl⟩, fun k b hk => ?_, fun k k' b b' hk hk' _ _ he => ?_⟩
    · show k < a + ib.length
      rcases hget k b hk with ⟨i, bs, rfl, hi, -⟩ | ⟨rfl, -⟩ | ⟨rfl, -⟩
      · have := (List.getElem?_eq_some_iff.1 hi).1; omega
      · omega
      · omega
    · rcases hget k b hk with ⟨i, bs, rfl, hi, rfl⟩ | ⟨rfl, rfl⟩ | ⟨rfl, rfl⟩
      · obtain ⟨r, hr, hb⟩ := hrs i bs hi
        exact bytes_blk hb (eA i r hr)
      · exact hsha.s1.blk (eG _ hs1)
      · exact hsha.s0.blk (eG _ hs0)
    · rcases hget k b hk with ⟨i, bs, rfl, hi, -⟩ | ⟨rfl, -⟩ | ⟨rfl, -⟩ <;> rcases hget k' b' hk' with ⟨j, bs', rfl, hj, -⟩ | ⟨rfl, -⟩ | ⟨rfl, -⟩
      · obtain ⟨r, hr, -⟩ := hrs i bs hi
        obtain ⟨r', hr', -⟩ := hrs j bs' hj
        rw [eA i r hr, eA j r' hr'] at he
        rw [hdist i j r r' hr hr' he]
      · obtain ⟨r, hr, -⟩ := hrs i bs hi
        rw [eA i r hr, eG _ hs1] at he
        exact absurd he (hfar r (List.mem_of_getElem? hr)).2
      · obtain ⟨r, hr, -⟩ := hrs i bs hi
        rw [eA i r hr, eG _ hs0] at he
        exact absurd he (hfar r (List.mem_of_getElem? hr)).1
      · obtain ⟨r', hr', -⟩ := hrs j bs' hj
        rw [eA j r' hr', eG _ hs1] at he
        exact absurd he.symm (hfar r' (List.mem_of_getElem? hr')).2
      · rfl
      · rw [eG _ hs0, eG _ hs1] at he; exact absurd he.symm hne
      · obtain ⟨r', hr', -⟩ := hrs j bs' hj
        rw [eA j r' hr', eG _ hs0] at he
        exact absurd he.symm (hfar r' (List.mem_of_getElem? hr')).1
      · rw [eG _ hs0, eG _ hs1] at he; exact absurd he hne
      · rfl
  unfold FnFact at fact
  rw [llen_eq, Nat.add_zero, Nat.add_eq] at fact
  unfold resP at fact
  split at fact
  · rename_i r0 m h' he
    split at fact
    · rename_i cs t es hg
      cases hq : and (Nat.ble (a + ib.length) r0) (and (and (Nat.beq t shaT.u8) (Nat.beq es 1)) (Nat.beq (llen cs 0) m)) with
      | false => rw [hq] at fact; cases fact
      | true =>
        rw [hq] at fact
        simp only [cond_true] at fact
        obtain ⟨q0, q2⟩ := and2 hq
        obtain ⟨q1, q2⟩ := and2 q2
        obtain ⟨q1, q3⟩ := and2 q1
        have q0 := Nat.le_of_ble_eq_true q0
        obtain rfl := Nat.eq_of_beq_eq_true q1
        obtain rfl := Nat.eq_of_beq_eq_true q3
        have q2 := Nat.eq_of_beq_eq_true q2
        rw [llen_eq, Nat.add_zero] at q2
        obtain ⟨o1, o2⟩ := bytesOf_ok _ _ fact
        have hml : m = out.length := by rw [← q2, o2]; simp
        obtain ⟨F, -, -, hc⟩ := (run_ok (B := (· < w.heap.size)) (W0 := w) hE (hO w) (fun _ hk => hk) (fun go hgo => draw_ok hE (fun _ hk => hk) hgo) n).1 f _ _ _ _ he
        have R0 : Rel E.G (· < w.heap.size) w σ0 (fun x => x < a + ib.length) (Go.Mini.start ⟨a + ib.length, a⟩ (atsN shaT.u8 ib a shaT.tab)) w := by rw [hG]; exact rel_start hS
        have := hc σ0 (fun x => x < a + ib.length) w R0 (argsN_wf σ0 _ ib a tail (fun i hi => by omega) (fun i bs hi => by obtain ⟨r, hr, hb⟩ := hrs i bs hi; rw [eA i r hr]; exact hb.cap) (htail _ _))
        rw [argsN_emb σ0 ib rs a tail hlen eA, htv] at this
        refine this.mono ?_
        rintro e w' ⟨σ', V', -, -, -, -, R', hwf, rfl⟩
        simp only [wf, wfs] at hwf
        obtain ⟨⟨hv0, hcap⟩, -⟩ := hwf
        obtain ⟨c, fz, k1, -, -, k4, k5, k6⟩ := R'.blk r0 _ hv0 hg
        refine ⟨R'.below.below, σ' r0, ⟨⟨c, fz, k1, fun i x hi => ?_, k5 rfl, k6⟩, by rw [← hml]; omega, ?_, o1⟩, ?_⟩
        · have := k4 i (.int .u8 (.ofNat x)) (by rw [o2, List.getElem?_map, hi]; rfl)
          exact this
        · have := R'.own r0 _ hv0 hg rfl (by rw [hG]; exact q0)
          exact Nat.not_lt.1 this
        · simp only [emb, embs, slV, Nat.add_zero, Nat.sub_zero, hml]
          rfl
    · cases fact
  · cases fact
end
end Go.MiniT
/- The oracle of functions of two byte strings, out of their contracts at given bytes. -/
namespace Go.Mini
open Go.RowKit
variable [O : Opq] {G : GB} {B : Nat → Prop} {W0 : World} {σ : Sg} {V : Nat → Prop} {h : MH} {w : World}
/-- A block that the world has already becomes one of the evaluator's. -/
theorem Rel.adopt (R : Rel G B W0 σ V h w) {b : MB} (r : RI) (hB : ¬ B r.blk) (hf : ∀ id b, V id → h.get id = some b → live b = true → (σ id).blk ≠ r.blk)
    (hblk : Blk (upd σ h.nx r) (addV V h.nx) h.nx w b) : Rel G B W0 (upd σ h.nx r) (addV V h.nx) (h.new b) w := by
  have hne : ∀ id, V id → id ≠ h.nx := fun id hv e => Nat.lt_irrefl _ (e ▸ R.vx id hv)
  have hg : ∀ id, V id → (h.new b).get id = h.get id := fun id hv => by rw [MH.get_new, if_neg (hne id hv)]
  have hn : (h.new b).get h.nx = some b := by rw [MH.get_new, if_pos rfl]
  have ha : Agr V σ (upd σ h.nx r) := agr_upd σ r (fun hv => hne _ hv rfl)
  refine ⟨fun id b' hv hb => ?_, fun id1 id2 b1 b2 hv1 hv2 h1 h2 l1 l2 he => ?_, fun id b' hv hb hl hro => ?_, fun id hid => ?_, fun id b' hb => ?_, fun id hv => ?_, Nat.le_succ_of_le R.gx, R.below⟩
  · rcases hv with hv | rfl
    · rw [hg id hv] at hb
      exact (R.blk id b' hv hb).agr ha (fun _ hx => .inl hx) hv (fun _ => rfl)
    · rw [hn] at hb; cases hb; exact hblk
  · rcases hv1 with hv1 | rfl <;> rcases hv2 with hv2 | rfl
    · rw [hg _ hv1] at h1; rw [hg _ hv2] at h2
      rw [ha _ hv1, ha _ hv2] at he
      exact R.inj _ _ _ _ hv1 hv2 h1 h2 l1 l2 he
    · rw [hg _ hv1] at h1
      rw [ha _ hv1, upd_same] at he
      exact absurd he (hf _ _ hv1 h1 l1)
    · rw [hg _ hv2] at h2
      rw [ha _ hv2, upd_same] at he
      exact absurd he.symm (hf _ _ hv2 h2 l2)
    · rfl
  · rcases hv with hv | rfl
    · rw [hg id hv] at hb
      rw [ha _ hv]; exact R.own id b' hv hb hl hro
    · rw [upd_same]; exact hB
  · obtain ⟨g1, g2, g3⟩ := R.glob id hid
    exact ⟨.inl g1, by rw [ha _ g1]; exact g2, by rw [ha _ g1]; exact g3⟩
  · rw [MH.get_new] at hb
    split at hb
    · rename_i e; subst e; exact Nat.lt_succ_self _
    · exact Nat.lt_succ_of_lt (R.nx id b' hb)
  · rcases hv with hv | rfl
    · exact Nat.lt_succ_of_lt (R.vx id hv)
    · exact Nat.lt_succ_self _
end Go.Mini
namespace Go.MiniT
open Go Go.Mini Go.RowKit
structure FnRow where
  f : Nat
  x : List Nat
  y : List Nat
  tail : List MV
  out : List Nat
noncomputable def bytesAt (h : MH) (id off len : Nat) : Option (Nat × List Nat) :=
  match h.get id with
  | some (.cells cs t _ _) => cond (Nat.beq t shaT.u8) (match ltake len (ldrop off cs) with
    | some l => match bytesOf l with | some bs => some (id, bs) | none => none
    | none => none) none
  | _ => none
noncomputable def sliceAt (h : MH) : MV → Option (Nat × List Nat)
  | .sl id off len _ => bytesAt h id off len
  | .slo id off _ len => bytesAt h id off len
  | _ => none
noncomputable def findFn (tab : List FnRow) (g : Nat) (x y : List Nat) (tail : List MV) : Option (List Nat) :=
  List.rec none (fun r _ ih => Bool.rec ih (some r.out) (and (Nat.beq r.f g) (and (eqNs r.x x) (and (eqNs r.y y) (eqvs r.tail tail))))) tab
theorem findFn_mem {tab : List FnRow} {g : Nat} {x y : List Nat} {tail : List MV} {out : List Nat} (h : findFn tab g x y tail = some out) : (⟨g, x, y, tail, out⟩ : FnRow) ∈ tab := by
  induction tab with
  | nil => cases h
  | cons r tab ih =>
    have e : findFn (r :: tab) g x y tail = Bool.rec (findFn tab g x y tail) (some r.out) (and (Nat.beq r.f g) (and (eqNs r.x x) (and (eqNs r.y y) (eqvs r.tail tail)))) := rfl
    rw [e] at h
    cases hq : and (Nat.beq r.f g) (and (eqNs r.x x) (and (eqNs r.y y) (eqvs r.tail tail))) with
    | false => rw [hq] at h; exact List.mem_cons_of_mem _ (ih h)
    | true =>
      rw [hq] at h; cases h
      obtain ⟨q1, q2⟩ := and2 hq
      obtain ⟨q2, q3⟩ := and2 q2
      obtain ⟨q3, q4⟩ := and2 q3
      rw [← Nat.eq_of_beq_eq_true q1, ← eqNs_eq _ _ q2, ← eqNs_eq _ _ q3, ← eqvs_eq _ _ q4]
      exact List.mem_cons_self
noncomputable def fnR (a : Nat) (tab : List FnRow) (g : Nat) (tail : List MV) (h : MH) : Option (Nat × List Nat) → Option (Nat × List Nat) → Option (MV × MH)
  | some (i, x), some (j, y) => cond (and (and (not (Nat.beq i j)) (shaIn h)) (and (Nat.ble a i) (Nat.ble a j))) (match findFn tab g x y tail with
    | some out => some (.tup [.slo h.nx 0 0 (llen out 0), .int .i64 (.ofNat 0)], h.new (.cells (ofBytes out) shaT.u8 1 true))
    | none => none) none
  | _, _ => none
noncomputable def orcFn (f1 f2 a : Nat) (tab : List FnRow) : Orc := fun g args h =>
  cond (or (Nat.beq g f1) (Nat.beq g f2)) (match args with
    | x :: y :: tail => fnR a tab g tail h (sliceAt h x) (sliceAt h y)
    | _ => none) none
section
variable [O : Opq] {G : GB} {P : Program} {B : Nat → Prop} {W0 : World} {σ : Sg} {V : Nat → Prop} {h : MH} {w : World}
theorem bytesAt_in (R : Rel G B W0 σ V h w) {id off len cap i : Nat} {bs : List Nat} (hv : V id) (ho : bytesAt h id off len = some (i, bs)) (hc : len ≤ cap) : i = id ∧ bs.length = len ∧ (∃ cs t es o, h.get id = some (.cells cs t es o)) ∧ BytesIn w ⟨(σ id).blk, (σ id).off + off, cap⟩ bs := by
  unfold bytesAt at ho
  split at ho
  · rename_i cs t es o hg
    cases ht : Nat.beq t shaT.u8 with
    | false => rw [ht] at ho; cases ho
    | true =>
      rw [ht] at ho
      simp only [cond_true] at ho
      obtain rfl := Nat.eq_of_beq_eq_true ht
      split at ho
      · rename_i l hl
        split at ho
        · rename_i b hb
          cases ho
          obtain ⟨b1, b2⟩ := bytesOf_ok _ _ hb
          obtain ⟨t1, t2⟩ := ltake_some hl
          rw [ldrop_eq] at t1 t2
          have hll : l.length = len := by rw [t2, List.length_take]; omega
          have hbl : bs.length = len := by rw [← hll, b2]; simp
          obtain ⟨c, fz, k1, -, -, k4, -, k6⟩ := R.blk id _ hv hg
          refine ⟨rfl, hbl, ⟨_, _, _, _, hg⟩, ⟨c, fz, k1, fun j n hj => ?_, k6⟩, by rw [hbl]; exact hc⟩
          have hlt := (List.getElem?_eq_some_iff.1 hj).1
          have hx : cs[off + j]? = some (.int .u8 (.ofNat n)) := by
            have : l[j]? = some (.int .u8 (.ofNat n)) := by rw [b2, List.getElem?_map, hj]; rfl
            rwa [t2, List.getElem?_take, if_pos (by omega), List.getElem?_drop] at this
          have := k4 (off + j) _ hx
          rw [← Nat.add_assoc] at this
          exact this
        · cases ho
      · cases ho
  · cases ho
theorem sliceAt_in (R : Rel G B W0 σ V h w) {x : MV} {i : Nat} {bs : List Nat} (hx : wf σ V x) (ho : sliceAt h x = some (i, bs)) : V i ∧ (∃ cs t es o, h.get i = some (.cells cs t es o)) ∧ ∃ r : RI, r.blk = (σ i).blk ∧ emb σ x = slV r bs.length ∧ BytesIn w r bs := by
  cases x <;> simp only [sliceAt] at ho <;> first | (cases ho; done) | skip
  · rename_i id off len cap
    simp only [wf] at hx
    obtain ⟨rfl, e, g, hb⟩ := bytesAt_in R hx.1 ho hx.2
    exact ⟨hx.1, g, ⟨(σ i).blk, (σ i).off + off, cap⟩, rfl, by simp only [emb, slV, e], hb⟩
  · rename_i id off l len
    simp only [wf] at hx
    obtain ⟨rfl, e, g, hb⟩ := bytesAt_in (cap := (σ id).cap - l) R hx.1 ho (by omega)
    exact ⟨hx.1, g, ⟨(σ i).blk, (σ i).off + off, (σ i).cap - l⟩, rfl, by simp only [emb, slV, e], hb⟩
theorem orcFn_ok {f1 f2 : Nat} {tab : List FnRow} (facts : ∀ r ∈ tab, ∀ σ, FnC P r.f [r.x, r.y] (embs σ r.tail) r.out) (hGg : G.g0 = 10) (hW : ∀ k, B k → k < W0.heap.size) : OrcIs G P B W0 (orcFn f1 f2 10 tab) := by
  intro g args h v h' ho σ V w R hw
  unfold orcFn at ho
  cases hg : or (Nat.beq g f1) (Nat.beq g f2) with
  | false => rw [hg] at ho; cases ho
  | true =>
    rw [hg] at ho
    clear hg
    simp only [cond_true] at ho
    split at ho
    · rename_i x y tail
      unfold fnR at ho
      split at ho
      · rename_i i xs j ys hx hy
        cases hq : and (and (not (Nat.beq i j)) (shaIn h)) (and (Nat.ble 10 i) (Nat.ble 10 j)) with
        | false => rw [hq] at ho; cases ho
        | true =>
          rw [hq] at ho
          simp only [cond_true] at ho
          obtain ⟨q1, q2⟩ := and2 hq
          obtain ⟨q1, q3⟩ := and2 q1
          obtain ⟨q4, q5⟩ := and2 q2
          obtain ⟨l3, l4⟩ := and2 q3
          have l3 := isB_eq l3
          have l4 := isB_eq l4
          have q4 := Nat.le_of_ble_eq_true q4
          have q5 := Nat.le_of_ble_eq_true q5
          have hij : i ≠ j := fun e => by subst e; rw [Nat.beq_refl] at q1; cases q1
          split at ho
          · rename_i out hout
            cases ho
            have hF := facts _ (findFn_mem hout) σ
            simp only [wfs] at hw
            obtain ⟨vi, ⟨_, _, _, _, gi⟩, r, hr, er, br⟩ := sliceAt_in R hw.1 hx
            obtain ⟨vj, ⟨_, _, _, _, gj⟩, s, hs, es, bs⟩ := sliceAt_in R hw.2.1 hy
            have g0 := R.glob shaT.s0 (by rw [hGg]; decide)
            have g1 := R.glob shaT.s1 (by rw [hGg]; decide)
            have far : ∀ k z, k < 10 → V k → h.get k = some z → live z = true → (σ k).blk = k → ∀ l y, 10 ≤ l → V l → h.get l = some y → live y = true → (σ l).blk ≠ k := fun k z hk hvk hgk hlk ek l y hl hvl hgl hll e => by
              have := R.inj l k y z hvl hvk hgl hgk hll hlk (by rw [e, ek])
              omega
            have hne : r.blk ≠ s.blk := fun e => hij (R.inj i j _ _ vi vj gi gj rfl rfl (by rw [← hr, ← hs, e]))
            have hc := hF w [r, s] ⟨words_at R (by rw [hGg]; decide) l3, words_at R (by rw [hGg]; decide) l4⟩ rfl
              (fun k q b hk hb => by
                match k with
                | 0 => cases hk; cases hb; exact br
                | 1 => cases hk; cases hb; exact bs
                | k + 2 => cases hk)
              (fun k l q q' hk hl e => by
                match k, l with
                | 0, 0 => rfl
                | 1, 1 => rfl
                | 0, 1 => cases hk; cases hl; exact absurd e hne
                | 1, 0 => cases hk; cases hl; exact absurd e.symm hne
                | k + 2, _ => cases hk
                | _, l + 2 => cases hl)
              (fun q hq => by
                have hq : q = r ∨ q = s := by simpa using hq
                rcases hq with rfl | rfl
                · rw [hr]; exact ⟨far _ _ (by decide) g0.1 l3 rfl g0.2.1 i _ q4 vi gi rfl, far _ _ (by decide) g1.1 l4 rfl g1.2.1 i _ q4 vi gi rfl⟩
                · rw [hs]; exact ⟨far _ _ (by decide) g0.1 l3 rfl g0.2.1 j _ q5 vj gj rfl, far _ _ (by decide) g1.1 l4 rfl g1.2.1 j _ q5 vj gj rfl⟩)
            have ea : (⟨embs σ (x :: y :: tail)⟩ : Array Value) = ⟨([r, s].zip [xs, ys]).map (fun x => slV x.1 x.2.length) ++ embs σ tail⟩ := by
              simp only [embs, er, es]; rfl
            rw [ea]
            refine hc.mono ?_
            rintro e w' ⟨hb, q, ⟨⟨c, fz, m1, m2, m3, m4⟩, m5, m6, m7⟩, rfl⟩
            have R1 := R.grown hW hb
            obtain ⟨w1, w2⟩ := ofBytes_wf (σ := upd σ h.nx q) (V := addV V h.nx) out
            have hblk : Blk (upd σ h.nx q) (addV V h.nx) h.nx w' (.cells (ofBytes out) shaT.u8 1 true) := by
              refine ⟨c, fz, by rw [upd_same]; exact m1, w1, w2, fun i v hv => ?_, fun _ => by rw [upd_same]; exact m3, m4⟩
              rw [upd_same]
              rw [ofBytes_eq, List.getElem?_map] at hv
              cases hi : out[i]? with
              | none => rw [hi] at hv; cases hv
              | some n => rw [hi] at hv; cases hv; exact m2 i n hi
            have hfr : ∀ id b, V id → h.get id = some b → live b = true → (σ id).blk ≠ q.blk := fun id b hv hgb hl e => by
              have := R.lt hv hgb hl
              omega
            have hBq : ¬ B q.blk := fun hB => by
              have := R.size hW _ hB
              omega
            have ha : Agr V σ (upd σ h.nx q) := agr_upd σ q (fun hv => Nat.lt_irrefl _ (R.vx _ hv))
            refine ⟨upd σ h.nx q, addV V h.nx, ha, fun _ hx => .inl hx, fun k hk => ?_, Nat.le_succ _, R1.adopt q hBq hfr hblk, ?_, ?_⟩
            · rcases hk with hk | rfl
              · exact .inl hk
              · exact .inr (Nat.le_refl _)
            · simp only [wf, wfs, upd_same, llen_eq, Nat.zero_add, Nat.add_zero]
              exact ⟨⟨.inr rfl, m5⟩, trivial, trivial⟩
            · simp only [emb, embs, upd_same, slV, llen_eq, Nat.add_zero, Nat.sub_zero]
              rfl
          · cases ho
      · cases ho
    · cases ho
end
end Go.MiniT
