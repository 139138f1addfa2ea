/- A part of the proof. -/
import Derived.Test.YtidadlcknkeodaaGreatDoorA01
/- The evaluator's operations against the model's: slices, conversions, lookups, builds, small builtins; all that only look. -/
namespace Go.Mini
variable [O : Opq]
open Go.RowKit
omit O in
theorem blt_lt {a b : Nat} (h : Nat.blt a b = true) : a < b := Nat.le_of_ble_eq_true h
omit O in
theorem lt_blt {a b : Nat} (h : a < b) : Nat.blt a b = true := Nat.ble_eq_true_of_le h
omit O in
theorem and2 {a b : Bool} (h : and a b = true) : a = true ∧ b = true := by simpa using h
section ops
variable {E : Env} {P : Program} {B : Nat → Prop} {W0 : World} {σ : Sg} {V : Nat → Prop} {h : MH} {w : World} {ev : Ev} {ρ : Operand → Value}
/-! ### Slices -/
theorem optNat_ok (hev : EvR σ V ev ρ) {o : Option Operand} {r : Option Nat} (ho : optNat ev o = some r) :
    (o = none ∧ r = none) ∨ ∃ k n, o.map ρ = some (.int k (.ofNat n)) ∧ r = some n := by
  unfold optNat at ho
  split at ho
  · cases ho; exact .inl ⟨rfl, rfl⟩
  · rename_i x
    split at ho
    · rename_i v hv
      split at ho
      · rename_i n hn
        cases ho
        obtain ⟨k, rfl⟩ := natOf_ok hn
        exact .inr ⟨k, n, by simp [(hev x _ hv).2, emb], rfl⟩
      · cases ho
    · cases ho
omit O in
theorem sliceBound_ok {k : IntKind} {n y : Nat} {c : BoundsCode} (hn : n ≤ y) (w : World) : (Instr.sliceBound (.int k (.ofNat n)) y c).run P w = .ok n w := by
  unfold Instr.sliceBound
  simp only [asIntOf, pure_bind]
  rw [if_pos ⟨Int.natCast_nonneg n, by simpa using hn⟩]
  rfl
theorem bounds_ok (hev : EvR σ V ev ρ) {lo hi mx : Option Operand} {lo' hi' mx' : Option Nat} (h1 : optNat ev lo = some lo') (h2 : optNat ev hi = some hi') (h3 : optNat ev mx = some mx')
    (hnm : ∀ m, mx' = some m → hi' ≠ none) (isS : Bool) {len cap : Nat} (c1 : od lo' 0 ≤ od hi' len) (c2 : od hi' len ≤ od mx' cap) (c3 : od mx' cap ≤ cap) (w : World) :
    (Instr.sliceBounds isS len cap (lo.map ρ) (hi.map ρ) (mx.map ρ)).run P w = .ok (od lo' 0, od hi' len, od mx' cap) w := by
  unfold Instr.sliceBounds
  rcases optNat_ok hev h3 with ⟨rfl, rfl⟩ | ⟨km, nm, em, rfl⟩ <;> rcases optNat_ok hev h2 with ⟨rfl, rfl⟩ | ⟨kh, nh, eh, rfl⟩ <;>
    rcases optNat_ok hev h1 with ⟨rfl, rfl⟩ | ⟨kl, nl, el, rfl⟩
  all_goals first | exact absurd rfl (hnm _ rfl) | skip
  all_goals
    simp only [od] at c1 c2 c3 ⊢
    simp only [*, Option.map_none, pure_bind]
    repeat rw [Sem.bind_ok (sliceBound_ok (by omega) w)]
    try rfl
omit O in
theorem sliceV {m l x y : Nat} {a b : Addr} {w : World} : (Result.ok (Value.slice (if m = l then some a else some b) x y) w) = .ok (.slice (some (if m = l then a else b)) x y) w := by split <;> rfl
theorem cutS_ok {id off cap es lo hi mx : Nat} {v : MV} (hv : V id) (ho : cutS id off cap es lo hi mx = some (.val v)) :
    lo ≤ hi ∧ hi ≤ mx ∧ mx ≤ cap ∧ wf σ V v ∧ emb σ v = .slice (some (if mx = lo then ⟨(σ id).blk, (σ id).off + off, none⟩ else ⟨(σ id).blk, (σ id).off + off + lo * es, none⟩)) (hi - lo) (mx - lo) := by
  unfold cutS at ho
  cases hc : (and (Nat.ble lo hi) (and (Nat.ble hi mx) (Nat.ble mx cap))) with
  | false => rw [hc] at ho; cases ho
  | true =>
    rw [hc] at ho
    simp only [cond_true, Option.some.injEq, MR.val.injEq] at ho
    subst ho
    obtain ⟨c1, c2⟩ := and2 hc
    obtain ⟨c2, c3⟩ := and2 c2
    have c1 := Nat.le_of_ble_eq_true c1
    have c2 := Nat.le_of_ble_eq_true c2
    have c3 := Nat.le_of_ble_eq_true c3
    refine ⟨c1, c2, c3, ?_, ?_⟩
    · simp only [wf]; exact ⟨hv, by show hi - lo ≤ mx - lo; omega⟩
    · simp only [emb]
      by_cases e : mx = lo
      · subst e; simp
      · have : Nat.beq mx lo = false := by cases hb : Nat.beq mx lo; rfl; exact absurd (Nat.eq_of_beq_eq_true hb) e
        rw [this, if_neg e]
        simp [Nat.add_assoc]
theorem cutO_ok {id off l len es lo hi : Nat} {v : MV} (hv : V id) (hl : l + len ≤ (σ id).cap) (ho : cutO id off l len es lo hi = some (.val v)) :
    lo ≤ hi ∧ hi ≤ len ∧ wf σ V v ∧
      emb σ v = .slice (some (if (σ id).cap - l = lo then ⟨(σ id).blk, (σ id).off + off, none⟩ else ⟨(σ id).blk, (σ id).off + off + lo * es, none⟩)) (hi - lo) ((σ id).cap - l - lo) := by
  unfold cutO at ho
  cases hc : (and (Nat.ble lo hi) (Nat.ble hi len)) with
  | false => rw [hc] at ho; cases ho
  | true =>
    rw [hc] at ho
    simp only [cond_true, Option.some.injEq, MR.val.injEq] at ho
    subst ho
    obtain ⟨c1, c2⟩ := and2 hc
    have c1 := Nat.le_of_ble_eq_true c1
    have c2 := Nat.le_of_ble_eq_true c2
    refine ⟨c1, c2, ?_⟩
    cases hd : (or (Nat.blt lo hi) (Nat.beq lo 0)) with
    | true =>
      simp only [cond_true]
      refine ⟨by simp only [wf]; exact ⟨hv, by show l + lo + (hi - lo) ≤ _; omega⟩, ?_⟩
      simp only [emb, Nat.add_eq, Nat.mul_eq, Nat.sub_eq]
      by_cases e : (σ id).cap - l = lo
      · rw [if_pos e]
        have h0 : lo = 0 := by
          rcases Bool.or_eq_true_iff.1 hd with h | h
          · have := blt_lt h; omega
          · exact Nat.eq_of_beq_eq_true h
        subst h0
        simp
      · rw [if_neg e, Nat.add_assoc, Nat.sub_sub]
    | false =>
      simp only [cond_false]
      have hne : ¬ lo < hi := fun h => by
        have : Nat.blt lo hi = true := lt_blt h
        rw [this] at hd; cases hd
      refine ⟨by simp only [wf]; exact ⟨hv, by show l + lo ≤ _; omega⟩, ?_⟩
      have e0 : hi - lo = 0 := by omega
      simp only [emb, Nat.add_eq, Nat.mul_eq, e0]
      by_cases e : (σ id).cap - l = lo
      · rw [if_pos e, if_pos (by omega), Nat.sub_sub]
      · rw [if_neg e, if_neg (by omega), Nat.add_assoc, Nat.sub_sub]
theorem slice_ok (hE : EnvOk E P) (hev : EvR σ V ev ρ) {t : TypeId} {x : Operand} {lo hi mx : Option Operand} {v : MV} (ho : oSlice E ev t x lo hi mx = some (.val v)) (w : World) :
    wf σ V v ∧ (Instr.sliceAt t (ρ x) (lo.map ρ) (hi.map ρ) (mx.map ρ)).run P w = .ok (emb σ v) w := by
  unfold oSlice at ho
  split at ho
  · rename_i xv lo' hi' mx' hx hlo hhi hmx
    obtain ⟨g1, g2⟩ := hev x _ hx
    split at ho
    · cases ho
    · rename_i hnm0
      have hnm : ∀ m, mx' = some m → hi' ≠ none := fun m hm hn => hnm0 m hn hm
      unfold sliceM at ho
      split at ho
      · cases ho
      · rename_i T hT
        obtain ⟨hi0, hu⟩ := hE.ty t T hT
        unfold Instr.sliceAt
        rw [Sem.bind_ok (r_und hu w), g2]
        split at ho
        · -- strings
          rename_i s hd
          rw [hd] at hu
          simp only [wf] at g1
          split at ho
          · cases ho
          · cases hc : (and (Nat.ble (od lo' 0) (od hi' (llen s 0))) (Nat.ble (od hi' (llen s 0)) (llen s 0))) with
            | false => rw [hc] at ho; cases ho
            | true =>
              rw [hc] at ho
              simp only [cond_true] at ho
              obtain ⟨c1, c2⟩ := and2 hc
              have c1 := Nat.le_of_ble_eq_true c1
              have c2 := Nat.le_of_ble_eq_true c2
              split at ho
              · rename_i r hr
                cases ho
                obtain ⟨hn, rfl⟩ := ltake_some hr
                rw [ldrop_eq]
                refine ⟨by simp only [wf]; exact fun b hb => g1 b (List.mem_of_mem_drop (List.mem_of_mem_take hb)), ?_⟩
                have hmx0 : mx.map ρ = none := by rcases optNat_ok hev hmx with ⟨rfl, -⟩ | ⟨k, n, e, e'⟩; rfl; cases e'
                rw [llen_eq] at c1 c2
                rw [llen_eq]
                simp only [Nat.add_zero] at c1 c2 ⊢
                have hbd := bounds_ok (P := P) hev hlo hhi (show optNat ev (none : Option Operand) = some none from rfl) (fun m hm => by cases hm) false (len := s.length) (cap := s.length) c1 (show od hi' s.length ≤ od none s.length from c2) (Nat.le_refl _) w
                simp only [hd, emb]
                unfold Instr.slice
                rw [Sem.bind_ok (r_und hu w)]
                simp only [hmx0, Option.isSome_none, Bool.false_eq_true, if_false, bytesV_size]
                simp only [Option.map_none] at hbd
                rw [Sem.bind_ok hbd]
                simp only [Sem.run_pure]
                congr 2
                apply ByteArray.ext
                simp [bytesV, List.map_take, List.map_drop, List.extract_eq_take_drop]
              · cases ho
        · -- slices with a known capacity
          rename_i e id off len cap hd
          rw [hd] at hu
          simp only [wf] at g1
          split at ho
          · rename_i es hes
            obtain ⟨c1, c2, c3, c4, c5⟩ := cutS_ok (σ := σ) (V := V) g1.1 ho
            refine ⟨c4, ?_⟩
            simp only [hd, emb]
            unfold Instr.slice
            rw [Sem.bind_ok (r_und hu w)]
            simp only []
            rw [Sem.bind_ok (bounds_ok hev hlo hhi hmx hnm true c1 c2 c3 w), Sem.bind_ok (sizeE_ok hE hes w), c5]
            simp only [Sem.run_pure, Option.map_some, Addr.add_lit]
            exact sliceV
          · cases ho
        · -- slices whose capacity is not known
          rename_i e id off l len hd
          rw [hd] at hu
          simp only [wf] at g1
          split at ho
          · rename_i es hes
            split at ho
            · rename_i m
              obtain ⟨c1, c2, c3, c4, c5⟩ := cutS_ok (σ := σ) (V := V) g1.1 ho
              refine ⟨c4, ?_⟩
              simp only [hd, emb]
              unfold Instr.slice
              rw [Sem.bind_ok (r_und hu w)]
              simp only []
              have c3' : od (some m) ((σ id).cap - l) ≤ (σ id).cap - l := by show m ≤ _; omega
              rw [Sem.bind_ok (bounds_ok hev hlo hhi hmx hnm true c1 (show od hi' len ≤ od (some m) ((σ id).cap - l) from c2) c3' w), Sem.bind_ok (sizeE_ok hE hes w), c5]
              simp only [Sem.run_pure, Option.map_some, Addr.add_lit]
              exact sliceV
            · obtain ⟨c1, c2, c4, c5⟩ := cutO_ok (σ := σ) (V := V) g1.1 g1.2 ho
              refine ⟨c4, ?_⟩
              simp only [hd, emb]
              unfold Instr.slice
              rw [Sem.bind_ok (r_und hu w)]
              simp only []
              rw [Sem.bind_ok (bounds_ok hev hlo hhi hmx hnm true c1 (show od hi' len ≤ od none ((σ id).cap - l) by show _ ≤ (σ id).cap - l; omega) (Nat.le_refl _) w), Sem.bind_ok (sizeE_ok hE hes w), c5]
              simp only [Sem.run_pure, Option.map_some, Addr.add_lit]
              exact sliceV
          · cases ho
        · -- nil
          rename_i e hd
          rw [hd] at hu
          split at ho
          · rename_i es hes
            cases hc : (and (Nat.beq (od lo' 0) 0) (and (Nat.beq (od hi' 0) 0) (Nat.beq (od mx' 0) 0))) with
            | false => rw [hc] at ho; cases ho
            | true =>
              rw [hc] at ho
              simp only [cond_true, Option.some.injEq, MR.val.injEq] at ho
              subst ho
              obtain ⟨c1, c2⟩ := and2 hc
              obtain ⟨c2, c3⟩ := and2 c2
              have c1 := Nat.eq_of_beq_eq_true c1
              have c2 := Nat.eq_of_beq_eq_true c2
              have c3 := Nat.eq_of_beq_eq_true c3
              refine ⟨trivial, ?_⟩
              simp only [hd, emb]
              unfold Instr.slice
              rw [Sem.bind_ok (r_und hu w)]
              simp only []
              rw [Sem.bind_ok (bounds_ok hev hlo hhi hmx hnm true (by omega) (by omega) (by omega) w), Sem.bind_ok (sizeE_ok hE hes w)]
              simp only [c1, c2, c3, Sem.run_pure]
              rfl
          · cases ho
        · -- empty at the end of an open one
          rename_i e id a b l hd
          rw [hd] at hu
          simp only [wf] at g1
          split at ho
          · rename_i es hes
            cases hc : (and (Nat.beq (od lo' 0) 0) (Nat.beq (od hi' 0) 0)) with
            | false => rw [hc] at ho; cases ho
            | true =>
              rw [hc] at ho
              simp only [cond_true, Option.some.injEq, MR.val.injEq] at ho
              subst ho
              obtain ⟨c1, c2⟩ := and2 hc
              have c1 := Nat.eq_of_beq_eq_true c1
              have c2 := Nat.eq_of_beq_eq_true c2
              refine ⟨by simp only [wf]; exact g1, ?_⟩
              simp only [hd, emb]
              unfold Instr.slice
              rw [Sem.bind_ok (r_und hu w)]
              simp only []
              rw [Sem.bind_ok (bounds_ok hev hlo hhi hmx hnm true (by omega) (show od hi' 0 ≤ od none ((σ id).cap - l) by omega) (Nat.le_refl _) w), Sem.bind_ok (sizeE_ok hE hes w)]
              simp only [c1, c2, Sem.run_pure, Option.map_some, Addr.add_lit, Nat.zero_mul, Nat.add_zero, ite_self]
              rfl
          · cases ho
        · -- arrays
          rename_i n e id off hd
          rw [hd] at hu
          simp only [wf] at g1
          split at ho
          · rename_i es hes
            obtain ⟨c1, c2, c3, c4, c5⟩ := cutS_ok (σ := σ) (V := V) g1 ho
            refine ⟨c4, ?_⟩
            simp only [hd, emb, Instr.sureAddr, pure_bind]
            rw [Sem.bind_ok (bounds_ok hev hlo hhi hmx hnm false c1 c2 c3 w), Sem.bind_ok (sizeE_ok hE hes w), c5]
            simp only [Sem.run_pure, Addr.add_lit]
          · cases ho
        · cases ho
  · cases ho
end ops
end Go.Mini
/- The evaluator's operations against the model's: conversions, lookups, builds, small builtins; all that only look. -/
namespace Go.Mini
variable [O : Opq]
open Go.RowKit
section ops
variable {E : Env} {P : Program} {B : Nat → Prop} {W0 : World} {σ : Sg} {V : Nat → Prop} {h : MH} {w : World} {ev : Ev} {ρ : Operand → Value}
/-! ### Conversions -/
omit O in
theorem isByte_ok {T : MT} (hb : isByte T = true) : T.und = .int .u8 := by
  unfold isByte at hb
  split at hb
  · assumption
  · cases hb
omit O in
theorem bytesOf_cons (v : MV) (l : List MV) : bytesOf (v :: l) = (match v with
    | .int .u8 (.ofNat n) => cond (Nat.blt n 256) (match bytesOf l with | some r => some (n :: r) | none => none) none
    | _ => none) := rfl
omit O in
theorem bytesOf_ok : ∀ (l : List MV) (s : List Nat), bytesOf l = some s → (∀ b ∈ s, b < 256) ∧ l = s.map (fun n => .int .u8 (.ofNat n)) := by
  intro l
  induction l with
  | nil => intro s hs; have e : bytesOf [] = some [] := rfl
           rw [e] at hs; cases hs; simp
  | cons v l ih =>
    intro s hs
    rw [bytesOf_cons] at hs
    split at hs
    · rename_i n
      cases hb : Nat.blt n 256 with
      | false => rw [hb] at hs; cases hs
      | true =>
        rw [hb] at hs
        simp only [cond_true] at hs
        split at hs
        · rename_i r hr
          cases hs
          obtain ⟨h1, h2⟩ := ih r hr
          refine ⟨fun b hb' => ?_, by simp [h2]⟩
          rcases List.mem_cons.1 hb' with rfl | hb'
          · exact blt_lt hb
          · exact h1 b hb'
        · cases hs
    · cases hs
theorem push_ok (σ : Sg) (w : World) : ∀ (s acc : List Nat),
    (forIn (m := Sem) (s.map (fun n => emb σ (.int .u8 (.ofNat n)))) (bytesV acc) (fun c r => do
      let .int .u8 n := c | stuck "bytesToString: byte expected"
      pure (ForInStep.yield (r.push (UInt8.ofNat n.toNat))))).run P w = .ok (bytesV (acc ++ s)) w := by
  intro s
  induction s with
  | nil => intro acc; simp
  | cons n s ih =>
    intro acc
    have := ih (acc ++ [n])
    simp only [List.map_cons, List.forIn_cons, emb, pure_bind]
    simp only [emb] at this
    have e : (bytesV acc).push (UInt8.ofNat (Int.ofNat n).toNat) = bytesV (acc ++ [n]) := by
      apply ByteArray.ext; simp [bytesV]
    rw [e, this]
    simp
theorem bytesToString_ok (R : Rel E.G B W0 σ V h w) {x : MV} {c : List MV} {s : List Nat} (hx : wf σ V x) (hc : sliceCells 1 h x = some c) (hs : bytesOf c = some s) :
    (∀ b ∈ s, b < 256) ∧ (Conv.bytesToString (emb σ x)).run P w = .ok (.string (bytesV s)) w := by
  obtain ⟨h1, h2⟩ := bytesOf_ok c s hs
  refine ⟨h1, ?_⟩
  have key : ∀ {id off len : Nat}, V id → readCells h id off (Nat.mul len 1) = some c → ∀ cap,
      (Conv.bytesToString (.slice (some ⟨(σ id).blk, (σ id).off + off, none⟩) len cap)).run P w = .ok (.string (bytesV s)) w := by
    intro id off len hv hr cap
    obtain ⟨-, -, hlen, hcell⟩ := readCells_ok R hv hr
    have hl := loadCells_ok (P := P) hcell
    unfold Conv.bytesToString
    rw [show len = c.length by rw [hlen]; simp]
    simp only []
    rw [Sem.bind_ok hl, ← Array.forIn_toList]
    have e : embs σ c = s.map (fun n => emb σ (.int .u8 (.ofNat n))) := by rw [embs_map, h2]; simp
    have := push_ok (P := P) σ w s []
    simp only [List.nil_append] at this
    simp only [e]
    exact (Sem.bind_ok this).trans rfl
  have nil : c = [] → (Conv.bytesToString (.slice none 0 0)).run P w = .ok (.string (bytesV s)) w := by
    rintro rfl
    have e : bytesOf [] = some [] := rfl
    rw [e] at hs; cases hs
    rfl
  cases x <;> simp only [sliceCells] at hc <;> first | (cases hc; done) | skip
  · exact nil (Option.some.inj hc).symm
  · rename_i id off len cap; simp only [wf] at hx; exact key hx.1 hc _
  · rename_i id off l len; simp only [wf] at hx; exact key hx.1 hc _
  · rename_i id a b l
    cases hc
    have e : bytesOf [] = some [] := rfl
    rw [e] at hs; cases hs
    rfl
theorem sliceCells_emb {n : Nat} {x : MV} {c : List MV} (hc : sliceCells n h x = some c) : ∃ a m cp, emb σ x = .slice a m cp := by
  cases x <;> simp only [sliceCells] at hc <;> first | (cases hc; done) | exact ⟨_, _, _, rfl⟩
omit O in
theorem markM_upd {x : MV} {r : MR} (ho : markM E h x = some r) : ∃ id off len cap cs t es o, x = .sl id off len cap ∧ h.get id = some (.cells cs t es o) ∧ E.G.ro ≤ id ∧ r = .upd x (h.set id (.cells cs t es o)) := by
  unfold markM at ho
  split at ho
  · rename_i id off len cap
    split at ho
    · rename_i cs t es o hg
      cases hr : Nat.ble E.G.ro id with
      | false => rw [hr] at ho; cases ho
      | true =>
        rw [hr] at ho
        cases ho
        exact ⟨id, off, len, cap, cs, t, es, o, rfl, hg, Nat.le_of_ble_eq_true hr, rfl⟩
    · cases ho
  · cases ho
theorem conv_ok (hE : EnvOk E P) (R : Rel E.G B W0 σ V h w) (hev : EvR σ V ev ρ) {s d : TypeId} {x : Operand} {v : MV} (ho : oConv E ev s d x h = some (.val v)) :
    wf σ V v ∧ (convert s d (ρ x)).run P w = .ok (emb σ v) w := by
  unfold oConv at ho
  split at ho
  · rename_i xv hx
    obtain ⟨g1, g2⟩ := hev x _ hx
    rw [g2]
    split at ho
    · rename_i u hu
      cases ho
      obtain ⟨k1, k2⟩ := hE.co s d xv _ hu σ V g1
      exact ⟨k1, k2 w⟩
    rename_i hu
    clear hu
    unfold convM at ho
    split at ho
    · rename_i S D hS hD
      have uS := (hE.ty s S hS).2
      have uD := (hE.ty d D hD).2
      unfold convert
      rw [Sem.bind_ok (r_und uS w), Sem.bind_ok (r_und uD w)]
      split at ho
      · rename_i k k' n hd
        split at ho
        · rename_i k2 hs
          cases ho
          refine ⟨trivial, ?_⟩
          simp only [hd, hs, emb]
          rfl
        · cases ho
      · rename_i b hd
        split at ho
        · rename_i hs
          cases ho
          refine ⟨g1, ?_⟩
          simp only [hd, hs, emb]
          rfl
        · cases ho
      · split at ho
        · rename_i T hS' hT
          cases hb : isByte T with
          | false => rw [hb] at ho; cases ho
          | true => rw [hb] at ho; cases ho
        · cases ho
      · rename_i hni hns hd
        split at ho
        · rename_i e hs
          split at ho
          · rename_i T hT
            cases hb : isByte T with
            | false => rw [hb] at ho; cases ho
            | true =>
              rw [hb] at ho
              simp only [cond_true] at ho
              split at ho
              · rename_i c hc
                split at ho
                · rename_i b hbo
                  cases ho
                  obtain ⟨h1, h2⟩ := bytesToString_ok (P := P) R g1 hc hbo
                  refine ⟨by simp only [wf]; exact h1, ?_⟩
                  have ue := (hE.ty e T hT).2
                  rw [isByte_ok hb] at ue
                  simp only [hns, hs]
                  obtain ⟨a, n, cp, hx'⟩ := sliceCells_emb (σ := σ) hc
                  rw [hx'] at h2 ⊢
                  simp only []
                  rw [Sem.bind_ok (r_und ue w)]
                  exact h2
                · cases ho
              · cases ho
          · cases ho
        · cases ho
      · split at ho
        · rename_i T hs hT
          cases hb : and (Nat.beq s d) (isByte T) with
          | false => rw [hb] at ho; cases ho
          | true =>
            rw [hb] at ho
            obtain ⟨id, off, len, cap, cs, t, es, o, -, -, -, e⟩ := markM_upd ho
            cases e
        · cases ho
      · cases ho
    · cases ho
  · cases ho
/-! ### Maps -/
omit O in
theorem mfind_cons (K : TypeDesc) (k : MV) (e : ME) (l : List ME) (i : Nat) : mfind K k (e :: l) i = (match eqM K k e.key with
    | some true => some (some (i, e))
    | some false => mfind K k l (Nat.succ i)
    | none => none) := rfl
theorem sameNow_ok {K : TypeDesc} {x y : MV} {b : Bool} (hK : keyT K = true) (hx : wf σ V x) (hy : wf σ V y) (he : eqM K x y = some b) : Instr.sameNow K (emb σ x) (emb σ y) = some b := by
  unfold eqM at he
  cases K <;> simp only [keyT, Bool.false_eq_true] at hK <;> simp only at he
  case bool =>
    split at he
    · cases he; rfl
    · cases he
  case int k0 =>
    split at he
    · rename_i k a k' b'
      by_cases hk : k = k'
      · subst hk
        simp only [decide_true, cond_true, Option.some.injEq] at he
        subst he
        simp only [emb, Instr.sameNow, if_true]
        rfl
      · simp [hk] at he
    · cases he
  case string =>
    split at he
    · rename_i a b'
      simp only [Option.some.injEq] at he
      subst he
      simp only [wf] at hx hy
      simp only [emb, Instr.sameNow]
      congr 1
      rw [beqs_eq, byteArray_beq, bytesV_list, bytesV_list, Bool.eq_iff_iff]
      simp only [decide_eq_true_eq]
      exact u8_map_inj hx hy
    · cases he
theorem mfind_ok {K : TypeDesc} {k : MV} (hK : keyT K = true) (hk : wf σ V k) : ∀ (l : List ME) (i : Nat) (r : Option (Nat × ME)), (∀ e ∈ l, wfE σ V e) → mfind K k l i = some r →
    Instr.findNow K (emb σ k) (l.map (embE σ)) i = some (r.map fun p => (p.1, emb σ p.2.val)) ∧ ∀ j e, r = some (j, e) → i ≤ j ∧ l[j - i]? = some e := by
  intro l
  induction l with
  | nil => intro i r _ h; have e : mfind K k [] i = some none := rfl
           rw [e] at h; cases h; exact ⟨rfl, fun _ _ h => by cases h⟩
  | cons e l ih =>
    intro i r hl h
    rw [mfind_cons] at h
    have he := hl e (by simp)
    split at h
    · rename_i hq
      cases h
      refine ⟨?_, fun j e' h => by cases h; simp⟩
      simp only [List.map_cons, Instr.findNow, embE, sameNow_ok hK hk he.1 hq, Option.map_some]
    · rename_i hq
      obtain ⟨h1, h2⟩ := ih (i + 1) r (fun x hx => hl x (by simp [hx])) h
      refine ⟨?_, fun j e' hj => ?_⟩
      · simp only [List.map_cons, Instr.findNow, embE, sameNow_ok hK hk he.1 hq]
        exact h1
      · obtain ⟨h3, h4⟩ := h2 j e' hj
        refine ⟨by omega, ?_⟩
        rw [show j - i = (j - (i + 1)) + 1 by omega]
        simpa using h4
    · cases h
omit O in
theorem checkKey_ok {kt : TypeId} {K : TypeDesc} {v : Value} (hu : P.underlying kt = some K) (hK : keyT K = true) (em : Bool) (w : World) : (Instr.checkKey em 10000 kt v).run P w = .ok () w := by
  unfold Instr.checkKey
  rw [Sem.bind_ok (r_und hu w)]
  cases K <;> simp only [keyT, Bool.false_eq_true] at hK <;> rfl
theorem keyDesc_ok (hE : EnvOk E P) {t : TypeId} {K : TypeDesc} {el : TypeId} (hk : keyDesc E t = some (K, el)) : ∃ kt, P.underlying t = some (.map kt el) ∧ P.underlying kt = some K ∧ keyT K = true := by
  unfold keyDesc at hk
  split at hk
  · rename_i T hT
    split at hk
    · rename_i kt el' hd
      split at hk
      · rename_i KT hKT
        cases hc : keyT KT.und with
        | false => rw [hc] at hk; cases hk
        | true =>
          rw [hc] at hk
          simp only [cond_true, Option.some.injEq, Prod.mk.injEq] at hk
          obtain ⟨rfl, rfl⟩ := hk
          exact ⟨kt, by rw [← hd]; exact (hE.ty t T hT).2, (hE.ty kt KT hKT).2, hc⟩
      · cases hk
    · cases hk
  · cases hk
theorem findKey_ok {kt : TypeId} {K : TypeDesc} {k : MV} {l : List ME} {r : Option (Nat × ME)} (hu : P.underlying kt = some K) (hK : keyT K = true) (hk : wf σ V k) (hl : ∀ e ∈ l, wfE σ V e)
    (hf : mfind K k l 0 = some r) (w : World) : (Instr.findKey kt (emb σ k) (l.map (embE σ))).run P w = .ok (r.map fun p => (p.1, emb σ p.2.val)) w := by
  unfold Instr.findKey
  rw [Sem.bind_ok (r_und hu w), (mfind_ok hK hk l 0 r hl hf).1]
  rfl
theorem zeroV_ok (hE : EnvOk E P) {t : TypeId} {T : MT} {z : MV} (hT : E.ty.get t = some T) (hz : zeroV T = some z) : (∀ w, (zeroValue t).run P w = .ok (emb σ z) w) ∧ wf σ V z ∧ ones z.cells = true ∧ z.cells.length = T.info.size := by
  unfold zeroV at hz
  split at hz
  · rename_i u hu
    split at hz
    · rename_i m hm
      cases hc : and (ones m.cells) (Nat.beq (llen m.cells 0) T.info.size) with
      | false => rw [hc] at hz; cases hz
      | true =>
        rw [hc] at hz
        simp only [cond_true, Option.some.injEq] at hz
        subst hz
        obtain ⟨h1, h2⟩ := ofV_ok σ V u m hm
        obtain ⟨c1, c2⟩ := and2 hc
        have c2 := Nat.eq_of_beq_eq_true c2
        rw [llen_eq] at c2
        exact ⟨fun w => by rw [h1]; exact r_zero (hE.ty t T hT).1 hu w, h2, c1, c2⟩
    · cases hz
  · cases hz
theorem mapOf_ok (R : Rel E.G B W0 σ V h w) {m : MV} {es : List ME} {c : Nat} (hm : wf σ V m) (ho : mapOf h m = some (es, c)) :
    (∀ e ∈ es, wfE σ V e) ∧ ((m = .nilM ∧ es = []) ∨ ∃ id, m = .mp id ∧ V id ∧ h.get id = some (.map es c) ∧ w.heap[(σ id).blk]? = some (.map ⟨es.map (embE σ)⟩ c)) := by
  unfold mapOf at ho
  split at ho
  · cases ho; exact ⟨by simp, .inl ⟨rfl, rfl⟩⟩
  · rename_i id
    split at ho
    · rename_i es' c' hg
      cases ho
      simp only [wf] at hm
      obtain ⟨h1, h2⟩ := R.blk id _ hm hg
      exact ⟨h2, .inr ⟨id, rfl, hm, hg, h1⟩⟩
    · cases ho
  · cases ho
theorem found_ok {ok b : Bool} {v : MV} (hv : wf σ V v) : wf σ V (found ok v b) ∧ emb σ (found ok v b) = (if ok then .tuple #[emb σ v, .bool b] else emb σ v) := by
  unfold found
  cases ok with
  | true => exact ⟨by simp only [cond_true, wf, wfs]; exact ⟨hv, trivial, trivial⟩, rfl⟩
  | false => exact ⟨hv, rfl⟩
omit O in
theorem r_getObj_map {r : Nat} {es : Array MapEntry} {c : Nat} (hb : w.heap[r]? = some (.map es c)) : (getObj r).run P w = .ok (.map es c) w := by
  simp [getObj, Sem.run, hb]
theorem lookup_ok (hE : EnvOk E P) (R : Rel E.G B W0 σ V h w) (hev : EvR σ V ev ρ) {t : TypeId} {m k : Operand} {ok : Bool} {v : MV} (ho : oLookup E ev t m k ok h = some (.val v)) :
    wf σ V v ∧ (Instr.lookup t (ρ m) (ρ k) ok).run P w = .ok (emb σ v) w := by
  unfold oLookup at ho
  split at ho
  · rename_i mv kv hm hk
    obtain ⟨m1, m2⟩ := hev m _ hm
    obtain ⟨k1, k2⟩ := hev k _ hk
    rw [m2, k2]
    unfold lookupM at ho
    split at ho
    · rename_i K el es c hkd hmo
      obtain ⟨kt, u1, u2, hK⟩ := keyDesc_ok hE hkd
      obtain ⟨hes, hmm⟩ := mapOf_ok R m1 hmo
      unfold Instr.lookup
      rw [Sem.bind_ok (r_und u1 w)]
      simp only []
      split at ho
      · rename_i i e hf
        cases ho
        have hfk := findKey_ok (P := P) u2 hK k1 hes hf w
        obtain ⟨-, h4⟩ := mfind_ok hK k1 es 0 _ hes hf
        obtain ⟨-, h5⟩ := h4 _ _ rfl
        obtain ⟨w1, w2⟩ := found_ok (σ := σ) (V := V) (ok := ok) (b := true) (hes e (List.mem_of_getElem? h5)).2
        refine ⟨w1, ?_⟩
        rcases hmm with ⟨rfl, rfl⟩ | ⟨id, rfl, hv, hg, hw⟩
        · simp at h5
        · simp only [emb]
          rw [Sem.bind_ok (r_getObj_map hw)]
          simp only [pure_bind]
          refine (Sem.bind_ok (checkKey_ok u2 hK _ w)).trans ?_
          refine (Sem.bind_ok hfk).trans ?_
          rw [w2]; rfl
      · rename_i hf
        split at ho
        · rename_i Te hTe
          split at ho
          · rename_i z hz
            cases ho
            have hfk := findKey_ok (P := P) u2 hK k1 hes hf w
            obtain ⟨z1, z2, -, -⟩ := zeroV_ok (σ := σ) (V := V) hE hTe hz
            obtain ⟨w1, w2⟩ := found_ok (σ := σ) (V := V) (ok := ok) (b := false) z2
            refine ⟨w1, ?_⟩
            rcases hmm with ⟨rfl, rfl⟩ | ⟨id, rfl, hv, hg, hw⟩
            · simp only [emb, pure_bind]
              refine (Sem.bind_ok (checkKey_ok u2 hK _ w)).trans ?_
              refine (Sem.bind_ok hfk).trans ?_
              simp only [Option.map_none]
              rw [Sem.bind_ok (z1 w), w2]; rfl
            · simp only [emb]
              rw [Sem.bind_ok (r_getObj_map hw)]
              simp only [pure_bind]
              refine (Sem.bind_ok (checkKey_ok u2 hK _ w)).trans ?_
              refine (Sem.bind_ok hfk).trans ?_
              simp only [Option.map_none]
              rw [Sem.bind_ok (z1 w), w2]; rfl
          · cases ho
        · cases ho
      · cases ho
    · cases ho
  · cases ho
end ops
end Go.Mini
/- The evaluator's operations against the model's: builds, small builtins; all that only look; all that make one block. -/
namespace Go.Mini
variable [O : Opq]
open Go.RowKit
omit O in
theorem zip_set {α : Type} (off : Nat) : ∀ (vs : List α) (k : Nat) (cs : Array α), off + k + vs.length ≤ cs.size →
    (vs.zipIdx k).foldl (fun cs p => cs.setIfInBounds (off + p.2) p.1) cs = ⟨lsets (off + k) vs cs.toList⟩ := by
  intro vs
  induction vs with
  | nil =>
    intro k cs h
    simp only [List.zipIdx_nil, List.foldl_nil]
    apply Array.toList_inj.1
    apply List.ext_getElem?
    intro i
    rw [(lsets_get (off + k) [] cs.toList (by simpa using h)).2 i, if_neg (by simp)]
  | cons v vs ih =>
    intro k cs h
    simp only [List.length_cons] at h
    simp only [List.zipIdx_cons, List.foldl_cons]
    rw [ih (k + 1) _ (by simp; omega)]
    congr 1
    apply List.ext_getElem?
    intro i
    have h1 := lsets_get (off + (k + 1)) vs (cs.setIfInBounds (off + k) v).toList (by simp; omega)
    have h2 := lsets_get (off + k) (v :: vs) cs.toList (by simp; omega)
    rw [h1.2, h2.2]
    simp only [List.length_cons, Array.toList_setIfInBounds, List.getElem?_set]
    by_cases e : i = off + k
    · subst e
      rw [if_neg (by omega), if_pos rfl, if_pos (by simp; omega), if_pos (by omega)]
      simp
    · by_cases e2 : off + (k + 1) ≤ i ∧ i < off + (k + 1) + vs.length
      · rw [if_pos e2, if_pos (by omega), show i - (off + k) = (i - (off + (k + 1))) + 1 by omega]
        simp
      · rw [if_neg e2, if_neg (by omega), if_neg (by omega)]
omit O in
theorem range_rep {α : Type} [Inhabited α] (z : List α) (n : Nat) : ((Array.range (n * z.length)).map fun i => (⟨z⟩ : Array α)[i % (⟨z⟩ : Array α).size]!) = ⟨(List.replicate n z).flatten⟩ := by
  apply Array.toList_inj.1
  apply List.ext_getElem?
  intro i
  have hsz : (List.replicate n z).flatten.length = n * z.length := by simp
  simp only [Array.toList_map, Array.toList_range, List.getElem?_map]
  by_cases hi : i < n * z.length
  · rw [List.getElem?_range hi]
    simp only [Option.map_some]
    have hz : 0 < z.length := by
      rcases Nat.eq_zero_or_pos z.length with h | h
      · rw [h] at hi; simp at hi
      · exact h
    have hm : i % z.length < z.length := Nat.mod_lt _ hz
    have key : ∀ (n i : Nat), i < n * z.length → (List.replicate n z).flatten[i]? = z[i % z.length]? := by
      intro n
      induction n with
      | zero => intro i h; simp at h
      | succ n ih =>
        intro i h
        simp only [List.replicate_succ, List.flatten_cons]
        by_cases hlt : i < z.length
        · rw [List.getElem?_append_left hlt, Nat.mod_eq_of_lt hlt]
        · rw [List.getElem?_append_right (by omega), ih _ (by rw [Nat.succ_mul] at h; omega)]
          congr 1
          rw [Nat.mod_eq_sub_mod (show i ≥ z.length by omega)]
    rw [key n i hi]
    simp only [List.size_toArray]
    rw [getElem!_pos (⟨z⟩ : Array α) (i % z.length) hm]
    simp [List.getElem?_eq_getElem hm]
  · rw [List.getElem?_eq_none (by simpa using hi), List.getElem?_eq_none (by rw [hsz]; omega)]
    rfl
section ops
variable {E : Env} {P : Program} {B : Nat → Prop} {W0 : World} {σ : Sg} {V : Nat → Prop} {h : MH} {w : World} {ev : Ev} {ρ : Operand → Value}
theorem zeroM_ok (hE : EnvOk E P) {t : TypeId} {T : MT} {z : List MV} (hT : E.ty.get t = some T) (hz : zeroM T = some z) :
    ∃ m, (∀ w, (zeroValue t).run P w = .ok (emb σ m) w) ∧ (emb σ m).cells = ⟨embs σ z⟩ ∧ wfs σ V z ∧ ones z = true ∧ z.length = T.info.size := by
  unfold zeroM at hz
  split at hz
  · rename_i m hm
    cases hz
    obtain ⟨h1, h2, h3, h4⟩ := zeroV_ok (σ := σ) (V := V) hE hT hm
    exact ⟨m, h1, emb_cells σ m, wf_cells h2, h3, h4⟩
  · cases hz
omit O in
theorem mfill_cons (place : Nat → Option (Nat × Nat)) (p : Nat × Operand) (ps : List (Nat × Operand)) (cells : List MV) : mfill place ev (p :: ps) cells =
    (match place p.1, ev p.2 with
    | some (off, size), some v =>
      cond (and (ones v.cells) (and (Nat.beq (llen v.cells 0) size) (Nat.ble (Nat.add off size) (llen cells 0)))) (mfill place ev ps (lsets off v.cells cells)) none
    | _, _ => none) := rfl
theorem lsets_wf {off : Nat} {vs cs : List MV} (hl : off + vs.length ≤ cs.length) (h1 : wfs σ V vs) (h2 : ones vs = true) (h3 : wfs σ V cs) (h4 : ones cs = true) :
    wfs σ V (lsets off vs cs) ∧ ones (lsets off vs cs) = true ∧ embs σ (lsets off vs cs) = lsets off (embs σ vs) (embs σ cs) := by
  have hg := lsets_get off vs cs hl
  have hmem : ∀ v ∈ lsets off vs cs, v ∈ vs ∨ v ∈ cs := by
    intro v hv
    obtain ⟨i, hi⟩ := List.mem_iff_getElem?.1 hv
    rw [hg.2] at hi
    split at hi
    · exact .inl (List.mem_of_getElem? hi)
    · exact .inr (List.mem_of_getElem? hi)
  refine ⟨(wfs_iff _).2 fun v hv => ?_, (ones_iff _).2 fun v hv => ?_, ?_⟩
  · rcases hmem v hv with hv | hv
    · exact (wfs_iff _).1 h1 v hv
    · exact (wfs_iff _).1 h3 v hv
  · rcases hmem v hv with hv | hv
    · exact (ones_iff _).1 h2 v hv
    · exact (ones_iff _).1 h4 v hv
  · apply List.ext_getElem?
    intro i
    rw [(lsets_get off (embs σ vs) (embs σ cs) (by rw [embs_map, embs_map]; simpa using hl)).2]
    rw [embs_map, embs_map, embs_map, List.getElem?_map, hg.2]
    simp only [List.length_map]
    split <;> simp
theorem mfill_ok (hev : EvR σ V ev ρ) (place : Nat → Option (Nat × Nat)) : ∀ (ps : List (Nat × Operand)) (cells r : List MV), wfs σ V cells → ones cells = true → mfill place ev ps cells = some r →
    wfs σ V r ∧ ones r = true ∧ Instr.fill place ⟨embs σ cells⟩ (ps.map fun p => (p.1, ρ p.2)) = some ⟨embs σ r⟩ := by
  intro ps
  induction ps with
  | nil => intro cells r h1 h2 h; have e : mfill place ev [] cells = some cells := rfl
           rw [e] at h; cases h; exact ⟨h1, h2, rfl⟩
  | cons p ps ih =>
    intro cells r h1 h2 h
    rw [mfill_cons] at h
    split at h
    · rename_i off size v hp hv
      cases hc : (and (ones v.cells) (and (Nat.beq (llen v.cells 0) size) (Nat.ble (Nat.add off size) (llen cells 0)))) with
      | false => rw [hc] at h; cases h
      | true =>
        rw [hc] at h
        simp only [cond_true] at h
        obtain ⟨c1, c2⟩ := and2 hc
        obtain ⟨c2, c3⟩ := and2 c2
        have c2 := Nat.eq_of_beq_eq_true c2
        have c3 := Nat.le_of_ble_eq_true c3
        rw [llen_eq] at c2 c3
        simp only [Nat.add_zero, Nat.add_eq] at c2 c3
        obtain ⟨v1, v2⟩ := hev p.2 v hv
        obtain ⟨g1, g2, g3⟩ := lsets_wf (σ := σ) (V := V) (off := off) (vs := v.cells) (cs := cells) (by omega) (wf_cells v1) c1 h1 h2
        obtain ⟨r1, r2, r3⟩ := ih _ r g1 g2 h
        refine ⟨r1, r2, ?_⟩
        simp only [List.map_cons, Instr.fill, hp, v2, emb_cells]
        have l1 : (embs σ v.cells).length = size := by rw [embs_map]; simp [c2]
        have l2 : (embs σ cells).length = cells.length := by rw [embs_map]; simp
        have hif : ¬ ((⟨embs σ v.cells⟩ : Array Value).size ≠ size ∨ off + (⟨embs σ v.cells⟩ : Array Value).size > (⟨embs σ cells⟩ : Array Value).size) := by
          simp only [List.size_toArray, l1, l2]; omega
        have hz : (⟨embs σ v.cells⟩ : Array Value).zipIdx.foldl (fun (cs : Array Value) (p : Value × Nat) => cs.setIfInBounds (off + p.2) p.1) (⟨embs σ cells⟩ : Array Value) = (⟨lsets off (embs σ v.cells) (embs σ cells)⟩ : Array Value) := by
          have := zip_set off (embs σ v.cells) 0 (⟨embs σ cells⟩ : Array Value) (by simp only [List.size_toArray, l1, l2]; omega)
          simp only [Nat.add_zero] at this
          rw [← this, ← Array.foldl_toList]
          simp
        rw [← g3] at hz
        rw [if_neg (by simpa using hif)]
        exact (congrArg (fun x => Instr.fill place x _) hz).trans r3
    · cases h
theorem placesS_ok (hE : EnvOk E P) : ∀ (fs : List Field) (ps : List (Nat × Nat)), placesS E fs = some ps → ∀ w, (fs.mapM (m := Sem) fun f => do pure (f.offset, ← sizeOf f.type)).run P w = .ok ps w := by
  intro fs
  induction fs with
  | nil => intro ps h w; have e : placesS E [] = some [] := rfl
           rw [e] at h; cases h; rfl
  | cons f fs ih =>
    intro ps h w
    have e : placesS E (f :: fs) = (match sizeE E f.type, placesS E fs with | some n, some l => some ((f.offset, n) :: l) | _, _ => none) := rfl
    rw [e] at h
    split at h
    · rename_i n l hn hl
      cases h
      rw [List.mapM_cons, bind_assoc, Sem.bind_ok (sizeE_ok hE hn w)]
      simp only [pure_bind]
      rw [Sem.bind_ok (ih l hl w)]
      rfl
    · cases h
omit O in
theorem aggR_some {o : Option (List MV)} {v : MV} (ho : aggR o = some (.val v)) : ∃ c, o = some c ∧ v = .agg c := by
  unfold aggR at ho
  split at ho
  · cases ho; exact ⟨_, rfl, rfl⟩
  · cases ho
theorem build_ok (hE : EnvOk E P) (hev : EvR σ V ev ρ) {t : TypeId} {parts : Array (Nat × Operand)} {v : MV} (ho : oBuild E ev t parts = some (.val v)) (w : World) :
    wf σ V v ∧ (Instr.build t (parts.map fun (i, x) => (i, ρ x))).run P w = .ok (emb σ v) w := by
  unfold oBuild at ho
  split at ho
  · cases ho
  · rename_i T hT
    have hu := (hE.ty t T hT).2
    have hpm : (parts.map fun (i, x) => (i, ρ x)).toList = parts.toList.map fun p => (p.1, ρ p.2) := by simp
    unfold Instr.build
    split at ho
    · rename_i z fs hz hd
      rw [hd] at hu
      obtain ⟨m, m1, m2, m3, m4, -⟩ := zeroM_ok (σ := σ) (V := V) hE hT hz
      split at ho
      · rename_i ps hps
        obtain ⟨c, hc, rfl⟩ := aggR_some ho
        obtain ⟨r1, r2, r3⟩ := mfill_ok hev _ _ _ _ m3 m4 hc
        refine ⟨by simp only [wf]; exact ⟨r1, r2⟩, ?_⟩
        rw [Sem.bind_ok (m1 w), Sem.bind_ok (r_und hu w)]
        simp only [m2, hpm]
        have hmm : (fs.mapM (m := Sem) fun f => do pure (f.offset, ← sizeOf f.type)).run P w = .ok ⟨ps⟩ w := by
          rw [Array.mapM_eq_mapM_toList, ← bind_pure_comp]
          exact (Sem.bind_ok (placesS_ok hE _ _ hps w)).trans rfl
        rw [Sem.bind_ok hmm]
        have hpl : (fun x => (⟨ps⟩ : Array (Nat × Nat))[x]?) = lget ps := by funext i; rw [lget_eq]; simp
        rw [hpl, r3]
        rfl
      · cases ho
    · rename_i z n e hz hd
      rw [hd] at hu
      obtain ⟨m, m1, m2, m3, m4, -⟩ := zeroM_ok (σ := σ) (V := V) hE hT hz
      split at ho
      · rename_i es hes
        obtain ⟨c, hc, rfl⟩ := aggR_some ho
        obtain ⟨r1, r2, r3⟩ := mfill_ok hev _ _ _ _ m3 m4 hc
        refine ⟨by simp only [wf]; exact ⟨r1, r2⟩, ?_⟩
        rw [Sem.bind_ok (m1 w), Sem.bind_ok (r_und hu w)]
        simp only [m2, hpm]
        rw [Sem.bind_ok (sizeE_ok hE hes w)]
        have hpl : (fun i => some (i * es, es)) = placeA es := by funext i; rfl
        rw [hpl, r3]
        rfl
      · cases ho
    · cases ho
end ops
end Go.Mini
/- The evaluator's operations against the model's: calls of small builtins and of what has no body; all that only look; what makes one block. -/
namespace Go.Mini
variable [O : Opq]
open Go.RowKit
section ops
variable {E : Env} {P : Program} {B : Nat → Prop} {W0 : World} {σ : Sg} {V : Nat → Prop} {h : MH} {w : World} {ev : Ev} {ρ : Operand → Value}
theorem args_ok (hev : EvR σ V ev ρ) {args : Array Operand} {vs : List MV} (h : evs ev args.toList = some vs) : wfs σ V vs ∧ args.map ρ = ⟨embs σ vs⟩ := by
  obtain ⟨h1, h2⟩ := evs_ok hev _ _ h
  exact ⟨h1, by rw [← Array.toList_inj]; simp [h2]⟩
theorem lenB_ok (hE : EnvOk E P) (R : Rel E.G B W0 σ V h w) {t : TypeId} {ats : Array TypeId} {ty : TypeId} {x v : MV} (h0 : ats[0]? = some t) (hx : wf σ V x) (ho : lenB E t x h = some (.val v)) :
    wf σ V v ∧ (Builtin.len_ ats ty ⟨[emb σ x]⟩).run P w = .ok (emb σ v) w := by
  unfold lenB at ho
  split at ho
  · rename_i T hT
    have hu := (hE.ty t T hT).2
    unfold Builtin.len_
    simp only [h0]
    rw [show ((⟨[emb σ x]⟩ : Array Value)[0]? : Option Value) = some (emb σ x) from rfl]
    simp only []
    rw [Sem.bind_ok (r_und hu w)]
    split at ho
    · rename_i n e hd
      cases ho
      exact ⟨trivial, by simp only [hd]; rfl⟩
    · rename_i a hd
      split at ho
      · rename_i Ta hTa
        have hua := (hE.ty a Ta hTa).2
        split at ho
        · rename_i n e hda
          cases ho
          refine ⟨trivial, ?_⟩
          simp only [hd]
          rw [Sem.bind_ok (r_und hua w)]
          simp only [hda]
          rfl
        · cases ho
      · cases ho
    · rename_i hd
      split at ho
      · rename_i s
        cases ho
        refine ⟨trivial, ?_⟩
        simp only [hd, emb, bytesV_size, llen_eq]
        rfl
      · cases ho
    · rename_i e hd
      split at ho
      · cases ho
      · cases ho
      · cases ho
      · rename_i h1 h2 h3
        split at ho
        · rename_i n hn
          cases ho
          refine ⟨trivial, ?_⟩
          have : ∃ a c, emb σ x = .slice a n c := by
            cases x <;> simp only [lenM] at hn <;> first | (cases hn; done) | (cases hn; exact ⟨_, _, rfl⟩) | exact absurd rfl (h1 _) | exact absurd rfl h2 | exact absurd rfl (h3 _)
          obtain ⟨a, c, hx'⟩ := this
          simp only [hd, hx']
          rfl
        · cases ho
    · rename_i kt el hd
      split at ho
      · rename_i es c hm
        cases ho
        refine ⟨trivial, ?_⟩
        obtain ⟨-, hmm⟩ := mapOf_ok R hx hm
        rcases hmm with ⟨rfl, rfl⟩ | ⟨id, rfl, hv, hg, hw⟩
        · simp only [hd, emb]; rfl
        · simp only [hd, emb]
          rw [Sem.bind_ok (r_getObj_map hw)]
          simp [goInt, llen_eq]
      · cases ho
    · cases ho
  · cases ho
theorem capB_ok (hE : EnvOk E P) {t : TypeId} {ats : Array TypeId} {ty : TypeId} {x v : MV} (h0 : ats[0]? = some t) (ho : capB E t x = some (.val v)) (w : World) :
    wf σ V v ∧ (Builtin.cap_ ats ty ⟨[emb σ x]⟩).run P w = .ok (emb σ v) w := by
  unfold capB at ho
  split at ho
  · rename_i T hT
    have hu := (hE.ty t T hT).2
    unfold Builtin.cap_
    simp only [h0]
    rw [show ((⟨[emb σ x]⟩ : Array Value)[0]? : Option Value) = some (emb σ x) from rfl]
    simp only []
    rw [Sem.bind_ok (r_und hu w)]
    split at ho
    · rename_i e id off len c hd
      cases ho
      exact ⟨trivial, by simp only [hd, emb]; rfl⟩
    · rename_i e hd
      cases ho
      exact ⟨trivial, by simp only [hd, emb]; rfl⟩
    · cases ho
  · cases ho
theorem min_ok {ats : Array TypeId} {ty : TypeId} {x y v : MV} (ho : min2M x y = some v) (w : World) : wf σ V v ∧ (Builtin.min_ ats ty ⟨[emb σ x, emb σ y]⟩).run P w = .ok (emb σ v) w := by
  unfold min2M at ho
  split at ho
  · cases ho
    refine ⟨trivial, ?_⟩
    simp [Builtin.min_, Builtin.min2, emb]
  · cases ho
theorem max_ok {ats : Array TypeId} {ty : TypeId} {x y v : MV} (ho : max2M x y = some v) (w : World) : wf σ V v ∧ (Builtin.max_ ats ty ⟨[emb σ x, emb σ y]⟩).run P w = .ok (emb σ v) w := by
  unfold max2M at ho
  split at ho
  · cases ho
    refine ⟨trivial, ?_⟩
    simp [Builtin.max_, Builtin.max2, emb]
  · cases ho
omit O in
theorem run_value {s : Sem Value} {v : Value} {w w' : World} (h : s.run P w = .ok v w') : (do pure (.value (← s)) : Sem Next).run P w = .ok (.value v) w' := by
  rw [Sem.bind_ok h]; rfl
omit O in
theorem run_unit {s : Sem Unit} {w w' : World} (h : s.run P w = .ok () w') : (do s; pure .skip : Sem Next).run P w = .ok .skip w' := by
  rw [Sem.bind_ok h]; rfl
omit O in
theorem lget_arr {α : Type} (a : Array α) (n : Nat) : lget a.toList n = a[n]? := by rw [lget_eq]; simp
omit O in
theorem updR_val {o : Option (MV × MH)} {v : MV} (ho : updR o = some (.val v)) : False := by
  unfold updR at ho; split at ho <;> cases ho
omit O in
theorem newR_val {o : Option (NewK × MB)} {v : MV} (ho : newR o = some (.val v)) : False := by
  unfold newR at ho; split at ho <;> cases ho
omit O in
theorem wfs_append {a b : List MV} : wfs σ V (a ++ b) ↔ wfs σ V a ∧ wfs σ V b := by
  rw [wfs_iff, wfs_iff, wfs_iff]
  constructor
  · exact fun h => ⟨fun v hv => h v (List.mem_append.2 (.inl hv)), fun v hv => h v (List.mem_append.2 (.inr hv))⟩
  · rintro ⟨h1, h2⟩ v hv
    rcases List.mem_append.1 hv with hv | hv
    · exact h1 v hv
    · exact h2 v hv
theorem call_look (hE : EnvOk E P) (R : Rel E.G B W0 σ V h w) (hev : EvR σ V ev ρ) {c : Call} {v : MV} (o : Oper) (hop : o.op = .call c) (ho : oCall E ev c h = some (.val v)) :
    wf σ V v ∧ (execOp ρ o).run P w = .ok (.value (emb σ v)) w := by
  unfold oCall at ho
  split at ho
  · cases ho
  · rename_i args hargs
    obtain ⟨a1, a2⟩ := args_ok hev hargs
    unfold execOp
    simp only [hop]
    split at ho
    · rename_i b hb
      have hres : (resolve ρ c o.type).run P w = .ok { target := .builtin b c.argTypes o.type (c.args.map fun | .const _ => true | _ => false), args := ⟨embs σ args⟩ } w := by
        unfold resolve; simp only [hb, a2]; rfl
      rw [Sem.bind_ok hres]
      unfold builtinM at ho
      split at ho
      · rename_i x
        have hx : wf σ V x := by simp only [wfs] at a1; exact a1.1
        split at ho
        · rename_i t ht
          rw [lget_arr] at ht
          obtain ⟨r1, r2⟩ := lenB_ok (ty := o.type) hE R ht hx ho
          exact ⟨r1, run_value r2⟩
        · rename_i t ht
          rw [lget_arr] at ht
          obtain ⟨r1, r2⟩ := capB_ok (σ := σ) (V := V) (ty := o.type) hE ht ho w
          exact ⟨r1, run_value r2⟩
        · cases ho
      · rename_i x y
        split at ho
        · exact (updR_val ho).elim
        · exact (updR_val ho).elim
        · split at ho
          · exact (updR_val ho).elim
          · cases ho
        · obtain ⟨r1, r2⟩ := min_ok (P := P) (σ := σ) (V := V) (ats := c.argTypes) (ty := o.type) (vR_some ho) w
          exact ⟨r1, run_value r2⟩
        · obtain ⟨r1, r2⟩ := max_ok (P := P) (σ := σ) (V := V) (ats := c.argTypes) (ty := o.type) (vR_some ho) w
          exact ⟨r1, run_value r2⟩
        · cases ho
      · cases ho
    · rename_i fo hfo
      split at ho
      · rename_i f hf
        obtain ⟨f1, f2⟩ := hev fo f hf
        unfold callV at ho
        split at ho
        · rename_i g a b
          unfold callF at ho
          split at ho
          · rename_i k hk
            simp only [wf] at f1
            have hw : wfs σ V (a ++ args ++ b) := wfs_append.2 ⟨wfs_append.2 ⟨f1.1, a1⟩, f1.2⟩
            obtain ⟨r1, r2⟩ := hE.ext g k hk σ V _ v ho hw
            refine ⟨r1, ?_⟩
            have hres : (resolve ρ c o.type).run P w = .ok { target := .fn (.func g) ⟨embs σ b⟩, args := ⟨embs σ a⟩ ++ ⟨embs σ args⟩ } w := by
              unfold resolve; simp only [hfo, a2, f2, emb, Deferred.ofValue]; rfl
            rw [Sem.bind_ok hres]
            unfold invoke
            simp only []
            have := r2 w
            rw [embs_map, List.map_append, List.map_append, ← embs_map, ← embs_map, ← embs_map] at this
            simpa using this
          · cases ho
        · cases ho
        · cases ho
      · cases ho
    · cases ho
omit O in
theorem bornIs_cons (s : Nat) (e : ME) (l : List ME) : bornIs s (e :: l) = Bool.rec (bornIs s l) (some e) (Nat.beq e.born s) := rfl
theorem bornIs_eq (σ : Sg) (s : Nat) : ∀ l : List ME, (l.map (embE σ)).find? (fun e => e.born == s) = (bornIs s l).map (embE σ) := by
  intro l
  induction l with
  | nil => rfl
  | cons e l ih =>
    rw [bornIs_cons, List.map_cons, List.find?_cons]
    have : ((embE σ e).born == s) = Nat.beq e.born s := by simp only [embE]; rw [Bool.eq_iff_iff, beq_iff_eq, Nat.beq_eq]
    rw [this]
    cases Nat.beq e.born s with
    | true => rfl
    | false => exact ih
omit O in
theorem bornIs_mem {s : Nat} {e : ME} : ∀ {l : List ME}, bornIs s l = some e → e ∈ l := by
  intro l
  induction l with
  | nil => intro h; cases h
  | cons a l ih =>
    intro h
    rw [bornIs_cons] at h
    cases hb : Nat.beq a.born s with
    | true => rw [hb] at h; cases h; exact List.mem_cons_self ..
    | false => rw [hb] at h; exact List.mem_cons_of_mem _ (ih h)
omit O in
theorem lastN_cons (n : Nat) (l : List Nat) : lastN (n :: l) = Option.rec (some n) (fun m => some m) (lastN l) := rfl
omit O in
theorem lastN_eq : ∀ l : List Nat, lastN l = l.getLast? := by
  intro l
  induction l with
  | nil => rfl
  | cons n l ih =>
    rw [lastN_cons, ih, List.getLast?_cons]
    cases l.getLast? <;> rfl
omit O in
theorem r_getIter {P : Program} {w : World} {r : Nat} {m : Option Nat} {s c : Nat} {seen : Array Nat} (hb : w.heap[r]? = some (.mapIter m s seen c)) : (getObj r).run P w = .ok (.mapIter m s seen c) w := by
  simp [getObj, Sem.run, hb]
theorem entry_ok (R : Rel E.G B W0 σ V h w) (hev : EvR σ V ev ρ) {it : Operand} {v : MV} (ho : oEntry ev it h = some v) :
    wf σ V v ∧ (Instr.entry (ρ it)).run P w = .ok (emb σ v) w := by
  unfold oEntry at ho
  split at ho
  · rename_i iv hi
    obtain ⟨x1, x2⟩ := hev it _ hi
    unfold entryM at ho
    split at ho
    · rename_i r
      simp only [wf] at x1
      split at ho
      · rename_i m since seen stepped hg
        split at ho
        · rename_i es clock hm
          obtain ⟨b1, b2, b3⟩ := R.blk r _ x1 hg
          simp only [Option.map_some] at b1
          obtain ⟨m1, m2⟩ := R.blk m _ (b3 m rfl) hm
          cases hq : Nat.beq clock stepped with
          | false => rw [hq] at ho; cases ho
          | true =>
            rw [hq] at ho
            simp only [cond_true] at ho
            have hq : clock = stepped := Nat.eq_of_beq_eq_true hq
            subst hq
            split at ho
            · rename_i s hs
              split at ho
              · rename_i e he
                cases ho
                have hme := m2 e (bornIs_mem he)
                refine ⟨by simp only [wf, wfs]; exact ⟨hme.1, hme.2, trivial⟩, ?_⟩
                rw [x2]
                unfold Instr.entry
                simp only [emb, b2]
                rw [Sem.bind_ok (r_getIter b1)]
                simp only []
                have hback : (⟨seen⟩ : Array Nat).back? = some s := by rw [lastN_eq] at hs; rw [← hs]; simp [Array.back?, List.getLast?_eq_getElem?]
                simp only [hback]
                rw [Sem.bind_ok (r_getObj_map m1)]
                have hfind : (⟨es.map (embE σ)⟩ : Array MapEntry).find? (fun x => x.born == s) = some (embE σ e) := by
                  have := bornIs_eq σ s es
                  rw [he] at this
                  simpa using this
                simp only [hfind]
                simp [embE, embs]
              · cases ho
            · cases ho
        · cases ho
      · cases ho
    · cases ho
  · cases ho
theorem look_ok (hE : EnvOk E P) (R : Rel E.G B W0 σ V h w) (hev : EvR σ V ev ρ) (o : Oper) {v : MV} (ho : mop E ev o.op h = some (.val v)) :
    wf σ V v ∧ (execOp ρ o).run P w = .ok (.value (emb σ v)) w := by
  cases hop : o.op <;> rw [hop] at ho <;> simp only [mop] at ho <;> first | (cases ho; done) | skip
  case call c => exact call_look hE R hev o hop ho
  case nilCheck x => exact nilCheck_ok hev hop ho w
  all_goals unfold execOp; simp only [hop]
  case move x => obtain ⟨h1, h2⟩ := hev x v (vR_some ho); exact ⟨h1, by rw [h2]; rfl⟩
  case assign x => obtain ⟨h1, h2⟩ := hev x v (vR_some ho); exact ⟨h1, by rw [h2]; rfl⟩
  case pick c a b => exact pick_ok hev ho w
  case build t parts => obtain ⟨h1, h2⟩ := build_ok hE hev ho w; exact ⟨h1, run_value h2⟩
  case load t x => obtain ⟨h1, h2⟩ := load_ok hE R hev ho; exact ⟨h1, run_value h2⟩
  case binOp op t x y yt => obtain ⟨h1, h2⟩ := bin_ok hE hev ho w; exact ⟨h1, run_value h2⟩
  case unOp op t x => obtain ⟨h1, h2⟩ := un_ok (P := P) hev ho w; exact ⟨h1, run_value h2⟩
  case convert s d x => obtain ⟨h1, h2⟩ := conv_ok hE R hev ho; exact ⟨h1, run_value h2⟩
  case makeFunc fn first captured => obtain ⟨h1, h2⟩ := makeFunc_ok (P := P) hev ho w; exact ⟨h1, run_value h2⟩
  case slice t x lo hi mx => obtain ⟨h1, h2⟩ := slice_ok hE hev ho w; exact ⟨h1, run_value h2⟩
  case fieldAddr t x f => obtain ⟨h1, h2⟩ := fieldAddr_ok hE hev ho w; exact ⟨h1, run_value h2⟩
  case field t x f => obtain ⟨h1, h2⟩ := field_ok hE hev ho w; exact ⟨h1, run_value h2⟩
  case indexAddr t x i => obtain ⟨h1, h2⟩ := indexAddr_ok hE hev ho w; exact ⟨h1, run_value h2⟩
  case index t x i => obtain ⟨h1, h2⟩ := index_ok hE hev ho w; exact ⟨h1, run_value h2⟩
  case lookup t m k ok => obtain ⟨h1, h2⟩ := lookup_ok hE R hev ho; exact ⟨h1, run_value h2⟩
  case extract t i => obtain ⟨h1, h2⟩ := extract_ok (P := P) hev ho w; exact ⟨h1, run_value h2⟩
  case entry it => obtain ⟨h1, h2⟩ := entry_ok R hev (vR_some ho); exact ⟨h1, run_value h2⟩
  case alloc => exact (newR_val ho).elim
  case box => exact (newR_val ho).elim
  case buildSlice => exact (newR_val ho).elim
  case makeMap => exact (newR_val ho).elim
  case makeSlice => exact (newR_val ho).elim
  case store => exact (updR_val ho).elim
  case mapUpdate => exact (updR_val ho).elim
  case insert => exact (updR_val ho).elim
  case range => exact (updR_val ho).elim
  case next => exact (updR_val ho).elim
end ops
end Go.Mini
/- The evaluator's operations against the model's: what makes one block; what writes. -/
namespace Go.Mini
variable [O : Opq]
open Go.RowKit
/-! ### Writing a row of cells -/
omit O in
theorem putObj_self {w : World} {b : Nat} {o : Obj} (h : w.heap[b]? = some o) : w.putObj b o = w := by
  have : w.heap.setIfInBounds b o = w.heap := by
    apply Array.ext_getElem?
    intro i
    rw [Array.getElem?_setIfInBounds]
    split
    · rename_i e
      subst e
      obtain ⟨hb, hv⟩ := Array.getElem?_eq_some_iff.1 h
      simp [hb, hv]
    · rfl
  simp only [World.putObj, this]
omit O in
theorem putObj_putObj {w : World} {b : Nat} {o o' : Obj} : (w.putObj b o).putObj b o' = w.putObj b o' := by
  simp only [World.putObj]
  congr 1
  apply Array.ext_getElem?
  intro i
  simp only [Array.getElem?_setIfInBounds]
  split <;> simp
omit O in
theorem setCell_put {w : World} {b o : Nat} {c : Array Value} {t : TypeId} {fz : Nat × Nat} {v : Value} (h : w.heap[b]? = some (.cells c t fz)) :
    w.setCell ⟨b, o, none⟩ v = w.putObj b (.cells (c.setIfInBounds o v) t fz) := by
  simp only [World.setCell, World.putObj]
  congr 1
  apply Array.ext_getElem?
  intro i
  rw [Array.getElem?_modify, Array.getElem?_setIfInBounds]
  split
  · rename_i e
    subst e
    obtain ⟨hb, -⟩ := Array.getElem?_eq_some_iff.1 h
    rw [h]
    simp [hb]
  · rfl
theorem one_emb (σ : Sg) {v : MV} (h : one v = true) : (emb σ v).oneCell' = true := by
  cases v <;> simp only [one, Bool.false_eq_true] at h <;> first | rfl | exact O.one _
omit O in
theorem storeCells_run {P : Program} {b o : Nat} {t : TypeId} {fz : Nat × Nat} : ∀ (vs : List Value) (i : Nat) (c : Array Value) (w : World), w.heap[b]? = some (.cells c t fz) →
    (fz.1 = fz.2 ∨ c.size ≤ fz.1) → o + i + vs.length ≤ c.size → (∀ v ∈ vs, v.oneCell' = true) →
    (storeCells ⟨b, o, none⟩ vs i).run P w = .ok () (w.putObj b (.cells ⟨lsets (o + i) vs c.toList⟩ t fz)) := by
  intro vs
  induction vs with
  | nil =>
    intro i c w h _ hl _
    unfold storeCells
    have : lsets (o + i) [] c.toList = c.toList := by
      apply List.ext_getElem?
      intro k
      rw [(lsets_get (o + i) [] c.toList (by simpa using hl)).2, if_neg (by simp)]
    rw [this, putObj_self h]
    rfl
  | cons v vs ih =>
    intro i c w h hfz hl h1
    simp only [List.length_cons] at hl
    unfold storeCells
    have hlt : o + i < c.size := by omega
    have hb : b < w.heap.size := (Array.getElem?_eq_some_iff.1 h).1
    have hcell : w.cell? ⟨b, o + i, none⟩ = some c[o + i] := by simp [World.cell?, h, hlt]
    have hfr : w.frozen? ⟨b, o + i, none⟩ = false := by
      simp only [World.frozen?, h]
      rcases hfz with hfz | hfz
      · simp; omega
      · simp; omega
    have hst : (store (Addr.add ⟨b, o, none⟩ i) v).run P w = .ok () (w.putObj b (.cells (c.setIfInBounds (o + i) v) t fz)) := by
      rw [Addr.add_lit, run_store _ _ _ _ _ (h1 v (by simp)), hcell]
      simp only [hfr, Bool.false_eq_true, if_false]
      rw [setCell_put h]
    rw [Sem.bind_ok hst]
    rw [ih (i + 1) (c.setIfInBounds (o + i) v) _ (World.putObj_heap_same hb) (by simpa using hfz) (by simp; omega) (fun x hx => h1 x (by simp [hx]))]
    rw [putObj_putObj]
    congr 3
    apply congrArg
    apply List.ext_getElem?
    intro k
    have h1 := lsets_get (o + (i + 1)) vs (c.setIfInBounds (o + i) v).toList (by simp; omega)
    have h2 := lsets_get (o + i) (v :: vs) c.toList (by simp; omega)
    rw [h1.2, h2.2]
    simp only [List.length_cons, Array.toList_setIfInBounds, List.getElem?_set]
    by_cases e : k = o + i
    · subst e
      rw [if_neg (by omega), if_pos rfl, if_pos (by simp; omega), if_pos (by omega)]
      simp
    · by_cases e2 : o + (i + 1) ≤ k ∧ k < o + (i + 1) + vs.length
      · rw [if_pos e2, if_pos (by omega), show k - (o + i) = (k - (o + (i + 1))) + 1 by omega]
        simp
      · rw [if_neg e2, if_neg (by omega), if_neg (by omega)]
section ops
variable {E : Env} {P : Program} {B : Nat → Prop} {W0 : World} {σ : Sg} {V : Nat → Prop} {h : MH} {w : World} {ev : Ev} {ρ : Operand → Value}
theorem writeCells_ok (R : Rel E.G B W0 σ V h w) {id off : Nat} {vs : List MV} {h' : MH} (hv : V id) (hvs : wfs σ V vs) (ho : writeCells E h id off vs = some h') :
    ∃ w', Rel E.G B W0 σ V h' w' ∧ (storeCells ⟨(σ id).blk, (σ id).off + off, none⟩ (embs σ vs)).run P w = .ok () w' ∧ h'.nx = h.nx := by
  unfold writeCells at ho
  cases hg : Nat.blt id E.G.ro with
  | true => rw [hg] at ho; cases ho
  | false =>
    rw [hg] at ho
    simp only [cond_false] at ho
    have hG : E.G.ro ≤ id := by
      rcases Nat.lt_or_ge id E.G.ro with hlt | hge
      · rw [lt_blt hlt] at hg; cases hg
      · exact hge
    split at ho
    · rename_i cs t es opn hb
      cases hc : (and (ones vs) (Nat.ble (Nat.add off (llen vs 0)) (llen cs 0))) with
      | false => rw [hc] at ho; cases ho
      | true =>
        rw [hc] at ho
        simp only [cond_true, Option.some.injEq] at ho
        subst ho
        obtain ⟨c1, c2⟩ := and2 hc
        have c2 := Nat.le_of_ble_eq_true c2
        rw [llen_eq, llen_eq] at c2
        simp only [Nat.add_zero, Nat.add_eq] at c2
        obtain ⟨c, fz, b1, b2, b3, b4, b5, b6⟩ := R.blk id _ hv hb
        have hlen : (embs σ vs).length = vs.length := by rw [embs_map]; simp
        have hsz : ∀ i, i < cs.length → (σ id).off + i < c.size := fun i hi => by
          have := b4 i _ (List.getElem?_eq_getElem hi)
          exact (Array.getElem?_eq_some_iff.1 this).1
        have hfit : vs.length = 0 ∨ (σ id).off + off + vs.length ≤ c.size := by
          rcases Nat.eq_zero_or_pos vs.length with h0 | h0
          · exact .inl h0
          · have := hsz (off + vs.length - 1) (by omega)
            exact .inr (by omega)
        obtain ⟨g1, g2, g3⟩ := lsets_wf (σ := σ) (V := V) (off := off) (vs := vs) (cs := cs) (by omega) hvs c1 b2 b3
        rcases hfit with h0 | hfit
        · have hnil : vs = [] := List.eq_nil_of_length_eq_zero h0
          subst hnil
          have e : lsets off [] cs = cs := by
            apply List.ext_getElem?
            intro k
            rw [(lsets_get off [] cs c2).2, if_neg (by simp)]
          refine ⟨w, ?_, rfl, rfl⟩
          have := R.write hv hb rfl hG (.cells c t fz) (b := .cells cs t es opn) (by rw [putObj_self b1]; exact R.blk id _ hv hb)
          rw [putObj_self b1] at this
          rw [e]; exact this
        · refine ⟨w.putObj (σ id).blk (.cells ⟨lsets ((σ id).off + off) (embs σ vs) c.toList⟩ t fz), ?_, ?_, rfl⟩
          · refine R.write hv hb rfl hG _ ⟨_, fz, World.putObj_heap_same (R.lt hv hb rfl), g1, g2, fun i v hi => ?_, fun hop => ?_, ?_⟩
            · have l1 := lsets_get off vs cs c2
              have l2 := lsets_get ((σ id).off + off) (embs σ vs) c.toList (by simp only [hlen, Array.length_toList]; omega)
              rw [l1.2] at hi
              rw [List.getElem?_toArray, l2.2, hlen]
              by_cases e : off ≤ i ∧ i < off + vs.length
              · rw [if_pos e] at hi
                rw [if_pos (by omega), embs_map, List.getElem?_map, show (σ id).off + i - ((σ id).off + off) = i - off by omega, hi]
                rfl
              · rw [if_neg e] at hi
                rw [if_neg (by omega), Array.getElem?_toList]
                exact b4 i v hi
            · have l2 := lsets_get ((σ id).off + off) (embs σ vs) c.toList (by simp only [hlen, Array.length_toList]; omega)
              have := b5 hop
              simp only [List.size_toArray, l2.1, Array.length_toList]
              exact this
            · have l2 := lsets_get ((σ id).off + off) (embs σ vs) c.toList (by simp only [hlen, Array.length_toList]; omega)
              simp only [List.size_toArray, l2.1, Array.length_toList]
              exact b6
          · have := storeCells_run (P := P) (b := (σ id).blk) (o := (σ id).off + off) (embs σ vs) 0 c w b1 b6 (by rw [hlen]; exact hfit) (fun v hv' => by
              rw [embs_map] at hv'
              obtain ⟨u, hu, rfl⟩ := List.mem_map.1 hv'
              exact one_emb σ ((ones_iff _).1 c1 u hu))
            simpa using this
    · cases ho
omit O in
theorem wfs_rep {n : Nat} {z : List MV} (h : wfs σ V z) : wfs σ V (List.replicate n z).flatten := by
  rw [wfs_iff] at *
  intro v hv
  simp only [List.mem_flatten, List.mem_replicate] at hv
  obtain ⟨l, ⟨-, rfl⟩, hv⟩ := hv
  exact h v hv
omit O in
theorem ones_rep {n : Nat} {z : List MV} (h : ones z = true) : ones (List.replicate n z).flatten = true := by
  rw [ones_iff] at *
  intro v hv
  simp only [List.mem_flatten, List.mem_replicate] at hv
  obtain ⟨l, ⟨-, rfl⟩, hv⟩ := hv
  exact h v hv
theorem embs_rep (n : Nat) (z : List MV) : embs σ (List.replicate n z).flatten = (List.replicate n (embs σ z)).flatten := by
  simp only [embs_map, List.map_flatten, List.map_replicate]
/-! ### One new block -/
omit O in
theorem heap_new (w : World) (o : Obj) : (w.alloc o).heap[w.heap.size]? = some o := by
  show (w.heap.push o)[w.heap.size]? = _
  simp
theorem cells_new {cs : List MV} {t : TypeId} {es : Nat} {id : Nat} (hc : wfs σ V cs) (h1 : ones cs = true) (hid : ¬ V id) (w : World) :
    Blk (upd σ id ⟨w.heap.size, 0, 0⟩) (addV V id) id (w.alloc (.cells ⟨embs σ cs⟩ t)) (.cells cs t es false) := by
  have ha := agr_upd (V := V) σ ⟨w.heap.size, 0, 0⟩ hid
  refine ⟨⟨embs σ cs⟩, (0, 0), ?_, wfs_agr ha (fun _ hx => .inl hx) _ hc, h1, fun i v hv => ?_, ?_, ?_⟩
  · rw [upd_same]; exact heap_new w _
  · rw [upd_same, emb_agr ha v ((wfs_iff _).1 hc v (List.mem_of_getElem? hv)), embs_map]
    simp [hv]
  · intro hf; cases hf
  · exact .inl rfl
omit O in
theorem r_newRow (t : TypeId) (c : Array Value) (w : World) : (newRow t c).run P w = .ok ⟨w.heap.size, 0, none⟩ (w.alloc (.cells c t)) := rfl
omit O in
theorem r_newObj (o : Obj) (w : World) : (newObj o).run P w = .ok w.heap.size (w.alloc o) := rfl
theorem rows_zero {n s : Nat} {z : List MV} (hz : z.length = s) (h0 : n * s = 0) (f : Nat → Value) : (Array.range (n * s)).map f = ⟨embs σ (List.replicate n z).flatten⟩ := by
  have : (List.replicate n z).flatten = [] := List.eq_nil_of_length_eq_zero (by simp [hz, h0])
  rw [this, h0]; simp [embs]
theorem rows_rep {n s : Nat} {z : List MV} (hz : z.length = s) :
    ((Array.range (n * s)).map fun i => (⟨embs σ z⟩ : Array Value)[i % (⟨embs σ z⟩ : Array Value).size]!) = ⟨embs σ (List.replicate n z).flatten⟩ := by
  have := range_rep (embs σ z) n
  rw [show (embs σ z).length = s by rw [embs_map]; simpa using hz] at this
  rw [embs_rep]
  exact this
omit O in
theorem wrap_small {n : Nat} (h : n < 2 ^ 62) : IntKind.i64.wrap (Int.ofNat n) = (n : Int) := by
  unfold IntKind.wrap
  have e : (Int.ofNat n) % (2 ^ IntKind.i64.bits : Int) = n := Int.emod_eq_of_lt (by simp) (by simp [IntKind.bits]; omega)
  simp only [e]
  rw [if_neg (by simp [IntKind.bits]; omega)]
omit O in
theorem vR_new {o : Option MV} {k : NewK} {b : MB} (ho : vR o = some (.new k b)) : False := by
  unfold vR at ho; split at ho <;> cases ho
omit O in
theorem updR_new {o : Option (MV × MH)} {k : NewK} {b : MB} (ho : updR o = some (.new k b)) : False := by
  unfold updR at ho; split at ho <;> cases ho
def OnlyVal (o : Option MR) : Prop := ∀ r, o = some r → ∃ v, r = .val v
omit O in
theorem onlyVal_vR (o : Option MV) : OnlyVal (vR o) := by
  intro r h; unfold vR at h; split at h
  · cases h; exact ⟨_, rfl⟩
  · cases h
omit O in
theorem ov_none : OnlyVal none := fun r h => by cases h
omit O in
theorem ov_some (v : MV) : OnlyVal (some (.val v)) := fun r h => by cases h; exact ⟨_, rfl⟩
omit O in
theorem ov_cond {b : Bool} {x y : Option MR} (hx : OnlyVal x) (hy : OnlyVal y) : OnlyVal (cond b x y) := by cases b <;> assumption
omit O in
theorem ov_pick (c a b : Operand) : OnlyVal (oPick ev c a b) := by
  unfold oPick; split
  · exact onlyVal_vR _
  · exact ov_none
omit O in
theorem ov_aggR (o : Option (List MV)) : OnlyVal (aggR o) := by
  unfold aggR; split
  · exact ov_some _
  · exact ov_none
omit O in
theorem ov_build (t : TypeId) (p : Array (Nat × Operand)) : OnlyVal (oBuild E ev t p) := by
  unfold oBuild
  (repeat' split) <;> first | exact ov_none | exact ov_aggR _
omit O in
theorem ov_load (t : TypeId) (x : Operand) : OnlyVal (oLoad E ev t x h) := by
  unfold oLoad; split
  · exact onlyVal_vR _
  · exact ov_none
omit O in
theorem ov_nilCheck (x : Operand) : OnlyVal (oNilCheck ev x) := by
  unfold oNilCheck
  split <;> first | exact ov_none | exact ov_some _
omit O in
theorem ov_bin0 (op : BinOp) (t : TypeId) (x y : Operand) : OnlyVal (oBin0 E ev op t x y) := by
  unfold oBin0
  (repeat' split) <;> first | exact ov_none | exact onlyVal_vR _ | skip
  all_goals refine ov_cond ?_ ov_none
  all_goals first | exact ov_none | exact ov_some _
omit O in
theorem ov_bin (op : BinOp) (t : TypeId) (x y : Operand) : OnlyVal (oBin E ev op t x y) := by
  unfold oBin
  split
  · exact ov_some _
  · exact ov_bin0 op t x y
omit O in
theorem ov_un (op : UnOp) (x : Operand) : OnlyVal (oUn ev op x) := by
  unfold oUn
  (repeat' split) <;> first | exact ov_none | exact ov_some _ | exact onlyVal_vR _
omit O in
theorem ov_makeFunc (f : Fn) (a b : Array Operand) : OnlyVal (oMakeFunc ev f a b) := by
  unfold oMakeFunc; split <;> first | exact ov_none | exact ov_some _
omit O in
theorem ov_cutS (id off cap es lo hi mx : Nat) : OnlyVal (cutS id off cap es lo hi mx) := ov_cond (ov_some _) ov_none
omit O in
theorem ov_cutO (id off l len es lo hi : Nat) : OnlyVal (cutO id off l len es lo hi) := ov_cond (ov_some _) ov_none
omit O in
theorem ov_slice (t : TypeId) (x : Operand) (lo hi mx : Option Operand) : OnlyVal (oSlice E ev t x lo hi mx) := by
  unfold oSlice
  split
  · split
    · exact ov_none
    · unfold sliceM
      (repeat' split) <;> first | exact ov_none | exact ov_cutS _ _ _ _ _ _ _ | exact ov_cutO _ _ _ _ _ _ _ | (refine ov_cond ?_ ov_none; first | exact ov_some _ | exact ov_none)
  · exact ov_none
omit O in
theorem ov_fieldAddr (t : TypeId) (x : Operand) (f : Nat) : OnlyVal (oFieldAddr E ev t x f) := by
  unfold oFieldAddr
  (repeat' split) <;> first | exact ov_none | exact ov_cond ov_none (ov_some _)
omit O in
theorem ov_field (t : TypeId) (x : Operand) (f : Nat) : OnlyVal (oField E ev t x f) := by
  unfold oField
  (repeat' split) <;> first | exact ov_none | exact onlyVal_vR _
omit O in
theorem ov_elemPtr (e : TypeId) (id off len i : Nat) : OnlyVal (elemPtr E e id off len i) := by
  unfold elemPtr; split
  · exact ov_cond (ov_some _) ov_none
  · exact ov_none
omit O in
theorem ov_indexAddr (t : TypeId) (x i : Operand) : OnlyVal (oIndexAddr E ev t x i) := by
  unfold oIndexAddr
  (repeat' split) <;> first | exact ov_none | exact ov_elemPtr _ _ _ _ _
omit O in
theorem ov_index (t : TypeId) (x i : Operand) : OnlyVal (oIndex E ev t x i) := by
  unfold oIndex
  (repeat' split) <;> first | exact ov_none | exact ov_some _ | exact ov_cond (onlyVal_vR _) ov_none
omit O in
theorem ov_lookup (t : TypeId) (m k : Operand) (ok : Bool) : OnlyVal (oLookup E ev t m k ok h) := by
  unfold oLookup
  split
  · unfold lookupM
    (repeat' split) <;> first | exact ov_none | exact ov_some _
  · exact ov_none
omit O in
theorem ov_extract (t : Operand) (i : Nat) : OnlyVal (oExtract ev t i) := by
  unfold oExtract; split
  · exact onlyVal_vR _
  · exact ov_none
omit O in
theorem ov_lenB (t : TypeId) (x : MV) : OnlyVal (lenB E t x h) := by
  unfold lenB
  (repeat' split) <;> first | exact ov_none | exact ov_some _
omit O in
theorem ov_capB (t : TypeId) (x : MV) : OnlyVal (capB E t x) := by
  unfold capB
  (repeat' split) <;> first | exact ov_none | exact ov_some _
omit O in
theorem ov_ext (k : ExtK) (args : List MV) : OnlyVal (extM k args) := by
  unfold extM
  split
  · rename_i s c
    cases Nat.blt c 256 <;> first | exact ov_none | exact ov_some _
  · exact ov_none
omit O in
theorem updR_some {o : Option (MV × MH)} {r : MR} (ho : updR o = some r) : ∃ v h', o = some (v, h') ∧ r = .upd v h' := by
  unfold updR at ho; split at ho
  · cases ho; exact ⟨_, _, rfl, rfl⟩
  · cases ho
omit O in
theorem call_forms {c : Call} {r : MR} (ho : oCall E ev c h = some r) : ∃ args, evs ev c.args.toList = some args ∧
    ((∃ v, r = .val v) ∨
     (∃ x y v h', c.callee = .builtin .append ∧ args = [x, y] ∧ r = .upd v h' ∧ appendM E c.argTypes.toList x y h = some (v, h')) ∨
     (∃ x y v h', c.callee = .builtin .copy ∧ args = [x, y] ∧ r = .upd v h' ∧ copyM E c.argTypes.toList x y h = some (v, h')) ∨
     (∃ x y t v h', c.callee = .builtin .delete ∧ args = [x, y] ∧ r = .upd v h' ∧ lget c.argTypes.toList 0 = some t ∧ deleteM E t x y h = some (v, h')) ∨
     (∃ f g a b, c.callee = .value f ∧ ev f = some (.fn g a b) ∧ E.ext g = none ∧ r = .enter g (a ++ args ++ b)) ∨
     (∃ f l, c.callee = .value f ∧ ev f = some (.yld l) ∧ r = .round l args)) := by
  unfold oCall at ho
  split at ho
  · cases ho
  · rename_i args hargs
    refine ⟨args, hargs, ?_⟩
    split at ho
    · rename_i b hb
      unfold builtinM at ho
      split at ho
      · split at ho
        · exact .inl (ov_lenB _ _ _ ho)
        · exact .inl (ov_capB _ _ _ ho)
        · cases ho
      · rename_i x y
        split at ho
        · obtain ⟨v, h', e1, e2⟩ := updR_some ho
          exact .inr (.inl ⟨x, y, v, h', hb, rfl, e2, e1⟩)
        · obtain ⟨v, h', e1, e2⟩ := updR_some ho
          exact .inr (.inr (.inl ⟨x, y, v, h', hb, rfl, e2, e1⟩))
        · split at ho
          · rename_i t ht
            obtain ⟨v, h', e1, e2⟩ := updR_some ho
            exact .inr (.inr (.inr (.inl ⟨x, y, t, v, h', hb, rfl, e2, ht, e1⟩)))
          · cases ho
        · exact .inl (onlyVal_vR _ _ ho)
        · exact .inl (onlyVal_vR _ _ ho)
        · cases ho
      · cases ho
    · rename_i f hf
      split at ho
      · rename_i fv hfv
        unfold callV at ho
        split at ho
        · rename_i g a b
          unfold callF at ho
          split at ho
          · exact .inl (ov_ext _ _ _ ho)
          · rename_i hg
            cases ho
            exact .inr (.inr (.inr (.inr (.inl ⟨f, g, a, b, hf, hfv, hg, rfl⟩))))
        · rename_i l
          cases ho
          exact .inr (.inr (.inr (.inr (.inr ⟨f, l, hf, hfv, rfl⟩))))
        · cases ho
      · cases ho
    · cases ho
omit O in
theorem call_new {c : Call} {k : NewK} {b : MB} (ho : oCall E ev c h = some (.new k b)) : False := by
  obtain ⟨args, -, ⟨v, e⟩ | ⟨x, y, v, h', -, -, e, -⟩ | ⟨x, y, v, h', -, -, e, -⟩ | ⟨x, y, t, v, h', -, -, e, -⟩ | ⟨f, g, a, b, -, -, -, e⟩ | ⟨f, l, -, -, e⟩⟩ := call_forms ho <;> cases e
omit O in
theorem ov_new {o : Option MR} {k : NewK} {b : MB} (hv : OnlyVal o) (ho : o = some (.new k b)) : False := by
  obtain ⟨v, e⟩ := hv _ ho; cases e
omit O in
theorem ov_upd {o : Option MR} {v : MV} {h' : MH} (hv : OnlyVal o) (ho : o = some (.upd v h')) : False := by
  obtain ⟨v, e⟩ := hv _ ho; cases e
omit O in
theorem conv_forms {s d : TypeId} {x : Operand} {r : MR} (ho : oConv E ev s d x h = some r) : (∃ v, r = .val v) ∨
    (∃ S D e T b, tyOf E s = some S ∧ tyOf E d = some D ∧ S.und = .string ∧ D.und = .slice e ∧ tyOf E e = some T ∧ isByte T = true ∧ ev x = some (.str b) ∧
      r = .upd (.slo h.nx 0 0 (llen b 0)) (h.new (.cells (ofBytes b) e 1 true))) ∨
    ∃ S D e' e T xv, tyOf E s = some S ∧ tyOf E d = some D ∧ S.und = .slice e' ∧ D.und = .slice e ∧ tyOf E e = some T ∧ isByte T = true ∧ s = d ∧ ev x = some xv ∧ markM E h xv = some r := by
  unfold oConv at ho
  split at ho
  · rename_i xv hx
    split at ho
    · cases ho; exact .inl ⟨_, rfl⟩
    rename_i hu
    clear hu
    unfold convM at ho
    split at ho
    · rename_i S D hS hD
      split at ho
      · split at ho
        · cases ho; exact .inl ⟨_, rfl⟩
        · cases ho
      · split at ho
        · cases ho; exact .inl ⟨_, rfl⟩
        · cases ho
      · rename_i e b hd
        split at ho
        · rename_i T hs hT
          cases hb : isByte T with
          | false => rw [hb] at ho; cases ho
          | true =>
            rw [hb] at ho
            cases ho
            exact .inr (.inl ⟨S, D, e, T, b, hS, hD, hs, hd, hT, hb, hx, rfl⟩)
        · cases ho
      · split at ho
        · split at ho
          · rename_i T hT
            cases hb : isByte T with
            | false => rw [hb] at ho; cases ho
            | true =>
              rw [hb] at ho
              simp only [cond_true] at ho
              split at ho
              · split at ho
                · cases ho; exact .inl ⟨_, rfl⟩
                · cases ho
              · cases ho
          · cases ho
        · cases ho
      · rename_i e hd _
        split at ho
        · rename_i e' T hs hT
          cases hb : and (Nat.beq s d) (isByte T) with
          | false => rw [hb] at ho; cases ho
          | true =>
            rw [hb] at ho
            obtain ⟨b1, b2⟩ := and2 hb
            exact .inr (.inr ⟨S, D, e', e, T, _, hS, hD, hs, hd, hT, b2, Nat.eq_of_beq_eq_true b1, hx, ho⟩)
        · cases ho
      · cases ho
    · cases ho
  · cases ho
omit O in
theorem newR_some {o : Option (NewK × MB)} {k : NewK} {b : MB} (ho : newR o = some (.new k b)) : o = some (k, b) := by
  unfold newR at ho; split at ho <;> cases ho; rfl
theorem new_ok (hE : EnvOk E P) (hev : EvR σ V ev ρ) (o : Oper) {k : NewK} {b : MB} (ho : mop E ev o.op h = some (.new k b)) {id : Nat} (hid : ¬ V id) (w : World) :
    ∃ obj, (execOp ρ o).run P w = .ok (.value (emb (upd σ id ⟨w.heap.size, 0, 0⟩) (k.at id))) (w.alloc obj) ∧
      Blk (upd σ id ⟨w.heap.size, 0, 0⟩) (addV V id) id (w.alloc obj) b ∧ wf (upd σ id ⟨w.heap.size, 0, 0⟩) (addV V id) (k.at id) := by
  have hVid : addV V id id := .inr rfl
  cases hop : o.op <;> rw [hop] at ho <;> simp only [mop] at ho <;> first | (cases ho; done) | skip
  case alloc t =>
    have ho := newR_some ho
    unfold oAlloc at ho
    split at ho
    · rename_i T hT
      split at ho
      · rename_i z hz
        cases ho
        obtain ⟨m, m1, m2, m3, m4, -⟩ := zeroM_ok (σ := σ) (V := V) hE hT hz
        refine ⟨.cells ⟨embs σ z⟩ t, ?_, cells_new m3 m4 hid w, hVid⟩
        unfold execOp
        simp only [hop]
        refine run_value ?_
        unfold Instr.alloc newVar
        rw [Sem.bind_ok (m1 w), m2]
        refine (Sem.bind_ok (r_newRow t _ w)).trans ?_
        simp only [NewK.at, emb, upd_same]
        rfl
      · cases ho
    · cases ho
  case box t x =>
    have ho := newR_some ho
    unfold oBox at ho
    split at ho
    · rename_i T v hT hx
      cases hc : ones v.cells with
      | false => rw [hc] at ho; cases ho
      | true =>
        rw [hc] at ho
        cases ho
        obtain ⟨h1, h2⟩ := hev x v hx
        refine ⟨.cells ⟨embs σ v.cells⟩ t, ?_, cells_new (wf_cells h1) hc hid w, hVid⟩
        unfold execOp
        simp only [hop]
        refine run_value ?_
        unfold Instr.box newVar
        rw [h2, emb_cells]
        refine (Sem.bind_ok (r_newRow t _ w)).trans ?_
        simp only [NewK.at, emb, upd_same]
        rfl
    · cases ho
  case buildSlice t len parts =>
    have ho := newR_some ho
    unfold oBuildSlice at ho
    split at ho
    · cases ho
    · rename_i T hT
      have hu := (hE.ty t T hT).2
      split at ho
      · rename_i e hd
        rw [hd] at hu
        split at ho
        · cases ho
        · rename_i Te hTe
          split at ho
          · cases ho
          · rename_i z hz
            cases hc : Nat.ble (Nat.mul len Te.info.size) 65536 with
            | false => rw [hc] at ho; cases ho
            | true =>
              rw [hc] at ho
              simp only [cond_true] at ho
              have hc := Nat.le_of_ble_eq_true hc
              simp only [Nat.mul_eq] at hc
              split at ho
              · rename_i r hr
                cases ho
                obtain ⟨m, m1, m2, m3, m4, m5⟩ := zeroM_ok (σ := σ) (V := V) hE hTe hz
                rw [lrep_eq] at hr
                obtain ⟨r1, r2, r3⟩ := mfill_ok hev _ _ _ _ (wfs_rep m3) (ones_rep m4) hr
                refine ⟨.cells ⟨embs σ r⟩ e, ?_, cells_new r1 r2 hid w, ⟨hVid, Nat.le_refl _⟩⟩
                unfold execOp
                simp only [hop]
                refine run_value ?_
                unfold Instr.buildSlice
                rw [Sem.bind_ok (r_und hu w)]
                simp only []
                rw [Sem.bind_ok (r_size (hE.ty e Te hTe).1 w)]
                rw [if_neg (by omega)]
                have hpm : (parts.map fun (i, x) => (i, ρ x)).toList = parts.toList.map fun p => (p.1, ρ p.2) := by simp
                have hpl : (fun i => some (i * Te.info.size, Te.info.size)) = placeA Te.info.size := by funext i; rfl
                by_cases h0 : len * Te.info.size = 0
                · rw [if_pos h0]
                  simp only [pure_bind]
                  rw [rows_zero m5 h0, hpm, hpl, r3]
                  refine (Sem.bind_ok (r_newRow e _ w)).trans ?_
                  simp only [NewK.at, emb, upd_same]
                  rfl
                · rw [if_neg h0]
                  rw [Sem.bind_ok (m1 w), m2]
                  simp only [pure_bind]
                  rw [rows_rep m5, hpm, hpl, r3]
                  refine (Sem.bind_ok (r_newRow e _ w)).trans ?_
                  simp only [NewK.at, emb, upd_same]
                  rfl
              · cases ho
      · cases ho
  case makeMap t r =>
    have ho := newR_some ho
    have fin : ∀ s : Sem Value, s.run P w = .ok (.map (some w.heap.size)) (w.alloc (.map #[] 0)) → k = .mp → b = .map [] 0 →
        (do pure (.value (← s)) : Sem Next).run P w = .ok (.value (emb (upd σ id ⟨w.heap.size, 0, 0⟩) (k.at id))) (w.alloc (.map #[] 0)) ∧
        Blk (upd σ id ⟨w.heap.size, 0, 0⟩) (addV V id) id (w.alloc (.map #[] 0)) b ∧ wf (upd σ id ⟨w.heap.size, 0, 0⟩) (addV V id) (k.at id) := by
      rintro s hs rfl rfl
      refine ⟨?_, ⟨?_, by simp⟩, hVid⟩
      · rw [run_value hs]; simp only [NewK.at, emb, upd_same]
      · rw [upd_same]; exact heap_new w _
    refine ⟨.map #[] 0, ?_⟩
    unfold execOp
    simp only [hop]
    unfold oMakeMap at ho
    split at ho
    · cases ho
      exact fin _ rfl rfl rfl
    · split at ho
      · rename_i kk n p hx hk
        cases ho
        refine fin _ ?_ rfl rfl
        obtain ⟨kt, u1, -, -⟩ := keyDesc_ok hE hk
        unfold Instr.makeMap
        simp only [Option.map_some, (hev _ _ hx).2, emb]
        rw [Sem.bind_ok (r_und u1 w)]
        rfl
      · cases ho
  case makeSlice t l c =>
    have ho := newR_some ho
    unfold oMakeSlice at ho
    split at ho
    · rename_i T ln cn hT hl hcn
      have hu := (hE.ty t T hT).2
      obtain ⟨kl, e1⟩ := evN_ok hev hl
      obtain ⟨kc, e2⟩ := evN_ok hev hcn
      split at ho
      · rename_i e hd
        rw [hd] at hu
        split at ho
        · rename_i Te hTe
          obtain ⟨ti, -⟩ := hE.ty e Te hTe
          split at ho
          · rename_i z hz
            cases hc : (and (Nat.ble ln cn) (and (Nat.ble cn 1048576) (Nat.ble Te.info.bytes 65536))) with
            | false => rw [hc] at ho; cases ho
            | true =>
              rw [hc] at ho
              cases ho
              obtain ⟨c1, c2⟩ := and2 hc
              obtain ⟨c2, c3⟩ := and2 c2
              have c1 := Nat.le_of_ble_eq_true c1
              have c2 := Nat.le_of_ble_eq_true c2
              have c3 := Nat.le_of_ble_eq_true c3
              obtain ⟨m, m1, m2, m3, m4, m5⟩ := zeroM_ok (σ := σ) (V := V) hE hTe hz
              rw [lrep_eq]
              refine ⟨.cells ⟨embs σ (List.replicate cn z).flatten⟩ e, ?_, cells_new (wfs_rep m3) (ones_rep m4) hid w, ⟨hVid, c1⟩⟩
              unfold execOp
              simp only [hop]
              refine run_value ?_
              unfold Instr.makeSlice
              rw [Sem.bind_ok (r_und hu w), e1, e2]
              simp only [asInt, asIntOf, pure_bind]
              rw [Sem.bind_ok (r_typeInfo ti w)]
              have w1 : IntKind.i64.wrap (Int.ofNat ln) = (ln : Int) := wrap_small (by omega)
              have w2 : IntKind.i64.wrap (Int.ofNat cn) = (cn : Int) := wrap_small (by omega)
              have hb : Te.info.bytes * cn ≤ 65536 * 1048576 := Nat.mul_le_mul c3 c2
              simp only [w1, w2]
              rw [if_neg (by
                simp only [Bool.or_eq_true, decide_eq_true_eq, not_or]
                refine ⟨⟨⟨by omega, ?_⟩, by omega⟩, by omega⟩
                have : ((Te.info.bytes : Int) * (cn : Int)) = ((Te.info.bytes * cn : Nat) : Int) := by simp
                rw [this]
                omega)]
              rw [Sem.bind_ok (run_askRoom (P := P) (w := w) _)]
              rw [Sem.bind_ok (r_size ti w)]
              rw [Int.toNat_natCast]
              by_cases h0 : cn * Te.info.size = 0
              · rw [if_pos h0]
                rw [rows_zero m5 h0]
                refine (Sem.bind_ok (r_newRow e _ w)).trans ?_
                simp only [NewK.at, emb, upd_same]
                rfl
              · rw [if_neg h0]
                rw [Sem.bind_ok (m1 w), m2]
                rw [rows_rep m5]
                refine (Sem.bind_ok (r_newRow e _ w)).trans ?_
                simp only [NewK.at, emb, upd_same]
                rfl
          · cases ho
        · cases ho
      · cases ho
    · cases ho
  case call c => exact (call_new ho).elim
  all_goals first | exact (vR_new ho).elim | exact (updR_new ho).elim | skip
  case pick => exact (ov_new (ov_pick _ _ _) ho).elim
  case build => exact (ov_new (ov_build _ _) ho).elim
  case load => exact (ov_new (ov_load _ _) ho).elim
  case nilCheck => exact (ov_new (ov_nilCheck _) ho).elim
  case binOp => exact (ov_new (ov_bin _ _ _ _) ho).elim
  case unOp => exact (ov_new (ov_un _ _) ho).elim
  case convert =>
    rcases conv_forms ho with ⟨v, e⟩ | ⟨S, D, e, T, b, -, -, -, -, -, -, -, e⟩ | ⟨S, D, e1, e2, T, xv, -, -, -, -, -, -, -, -, hm⟩ <;> first | cases e | (obtain ⟨_, _, _, _, _, _, _, _, -, -, -, e⟩ := markM_upd hm; cases e)
  case makeFunc => exact (ov_new (ov_makeFunc _ _ _) ho).elim
  case slice => exact (ov_new (ov_slice _ _ _ _ _) ho).elim
  case fieldAddr => exact (ov_new (ov_fieldAddr _ _ _) ho).elim
  case field => exact (ov_new (ov_field _ _ _) ho).elim
  case indexAddr => exact (ov_new (ov_indexAddr _ _ _) ho).elim
  case index => exact (ov_new (ov_index _ _ _) ho).elim
  case lookup => exact (ov_new (ov_lookup _ _ _ _) ho).elim
  case extract => exact (ov_new (ov_extract _ _) ho).elim
end ops
end Go.Mini
/- The evaluator's operations against the model's: what writes. -/
namespace Go.Mini
variable [O : Opq]
open Go.RowKit
def Sim (G : GB) (B : Nat → Prop) (W0 : World) (σ : Sg) (V : Nat → Prop) (h h' : MH) (K : Sg → (Nat → Prop) → World → Prop) : Prop :=
  ∃ σ' V' w', Agr V σ σ' ∧ (∀ id, V id → V' id) ∧ (∀ id, V' id → V id ∨ h.nx ≤ id) ∧ h.nx ≤ h'.nx ∧ Rel G B W0 σ' V' h' w' ∧ K σ' V' w'
theorem Sim.mono {G : GB} {B : Nat → Prop} {W0 : World} {σ : Sg} {V : Nat → Prop} {h h' : MH} {K K' : Sg → (Nat → Prop) → World → Prop} (hs : Sim G B W0 σ V h h' K)
    (hk : ∀ σ' V' w', Agr V σ σ' → (∀ id, V id → V' id) → K σ' V' w' → K' σ' V' w') : Sim G B W0 σ V h h' K' := by
  obtain ⟨σ', V', w', h1, h2, h3, h4, h5, h6⟩ := hs
  exact ⟨σ', V', w', h1, h2, h3, h4, h5, hk _ _ _ h1 h2 h6⟩
omit O in
theorem Agr.refl (V : Nat → Prop) (σ : Sg) : Agr V σ σ := fun _ _ => rfl
omit O in
theorem Agr.trans {V V' : Nat → Prop} {σ σ' σ'' : Sg} (h : Agr V σ σ') (hV : ∀ id, V id → V' id) (h' : Agr V' σ' σ'') : Agr V σ σ'' := fun id hid => (h' id (hV id hid)).trans (h id hid)
section ops
variable {E : Env} {P : Program} {B : Nat → Prop} {W0 : World} {σ : Sg} {V : Nat → Prop} {h : MH} {w : World} {ev : Ev} {ρ : Operand → Value}
theorem Sim.same {h' : MH} {w' : World} {K : Sg → (Nat → Prop) → World → Prop} (hn : h'.nx = h.nx) (R : Rel E.G B W0 σ V h' w') (hk : K σ V w') : Sim E.G B W0 σ V h h' K :=
  ⟨σ, V, w', Agr.refl _ _, fun _ hx => hx, fun _ hx => .inl hx, Nat.le_of_eq hn.symm, R, hk⟩
theorem Sim.new (R : Rel E.G B W0 σ V h w) (hW : ∀ k, B k → k < W0.heap.size) {b : MB} {o : Obj} (off cap : Nat) {K : Sg → (Nat → Prop) → World → Prop}
    (hb : Blk (upd σ h.nx ⟨w.heap.size, off, cap⟩) (addV V h.nx) h.nx (w.alloc o) b) (hk : K (upd σ h.nx ⟨w.heap.size, off, cap⟩) (addV V h.nx) (w.alloc o)) : Sim E.G B W0 σ V h (h.new b) K :=
  ⟨_, _, _, agr_upd _ _ (fun hv => Nat.lt_irrefl _ (R.vx _ hv)), fun _ hx => .inl hx, fun _ hx => hx.imp (fun x => x) (fun e => Nat.le_of_eq e.symm), Nat.le_succ _, R.alloc (R.size hW) off cap hb, hk⟩
abbrev UpdK (P : Program) (ρ : Operand → Value) (o : Oper) (w : World) (v : MV) : Sg → (Nat → Prop) → World → Prop :=
  fun σ' V' w' => wf σ' V' v ∧ ((execOp ρ o).run P w = .ok (.value (emb σ' v)) w' ∨ (v = undefM ∧ (execOp ρ o).run P w = .ok .skip w'))
omit O in
theorem wf_undef : wf σ V undefM := by simp only [undefM, wf, wfs]
theorem store_ok (hE : EnvOk E P) (R : Rel E.G B W0 σ V h w) (hev : EvR σ V ev ρ) {o : Oper} {t : TypeId} {x y : Operand} (hop : o.op = .store t x y) {v : MV} {h' : MH}
    (ho : oStore E ev t x y h = some (v, h')) : Sim E.G B W0 σ V h h' (UpdK P ρ o w v) := by
  unfold oStore at ho
  split at ho
  · rename_i T id off u hT hx hy
    obtain ⟨x1, x2⟩ := hev x _ hx
    obtain ⟨y1, y2⟩ := hev y _ hy
    simp only [wf] at x1
    cases hc : Nat.beq (llen u.cells 0) T.info.size with
    | false => rw [hc] at ho; cases ho
    | true =>
      rw [hc] at ho
      simp only [cond_true] at ho
      have hc := Nat.eq_of_beq_eq_true hc
      rw [llen_eq] at hc
      simp only [Nat.add_zero] at hc
      split at ho
      · rename_i h1 hw
        cases ho
        obtain ⟨w', r1, r2, r3⟩ := writeCells_ok (P := P) R x1 (wf_cells y1) hw
        refine Sim.same r3 r1 ⟨wf_undef, .inr ⟨rfl, ?_⟩⟩
        unfold execOp
        simp only [hop]
        refine run_unit ?_
        unfold Instr.storeAt
        rw [x2, y2]
        simp only [emb, Instr.sureAddr, pure_bind]
        unfold storeVar
        rw [Sem.bind_ok (r_size (hE.ty t T hT).1 w)]
        have hsz : (emb σ u).cells.size = T.info.size := by rw [emb_cells, embs_map]; simp [hc]
        rw [if_neg (by simp [hsz]), emb_cells]
        exact r2
      · cases ho
  · cases ho
omit O in
theorem freeze_alloc (w : World) (c : Array Value) (e : TypeId) (n : Nat) : (w.alloc (.cells c e)).freeze ⟨w.heap.size, n, none⟩ 1 = w.alloc (.cells c e (n, n + 1)) := by
  unfold World.freeze
  rw [if_neg (by omega)]
  show ({ w with heap := _ } : World) = { w with heap := _ }
  congr 1
  show (w.heap.push (.cells c e)).modify w.heap.size _ = w.heap.push _
  apply Array.ext_getElem?
  intro i
  rw [Array.getElem?_modify]
  by_cases hi : w.heap.size = i
  · subst hi
    rw [if_pos rfl]
    simp
  · rw [if_neg hi]
    rcases Nat.lt_or_gt_of_ne hi with hlt | hgt
    · rw [Array.getElem?_eq_none (by simp; omega), Array.getElem?_eq_none (by simp; omega)]
    · rw [Array.getElem?_push_lt hgt, Array.getElem?_push_lt hgt]
omit O in
theorem freeze_end {w : World} {b : Nat} {c : Array Value} {t : TypeId} {fz : Nat × Nat} (h : w.heap[b]? = some (.cells c t fz)) (hf : fz.1 = fz.2 ∨ c.size ≤ fz.1) :
    ∃ fz' : Nat × Nat, w.freeze ⟨b, c.size, none⟩ 1 = w.putObj b (.cells c t fz') ∧ c.size ≤ fz'.1 := by
  obtain ⟨lo, hi⟩ := fz
  refine ⟨if lo == hi then (c.size, c.size + 1) else (min lo c.size, max hi (c.size + 1)), ?_, ?_⟩
  · unfold World.freeze World.putObj
    rw [if_neg (by decide)]
    congr 1
    apply Array.ext_getElem?
    intro i
    rw [Array.getElem?_modify]
    by_cases hi : b = i
    · subst hi
      have hlt := (Array.getElem?_eq_some_iff.1 h).1
      rw [if_pos rfl, h]
      simp [hlt]
    · rw [if_neg hi, Array.getElem?_setIfInBounds_ne hi]
  · dsimp only at hf
    split
    · exact Nat.le_refl _
    · rename_i hne
      have : lo ≠ hi := by simpa using hne
      show c.size ≤ min lo c.size
      omega
theorem conv_upd (hE : EnvOk E P) (R : Rel E.G B W0 σ V h w) (hW : ∀ k, B k → k < W0.heap.size) (hev : EvR σ V ev ρ) {o : Oper} {s d : TypeId} {x : Operand} (hop : o.op = .convert s d x) {v : MV} {h' : MH}
    (ho : oConv E ev s d x h = some (.upd v h')) : Sim E.G B W0 σ V h h' (UpdK P ρ o w v) := by
  rcases conv_forms ho with ⟨u, e⟩ | ⟨S, D, e, T, b, hS, hD, hs, hd, hT, hb, hx, hr⟩ | ⟨S, D, e', e, T, xv, hS, hD, hs, hd, hT, hb, rfl, hx, hm⟩
  rotate_right
  · obtain ⟨id, off, len, cap, cs, t, es, op, rfl, hg, hro, e⟩ := markM_upd hm
    cases e
    obtain ⟨x1, x2⟩ := hev x _ hx
    simp only [wf] at x1
    have uS := (hE.ty s S hS).2
    have ue := (hE.ty e T hT).2
    have uD := (hE.ty s D hD).2
    rw [isByte_ok hb] at ue
    rw [hs] at uS
    rw [hd] at uD
    obtain ⟨c, fz, k1, k2, k3, k4, k5, k6⟩ := R.blk id _ x1.1 hg
    obtain ⟨fz', hf1, hf2⟩ : ∃ fz' : Nat × Nat, w.freeze ⟨(σ id).blk, c.size, none⟩ 1 = w.putObj (σ id).blk (.cells c t fz') ∧ c.size ≤ fz'.1 := freeze_end k1 k6
    have hsz : (σ id).blk < w.heap.size := (Array.getElem?_eq_some_iff.1 k1).1
    have hblk : Blk σ V id (w.putObj (σ id).blk (.cells c t fz')) (.cells cs t es op) := by
      refine ⟨c, fz', ?_, k2, k3, k4, k5, .inr hf2⟩
      simp [World.putObj, hsz]
    refine Sim.same rfl (R.write x1.1 hg rfl hro _ hblk) ⟨by simp only [wf]; exact x1, .inl ?_⟩
    unfold execOp
    simp only [hop]
    refine run_value ?_
    rw [x2]
    unfold convert
    rw [Sem.bind_ok (r_und uS w), Sem.bind_ok (r_und uD w)]
    simp only [emb]
    have hms : (markStringish ⟨(σ id).blk, (σ id).off + off, none⟩).run P w = .ok () (w.putObj (σ id).blk (.cells c t fz')) := by
      unfold markStringish
      rw [Sem.bind_ok (run_shape (P := P) (w := w) _)]
      have : w.shape? (σ id).blk = some (t, c.size) := by
        unfold World.shape?; rw [k1]
      rw [this]
      simp only [run_freeze]
      rw [hf1]
    rw [Sem.bind_ok (r_und ue w)]
    rw [beq_self_eq_true]
    simp only []
    rw [Sem.bind_ok hms]
    rfl
  · cases e
  · cases hr
    obtain ⟨x1, x2⟩ := hev x _ hx
    simp only [wf] at x1
    have uS := (hE.ty s S hS).2
    have uD := (hE.ty d D hD).2
    have ue := (hE.ty e T hT).2
    rw [isByte_ok hb] at ue
    rw [hs] at uS
    rw [hd] at uD
    have hnV : ¬ V h.nx := fun hv => Nat.lt_irrefl _ (R.vx _ hv)
    -- the capacity is drawn
    obtain ⟨cap, hcap, wd, hwd, hch⟩ : ∃ cap, b.length ≤ cap ∧ ∃ wd, (wd = w ∨ wd = w.drew) ∧ (choose (.appendCap (bytesV b).size 0 e)).run P w = .ok cap wd := by
      refine ⟨(bytesV b).size + w.tape w.drawn (.appendCap (bytesV b).size 0 e) % (2 ^ 63 - (bytesV b).size), by rw [bytesV_size]; omega, w.drew, .inr rfl, ?_⟩
      rw [run_choose_drew]
      simp [Question.forced, Question.cut]
    have hRd : Rel E.G B W0 σ V h wd := by rcases hwd with rfl | rfl; exact R; exact R.drew
    let cells : List Value := b.map (fun (n : Nat) => Value.int .u8 (n : Int)) ++ List.replicate (cap - b.length) (.int .u8 0)
    have hcl : cells.length = cap := by simp [cells]; omega
    let obj : Obj := .cells ⟨cells⟩ e (cap, cap + 1)
    have hblk : Blk (upd σ h.nx ⟨wd.heap.size, 0, cap⟩) (addV V h.nx) h.nx (wd.alloc obj) (.cells (ofBytes b) e 1 true) := by
      have hob : ∀ l : List Nat, ofBytes l = l.map (fun n => MV.int .u8 (.ofNat n)) := by
        intro l; induction l with
        | nil => rfl
        | cons a l ih => exact congrArg (MV.int .u8 (.ofNat a) :: ·) ih
      refine ⟨⟨cells⟩, (cap, cap + 1), by rw [upd_same]; exact heap_new wd _, ?_, ?_, ?_, ?_, ?_⟩
      · rw [hob, wfs_iff]; intro u hu; obtain ⟨n, -, rfl⟩ := List.mem_map.1 hu; trivial
      · rw [hob, ones_iff]; intro u hu; obtain ⟨n, -, rfl⟩ := List.mem_map.1 hu; rfl
      · intro i u hi
        rw [hob, List.getElem?_map] at hi
        rw [upd_same]
        cases hbi : b[i]? with
        | none => rw [hbi] at hi; cases hi
        | some n =>
          rw [hbi] at hi; cases hi
          have hlt : i < b.length := (List.getElem?_eq_some_iff.1 hbi).1
          simp only [Nat.zero_add, List.getElem?_toArray, cells]
          rw [List.getElem?_append_left (by simpa using hlt), List.getElem?_map, hbi]
          rfl
      · intro _; rw [upd_same]; simp [hcl]
      · exact .inr (by simp [hcl])
    refine Sim.new hRd hW 0 cap hblk ⟨?_, .inl ?_⟩
    · simp only [wf, upd_same, llen_eq]
      exact ⟨.inr rfl, by omega⟩
    · unfold execOp
      simp only [hop]
      refine run_value ?_
      rw [x2]
      unfold convert
      rw [Sem.bind_ok (r_und uS w), Sem.bind_ok (r_und uD w)]
      simp only [emb]
      rw [Sem.bind_ok (r_und ue w)]
      simp only []
      unfold Conv.stringToBytes
      rw [Sem.bind_ok hch]
      have hel : ((bytesV b).data.map fun x => Value.int .u8 x.toNat) ++ Array.replicate (cap - (bytesV b).size) (.int .u8 0) = ⟨cells⟩ := by
        rw [bytesV_size, ← Array.toList_inj]
        simp only [bytesV, Array.toList_append, Array.toList_map, List.map_map, Array.toList_replicate, cells]
        congr 1
        apply List.map_congr_left
        intro n hn
        have := x1 n hn
        simp
        omega
      dsimp only
      rw [hel]
      refine (Sem.bind_ok (r_newRow e _ wd)).trans ?_
      have hms : (markStringish ⟨wd.heap.size, 0, none⟩).run P (wd.alloc (.cells ⟨cells⟩ e)) = .ok () (wd.alloc obj) := by
        unfold markStringish
        rw [Sem.bind_ok (run_shape (P := P) (w := wd.alloc (.cells ⟨cells⟩ e)) _)]
        have : (wd.alloc (.cells ⟨cells⟩ e)).shape? wd.heap.size = some (e, cap) := by
          unfold World.shape?; rw [heap_new]; simp [hcl]
        rw [this]
        simp only [run_freeze]
        rw [freeze_alloc]
      rw [Sem.bind_ok hms]
      simp only [Sem.run_pure, upd_same, bytesV_size, llen_eq, Nat.add_zero, Nat.sub_zero]
/-! ### Maps -/
theorem range_ok (hE : EnvOk E P) (R : Rel E.G B W0 σ V h w) (hW : ∀ k, B k → k < W0.heap.size) (hev : EvR σ V ev ρ) {o : Oper} {t : TypeId} {x : Operand} (hop : o.op = .range t x) {v : MV} {h' : MH}
    (ho : oRange E ev t x h = some (v, h')) : Sim E.G B W0 σ V h h' (UpdK P ρ o w v) := by
  unfold oRange at ho
  split at ho
  · rename_i xv hx
    obtain ⟨x1, x2⟩ := hev x _ hx
    unfold rangeM at ho
    split at ho
    · rename_i T hT
      have hu := (hE.ty t T hT).2
      split at ho
      · rename_i kt el hd
        cases ho
        rw [hd] at hu
        refine Sim.new (o := .mapIter none 0 #[] 0) R hW 0 0 ⟨?_, by rw [upd_same], fun i hi => by cases hi⟩ ⟨.inr rfl, .inl ?_⟩
        · rw [upd_same]; exact heap_new w _
        · unfold execOp
          simp only [hop]
          refine run_value ?_
          rw [x2]
          unfold Instr.range
          simp only [emb, upd_same]
          rw [Sem.bind_ok (r_und hu w)]
          rfl
      · rename_i kt el id hd
        rw [hd] at hu
        simp only [wf] at x1
        split at ho
        · rename_i es c hg
          cases ho
          obtain ⟨b1, b2⟩ := R.blk id _ x1 hg
          have hne : id ≠ h.nx := fun e => Nat.lt_irrefl _ (e ▸ R.vx id x1)
          refine Sim.new (o := .mapIter (some (σ id).blk) c #[] c) R hW 0 0 ⟨?_, by rw [upd_same], fun i hi => by cases hi; exact .inl x1⟩ ⟨.inr rfl, .inl ?_⟩
          · rw [upd_same]
            refine (heap_new w _).trans ?_
            simp only [Option.map_some, upd_ne σ _ hne]
          · unfold execOp
            simp only [hop]
            refine run_value ?_
            rw [x2]
            unfold Instr.range
            simp only [emb, upd_same]
            rw [Sem.bind_ok (r_und hu w)]
            simp only []
            rw [Sem.bind_ok (r_getObj_map b1)]
            rfl
        · cases ho
      · cases ho
    · cases ho
  · cases ho
omit O in
theorem r_getObj_iter {r : Nat} {m : Option Nat} {s c : Nat} {seen : Array Nat} (hb : w.heap[r]? = some (.mapIter m s seen c)) : (getObj r).run P w = .ok (.mapIter m s seen c) w := by
  simp [getObj, Sem.run, hb]
omit O in
theorem r_setObj_iter {r : Nat} {m : Option Nat} {s c : Nat} {seen : Array Nat} (o : Obj) (hb : w.heap[r]? = some (.mapIter m s seen c)) : (setObj r o).run P w = .ok () (w.putObj r o) := by
  simp [setObj, Sem.run, hb, World.putObj]
omit O in
theorem r_setObj_map {r : Nat} {es : Array MapEntry} {c : Nat} (o : Obj) (hb : w.heap[r]? = some (.map es c)) : (setObj r o).run P w = .ok () (w.putObj r o) := by
  simp [setObj, Sem.run, hb, World.putObj]
omit O in
theorem notIn_eq (n : Nat) (l : List Nat) : notIn n l = !(l.contains n) := by
  induction l with
  | nil => rfl
  | cons a l ih =>
    show (Bool.rec (notIn n l) false (Nat.beq n a) : Bool) = _
    cases hb : Nat.beq n a with
    | true => have := Nat.eq_of_beq_eq_true hb; subst this; simp
    | false =>
      have hne : n ≠ a := fun e => by subst e; rw [Nat.beq_refl] at hb; cases hb
      simp [ih, hne]
omit O in
theorem leftOf_eq (seen : List Nat) (l : List ME) : leftOf seen l = l.filter fun e => !(seen.contains e.born) := by
  induction l with
  | nil => rfl
  | cons e l ih =>
    show (Bool.rec (leftOf seen l) (e :: leftOf seen l) (notIn e.born seen) : List ME) = _
    rw [notIn_eq, ih, List.filter_cons]
    cases (!(seen.contains e.born)) <;> rfl
omit O in
theorem cand0 : ((if (#[] : Array MapEntry).isEmpty = true then #[none] else #[]) ++ Array.map some ((#[] : Array MapEntry) ++ #[]) : Array (Option MapEntry)) = #[none] := by simp
omit O in
theorem cand1 (x : MapEntry) : ((if (#[x] : Array MapEntry).isEmpty = true then #[none] else #[]) ++ Array.map some ((#[x] : Array MapEntry) ++ #[]) : Array (Option MapEntry)) = #[some x] := by simp
theorem upd_next (R : Rel E.G B W0 σ V h w) (hev : EvR σ V ev ρ) {o : Oper} {it : Operand} {s : Bool} (hop : o.op = .next it s) {v : MV} {h' : MH}
    (ho : oNext E ev it s h = some (v, h')) : Sim E.G B W0 σ V h h' (UpdK P ρ o w v) := by
  unfold oNext at ho
  split at ho
  · rename_i iv hi
    obtain ⟨x1, x2⟩ := hev it _ hi
    unfold nextM at ho
    split at ho
    · rename_i r
      simp only [wf] at x1
      cases hc : (or s (Nat.blt r E.G.ro)) with
      | true => rw [hc] at ho; cases ho
      | false =>
        rw [hc] at ho
        simp only [cond_false] at ho
        simp only [Bool.or_eq_false_iff] at hc
        obtain ⟨hs, hG⟩ := hc
        subst hs
        have hG : E.G.ro ≤ r := by
          rcases Nat.lt_or_ge r E.G.ro with hlt | hge
          · rw [lt_blt hlt] at hG; cases hG
          · exact hge
        split at ho
        · rename_i since seen st hg
          cases ho
          obtain ⟨b1, b2, -⟩ := R.blk r _ x1 hg
          refine Sim.same rfl R ⟨by simp only [wf, wfs]; exact ⟨trivial, trivial⟩, .inl ?_⟩
          unfold execOp
          simp only [hop]
          refine run_value ?_
          rw [x2]
          unfold Instr.next
          simp only [emb, b2]
          rw [Sem.bind_ok (r_getObj_iter b1)]
          rfl
        · rename_i m since seen last hg
          split at ho
          · rename_i es clock hm
            obtain ⟨b1, b2, b3⟩ := R.blk r _ x1 hg
            simp only [Option.map_some] at b1
            have hVm := b3 m rfl
            obtain ⟨m1, m2⟩ := R.blk m _ hVm hm
            unfold nextIter at ho
            cases hq : (and (not seen.isEmpty) (and (not es.isEmpty) (es.all fun e => Nat.ble last e.born))) with
            | true => rw [hq] at ho; cases ho
            | false =>
              rw [hq] at ho
              simp only [cond_false] at ho
              have hfil : (((⟨es.map (embE σ)⟩ : Array MapEntry).filter fun e => !(⟨seen⟩ : Array Nat).contains e.born)) = ⟨(leftOf seen es).map (embE σ)⟩ := by
                rw [leftOf_eq, ← Array.toList_inj]
                simp only [Array.toList_filter, List.filter_map]
                congr 1
                apply List.filter_congr
                intro e _
                rw [Bool.eq_iff_iff]
                simp [embE]
                exact decide_eq_false_iff_not
              have hq' : ((!(⟨seen⟩ : Array Nat).isEmpty && !(⟨es.map (embE σ)⟩ : Array MapEntry).isEmpty && (⟨es.map (embE σ)⟩ : Array MapEntry).all fun e => decide (e.born ≥ last)) = true) ↔ False := by
                rw [iff_false, Bool.not_eq_true, ← hq]
                rw [Bool.and_assoc]
                congr 1
                · simp
                · congr 1
                  · simp
                  · rw [← Array.all_toList]
                    simp only [List.all_map]
                    congr 1
                    funext e
                    simp only [Function.comp, embE]
                    rw [Bool.eq_iff_iff]
                    exact ⟨fun h => Nat.ble_eq_true_of_le (of_decide_eq_true h), fun h => decide_eq_true (Nat.le_of_ble_eq_true h)⟩
              split at ho
              · rename_i hl
                cases ho
                refine Sim.same rfl R ⟨by simp only [wf, wfs]; exact ⟨trivial, trivial⟩, .inl ?_⟩
                unfold execOp
                simp only [hop]
                refine run_value ?_
                rw [x2]
                unfold Instr.next
                simp only [emb, b2]
                rw [Sem.bind_ok (r_getObj_iter b1)]
                dsimp only
                rw [Sem.bind_ok (r_getObj_map m1)]
                dsimp only
                rw [if_neg (fun h => hq'.1 h), hfil, hl]
                have hch : (choose (.mapNext 1)).run P w = .ok 0 w := rfl
                have f0 : ∀ p : MapEntry → Bool, Array.filter p ⟨([] : List ME).map (embE σ)⟩ = #[] := fun p => by simp
                rw [f0, f0, cand0]
                refine (Sem.bind_ok (a := 0) (w' := w) hch).trans ?_
                rfl
              · rename_i e hl
                cases hbs : Nat.blt e.born since with
                | false => rw [hbs] at ho; cases ho
                | true =>
                  rw [hbs] at ho
                  cases ho
                  have hbs := blt_lt hbs
                  have he : e ∈ es := by
                    have : e ∈ leftOf seen es := by rw [hl]; simp
                    rw [leftOf_eq] at this
                    exact (List.mem_filter.1 this).1
                  have hwe := m2 e he
                  obtain ⟨g1, g2⟩ : Rel E.G B W0 σ V (h.set r (.iter (some m) since (seen ++ [e.born]) clock)) (w.putObj (σ r).blk (.mapIter (some (σ m).blk) since ((⟨seen⟩ : Array Nat).push e.born) clock)) ∧ True := by
                    refine ⟨R.write x1 hg rfl hG _ ⟨?_, b2, fun i hi => by cases hi; exact hVm⟩, trivial⟩
                    rw [World.putObj_heap_same (R.lt x1 hg rfl)]
                    simp
                  refine Sim.same rfl g1 ⟨by simp only [wf, wfs]; exact ⟨trivial, hwe.1, hwe.2, trivial⟩, .inl ?_⟩
                  unfold execOp
                  simp only [hop]
                  refine run_value ?_
                  rw [x2]
                  unfold Instr.next
                  simp only [emb, b2]
                  rw [Sem.bind_ok (r_getObj_iter b1)]
                  dsimp only
                  rw [Sem.bind_ok (r_getObj_map m1)]
                  dsimp only
                  rw [if_neg (fun h => hq'.1 h), hfil, hl]
                  have f1 : Array.filter (fun x : MapEntry => decide (x.born < since)) ⟨[e].map (embE σ)⟩ = #[embE σ e] := by
                    simp [embE, hbs]
                  have f2 : Array.filter (fun x : MapEntry => decide (x.born ≥ since)) ⟨[e].map (embE σ)⟩ = #[] := by
                    simp [embE]; exact hbs
                  rw [f1, f2, cand1]
                  have hch : (choose (.mapNext 1)).run P w = .ok 0 w := rfl
                  refine (Sem.bind_ok (a := 0) (w' := w) hch).trans ?_
                  · show (do setObj (σ r).blk (Obj.mapIter (some (σ m).blk) since ((⟨seen⟩ : Array Nat).push (embE σ e).born) clock); pure (Value.tuple #[Value.bool true, (embE σ e).key, (embE σ e).val]) : Sem Value).run P w = _
                    rw [Sem.bind_ok (r_setObj_iter _ b1)]
                    rfl
              · cases ho
          · cases ho
        · cases ho
    · cases ho
  · cases ho
end ops
end Go.Mini
