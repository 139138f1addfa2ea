/- Part h of the proof about watchword's lockout: texts TZ Y21 Y22. -/
import Derived.Test.YtnpddjmjdpgohaaGreatDoorG7
import Derived.Test.YtnpddjmjdpgohaaGreatDoorGe
import Derived.Test.YtnpddjmjdpgohaaGreatDoorGg
import Derived.Test.YtnpddjmjdpgohaaGreatDoorGR

namespace Go.WW
open Go.RowKit
section
variable {P : Program} {ops : Array Oper} {S : World → Prop} {st : Oper → Bool} {Q : Act → World → Prop}
theorem text_anyZ {m : Array (List Nat)} (hok : TextOk st ops m) {Q' : Exit → Act → World → Prop} {z : Oper} {N : Nat} (hN : ops.size = N + 1) (hz : ops[N]? = some z) (hzg : z.guard = none) (hzall : ∀ i, i < N → ∃ e ∈ z.after, Region.binds .any e = true ∧ e.on = i)
    (hQ : ∀ a w, Q a w → z.wp P a w (fun a' w' => Q' .normal a' w') never) :
    ∀ (n : Nat) (L : List Nat) (listed : Array Bool) (a : Act) (w : World), L.length = n → L.Pairwise (· < ·) → listed.size = ops.size → listed.getD N true = false → (∀ j, j ∈ L ↔ j < N ∧ listed.getD j true = false) →
      (∀ k o, ops[k]? = some o → listed.getD k false = true → ∀ e ∈ o.after, Region.binds .any e = true → listed.getD e.on false = true) →
      S w → wpText P ops st S Q (L.filterMap (ops[·]?)) a w → wpAny P .any ops Q' (n + 1) listed a w := by
  intro n
  induction n with
  | zero =>
    intro L listed a w hn _ hsz hlN hL hdown _ h
    have : L = [] := List.eq_nil_of_length_eq_zero hn
    subst this
    have hls : ∀ i, i < N → listed.getD i false = true := fun i hi => by
      have h2 : listed.getD i true ≠ false := fun hf => by have := (hL i).2 ⟨hi, hf⟩; cases this
      have hes : i < listed.size := by omega
      simp [hes] at h2 ⊢; exact h2
    refine ⟨fun hr => ?_, fun i hi => ?_⟩
    · have : N ∈ Region.ready .any ops listed := mem_ready.2 ⟨hlN, z, hz, fun e he hb => hls _ (by have := hok.back N z hz e he hb; exact this)⟩
      rw [hr] at this; cases this
    · obtain ⟨h0, o, ho, _⟩ := mem_ready.1 hi
      have his : i < ops.size := (Array.getElem?_eq_some_iff.1 ho).1
      have hiN : i = N := Classical.byContradiction fun hne => by
        have := (hL i).2 ⟨by omega, h0⟩; cases this
      subst hiN
      rw [hz] at ho; cases ho
      have hend : ∀ a' w', Q' .normal a' w' → wpAny P .any ops Q' 0 (listed.setIfInBounds i true) a' w' := fun a' w' hq => by
        refine ⟨?_, hq⟩
        cases hr : Region.ready .any ops (listed.setIfInBounds i true) with
        | nil => rfl
        | cons k r =>
          have hk : k ∈ Region.ready .any ops (listed.setIfInBounds i true) := by rw [hr]; simp
          obtain ⟨h1, o', ho', _⟩ := mem_ready.1 hk
          have hks : k < ops.size := (Array.getElem?_eq_some_iff.1 ho').1
          exfalso
          by_cases hki : k = i
          · subst hki
            have : k < listed.size := by omega
            simp [this] at h1
          · rw [getD_set_ne true (Ne.symm hki)] at h1
            have := (hL k).2 ⟨by omega, h1⟩; cases this
      unfold wpOp
      simp only [hz, Region.wanted, hzg, if_true]
      exact .inl (wp_mono_Q (Oper.wp_mono (fun a' w' hh => hend a' w' hh) (hQ _ _ h)))
  | succ n ih =>
    intro L listed a w hn hsort hsz hlN hL hdown hS h
    refine ⟨fun hr => ?_, fun i hi => ?_⟩
    · exfalso
      cases L with
      | nil => simp at hn
      | cons j L =>
        obtain ⟨hj, hjl⟩ := (hL j).1 (by simp)
        have hj' : j < ops.size := by omega
        have hoj : ops[j]? = some ops[j] := by simp [hj']
        have : j ∈ Region.ready .any ops listed := by
          refine mem_ready.2 ⟨hjl, _, hoj, fun e he hb => ?_⟩
          have hlt := hok.back j _ hoj e he hb
          have hnot : e.on ∉ j :: L := by
            intro hmem
            rcases List.mem_cons.1 hmem with h1 | h1
            · omega
            · have := (List.pairwise_cons.1 hsort).1 _ h1; omega
          have h2 : listed.getD e.on true ≠ false := fun hf => hnot ((hL e.on).2 ⟨by omega, hf⟩)
          have hes : e.on < listed.size := by omega
          simp [hes] at h2 ⊢; exact h2
        rw [hr] at this; cases this
    · obtain ⟨h0, o, ho, hall⟩ := mem_ready.1 hi
      have his : i < ops.size := (Array.getElem?_eq_some_iff.1 ho).1
      have hiN : i ≠ N := fun e => by
        subst e
        rw [hz] at ho; cases ho
        cases L with
        | nil => simp at hn
        | cons j L =>
          obtain ⟨hj, hjl⟩ := (hL j).1 (by simp)
          obtain ⟨e, he, hb, rfl⟩ := hzall j hj
          have := hall e he hb
          rw [getD_true_of_false this] at hjl; cases hjl
      have hiL : i ∈ L := (hL i).2 ⟨by omega, h0⟩
      obtain ⟨L1, L2, rfl⟩ := List.append_of_mem hiL
      have hsort' := List.pairwise_append.1 hsort
      have hlt1 : ∀ x ∈ L1, x < i := fun x hx => hsort'.2.2 x hx i (by simp)
      have hgt2 : ∀ x ∈ L2, i < x := fun x hx => (List.pairwise_cons.1 hsort'.2.1).1 x hx
      rw [List.filterMap_append, List.filterMap_cons_some ho] at h
      have hfront := text_front (P := P) (ops := ops) (S := S) (st := st) (Q := Q) (Region.noSelect_spec hok.sel i o · · ho) (L1.filterMap (ops[·]?)) (fun x hx => by
        obtain ⟨k, hk, hox⟩ := List.mem_filterMap.1 hx
        have hkl := ((hL k).1 (by simp [hk])).2
        have hnl : ¬ listed.getD k false = true := fun hf => by rw [getD_true_of_false hf] at hkl; cases hkl
        refine ⟨(Region.noSelect_spec hok.sel k x · · hox), ?_⟩
        rcases hok.pair i o ho k (hlt1 k hk) x hox with ⟨e, he, hb, rfl⟩ | ⟨hap, hor⟩
        · exact absurd (hall e he hb) hnl
        · refine ⟨hap, ?_⟩
          rcases hor with h1 | h1 | h1
          · exact .inl h1
          · exact .inr h1
          · exact absurd (preds_listed hok hdown i o ho hall k h1) hnl) a w hS h
      have hrest : ∀ a' w', S w' → wpText P ops st S Q (L1.filterMap (ops[·]?) ++ L2.filterMap (ops[·]?)) a' w' → wpAny P .any ops Q' (n + 1) (listed.setIfInBounds i true) a' w' := by
        intro a' w' hS' hh
        rw [← List.filterMap_append] at hh
        refine ih (L1 ++ L2) (listed.setIfInBounds i true) a' w' ?_ ?_ (by simpa using hsz) (by rw [getD_set_ne true hiN]; exact hlN) ?_ ?_ hS' hh
        · simp at hn ⊢; omega
        · exact List.pairwise_append.2 ⟨hsort'.1, (List.pairwise_cons.1 hsort'.2.1).2, fun x hx y hy => hsort'.2.2 x hx y (by simp [hy])⟩
        · intro j
          by_cases hji : j = i
          · subst hji
            constructor
            · intro hm
              exfalso
              rcases List.mem_append.1 hm with h1 | h1
              · have := hlt1 _ h1; omega
              · have := hgt2 _ h1; omega
            · rintro ⟨_, hf⟩
              have : j < listed.size := by omega
              simp [this] at hf
          · rw [getD_set_ne true (Ne.symm hji), ← hL j]
            simp [hji]
        · intro k ok hk hkl e he hb
          by_cases hki : k = i
          · subst hki
            rw [ho] at hk; cases hk
            exact getD_set_true (hall e he hb)
          · rw [getD_set_ne false (Ne.symm hki)] at hkl
            exact getD_set_true (hdown k ok hk hkl e he hb)
      unfold wpOp
      simp only [ho]
      rw [text_cons] at hfront
      split
      · rename_i hw
        rw [if_pos hw] at hfront
        refine .inl ?_
        by_cases hs : st o = true
        · rw [if_pos hs] at hfront
          obtain ⟨v, hv, hh⟩ := hfront
          unfold Oper.wp
          rw [hv w hS]
          exact hrest _ _ hS hh
        · rw [if_neg hs] at hfront
          exact wp_mono_Q (Oper.wp_mono (fun a' w' hh => hrest a' w' hh.1 hh.2) hfront)
      · rename_i hw
        rw [if_neg hw] at hfront
        exact hrest _ _ hS hfront

end
def lastB (ops : List Oper) : Bool :=
  match ops.getLast? with
  | some z => z.guard.isNone && (List.range (ops.length - 1)).all fun i => z.after.toList.any fun e => Region.binds .any e && e.on == i
  | none => false
def lastK (P : Program) (ops : List Oper) (Q : Act → World → Prop) (a : Act) (w : World) : Prop :=
  match ops.getLast? with
  | some z => z.wp P a w Q never
  | none => False
theorem wp_region_lastS {P : Program} {id : Nat} {Q' : Exit → Act → World → Prop} {a : Act} {w : World} {l : List Oper} (S : World → Prop) (st : Oper → Bool) (hm : P.follows .mixedOrders = true) (hB : textB st l.toArray = true) (hZ : lastB l = true)
    (hS : S w.drew) (h : wpText P l.toArray st S (lastK P l fun a' w' => Q' .normal a' w') l.dropLast a w.drew) : (Code.region id l.toArray true).wp P Q' a w := by
  refine wp_region_any hm ?_
  unfold lastB at hZ
  cases hg : l.getLast? with
  | none => rw [hg] at hZ; cases hZ
  | some z =>
    rw [hg] at hZ
    simp only [Bool.and_eq_true, List.all_eq_true, List.mem_range] at hZ
    obtain ⟨hz1, hz2⟩ := hZ
    have hne : l ≠ [] := fun e => by rw [e] at hg; cases hg
    have hlen : l.length = l.length - 1 + 1 := by have := List.length_pos_iff.2 hne; omega
    have hzi : l.toArray[l.length - 1]? = some z := by
      rw [List.getLast?_eq_getElem?] at hg; simpa using hg
    have hfm : (List.range (l.length - 1)).filterMap (l.toArray[·]?) = l.dropLast := by
      rw [List.dropLast_eq_take]
      have : ∀ n, (List.range n).filterMap (fun i => l.toArray[i]?) = l.take n := by
        intro n
        induction n with
        | zero => simp
        | succ n ih =>
          rw [List.range_succ, List.filterMap_append, ih]
          by_cases hn : n < l.length
          · rw [List.take_succ_eq_append_getElem hn]; simp [hn]
          · simp [hn, List.take_of_length_le (show l.length ≤ n by omega), List.take_of_length_le (show l.length ≤ n + 1 by omega)]
      exact this _
    have := text_anyZ (P := P) (S := S) (Q := lastK P l fun a' w' => Q' .normal a' w') (textB_ok hB) (Q' := Q') (z := z) (N := l.length - 1) (by simpa using hlen) hzi (by simpa using hz1) (fun i hi => by
        have := hz2 i hi
        simp only [List.any_eq_true, Bool.and_eq_true, beq_iff_eq] at this
        obtain ⟨e, he, hb⟩ := this
        exact ⟨e, by simpa using he, hb⟩) (fun a' w' hq => by unfold lastK at hq; rw [hg] at hq; exact hq) (l.length - 1) (List.range (l.length - 1)) (Array.replicate l.toArray.size false) a w.drew
      (by simp) List.pairwise_lt_range (by simp) (by have : l.length - 1 < l.length := by omega
                                                     simp [this]) (by intro j; simp; intro h1; simp [show j < l.length by omega]) (by intro k o hk hkl; exfalso; rw [Array.getD_eq_getD_getElem?, Array.getElem?_replicate] at hkl; split at hkl <;> simp at hkl) hS (by rw [hfm]; exact h)
    rw [← hlen] at this
    simpa using this
end Go.WW

namespace Go.WW
open Go.RowKit
def lockT (L : List Policy) (now : Int) (X : List EE) : List PP := (X.filter fun x => isTime now && lockedAt x.2 (polRef L x.2) now).map fun x => (x.1.parts, x.2.name)
theorem lockT_snoc (L : List Policy) (now : Int) (X : List EE) (x : EE) (h : isTime now = true) : lockT L now (X ++ [x]) = lockT L now X ++ (if lockedAt x.2 (polRef L x.2) now = true then [(x.1.parts, x.2.name)] else []) := by
  unfold lockT
  rw [List.filter_append, List.map_append]
  congr 1
  simp only [List.filter_cons, List.filter_nil, h, Bool.true_and]
  split <;> rfl
theorem lockT_bad (L : List Policy) (now : Int) (X : List EE) (h : isTime now = false) : lockT L now X = [] := by
  unfold lockT
  simp [h]
theorem lockT_len (L : List Policy) (now : Int) (X : List EE) : (lockT L now X).length ≤ X.length := by
  unfold lockT
  rw [List.length_map]; exact List.length_filter_le _ _
theorem locked_free {d : Entry} {p : Policy} {now : Int} (h : p.fails = 0) : lockedAt d p now = false := by unfold lockedAt; rw [h]; rfl
theorem find_same {P L : List Policy} (h : PolRel P L) (k : ByteArray) : P.find? (fun x => decide (x.name = k)) = L.find? (fun x => decide (x.name = k)) := by
  cases hP : P.find? (fun x => decide (x.name = k)) with
  | none =>
    refine (List.find?_eq_none.2 fun x hx => ?_).symm
    exact List.find?_eq_none.1 hP x (h.perm.mem_iff.2 hx)
  | some q =>
    have hq := List.mem_of_find?_eq_some hP
    have hqk : q.name = k := by simpa using List.find?_some hP
    cases hL : L.find? (fun x => decide (x.name = k)) with
    | none => exact absurd hqk (by simpa using List.find?_eq_none.1 hL q (h.perm.mem_iff.1 hq))
    | some q' =>
      have hq' := List.mem_of_find?_eq_some hL
      have hqk' : q'.name = k := by simpa using List.find?_some hL
      obtain ⟨i, hi, rfl⟩ := List.mem_iff_getElem.1 (h.perm.mem_iff.1 hq)
      obtain ⟨j, hj, rfl⟩ := List.mem_iff_getElem.1 hq'
      have hij := nodup_idx h.nodup (i := i) (j := j) (by simpa using hi) (by simpa using hj) (by simpa using hqk.trans hqk'.symm)
      subst hij; rfl
theorem locked_same {P L : List Policy} (h : PolRel P L) (d : Entry) (now : Int) : lockedAt d (polOf P d) now = lockedAt d (polRef L d) now := by
  unfold polOf polRef
  split
  · rw [locked_free (p := unlP) rfl, locked_free (p := zeroP) rfl]
  · rw [find_same h]
theorem lock_names {P L : List Policy} (h : PolRel P L) (now : Int) {Y X : List EE} (hp : (Y.map (·.2)).Perm (X.map (·.2))) (hY : Sorted cmpPrin nameX Y) (hX : Sorted cmpPrin nameX X) : lockL P now Y = (lockT L now X).map (·.2) := by
  have e : Y.map (·.2) = X.map (·.2) := by
    refine sorted_eq (k := fun d : Entry => d.name) cmpPrin_total _ _ ?_ ?_ hp
    · exact List.pairwise_map.2 hY
    · exact List.pairwise_map.2 hX
  have h1 : lockL P now Y = ((Y.map (·.2)).filter fun d => isTime now && lockedAt d (polOf P d) now).map (·.name) := by
    unfold lockL
    rw [List.filter_map, List.map_map]; rfl
  have h2 : (lockT L now X).map (·.2) = ((X.map (·.2)).filter fun d => isTime now && lockedAt d (polRef L d) now).map (·.name) := by
    unfold lockT
    rw [List.filter_map, List.map_map, List.map_map]; rfl
  rw [h1, h2, e]
  congr 1
  refine List.filter_congr fun d _ => ?_
  rw [locked_same h]
theorem polRef_ok {L : List Policy} {d : Entry} (h : HasPol L d) (hL : ∀ q ∈ L, polOk q = true) : polRef L d = zeroP ∨ polOk (polRef L d) = true := by
  by_cases he : d.policy = ⟨#[]⟩
  · exact .inl (polRef_empty he)
  · rcases h with h | h
    · exact absurd h he
    · right
      unfold polRef
      rw [if_neg he]
      obtain ⟨x, hx, e⟩ := List.any_eq_true.1 h
      cases hf : L.find? (fun x => decide (x.name = d.policy)) with
      | none => exact absurd e (by simpa using List.find?_eq_none.1 hf x hx)
      | some y => exact hL _ (List.mem_of_find?_eq_some hf)
theorem small_ref {L : List Policy} {d : Entry} (hd : entryOk d = true) (h : HasPol L d) (hL : ∀ q ∈ L, polOk q = true) : Small d (polRef L d) := by
  have hz : okAll d unlP 0 = true := by simp only [okAll, hd, unlP_ok, Bool.true_and]; rfl
  rcases polRef_ok h hL with e | e
  · rw [e]
    have hs := (okAll_small hz).1
    exact ⟨hs.l0, hs.l1, hs.f0, hs.f1, by simp [zeroP], by simp [zeroP], by simp [zeroP], by simp [zeroP], by simp [zeroP]⟩
  · have h2 : okAll d (polRef L d) 0 = true := by simp only [okAll, hd, e, Bool.true_and]; rfl
    exact (okAll_small h2).1
end Go.WW
namespace Go.Proofs.YtnpddjmjdpgohaaGreatDoor
open Go.RowKit Go.WW
structure WantIs (lb base : Nat) (so : Sl) (T : List PP) (wr : World) : Prop where
  box : wr.heap[lb]? = some (.cells #[.slice so.a T.length so.cap] 25)
  own : Go.WW.Own wr base 24 2 so (T.map encP)
theorem WantIs.push {lb base : Nat} {so s3 : Sl} {T : List PP} {w w3 : World} {x : PP} (h : WantIs lb base so T w) (hlb : lb < base) (ho : Go.WW.Own w3 base 24 2 s3 ((T ++ [x]).map encP)) (hg : w.grownBy w3 so.blk) : WantIs lb base s3 (T ++ [x]) (w3.setCell ⟨lb, 0, none⟩ (.slice s3.a (T.length + 1) s3.cap)) := by
  have hbl := (Array.getElem?_eq_some_iff.1 h.box).1
  have hb3 : w3.heap[lb]? = some (.cells #[.slice so.a T.length so.cap] 25) := (hg.block lb hbl (fun e => by have := (h.own.base e.symm).1; omega)).trans h.box
  have hset := setCell_blk (o := 0) (.slice s3.a (T.length + 1) s3.cap) hb3
  refine ⟨by simpa using hset, ho.kept fun g hg' => Below.heap_setCell _ _ _ _ (show g ≠ lb by have := (ho.base hg').1; omega)⟩
theorem WantIs.kept {lb base : Nat} {so : Sl} {T : List PP} {w w' : World} (h : WantIs lb base so T w) (hl : w'.heap[lb]? = w.heap[lb]?) (hb : ∀ k, base ≤ k → k < w.heap.size → w'.heap[k]? = w.heap[k]?) : WantIs lb base so T w' :=
  ⟨hl.trans h.box, h.own.kept fun g hg => hb g (h.own.base hg).1 (h.own.base hg).2⟩
theorem WantIs.later {lb base : Nat} {so : Sl} {T : List PP} {w w' : World} (h : WantIs lb base so T w) (hb : Below w.heap.size w w') : WantIs lb base so T w' :=
  h.kept (hb.block _ (Array.getElem?_eq_some_iff.1 h.box).1) fun k _ hk => hb.block k hk
end Go.Proofs.YtnpddjmjdpgohaaGreatDoor

namespace Go.Proofs.YtnpddjmjdpgohaaGreatDoor
open Go.RowKit Go.WW
theorem dbAt_same {w w' : World} {b n e p : Nat} {re : ByteArray} {s : Int} {N : List (ByteArray × Value)} {E : List EE} {P : List Policy} (h : DbAt w b n e p re s N E P) (ho : ∀ j, ofDb b n e p j → w'.heap[j]? = w.heap[j]?) : DbAt w' b n e p re s N E P :=
 ⟨(ho b (.inl rfl)).trans h.box, h.nm.at (ho n (.inr (.inl rfl))), h.em.at (ho e (.inr (.inr (.inl rfl)))), h.pm.at (ho p (.inr (.inr (.inr rfl)))), h.ne⟩
theorem nodup_of_map {α β : Type} {f : α → β} {l : List α} (h : (l.map f).Nodup) : l.Nodup := by
 refine (List.pairwise_map.1 h).imp ?_
 rintro a c hne rfl
 exact hne rfl
theorem seqNe28 (b : Nat) (w : World) : (binOp .eql 56 (.func (.func 44) #[] #[.pointer (some ⟨b, 0, none⟩)]) .nilFunc).run Tryz.prog w = .ok (.bool false) w := by kernel_rfl
theorem leave2 {F : Fence} {n : Nat} {P : Program} {fn : Func} {R : Ending → World → Prop} {tmps : Array Value} {w : World} {d1 d0 T : Nat} {v : Value} {ty : TypeId} {c0 : Value}
  (h1 : w.heap[d1]? = some (.deferred (some []))) (h0 : w.heap[d0]? = some (.deferred (some []))) (h8 : w.heap[T]? = some (.cells #[c0] ty)) (t1 : d1 ≠ T) (t0 : d0 ≠ T) (hne : d0 ≠ d1)
  (hr : ∀ X : World, X.cell? ⟨T, 0, none⟩ = some v → (results fn tmps).run P X = .ok v X)
  (hR : R (.returned v) (((w.setCell ⟨T, 0, none⟩ v).putObj d1 (.deferred none)).putObj d0 (.deferred none))) :
  bodyPostM F n P fn R .ret { tmps, defers := [{ target := .collected d1, args := #[] }, { target := .collected d0, args := #[] }] } (w.setCell ⟨T, 0, none⟩ v) := by
 have e1 := (Below.heap_setCell w ⟨T, 0, none⟩ v d1 t1).trans h1
 have e0 := (Below.heap_setCell w ⟨T, 0, none⟩ v d0 t0).trans h0
 have e8 := setCell_blk (o := 0) v h8
 generalize w.setCell ⟨T, 0, none⟩ v = X1 at *
 have f0 : (X1.putObj d1 (.deferred none)).heap[d0]? = some (.deferred (some [])) := (World.putObj_heap_other hne).trans e0
 have g8 : ((X1.putObj d1 (.deferred none)).putObj d0 (.deferred none)).heap[T]? = some (.cells (#[c0].setIfInBounds 0 v) ty) := (World.putObj_heap_other (Ne.symm t0)).trans ((World.putObj_heap_other (Ne.symm t1)).trans e8)
 refine ⟨by simp, .inl ⟨_, _, rfl, run_takeDeferred e1, by simp, .inl ⟨_, _, rfl, run_takeDeferred f0, ?_⟩⟩⟩
 exact ⟨v, hr _ ((box_facts g8).1 0), hR⟩
theorem leave2_below {w wf : World} {T d1 d0 : Nat} {v : Value} (h : Below w.heap.size w wf) (hT : w.heap.size ≤ T) (h1 : w.heap.size ≤ d1) (h0 : w.heap.size ≤ d0) : Below w.heap.size w (((wf.setCell ⟨T, 0, none⟩ v).putObj d1 (.deferred none)).putObj d0 (.deferred none)) :=
 ((((But.of_below (S := fun j => w.heap.size ≤ j) h).trans ((setCell_but wf T 0 v).mono fun j (hj : j = T) => by omega)).trans ((But.putObj _).mono fun j (hj : j = d1) => by omega)).trans ((But.putObj _).mono fun j (hj : j = d0) => by omega)).below (Nat.le_refl _) fun j hj => hj
attribute [local go_sem] seqNe28
attribute [local go_sem] Oper.semAt_some
set_option maxRecDepth 100000 in
set_option maxHeartbeats 16000000 in
theorem accountsLaw_c (a a2 : Option Addr) (cap cap2 : Nat) (PL : List Policy) (X0 : List EE) (now many : Int) (w : World) (hp : PolsAt w a PL) (hx : RowsXE w a2 X0) :
  Calls Tryz.prog 4 #[.slice a PL.length cap, .slice a2 X0.length cap2, .int .i64 now, .int .i64 many] w fun z w' => z = .returned (.bool true) ∧ Below w.heap.size w w' := by
 obtain ⟨W, hW⟩ : ∃ W, W = (w.alloc (.cells #[.int .i64 many] 3)).alloc (.cells #[.bool false] 4) := ⟨_, rfl⟩
 have hB : Below w.heap.size w W := by rw [hW]; exact below_new (below_new (Below.refl _ _) _) _
 have hsW : W.heap.size = w.heap.size + 2 := by rw [hW]; simp
 have h7 : W.heap[w.heap.size]? = some (.cells #[.int .i64 many] 3) := by rw [hW]; exact second_blk _ _ _
 have h8 : W.heap[w.heap.size + 1]? = some (.cells #[.bool false] 4) := by
  have := World.alloc_heap_new (w.alloc (.cells #[.int .i64 many] 3)) (.cells #[.bool false] 4)
  rw [World.size_alloc, ← hW] at this
  exact this
 have hxW : RowsXE W a2 X0 := ⟨hx.rows.later hB, fun x hx' => (hx.each x hx').later hB⟩
 have HX := Lib.hid (show Keeps (fun j => j = w.heap.size ∨ j = w.heap.size + 1) W (fun y => RowsXE y a2 X0) from fun y hy => by
  have hby : Below w.heap.size w y := ((But.of_below (S := fun _ => False) hB).past hy (fun j hj => by rcases hj with rfl | rfl <;> omega)).below (Nat.le_refl _) (fun _ hf => hf.elim)
  exact ⟨hx.rows.later hby, fun x hx' => (hx.each x hx').later hby⟩)
 have HF := Lib.hid (few_c a a2 cap cap2 PL X0 W (hp.later hB) hxW)
 have HP := Lib.hid (hp.later hB)
 have hl1 : PL.length ≤ 4294967000 := hp.1
 have hl2 : X0.length ≤ 4294967000 := hx.rows.1
 clear hp hx hxW
 refine (callsIn_wide (n := 0)).1 ?_
 refine callsIn_of_wp_marks Tryz.func4 rfl trivial ?_ rfl
 simp only [Tryz.ntmps4, List.size_toArray, List.length_cons, List.length_nil, Nat.reduceAdd, Nat.reduceSub, Array.replicate_succ, Array.replicate_zero, List.push_toArray, List.append_toArray, List.nil_append, List.cons_append]
 gi_wp2
 refine ⟨trivial, rfl, ?_⟩
 rw [← hW]
 refine (callsIn_wide.2 HF.out).mono ?_
 rintro z W1 ⟨hb1, bl, rfl, hbl⟩
 have h71 := still_blk hb1 h7
 have h81 := still_blk hb1 h8
 have hs1 := hb1.size
 clear h7 h8 hW HF
 cases bl
 case false =>
  dsimp only
  gi_wp2
  refine ⟨trivial, rfl, (callsIn_wide.2 (known_c W1)).mono ?_⟩
  rintro z W2 ⟨rfl, hb2⟩
  have h82 := still_blk hb2 h81
  obtain ⟨rc, rf, rr, rl⟩ := box_facts h82
  dsimp only
  gi_wp2
  have hset := setCell_blk (o := 0) (.bool true) h82
  have hcr : (W2.setCell ⟨w.heap.size + 1, 0, none⟩ (.bool true)).cell? ⟨w.heap.size + 1, 0, none⟩ = some (.bool true) := (box_facts hset).1 0
  exact ⟨.bool true, by simp [results, Tryz.f4, go_sem, hcr], rfl, (below_step (below_step hB hb1) hb2).setCell (by simp) _⟩
 obtain ⟨hl4, hl6⟩ := hbl rfl
 have HM := Lib.hid (made_c (fun j => j = w.heap.size ∨ j = w.heap.size + 1) a a2 cap cap2 PL X0 W1 (by rintro j (rfl | rfl) <;> omega) (HP.out.later hb1) (HX.out.later hb1) hl4 hl6)
 clear HP HX hbl
 dsimp only
 gi_wp2
 refine ⟨trivial, rfl, (callsIn_wide.2 HM.out).mono ?_⟩
 rintro z Wm ⟨b, n, e, p, es, ps, D, X, s, NL, E, P, rfl, hbm, hprog, href, hrel, hs0, hsm, hXn, hPn, hdb0⟩
 have h7m := still_blk hbm h71
 have h8m := still_blk hbm h81
 have hBm := below_step (below_step hB hb1) hbm
 have hsm' := hbm.size
 clear HM h71 h81
 dsimp only
 gi_wp2
 have hVB : Below Wm.heap.size Wm ((Wm.alloc (.cells (rdbC es ps D) 50)).alloc (.cells #[.slice none 0 0] 25)) := below_new (below_new (Below.refl _ _) _) _
 have h10 : ((Wm.alloc (.cells (rdbC es ps D) 50)).alloc (.cells #[.slice none 0 0] 25)).heap[Wm.heap.size]? = some (.cells (rdbC es ps D) 50) := second_blk _ _ _
 have h12 : ((Wm.alloc (.cells (rdbC es ps D) 50)).alloc (.cells #[.slice none 0 0] 25)).heap[Wm.heap.size + 1]? = some (.cells #[.slice none 0 0] 25) := by
  have := World.alloc_heap_new (Wm.alloc (.cells (rdbC es ps D) 50)) (.cells #[.slice none 0 0] 25)
  rwa [World.size_alloc] at this
 have hsV : ((Wm.alloc (.cells (rdbC es ps D) 50)).alloc (.cells #[.slice none 0 0] 25)).heap.size = Wm.heap.size + 2 := by simp
 generalize ((Wm.alloc (.cells (rdbC es ps D) 50)).alloc (.cells #[.slice none 0 0] 25)) = V at *
 obtain ⟨G, hG⟩ : ∃ G : Nat → Prop, G = fun j => (ofDb b n e p j ∨ (j = w.heap.size ∨ j = w.heap.size + 1)) ∨ Wm.heap.size ≤ j := ⟨_, rfl⟩
 have hrefV : RefAt G es ps D X V := href.wide hVB (by rw [hG]; exact fun j hj => hj)
 have hkeepV : ∀ x ∈ E, KeptE G V x := fun x hx => Keeps.wide (hprog.keep x hx) hVB (by
  rw [hG]
  rintro j ((hj | hj) | hj)
  ·exact .inl (.inl hj)
  ·exact .inl (.inr (by rcases hj with rfl | rfl <;> omega))
  ·exact .inr hj)
 have hdbV := hprog.db.later hVB
 have hdbm := hprog.lt
 have h7V := still_blk hVB h7m
 have h8V := still_blk hVB h8m
 have hBV := below_step hBm hVB
 have hgo : ∀ j, ofDb b n e p j → G j := fun j hj => by rw [hG]; exact .inl (.inl hj)
 have hg7 : G w.heap.size ∧ G (w.heap.size + 1) := by rw [hG]; exact ⟨.inl (.inr (.inl rfl)), .inl (.inr (.inr rfl))⟩
 have hgm : ∀ j, Wm.heap.size ≤ j → G j := fun j hj => by rw [hG]; exact .inr hj
 have hodb : ∀ j, ofDb b n e p j → w.heap.size + 2 ≤ j ∧ j < Wm.heap.size := fun j hj => ⟨by have := hdb0 j hj; omega, hdbm j hj⟩
 have hXl : X.length ≤ 10 := by omega
 have hDl : D.entries.length = X.length := by rw [hrel.eq]; simp
 have HREL := Lib.hid hrel
 have HREF := Lib.hid hrefV
 have HKE := Lib.hid hkeepV
 clear hVB hprog href hG hrel hrefV hkeepV h7m h8m hdbm hBm hbm
 by_cases hTX : isTime now = true ∨ X.length = 0
 ·gi_loopw [13] (fun iv wr => ∃ (k : Nat) (so : Sl), k ≤ X.length ∧ iv = .int .i64 k ∧ Hid (WantIs (Wm.heap.size + 1) V.heap.size so (lockT D.policies now (X.take k)) wr) ∧ Hid (But (one (Wm.heap.size + 1)) V wr)) (fun iv _ => X.length - (intOf iv).toNat)
  case atStart => exact ⟨0, ⟨Option.none, 0⟩, Nat.zero_le _, rfl, ⟨h12, Go.WW.Own.nil _ _ _ _⟩, But.refl _ _⟩
  case round =>
   obtain ⟨k, so, hk, rfl, hwa, hbu⟩ := hrel
   have hsr := hbu.out.size
   have h10r := (hbu.out.block Wm.heap.size (by omega) (not_one (by omega))).trans h10
   obtain ⟨tc, tf, tr, tl⟩ := box_facts h10r
   have hc10 : wr.cell? ⟨Wm.heap.size, 2, none⟩ = some (.slice es.a D.entries.length es.cap) := tc 2
   by_cases hlt : k < X.length
   ·have hki : (k : Int) < (D.entries.length : Int) := by omega
    have hT : isTime now = true := hTX.resolve_right (by omega)
    clear tc tf tr
    gi_wp2
    refine ⟨trivial, rfl, (callsIn_wide.2 (moment_c now wr)).mono ?_⟩
    rintro z w' ⟨rfl, rfl⟩
    rw [hT]
    dsimp only
    have hGr := hbu.out.mono (S' := G) (fun j (hj : j = _) => hgm j (by omega))
    have hrX := HREF.out.on hGr
    obtain ⟨bE, oE, cs, haE, hrE, x, hxk, hcs⟩ := hrX.ents.out.rows.2 k hlt
    have hxx : X[k] = x := by rw [List.getElem?_eq_getElem hlt] at hxk; exact Option.some.inj hxk
    have hxE := hrX.ents.out.each X[k] (List.getElem_mem hlt)
    have hxok := HREL.out.goodX.ok X[k].2 (List.mem_map.2 ⟨X[k], List.getElem_mem hlt, rfl⟩)
    have hxpo := HREL.out.has X[k] (List.getElem_mem hlt)
    have hsm := small_ref hxok hxpo HREL.out.pols.ok
    have HL := Lib.hid (show lockT D.policies now (X.take (k + 1)) = lockT D.policies now (X.take k) ++ (if lockedAt x.2 (polRef D.policies x.2) now = true then [(x.1.parts, x.2.name)] else []) by rw [take_snoc hxk]; exact lockT_snoc _ _ _ _ hT)
    have HPOL := Lib.hid (hrX.pols)
    rw [hxx] at hxE hsm
    subst hcs
    obtain ⟨r, d⟩ := x
    dsimp only at hxE hsm HL
    rw [show encX (r, d) = entC r d from rfl] at hrE
    have hbE : bE < wr.heap.size := row?_lt hrE
    have hr10 : row? wr Wm.heap.size 0 4 = some (rdbC es ps D) := by rw [row?_of_cells h10r]; exact subRow_whole (rdbC_size _ _ _)
    rw [haE] at hc10
    clear hxx hxok hxpo hxk
    gi_wp2
    refine (wpIn_wide (n := 0)).2 ?_
    refine wp_region_sinceN (Below.refl _ wr) (by kernel_rfl) (by kernel_rfl) ?_
    intro w1 hb1'
    repeat (first | (refine text_skip (by rfl) ?_) | (refine textN_look (by rfl) (by rfl) (fun K hK => ?_); go_big_quiet_op; refine hK _ ?_; clear hK K))
    refine textN_act (by rfl) (by rfl) (fun K hK => ?_)
    go_wp2_with fail
    refine (policyL_c es ps D r d w1 (HPOL.out.out.later hb1')).mono ?_
    rintro z w2 ⟨rfl, hb2⟩
    have hb2' := below_step hb1' hb2
    dsimp only
    refine hK _ _ (since_of hb2') ?_
    clear hK K
    repeat (first | (refine text_skip (by rfl) ?_) | (refine textN_look (by rfl) (by rfl) (fun K hK => ?_); go_big_quiet_op; refine hK _ ?_; clear hK K))
    refine textN_act (by rfl) (by rfl) (fun K hK => ?_)
    go_wp2_with fail
    refine (isLocked28_c r d (polRef D.policies d) now w2 hsm).mono ?_
    rintro z w3 ⟨rfl, hb3⟩
    have hb3' := below_step hb2' hb3
    dsimp only
    refine hK _ _ (since_of hb3') ?_
    clear hK K
    refine text_nil ?_
    have hw3 := hwa.out.later hb3'
    have hbu3 := hbu.out.trans (But.of_below hb3')
    have hs3 := hb3'.size
    cases hlk : lockedAt d (polRef D.policies d) now
    ·rw [hlk] at HL
     have HW3 := Lib.hid (show WantIs (Wm.heap.size + 1) V.heap.size so (lockT D.policies now (X.take (k + 1))) w3 by rw [HL.out]; simpa using hw3)
     gi_wp2
     go_roundw
     case rel => exact ⟨k + 1, so, by omega, by go_num, HW3.out, hbu3⟩
     case measure => simp [intOf]; omega
    ·rw [hlk] at HL
     have h10w := still_blk hb3' h10r
     have hrE3 : row? w3 bE (oE + k * 17) 17 = some (entC r d) := (row?_of_block (hb3'.block _ hbE) _ _).trans hrE
     have hrP3 : row? w3 bE (oE + k * 17) 2 = some (prinC r.parts d.name) := ent_name_row hrE3
     have hc103 : w3.cell? ⟨Wm.heap.size, 2, none⟩ = some (.slice (some ⟨bE, oE, none⟩) D.entries.length es.cap) := by rw [(box_facts h10w).1 2, rdbC_2, haE]
     obtain ⟨lc, lf, lr, ll⟩ := box_facts hw3.box
     have hcl : w3.cell? ⟨Wm.heap.size + 1, 0, none⟩ = some (.slice so.a (lockT D.policies now (X.take k)).length so.cap) := lc 0
     have hbE3 : bE < w3.heap.size := by omega
     have hl103 : Wm.heap.size < w3.heap.size := by omega
     have hTl : (lockT D.policies now (X.take k)).length ≤ 10 := by have h1 := lockT_len D.policies now (X.take k); simp at h1; omega
     have n1 := not_one (p := Wm.heap.size + 1) (k := Wm.heap.size) (by omega)
     have hbEg : ¬ one (Wm.heap.size + 1) bE := not_one fun e => by
      rw [e, row?_of_cells hw3.box] at hrE3
      unfold subRow at hrE3
      rw [if_neg (by simp)] at hrE3
      cases hrE3
     have hbEV : bE < V.heap.size := by
      obtain ⟨b', o', cs', ha', hr', -⟩ := HREF.out.ents.out.rows.2 k hlt
      rw [haE] at ha'; cases ha'
      exact row?_lt hr'
     have hS1 : ¬ so.blk = some bE := fun e => by have := (hw3.own.base e).1; omega
     have hS2 : ¬ so.blk = some Wm.heap.size := fun e => by have := (hw3.own.base e).1; omega
     have hS3 : ¬ so.blk = some (Wm.heap.size + 1) := fun e => by have := (hw3.own.base e).1; omega
     generalize lockT D.policies now (X.take k) = T at *
     have HW3 := Lib.hid hw3
     have HB3 := Lib.hid hbu3
     clear hr10 hc10 hrE hbE hwa hbu hw3 hbu3 h10r hb3 hb2 hb2' hb1' hb3' hrX
     gi_wp2
     refine (wpIn_wide (n := 0)).2 ?_
     have hal3 : Below w3.heap.size w3 (w3.drew.alloc (.cells (prinC r.parts d.name) 24)) := below_new (Below.refl w3.heap.size w3).drew _
     have HO := Lib.hid (HW3.out.own.kept (w' := w3.drew.alloc (.cells (prinC r.parts d.name) 24)) fun g hg => hal3.block g (HW3.out.own.base hg).2)
     have HS := Lib.hid (SrcRows.new w3.drew (prinC r.parts d.name) 24 2 (prinC_size _ _) (prinC_one _ _))
     have HV1 := Lib.hid (show V.heap.size ≤ (w3.drew.alloc (.cells (prinC r.parts d.name) 24)).heap.size by have := hal3.size; omega)
     refine wp_region_lastS (sinceB (fun j => so.blk = some j) w3) looksN (by kernel_rfl) (by kernel_rfl) (by kernel_rfl) ⟨⟨World.drew w3, (But.refl _ _).drew⟩, rfl⟩ ?_
     repeat (first | (refine text_skip (by rfl) ?_) | (refine textN_look (by rfl) (by rfl) (fun K hK => ?_); go_big_quiet_op; refine hK _ ?_; clear hK K))
     refine textN_act (by rfl) (by rfl) (fun K hK => ?_)
     go_wp2_with fail
     refine hK _ _ (sinceB_of (But.of_below hal3)) ?_
     clear hK K
     repeat (first | (refine text_skip (by rfl) ?_) | (refine textN_look (by rfl) (by rfl) (fun K hK => ?_); go_big_quiet_op; refine hK _ ?_; clear hK K))
     refine textN_act (by rfl) (by rfl) (fun K hK => ?_)
     refine wp_append_n (.tmp 60) (.tmp 67) _ rfl elemPrin2 (n := T.length) (s := so) (rows := T.map encP) (news := [prinC r.parts d.name]) rfl (by simp) HO.out rfl rfl HS.out (by rw [List.length_map]; simp; omega) HV1.out ?_
     intro s3 w4 hown3 hg3 hat3
     have hb34 : But (fun j => so.blk = some j) w3 w4 := (But.of_below hal3).trans ((grown_but hg3).mono fun j hj => hj)
     refine hK _ _ (sinceB_of hb34) ?_
     clear hK K
     refine text_nil ?_
     unfold lastK
     simp only [List.getLast?_cons_cons, List.getLast?_singleton]
     have hg12 : ¬ so.blk = some (Wm.heap.size + 1) := fun e => by have := (HW3.out.own.base e).1; omega
     obtain ⟨f1, f2, f3, f4⟩ := box_facts ((hb34.block (Wm.heap.size + 1) ll hg12).trans HW3.out.box)
     go_wp2_with fail
     have HW5 := Lib.hid (show WantIs (Wm.heap.size + 1) V.heap.size s3 (lockT D.policies now (X.take (k + 1))) (w4.setCell ⟨Wm.heap.size + 1, 0, none⟩ (.slice s3.a (T.length + 1) s3.cap)) by
      rw [HL.out]
      exact (HW3.out.later hal3).push (x := (r.parts, d.name)) (by omega) (by rw [List.map_append]; exact hown3) hg3)
     have HB5 := Lib.hid (show But (one (Wm.heap.size + 1)) V (w4.setCell ⟨Wm.heap.size + 1, 0, none⟩ (.slice s3.a (T.length + 1) s3.cap)) from
      (HB3.out.past hb34 (fun j hj => (HW3.out.own.base hj).1)).trans (setCell_but w4 _ _ _))
     gi_wp2
     go_roundw
     case rel => exact ⟨k + 1, s3, by omega, by go_num, HW5.out, HB5.out⟩
     case measure => simp [intOf]; omega
   ·obtain rfl : k = X.length := by omega
    have hnl : ¬ ((X.length : Int) < (D.entries.length : Int)) := by omega
    rw [List.take_length] at hwa
    clear tc tf tr
    gi_wp2
    have hGr := hbu.out.mono (S' := G) (fun j (hj : j = _) => hgm j (by omega))
    have hdbr := dbAt_same hdbV fun j hj => by
     have := hodb j hj
     exact hbu.out.block j (by omega) (not_one (by omega))
    have hEX : E.length = X.length := by have := HREL.out.perm.length_eq; simpa using this
    have hnd : (E.map nameX).Nodup := by
     have h1 := HREL.out.good.nodup
     rw [List.map_map] at h1
     have h2 : (E.map nameX).map textOf = E.map ((fun x : Entry => textOf x.name) ∘ fun x => x.2) := by rw [List.map_map]; rfl
     rw [← h2] at h1
     exact nodup_of_map h1
    have HAC := Lib.hid (accounts_c b n e p re82 s (strM NL) E P now wr hdbr re82_ne (by omega) hnd (fun x hx y hy => (HKE.out x hx).on hGr y (hy.mono hgo))
     (fun x hx => by
      have hm : x.2 ∈ E.map (fun y : EE => y.2) := List.mem_map.2 ⟨x, hx, rfl⟩
      refine ⟨HREL.out.good.ok _ hm, ?_⟩
      obtain ⟨y, hy, e'⟩ := List.mem_map.1 (HREL.out.perm.mem_iff.1 hm)
      have hh := HREL.out.has y hy
      rw [e'] at hh
      exact hh.imp id fun h => by rw [HREL.out.pols.any]; exact h) (fun q hq => HREL.out.pols.ok q (HREL.out.pols.perm.mem_iff.1 hq)))
    rename_i hKa
    refine ⟨trivial, hKa _ _ ?_⟩
    gi_wp2
    refine ⟨trivial, rfl, (callsIn_wide.2 HAC.out).mono ?_⟩
    rintro z w5 ⟨lb, sl, Y, T, rfl, hbF, hlbr, hlb5, hYp, hYs, hTn, hTd⟩
    have hTW : T.map (·.2) = (lockT D.policies now X).map (·.2) := hTn.trans (lock_names HREL.out.pols now ((hYp.map _).trans HREL.out.perm) hYs HREL.out.sorted)
    have hb5 : Below wr.heap.size wr w5 := hbF.below (Nat.le_refl _) fun _ hf => hf.elim
    have hs5 := hb5.size
    have hdb5 := hdbr.later hb5
    have hG5 := hGr.trans (But.of_below hb5)
    have hw5 := hwa.out.later hb5
    have h10r5 := still_blk hb5 h10r
    have HNM := Lib.hid hTW
    obtain ⟨mA, hmA⟩ : ∃ m, m = wr.heap.size := ⟨_, rfl⟩
    rw [← hmA] at hTd hlbr
    have HTD := Lib.hid hTd
    have HV5 := Lib.hid (hbu.out.trans (But.of_below (S := one (Wm.heap.size + 1)) hb5))
    have HG5 := Lib.hid hG5
    have HW5 := Lib.hid hw5
    have hTl : (lockT D.policies now X).length ≤ 10 := by have := lockT_len D.policies now X; omega
    have HTW := Lib.hid (show ∀ y, But G V y → ∀ x ∈ lockT D.policies now X, PrinAt y x.1 x.2 from fun y hy x hx => by
     unfold lockT at hx
     obtain ⟨z, hz, rfl⟩ := List.mem_map.1 hx
     exact ((HREF.out.ents y hy).each z (List.mem_filter.1 hz).1).name)
    have HOKT := Lib.hid (show ∀ x ∈ lockT D.policies now X, prinOk x.2 = true from fun x hx => by
     unfold lockT at hx
     obtain ⟨z, hz, rfl⟩ := List.mem_map.1 hx
     exact entryOk_nms (HREL.out.goodX.ok z.2 (List.mem_map.2 ⟨z, (List.mem_filter.1 hz).1, rfl⟩)) _ (List.mem_cons_self ..))
    generalize lockT D.policies now X = TW at *
    clear hnd HAC hbF hTn hYp hYs hTW hTd hG5 hw5 hGr hdbr hc10 tl
    dsimp only
    gi_wp2
    have hl10 : Wm.heap.size < w5.heap.size := by omega
    gi_loopw [15] (fun iv wr => ∃ (k : Nat) (s' : Int) (N' : List (ByteArray × Value)) (E' : List EE), k ≤ X.length ∧ iv = .int .i64 k ∧ Hid (But (ofDb b n e p) w5 wr) ∧ DbAt wr b n e p re82 s' N' E' P ∧ (∀ x ∈ E', x ∈ E) ∧ 0 ≤ s' ∧ s' ≤ s + k) (fun iv _ => X.length - (intOf iv).toNat)
    case atStart => exact ⟨0, s, _, E, Nat.zero_le _, rfl, But.refl _ _, hdb5, fun x hx => hx, hs0, by omega⟩
    case round =>
     obtain ⟨k, s', N', E', hk, rfl, hbu6, hdb6, hsub, hs0', hs1'⟩ := hrel
     have hs6 := hbu6.out.size
     have h106 := (hbu6.out.block Wm.heap.size hl10 (fun hj => by have := hodb _ hj; omega)).trans h10r5
     obtain ⟨tc6, tf6, tr6, tl6⟩ := box_facts h106
     have hc106 : wr.cell? ⟨Wm.heap.size, 2, none⟩ = some (.slice es.a D.entries.length es.cap) := tc6 2
     have hG6 := HG5.out.trans (hbu6.out.mono hgo)
     by_cases hlt : k < X.length
     ·have hki : (k : Int) < (D.entries.length : Int) := by omega
      have hrX := HREF.out.on hG6
      obtain ⟨bE, oE, cs, haE, hrE, x, hxk, hcs⟩ := hrX.ents.out.rows.2 k hlt
      have hxx : X[k] = x := by rw [List.getElem?_eq_getElem hlt] at hxk; exact Option.some.inj hxk
      have hxE := hrX.ents.out.each X[k] (List.getElem_mem hlt)
      have hxok := HREL.out.goodX.ok X[k].2 (List.mem_map.2 ⟨X[k], List.getElem_mem hlt, rfl⟩)
      rw [hxx] at hxE hxok
      subst hcs
      obtain ⟨r, d⟩ := x
      dsimp only at hxE hxok
      rw [show encX (r, d) = entC r d from rfl] at hrE
      have hrP : row? wr bE (oE + k * 17) 2 = some (prinC r.parts d.name) := ent_name_row hrE
      have hbE : bE < wr.heap.size := row?_lt hrE
      have HRM := Lib.hid (dremove_c b n e p re82 s' N' E' P r.parts d.name wr hdb6 re82_ne hxE.name (entryOk_nms hxok _ (List.mem_cons_self ..)) (fun x hx => ⟨fun y hy => (HKE.out x (hsub x hx)).on hG6 y (hy.mono hgo), fun q hq => entryOk_nms (HREL.out.good.ok x.2 (List.mem_map.2 ⟨x, hsub x hx, rfl⟩)) q hq⟩) hs0' (by omega))
      rw [haE] at hc106
      clear tc6 tf6 tr6 hrE hxk hxx hrX hxE hxok
      gi_wp2
      refine ⟨trivial, rfl, (callsIn_wide.2 HRM.out).mono ?_⟩
      rintro z w7 ⟨c, s2, N2, E2, rfl, hb7, hdb7, hsub7, h0, h1⟩
      have HB7 := Lib.hid (hbu6.out.trans hb7)
      dsimp only
      gi_wp2
      go_roundw
      case rel => exact ⟨k + 1, s2, N2, E2, by omega, by go_num, HB7.out, hdb7, fun x hx => hsub x (hsub7 x hx), h0, by omega⟩
      case measure => simp [intOf]; omega
     ·obtain rfl : k = X.length := by omega
      have hnl6 : ¬ ((X.length : Int) < (D.entries.length : Int)) := by omega
      clear tc6 tf6 tr6
      gi_wp2
      have hV6 : But (fun j => j = Wm.heap.size + 1 ∨ ofDb b n e p j) V wr := (HV5.out.mono fun j (hj : j = _) => .inl hj).trans (hbu6.out.mono fun j hj => .inr hj)
      have hob : ∀ j, Wm.heap.size ≤ j → ¬ ofDb b n e p j := fun j hj hd => by have := hodb j hd; omega
      have h76 := (hV6.block w.heap.size (by omega) (fun hj => by
       rcases hj with hj | hj
       ·omega
       ·have := hodb _ hj; omega)).trans h7V
      have h86 := (hV6.block (w.heap.size + 1) (by omega) (fun hj => by
       rcases hj with hj | hj
       ·omega
       ·have := hodb _ hj; omega)).trans h8V
      have hB6 : Below w.heap.size w wr := ((But.of_below (S := fun _ => False) hBV).past hV6 (fun j hj => by
       rcases hj with hj | hj
       ·omega
       ·have := hodb _ hj; omega)).below (Nat.le_refl _) (fun _ hf => hf.elim)
      have hw6 : WantIs (Wm.heap.size + 1) V.heap.size so TW wr := HW5.out.kept (hbu6.out.block _ (Array.getElem?_eq_some_iff.1 HW5.out.box).1 (hob _ (by omega))) fun j h1 h2 => hbu6.out.block j h2 (hob j (by omega))
      have hlb6 := (hbu6.out.block lb (Array.getElem?_eq_some_iff.1 hlb5).1 (hob lb (by omega))).trans hlb5
      have hTr : ∀ y, Below wr.heap.size wr y → RowsPP y sl.a T := fun y hy => HTD.out y fun j hj => (hy.block j (by have := hj.2; omega)).trans (hbu6.out.block j hj.2 (hob j (by have := hj.1; omega)))
      have hTWp : ∀ y, Below wr.heap.size wr y → ∀ x ∈ TW, PrinAt y x.1 x.2 := fun y hy => HTW.out y (hG6.trans (But.of_below hy))
      have hlen : T.length = TW.length := by have := congrArg List.length HNM.out; simpa using this
      have h12w : Wm.heap.size + 1 < wr.heap.size := (Array.getElem?_eq_some_iff.1 hw6.box).1
      have hw2w : w.heap.size + 1 < wr.heap.size := by omega
      have hlbw : lb < wr.heap.size := (Array.getElem?_eq_some_iff.1 hlb6).1
      have HTR := Lib.hid hTr
      have HTP := Lib.hid hTWp
      have HW6 := Lib.hid hw6
      have hW7 : Below wr.heap.size wr (wr.alloc (.cells #[.int .i64 0] 3)) := below_new (Below.refl _ _) _
      have h167 := World.alloc_heap_new wr (.cells #[.int .i64 0] 3)
      generalize (wr.alloc (.cells #[.int .i64 0] 3)) = wa at *
      clear HV5 hV6 hob h7V h8V hTr hTWp hw6 HW5 HTD hbu6 hdb6 hsub hG6 HG5 h106 hc106 hdbV HKE HREF h10 h12 hBV hdb5 h10r h10r5 hlb5 hb5
      refine wpIn_loop_rounds 3 ?_
      rw [roundsIn_succ]
      obtain ⟨qc, qf, qr, ql⟩ := box_facts h167
      gi_wp2
      have hW8 := below_new hW7 (.cells #[.int .i64 0] 3)
      have h178 := World.alloc_heap_new wa (.cells #[.int .i64 0] 3)
      have h168 := (Below.heap_alloc wa (.cells #[.int .i64 0] 3) _ (Array.getElem?_eq_some_iff.1 h167).1).trans h167
      have hs8 : (wa.alloc (.cells #[.int .i64 0] 3)).heap.size = wa.heap.size + 1 := by simp
      have hM7 := hW7.size
      have l16 := (Array.getElem?_eq_some_iff.1 h167).1
      have h78 : ∀ (j : Nat) (ob : Obj), wa.heap[j]? = some ob → (wa.alloc (.cells #[.int .i64 0] 3)).heap[j]? = some ob ∧ j < wa.heap.size := fun j ob h => ⟨(Below.heap_alloc wa _ j (Array.getElem?_eq_some_iff.1 h).1).trans h, (Array.getElem?_eq_some_iff.1 h).1⟩
      generalize (wa.alloc (.cells #[.int .i64 0] 3)) = w8 at *
      obtain ⟨B17, hB17⟩ : ∃ B, B = wa.heap.size := ⟨_, rfl⟩
      rw [← hB17] at h178 hs8 hM7 l16 h78 ⊢
      clear hB17
      have hclb : w8.cell? ⟨lb, 0, none⟩ = some (.slice sl.a T.length sl.cap) := (box_facts (still_blk hW8 hlb6)).1 0
      try clear qc qf qr ql
      refine (wpIn_wide (n := 0)).2 ?_
      refine wp_range_but (gf := 44) (lb := #[.pointer (some ⟨lb, 0, none⟩)]) (by simp [go_sem]) (enters_of Tryz.func44 (by kernel_rfl) rfl) (S := one B17) ?_ (xs := T.zipIdx) (V := VA) ?_ (accounts1_seq lb sl.cap sl.a T (one B17) w8 hclb (by omega) ?_)
       (fun c1 k Wc => Wc.heap[B17]? = some (.cells #[.int .i64 (k : Int)] 3) ∧ But (Off (one B17) w8) w8 Wc ∧ w8.heap.size < c1 ∧ (0 < k → (k : Int) < many))
       (fun c c1 _ Wc => c = .exit 6 ∧ ∃ k : Nat, 0 < k ∧ k ≤ T.length ∧ Wc.heap[B17]? = some (.cells #[.int .i64 (k : Int)] 3) ∧ But (Off (one B17) w8) w8 Wc ∧ w8.heap.size < c1 ∧ many ≤ (k : Int) ∧ (1 < k → (k : Int) - 1 < many)) ?_ ?_ ?_ ?_ ?_ ?_
      ·rintro k (rfl : k = _); omega
      ·rintro c1 x v W0 Wc ⟨s', rfl, _⟩; rfl
      ·intro y hy
       refine HTR.out y ?_
       refine ((But.of_below (S := fun _ => False) hW8).past hy (fun j hj => ?_)).below (Nat.le_refl _) (fun _ hf => hf.elim)
       rcases hj with (hj : j = _) | hj <;> omega
      ·intro c1 Wc h1 h2 hb
       exact ⟨still_blk hb h178, But.of_below hb, h1, by simp⟩
      ·rintro c1 k Wc Wc' ⟨h1, h2, h3, h4⟩ hb
       exact ⟨(hb.block _ (Array.getElem?_eq_some_iff.1 h1).1 (fun hj => by have := hj.1; omega)).trans h1, h2.trans (hb.mono fun j hj => .inr hj.1), h3, h4⟩
      ·rintro c c1 k' Wc Wc' ⟨h0, k, hk0, hk1, h1, h2, h3, h4⟩ hb
       exact ⟨h0, k, hk0, hk1, (hb.block _ (Array.getElem?_eq_some_iff.1 h1).1 (fun hj => by have := hj.1; omega)).trans h1, h2.trans (hb.mono fun j hj => .inr hj.1), h3, h4⟩
      ·rintro c1 k x v W0 Wc hx ⟨s', rfl, hown⟩ ⟨hk0, hbu0, hc0, hmk⟩ hbs hc1 hc20
       have hsW := hbs.size
       obtain ⟨⟨s0, q⟩, ix⟩ := x
       have hxk : T[k]? = some (s0, q) ∧ ix = k := by
        rw [List.getElem?_zipIdx] at hx
        cases hy : T[k]? with
        | none => rw [hy] at hx; simp at hx
        | some y => rw [hy] at hx; simp at hx; exact ⟨by rw [hx.1], hx.2.symm⟩
       obtain ⟨hxk, rfl⟩ := hxk
       have hkT : ix < T.length := (List.getElem?_eq_some_iff.1 hxk).1
       have hkW : ix < TW.length := by omega
       have hTWq : TW[ix].2 = q := by
        have := congrArg (fun l => l[ix]?) HNM.out
        simp only [List.getElem?_map, hxk, Option.map_some, List.getElem?_eq_getElem hkW] at this
        exact (Option.some.inj this).symm
       obtain ⟨g, hga, hgb, hgr⟩ := HW6.out.own.row ix (by simpa using hkW)
       have hgw := (HW6.out.own.base hgb)
       simp only [List.getElem_map] at hgr
       have HOW := Lib.hid hown
       clear hx hown
       dsimp only at HOW ⊢
       gi_wp2
       have hal : Below Wc.heap.size Wc (Wc.alloc (.cells (prinC s' q) 24)) := (Below.refl _ _).alloc (Nat.le_refl _) _
       refine ⟨hal, fun U hU => ?_⟩
       have hUk : ∀ j, j < Wc.heap.size → j ≠ w8.heap.size + 1 → U.heap[j]? = Wc.heap[j]? := fun j hj hn => (hU.block j (by simp; omega) (not_one hn)).trans (hal.block j hj)
       have hUn : U.heap[Wc.heap.size]? = some (.cells (prinC s' q) 24) := (hU.block _ (by simp) (not_one (by omega))).trans (World.alloc_heap_new _ _)
       have hUs : Wc.heap.size < U.heap.size := (Array.getElem?_eq_some_iff.1 hUn).1
       have hl17 : B17 < Wc.heap.size := by omega
       have hWc17 := (hbs.block B17 (by omega) (fun hj => by have := hj.1; omega)).trans hk0
       have hU17 := (hUk B17 hl17 (by omega)).trans hWc17
       have hbU : But (Off (one B17) w8) w8 U := ((hbu0.trans (hbs.mono fun j hj => (.inr hj.1 : Off (one B17) w8 j))).trans (But.of_below hal)).trans (hU.mono fun j (hj : j = _) => .inr (by omega))
       have hyU : Below wr.heap.size wr U := ((But.of_below (S := fun _ => False) hW8).past hbU (fun j hj => by
        rcases hj with (hj : j = _) | hj <;> omega)).below (Nat.le_refl _) (fun _ hf => hf.elim)
       have hU16 := (hbU.block _ (by omega) (fun hj => by
        rcases hj with (hj : _ = _) | hj <;> omega)).trans h168
       have hU7 := still_blk hyU h76
       have hU12 := still_blk hyU HW6.out.box
       have hUw : row? U g (0 + ix * 2) 2 = some (prinC TW[ix].1 TW[ix].2) := (row?_of_block (hyU.block g hgw.2) _ _).trans hgr
       have hpU : PrinAt U s' q := HOW.out.1 U fun j hj => hUk j hj.2 (by have := hj.1; omega)
       have hpT : PrinAt U TW[ix].1 TW[ix].2 := HTP.out U hyU _ (List.getElem_mem hkW)
       rw [hTWq] at hUw hpT
       rw [Nat.zero_add] at hUw
       have hopU : s'.a = Option.none ∨ ∃ g', s'.a = some ⟨g', 0, none⟩ ∧ W0.heap.size ≤ g' ∧ g' < Wc.heap.size ∧ Go.WW.Open U g' q.parts.length := HOW.out.2.imp id fun ⟨g', h1, h2, h3⟩ => by
        have hlt : g' < Wc.heap.size := by obtain ⟨c, t, h, _⟩ := h3; exact (Array.getElem?_eq_some_iff.1 h).1
        exact ⟨g', h1, h2, hlt, h3.at (hUk g' hlt (by omega))⟩
       obtain ⟨c17, f17, r17, m17⟩ := box_facts hU17
       obtain ⟨c16, f16, r16, m16⟩ := box_facts hU16
       obtain ⟨c12, f12, r12, m12⟩ := box_facts hU12
       obtain ⟨c7, f7, r7, m7⟩ := box_facts hU7
       have hrn : row? U Wc.heap.size 0 2 = some (prinC s' q) := by rw [row?_of_cells hUn]; exact subRow_whole (prinC_size _ _)
       have hc17 : U.cell? ⟨B17, 0, none⟩ = some (.int .i64 (ix : Int)) := c17 0
       have hc12 : U.cell? ⟨Wm.heap.size + 1, 0, none⟩ = some (.slice (some ⟨g, 0, none⟩) TW.length so.cap) := by rw [← hga]; exact c12 0
       have hgU : g < U.heap.size := by omega
       have hkl : (ix : Int) < (TW.length : Int) := by omega
       have hkl' : ¬ ((TW.length : Int) ≤ (ix : Int)) := by omega
       have hkne : ((ix : Int) != (ix : Int)) = false := by simp
       have hkd : decide ((TW.length : Int) ≤ (ix : Int)) = false := by simp; omega
       have hkd2 : decide (TW.length ≤ ix) = false := by simp; omega
       clear hal hU hUk hbs hbu0 hk0 hWc17 hgr c12 c17
       gi_wp2
       refine TI.wpIn_region_sinceB (fun _ => False) (But.refl _ U) (by kernel_rfl) (by kernel_rfl) (by kernel_rfl) ?_
       repeat (first | (refine TI.text_skip (by rfl) ?_) | (refine TI.text_look (by rfl) (by rfl) (fun K hK => ?_); go_big_quiet_op; refine hK _ ?_; clear hK K))
       refine TI.text_act (by rfl) (by rfl) (by rfl) (fun K hK => ?_)
       go_wp2_with fail
       have hqq : samePrin q q = true := by simp [samePrin]
       refine (samePrincipal_c s' TW[ix].1 q q _ (hpU.later (Below.refl _ U).drew) (hpT.later (Below.refl _ U).drew)).mono ?_
       rintro z U2 ⟨rfl, hb2'⟩
       rw [hqq]
       dsimp only
       have hbb : Below U.heap.size U U2 := (Below.refl _ U).drew.trans hb2'
       refine hK _ _ (sinceB_of (But.of_below hbb)) ?_
       clear hK K
       repeat (first | (refine TI.text_skip (by rfl) ?_) | (refine TI.text_look (by rfl) (by rfl) (fun K hK => ?_); go_big_quiet_op; refine hK _ ?_; clear hK K))
       refine TI.text_nil ?_
       have hU2n := still_blk hbb hUn
       have hU217 := still_blk hbb hU17
       have hU216 := still_blk hbb hU16
       have hU27 := still_blk hbb hU7
       have hs2' := hbb.size
       have hop2 : s'.a = Option.none ∨ ∃ g', s'.a = some ⟨g', 0, none⟩ ∧ W0.heap.size ≤ g' ∧ g' < Wc.heap.size ∧ Go.WW.Open U2 g' q.parts.length := hopU.imp id fun ⟨g', h1, h2, h3, h4⟩ => ⟨g', h1, h2, h3, h4.at (hbb.block g' (by omega))⟩
       have hne : s'.a = Option.none → q.parts.length = 0 := fun h => by have := hpU.1; rw [h] at this; exact CellsAt.none this
       have hgof : ∀ j, s'.a = some ⟨j, 0, none⟩ → W0.heap.size ≤ j ∧ j < Wc.heap.size := fun j hj => by
        rcases hop2 with h | ⟨g', h1, h2, h3, -⟩
        ·rw [h] at hj; cases hj
        ·rw [h1] at hj; cases hj; exact ⟨h2, h3⟩
       have hqlen : q.parts.length ≤ 4294967000 := hpU.1.1
       have hbU2 := hbU.trans (But.of_below hbb)
       have HNE := Lib.hid hne
       have HGO := Lib.hid hgof
       have HOP := Lib.hid hop2
       clear hUn hU17 hU16 hU7 hU12 hUw hpU hpT hopU c16 f16 r16 m16 f12 r12 m12 f17 r17 c7 f7 r7 m7 hrn hc17 hc12 hkne hb2' hne hgof hop2 hTWq hqq
       gi_wp2
       gi_loopw [20] (fun cv wr => ∃ c : Nat, c ≤ q.parts.length ∧ cv = .int .i64 c ∧ Hid (But (fun j => s'.a = some ⟨j, 0, none⟩) U2 wr) ∧ Hid (∀ g', s'.a = some ⟨g', 0, none⟩ → Go.WW.Open wr g' q.parts.length)) (fun cv _ => q.parts.length - (intOf cv).toNat)
       case atStart => exact ⟨0, Nat.zero_le _, rfl, But.refl _ _, fun g' h => by
        rcases HOP.out with h0 | ⟨g2, h1, -, -, h4⟩
        ·rw [h0] at h; cases h
        ·rw [h1] at h; cases h; exact h4⟩
       case round =>
        obtain ⟨c, hc, rfl, hbi, hop⟩ := hrel
        have hsi := hbi.out.size
        have hwn := (hbi.out.block _ (by omega) (fun h => by have := HGO.out _ h; omega)).trans hU2n
        have hw17 := (hbi.out.block _ (by omega) (fun h => by have := HGO.out _ h; omega)).trans hU217
        obtain ⟨nc, nf, nr, nl⟩ := box_facts hwn
        have hcn : wr.cell? ⟨Wc.heap.size, 0, none⟩ = some (.slice s'.a q.parts.length s'.cap) := nc 0
        by_cases hlt : c < q.parts.length
        ·have hci : (c : Int) < (q.parts.length : Int) := by omega
         rcases HOP.out with h0 | ⟨g', hg', hge1, hge2, -⟩
         ·have := HNE.out h0; omega
         ·obtain ⟨cs, ty, hcs, hle⟩ := hop.out g' hg'
          obtain ⟨gc, gf, gr, gl⟩ := box_facts hcs
          have hcl : c < cs.size := by omega
          have hgc : wr.cell? ⟨g', c, none⟩ = some cs[c] := by rw [gc c]; simp [hcl]
          rw [hg'] at hcn
          have HB9 := Lib.hid (fun (v : Value) => hbi.out.trans ((setCell_but wr g' c v).mono (S' := fun j => s'.a = some ⟨j, 0, none⟩) fun j (hj : j = g') => by rw [hj]; exact hg'))
          have HO9 := Lib.hid (fun (v : Value) => (show Go.WW.Open (wr.setCell ⟨g', c, none⟩ v) g' q.parts.length from ⟨_, ty, setCell_blk (o := c) v hcs, by simpa using hle⟩))
          clear nc nr gc gr hcs hop
          gi_wp2
          go_roundw
          case rel => exact ⟨c + 1, by omega, by go_num, HB9.out _, fun g2 h2 => by rw [hg'] at h2; cases h2; exact HO9.out _⟩
          case measure => simp [intOf]; omega
        ·obtain rfl : c = q.parts.length := by omega
         have hnl9 : ¬ ((q.parts.length : Int) < (q.parts.length : Int)) := by omega
         have hw16 := (hbi.out.block _ (by omega) (fun h => by have := HGO.out _ h; omega)).trans hU216
         have hw7' := (hbi.out.block _ (by omega) (fun h => by have := HGO.out _ h; omega)).trans hU27
         obtain ⟨e17, f17, r17, m17⟩ := box_facts hw17
         obtain ⟨e16, f16, r16, m16⟩ := box_facts hw16
         obtain ⟨e7, f7, r7, m7⟩ := box_facts hw7'
         have hset := setCell_blk (o := 0) (.int .i64 ((ix : Int) + 1)) hw17
         have hX17 : (wr.setCell ⟨B17, 0, none⟩ (.int .i64 ((ix : Int) + 1))).heap[B17]? = some (.cells #[.int .i64 ((ix + 1 : Nat) : Int)] 3) := by
          rw [show ((ix + 1 : Nat) : Int) = (ix : Int) + 1 by omega]
          simpa using hset
         have hxc := (box_facts hset).1 0
         have hxc' : (wr.setCell ⟨B17, 0, none⟩ (.int .i64 ((ix : Int) + 1))).cell? ⟨B17, 0, none⟩ = some (.int .i64 ((ix : Int) + 1)) := by simpa using hxc
         have hUX : But (fun j => one B17 j ∨ c1 ≤ j) U (wr.setCell ⟨B17, 0, none⟩ (.int .i64 ((ix : Int) + 1))) := ((But.of_below hbb).trans (hbi.out.mono fun j hj => .inr (by have := HGO.out j hj; omega))).trans ((setCell_but wr B17 0 _).mono fun j hj => .inl hj)
         have hbX : But (Off (one B17) w8) w8 (wr.setCell ⟨B17, 0, none⟩ (.int .i64 ((ix : Int) + 1))) := (hbU2.trans (hbi.out.mono fun j hj => .inr (by have := HGO.out j hj; omega))).trans ((setCell_but wr B17 0 _).mono fun j hj => .inl hj)
         have HUX := Lib.hid hUX
         have HBX := Lib.hid hbX
         have HX17 := Lib.hid hX17
         clear nc nf nr hset hxc hUX hbX hX17 hop
         by_cases hm : many ≤ (ix : Int) + 1
         ·gi_wp2
          exact ⟨HUX.out, rfl, ix + 1, by omega, by omega, HX17.out, HBX.out, by omega, by omega, fun h1 => by have := hmk (by omega); omega⟩
         ·gi_wp2
          exact ⟨HUX.out, HX17.out, HBX.out, by omega, fun _ => by omega⟩
      ·rintro c1 Wc ⟨hk17, hbW, hcW, hmk⟩ hD
       rw [show T.zipIdx.length = T.length by simp] at hk17 hmk
       have hyW : Below wr.heap.size wr Wc := ((But.of_below (S := fun _ => False) hW8).past hbW (fun j hj => by
        rcases hj with (hj : j = _) | hj <;> omega)).below (Nat.le_refl _) (fun _ hf => hf.elim)
       have hkeep : ∀ (j : Nat) (ob : Obj), wa.heap[j]? = some ob → Wc.heap[j]? = some ob ∧ j < B17 := fun j ob h => by
        obtain ⟨h1, h2⟩ := h78 j ob h
        exact ⟨(hbW.block j (by omega) (fun hj => by rcases hj with (hj : j = _) | hj <;> omega)).trans h1, h2⟩
       have hW16 := (hkeep _ _ h167).1
       have hW7' := still_blk hyW h76
       have hW12 := still_blk hyW HW6.out.box
       rw [hlen] at hk17
       have hmin : min (TW.length : Int) (max 1 many) = (TW.length : Int) := by
        rw [hlen] at hmk
        omega
       clear hmk
       have HLN := Lib.hid hlen
       have HYW := Lib.hid hyW
       have HKP := Lib.hid hkeep
       have HDD := Lib.hid hD
       have hDl := (Array.getElem?_eq_some_iff.1 hD).1
       clear hlen hclb hbW hyW hkeep h78 hD
       have t17 : Wc.cell? ⟨B17, 0, none⟩ = some (.int .i64 (TW.length : Int)) := (box_facts hk17).1 0
       have t16 : Wc.cell? ⟨wr.heap.size, 0, none⟩ = some (.int .i64 0) := (box_facts hW16).1 0
       have t7 : Wc.cell? ⟨w.heap.size, 0, none⟩ = some (.int .i64 many) := (box_facts hW7').1 0
       have t12 : Wc.cell? ⟨Wm.heap.size + 1, 0, none⟩ = some (.slice so.a TW.length so.cap) := (box_facts hW12).1 0
       gi_wp2
       have hWn := below_new HYW.out (.cells #[.int .i64 1] 3)
       have h16n := World.alloc_heap_new Wc (.cells #[.int .i64 1] 3)
       have hDnew0 := (Below.heap_alloc Wc (.cells #[.int .i64 1] 3) _ hDl).trans HDD.out
       rw [hs8] at hDnew0
       have hDge0 : wr.heap.size < B17 + 1 := by omega
       have hold : ∀ (j : Nat) (ob : Obj), wa.heap[j]? = some ob → (Wc.alloc (.cells #[.int .i64 1] 3)).heap[j]? = some ob ∧ j < B17 := fun j ob h => ⟨(Below.heap_alloc Wc _ j (Array.getElem?_eq_some_iff.1 (HKP.out j ob h).1).1).trans (HKP.out j ob h).1, (HKP.out j ob h).2⟩
       have HOLD := Lib.hid hold
       have hlen := HLN.out
       clear t17 t16 t7 t12 hW16 hW7' hW12 hk17 hmin hold
       generalize (Wc.alloc (.cells #[.int .i64 1] 3)) = wc at *
       generalize Wc.heap.size = B16n at *
       rw [roundsIn_succ]
       obtain ⟨qc, qf, qr, ql⟩ := box_facts h16n
       gi_wp2
       have hW8 := below_new hWn (.cells #[.int .i64 0] 3)
       have h178 := World.alloc_heap_new wc (.cells #[.int .i64 0] 3)
       have h168 := (Below.heap_alloc wc (.cells #[.int .i64 0] 3) _ (Array.getElem?_eq_some_iff.1 h16n).1).trans h16n
       have hs8 : (wc.alloc (.cells #[.int .i64 0] 3)).heap.size = wc.heap.size + 1 := by simp
       have hM7 := hWn.size
       have l16 := (Array.getElem?_eq_some_iff.1 h16n).1
       have h78 : ∀ (j : Nat) (ob : Obj), wc.heap[j]? = some ob → (wc.alloc (.cells #[.int .i64 0] 3)).heap[j]? = some ob ∧ j < wc.heap.size := fun j ob h => ⟨(Below.heap_alloc wc _ j (Array.getElem?_eq_some_iff.1 h).1).trans h, (Array.getElem?_eq_some_iff.1 h).1⟩
       generalize (wc.alloc (.cells #[.int .i64 0] 3)) = w8 at *
       obtain ⟨B17, hB17⟩ : ∃ B, B = wc.heap.size := ⟨_, rfl⟩
       rw [← hB17] at h178 hs8 hM7 l16 h78 ⊢
       clear hB17
       have hclb : w8.cell? ⟨lb, 0, none⟩ = some (.slice sl.a T.length sl.cap) := (box_facts (still_blk hW8 hlb6)).1 0
       try clear qc qf qr ql
       refine (wpIn_wide (n := 0)).2 ?_
       refine wp_range_but (gf := 44) (lb := #[.pointer (some ⟨lb, 0, none⟩)]) (by simp [go_sem]) (enters_of Tryz.func44 (by kernel_rfl) rfl) (S := one B17) ?_ (xs := T.zipIdx) (V := VA) ?_ (accounts1_seq lb sl.cap sl.a T (one B17) w8 hclb (by omega) ?_)
        (fun c1 k Wc => Wc.heap[B17]? = some (.cells #[.int .i64 (k : Int)] 3) ∧ But (Off (one B17) w8) w8 Wc ∧ w8.heap.size < c1 ∧ True)
        (fun _ _ _ _ => False) ?_ ?_ ?_ ?_ ?_ ?_
       ·rintro k (rfl : k = _); omega
       ·rintro c1 x v W0 Wc ⟨s', rfl, _⟩; rfl
       ·intro y hy
        refine HTR.out y ?_
        refine ((But.of_below (S := fun _ => False) hW8).past hy (fun j hj => ?_)).below (Nat.le_refl _) (fun _ hf => hf.elim)
        rcases hj with (hj : j = _) | hj <;> omega
       ·intro c1 Wc h1 h2 hb
        exact ⟨still_blk hb h178, But.of_below hb, h1, by simp⟩
       ·rintro c1 k Wc Wc' ⟨h1, h2, h3, h4⟩ hb
        exact ⟨(hb.block _ (Array.getElem?_eq_some_iff.1 h1).1 (fun hj => by have := hj.1; omega)).trans h1, h2.trans (hb.mono fun j hj => .inr hj.1), h3, h4⟩
       ·rintro c c1 k' Wc Wc' hf hb
        exact hf.elim
       ·rintro c1 k x v W0 Wc hx ⟨s', rfl, hown⟩ ⟨hk0, hbu0, hc0, hmk⟩ hbs hc1 hc20
        have hsW := hbs.size
        obtain ⟨⟨s0, q⟩, ix⟩ := x
        have hxk : T[k]? = some (s0, q) ∧ ix = k := by
         rw [List.getElem?_zipIdx] at hx
         cases hy : T[k]? with
         | none => rw [hy] at hx; simp at hx
         | some y => rw [hy] at hx; simp at hx; exact ⟨by rw [hx.1], hx.2.symm⟩
        obtain ⟨hxk, rfl⟩ := hxk
        have hkT : ix < T.length := (List.getElem?_eq_some_iff.1 hxk).1
        have hkW : ix < TW.length := by omega
        have hTWq : TW[ix].2 = q := by
         have := congrArg (fun l => l[ix]?) HNM.out
         simp only [List.getElem?_map, hxk, Option.map_some, List.getElem?_eq_getElem hkW] at this
         exact (Option.some.inj this).symm
        obtain ⟨g, hga, hgb, hgr⟩ := HW6.out.own.row ix (by simpa using hkW)
        have hgw := (HW6.out.own.base hgb)
        simp only [List.getElem_map] at hgr
        have HOW := Lib.hid hown
        clear hx hown
        dsimp only at HOW ⊢
        gi_wp2
        have hal : Below Wc.heap.size Wc (Wc.alloc (.cells (prinC s' q) 24)) := (Below.refl _ _).alloc (Nat.le_refl _) _
        refine ⟨hal, fun U hU => ?_⟩
        have hUk : ∀ j, j < Wc.heap.size → j ≠ w8.heap.size + 1 → U.heap[j]? = Wc.heap[j]? := fun j hj hn => (hU.block j (by simp; omega) (not_one hn)).trans (hal.block j hj)
        have hUn : U.heap[Wc.heap.size]? = some (.cells (prinC s' q) 24) := (hU.block _ (by simp) (not_one (by omega))).trans (World.alloc_heap_new _ _)
        have hUs : Wc.heap.size < U.heap.size := (Array.getElem?_eq_some_iff.1 hUn).1
        have hl17 : B17 < Wc.heap.size := by omega
        have hWc17 := (hbs.block B17 (by omega) (fun hj => by have := hj.1; omega)).trans hk0
        have hU17 := (hUk B17 hl17 (by omega)).trans hWc17
        have hbU : But (Off (one B17) w8) w8 U := ((hbu0.trans (hbs.mono fun j hj => (.inr hj.1 : Off (one B17) w8 j))).trans (But.of_below hal)).trans (hU.mono fun j (hj : j = _) => .inr (by omega))
        have hyU : Below wr.heap.size wr U := ((But.of_below (S := fun _ => False) hW8).past hbU (fun j hj => by
         rcases hj with (hj : j = _) | hj <;> omega)).below (Nat.le_refl _) (fun _ hf => hf.elim)
        have hU16 := (hbU.block _ (by omega) (fun hj => by
         rcases hj with (hj : _ = _) | hj <;> omega)).trans h168
        have hU7 := still_blk hyU h76
        have hU12 := still_blk hyU HW6.out.box
        have hUw : row? U g (0 + ix * 2) 2 = some (prinC TW[ix].1 TW[ix].2) := (row?_of_block (hyU.block g hgw.2) _ _).trans hgr
        have hpU : PrinAt U s' q := HOW.out.1 U fun j hj => hUk j hj.2 (by have := hj.1; omega)
        have hpT : PrinAt U TW[ix].1 TW[ix].2 := HTP.out U hyU _ (List.getElem_mem hkW)
        rw [hTWq] at hUw hpT
        rw [Nat.zero_add] at hUw
        have hopU : s'.a = Option.none ∨ ∃ g', s'.a = some ⟨g', 0, none⟩ ∧ W0.heap.size ≤ g' ∧ g' < Wc.heap.size ∧ Go.WW.Open U g' q.parts.length := HOW.out.2.imp id fun ⟨g', h1, h2, h3⟩ => by
         have hlt : g' < Wc.heap.size := by obtain ⟨c, t, h, _⟩ := h3; exact (Array.getElem?_eq_some_iff.1 h).1
         exact ⟨g', h1, h2, hlt, h3.at (hUk g' hlt (by omega))⟩
        obtain ⟨c17, f17, r17, m17⟩ := box_facts hU17
        obtain ⟨c16, f16, r16, m16⟩ := box_facts hU16
        obtain ⟨c12, f12, r12, m12⟩ := box_facts hU12
        obtain ⟨c7, f7, r7, m7⟩ := box_facts hU7
        have hrn : row? U Wc.heap.size 0 2 = some (prinC s' q) := by rw [row?_of_cells hUn]; exact subRow_whole (prinC_size _ _)
        have hc17 : U.cell? ⟨B17, 0, none⟩ = some (.int .i64 (ix : Int)) := c17 0
        have hc12 : U.cell? ⟨Wm.heap.size + 1, 0, none⟩ = some (.slice (some ⟨g, 0, none⟩) TW.length so.cap) := by rw [← hga]; exact c12 0
        have hgU : g < U.heap.size := by omega
        have hkl : (ix : Int) < (TW.length : Int) := by omega
        have hkl' : ¬ ((TW.length : Int) ≤ (ix : Int)) := by omega
        have hkne : ((ix : Int) != (ix : Int)) = false := by simp
        have hkd : decide ((TW.length : Int) ≤ (ix : Int)) = false := by simp; omega
        have hkd2 : decide (TW.length ≤ ix) = false := by simp; omega
        clear hal hU hUk hbs hbu0 hk0 hWc17 hgr c12 c17
        gi_wp2
        refine TI.wpIn_region_sinceB (fun _ => False) (But.refl _ U) (by kernel_rfl) (by kernel_rfl) (by kernel_rfl) ?_
        repeat (first | (refine TI.text_skip (by rfl) ?_) | (refine TI.text_look (by rfl) (by rfl) (fun K hK => ?_); go_big_quiet_op; refine hK _ ?_; clear hK K))
        refine TI.text_act (by rfl) (by rfl) (by rfl) (fun K hK => ?_)
        go_wp2_with fail
        have hqq : samePrin q q = true := by simp [samePrin]
        refine (samePrincipal_c s' TW[ix].1 q q _ (hpU.later (Below.refl _ U).drew) (hpT.later (Below.refl _ U).drew)).mono ?_
        rintro z U2 ⟨rfl, hb2'⟩
        rw [hqq]
        dsimp only
        have hbb : Below U.heap.size U U2 := (Below.refl _ U).drew.trans hb2'
        refine hK _ _ (sinceB_of (But.of_below hbb)) ?_
        clear hK K
        repeat (first | (refine TI.text_skip (by rfl) ?_) | (refine TI.text_look (by rfl) (by rfl) (fun K hK => ?_); go_big_quiet_op; refine hK _ ?_; clear hK K))
        refine TI.text_nil ?_
        have hU2n := still_blk hbb hUn
        have hU217 := still_blk hbb hU17
        have hU216 := still_blk hbb hU16
        have hU27 := still_blk hbb hU7
        have hs2' := hbb.size
        have hop2 : s'.a = Option.none ∨ ∃ g', s'.a = some ⟨g', 0, none⟩ ∧ W0.heap.size ≤ g' ∧ g' < Wc.heap.size ∧ Go.WW.Open U2 g' q.parts.length := hopU.imp id fun ⟨g', h1, h2, h3, h4⟩ => ⟨g', h1, h2, h3, h4.at (hbb.block g' (by omega))⟩
        have hne : s'.a = Option.none → q.parts.length = 0 := fun h => by have := hpU.1; rw [h] at this; exact CellsAt.none this
        have hgof : ∀ j, s'.a = some ⟨j, 0, none⟩ → W0.heap.size ≤ j ∧ j < Wc.heap.size := fun j hj => by
         rcases hop2 with h | ⟨g', h1, h2, h3, -⟩
         ·rw [h] at hj; cases hj
         ·rw [h1] at hj; cases hj; exact ⟨h2, h3⟩
        have hqlen : q.parts.length ≤ 4294967000 := hpU.1.1
        have hbU2 := hbU.trans (But.of_below hbb)
        have HNE := Lib.hid hne
        have HGO := Lib.hid hgof
        have HOP := Lib.hid hop2
        clear hUn hU17 hU16 hU7 hU12 hUw hpU hpT hopU c16 f16 r16 m16 f12 r12 m12 f17 r17 c7 f7 r7 m7 hrn hc17 hc12 hkne hb2' hne hgof hop2 hTWq hqq
        gi_wp2
        gi_loopw [20] (fun cv wr => ∃ c : Nat, c ≤ q.parts.length ∧ cv = .int .i64 c ∧ Hid (But (fun j => s'.a = some ⟨j, 0, none⟩) U2 wr) ∧ Hid (∀ g', s'.a = some ⟨g', 0, none⟩ → Go.WW.Open wr g' q.parts.length)) (fun cv _ => q.parts.length - (intOf cv).toNat)
        case atStart => exact ⟨0, Nat.zero_le _, rfl, But.refl _ _, fun g' h => by
         rcases HOP.out with h0 | ⟨g2, h1, -, -, h4⟩
         ·rw [h0] at h; cases h
         ·rw [h1] at h; cases h; exact h4⟩
        case round =>
         obtain ⟨c, hc, rfl, hbi, hop⟩ := hrel
         have hsi := hbi.out.size
         have hwn := (hbi.out.block _ (by omega) (fun h => by have := HGO.out _ h; omega)).trans hU2n
         have hw17 := (hbi.out.block _ (by omega) (fun h => by have := HGO.out _ h; omega)).trans hU217
         obtain ⟨nc, nf, nr, nl⟩ := box_facts hwn
         have hcn : wr.cell? ⟨Wc.heap.size, 0, none⟩ = some (.slice s'.a q.parts.length s'.cap) := nc 0
         by_cases hlt : c < q.parts.length
         ·have hci : (c : Int) < (q.parts.length : Int) := by omega
          rcases HOP.out with h0 | ⟨g', hg', hge1, hge2, -⟩
          ·have := HNE.out h0; omega
          ·obtain ⟨cs, ty, hcs, hle⟩ := hop.out g' hg'
           obtain ⟨gc, gf, gr, gl⟩ := box_facts hcs
           have hcl : c < cs.size := by omega
           have hgc : wr.cell? ⟨g', c, none⟩ = some cs[c] := by rw [gc c]; simp [hcl]
           rw [hg'] at hcn
           have HB9 := Lib.hid (fun (v : Value) => hbi.out.trans ((setCell_but wr g' c v).mono (S' := fun j => s'.a = some ⟨j, 0, none⟩) fun j (hj : j = g') => by rw [hj]; exact hg'))
           have HO9 := Lib.hid (fun (v : Value) => (show Go.WW.Open (wr.setCell ⟨g', c, none⟩ v) g' q.parts.length from ⟨_, ty, setCell_blk (o := c) v hcs, by simpa using hle⟩))
           clear nc nr gc gr hcs hop
           gi_wp2
           go_roundw
           case rel => exact ⟨c + 1, by omega, by go_num, HB9.out _, fun g2 h2 => by rw [hg'] at h2; cases h2; exact HO9.out _⟩
           case measure => simp [intOf]; omega
         ·obtain rfl : c = q.parts.length := by omega
          have hnl9 : ¬ ((q.parts.length : Int) < (q.parts.length : Int)) := by omega
          have hw16 := (hbi.out.block _ (by omega) (fun h => by have := HGO.out _ h; omega)).trans hU216
          have hw7' := (hbi.out.block _ (by omega) (fun h => by have := HGO.out _ h; omega)).trans hU27
          obtain ⟨e17, f17, r17, m17⟩ := box_facts hw17
          obtain ⟨e16, f16, r16, m16⟩ := box_facts hw16
          obtain ⟨e7, f7, r7, m7⟩ := box_facts hw7'
          have hset := setCell_blk (o := 0) (.int .i64 ((ix : Int) + 1)) hw17
          have hX17 : (wr.setCell ⟨B17, 0, none⟩ (.int .i64 ((ix : Int) + 1))).heap[B17]? = some (.cells #[.int .i64 ((ix + 1 : Nat) : Int)] 3) := by
           rw [show ((ix + 1 : Nat) : Int) = (ix : Int) + 1 by omega]
           simpa using hset
          have hxc := (box_facts hset).1 0
          have hxc' : (wr.setCell ⟨B17, 0, none⟩ (.int .i64 ((ix : Int) + 1))).cell? ⟨B17, 0, none⟩ = some (.int .i64 ((ix : Int) + 1)) := by simpa using hxc
          have hUX : But (fun j => one B17 j ∨ c1 ≤ j) U (wr.setCell ⟨B17, 0, none⟩ (.int .i64 ((ix : Int) + 1))) := ((But.of_below hbb).trans (hbi.out.mono fun j hj => .inr (by have := HGO.out j hj; omega))).trans ((setCell_but wr B17 0 _).mono fun j hj => .inl hj)
          have hbX : But (Off (one B17) w8) w8 (wr.setCell ⟨B17, 0, none⟩ (.int .i64 ((ix : Int) + 1))) := (hbU2.trans (hbi.out.mono fun j hj => .inr (by have := HGO.out j hj; omega))).trans ((setCell_but wr B17 0 _).mono fun j hj => .inl hj)
          have HUX := Lib.hid hUX
          have HBX := Lib.hid hbX
          have HX17 := Lib.hid hX17
          clear nc nf nr hset hxc hUX hbX hX17 hop
          gi_wp2
          first | exact ⟨HUX.out, HX17.out, HBX.out, by omega, trivial⟩ | exact ⟨HUX.out, HX17.out, HBX.out, by omega⟩
       ·rintro c1 Wc ⟨hk17, hbW, hcW, hmk⟩ hD
        rw [show T.zipIdx.length = T.length by simp] at hk17
        have hyW : Below wr.heap.size wr Wc := ((But.of_below (S := fun _ => False) hW8).past hbW (fun j hj => by
         rcases hj with (hj : j = _) | hj <;> omega)).below (Nat.le_refl _) (fun _ hf => hf.elim)
        have hkeep : ∀ (j : Nat) (ob : Obj), wc.heap[j]? = some ob → Wc.heap[j]? = some ob ∧ j < B17 := fun j ob h => by
         obtain ⟨h1, h2⟩ := h78 j ob h
         exact ⟨(hbW.block j (by omega) (fun hj => by rcases hj with (hj : j = _) | hj <;> omega)).trans h1, h2⟩
        have hW16 := (hkeep _ _ h16n).1
        have hW7' := still_blk hyW h76
        have hW12 := still_blk hyW HW6.out.box
        rw [hlen] at hk17
        have hmin : True := by
         trivial
        clear hmk
        have HLN := Lib.hid hlen
        have HYW := Lib.hid hyW
        have HKP := Lib.hid hkeep
        have HDD := Lib.hid hD
        have hDl := (Array.getElem?_eq_some_iff.1 hD).1
        clear hlen hclb hbW hyW hkeep h78 hD
        have t17 : Wc.cell? ⟨B17, 0, none⟩ = some (.int .i64 (TW.length : Int)) := (box_facts hk17).1 0
        have t16 : Wc.cell? ⟨B16n, 0, none⟩ = some (.int .i64 1) := (box_facts hW16).1 0
        have t7 : Wc.cell? ⟨w.heap.size, 0, none⟩ = some (.int .i64 many) := (box_facts hW7').1 0
        have t12 : Wc.cell? ⟨Wm.heap.size + 1, 0, none⟩ = some (.slice so.a TW.length so.cap) := (box_facts hW12).1 0
        gi_wp2
        have hWn := below_new HYW.out (.cells #[.int .i64 2] 3)
        have h16n := World.alloc_heap_new Wc (.cells #[.int .i64 2] 3)
        have hDnew1 := (Below.heap_alloc Wc (.cells #[.int .i64 2] 3) _ hDl).trans HDD.out
        rw [hs8] at hDnew1
        have hDge1 : wr.heap.size < B17 + 1 := by omega
        have hold : ∀ (j : Nat) (ob : Obj), wc.heap[j]? = some ob → (Wc.alloc (.cells #[.int .i64 2] 3)).heap[j]? = some ob ∧ j < B17 := fun j ob h => ⟨(Below.heap_alloc Wc _ j (Array.getElem?_eq_some_iff.1 (HKP.out j ob h).1).1).trans (HKP.out j ob h).1, (HKP.out j ob h).2⟩
        have HOLD := Lib.hid hold
        have hlen := HLN.out
        clear t17 t16 t7 t12 hW16 hW7' hW12 hk17 hmin hold
        generalize (Wc.alloc (.cells #[.int .i64 2] 3)) = we at *
        generalize Wc.heap.size = B16n at *
        rw [roundsIn_succ]
        obtain ⟨qc, qf, qr, ql⟩ := box_facts h16n
        gi_wp2
        refine ⟨trivial, rfl, (callsIn_wide.2 (known_c we)).mono ?_⟩
        rintro z wf ⟨rfl, hbf⟩
        have h8f := still_blk hbf (still_blk hWn h86)
        have hd1 := still_blk hbf hDnew1
        obtain ⟨hd0', hd0l⟩ := HOLD.out _ _ hDnew0
        have hd0 := still_blk hbf hd0'
        obtain ⟨rc, rf, rr, rl⟩ := box_facts h8f
        have hBf := below_step (below_step hB6 hWn) hbf
        clear qc qf qr ql hDnew0 hDnew1 hd0'
        dsimp only
        gi_wp2
        refine leave2 (v := .bool true) (T := w.heap.size + 1) hd1 hd0 h8f (by omega) (by have := hDge0; omega) (by have := hDge0; omega) (fun X hX => by simp [results, Tryz.f4, go_sem, hX]) ⟨rfl, ?_⟩
        exact leave2_below hBf (by omega) (by omega) (by have := hDge0; omega)
       ·rintro c c1 k' Wc hf hD
        exact hf.elim
      ·rintro c c1 k' Wc ⟨rfl, k, hk0, hkl, hk17, hbW, hcW, hma, hmb⟩ hD
       have hyW : Below wr.heap.size wr Wc := ((But.of_below (S := fun _ => False) hW8).past hbW (fun j hj => by
        rcases hj with (hj : j = _) | hj <;> omega)).below (Nat.le_refl _) (fun _ hf => hf.elim)
       have hkeep : ∀ (j : Nat) (ob : Obj), wa.heap[j]? = some ob → Wc.heap[j]? = some ob ∧ j < B17 := fun j ob h => by
        obtain ⟨h1, h2⟩ := h78 j ob h
        exact ⟨(hbW.block j (by omega) (fun hj => by rcases hj with (hj : j = _) | hj <;> omega)).trans h1, h2⟩
       have hW16 := (hkeep _ _ h167).1
       have hW7' := still_blk hyW h76
       have hW12 := still_blk hyW HW6.out.box
       rw [hlen] at hkl
       have hmin : min (TW.length : Int) (max 1 many) = (k : Int) := by omega
       clear hma hmb
       have HLN := Lib.hid hlen
       have HYW := Lib.hid hyW
       have HKP := Lib.hid hkeep
       have HDD := Lib.hid hD
       have hDl := (Array.getElem?_eq_some_iff.1 hD).1
       clear hlen hclb hbW hyW hkeep h78 hD
       have t17 : Wc.cell? ⟨B17, 0, none⟩ = some (.int .i64 (k : Int)) := (box_facts hk17).1 0
       have t16 : Wc.cell? ⟨wr.heap.size, 0, none⟩ = some (.int .i64 0) := (box_facts hW16).1 0
       have t7 : Wc.cell? ⟨w.heap.size, 0, none⟩ = some (.int .i64 many) := (box_facts hW7').1 0
       have t12 : Wc.cell? ⟨Wm.heap.size + 1, 0, none⟩ = some (.slice so.a TW.length so.cap) := (box_facts hW12).1 0
       refine (wpIn_wide (n := 0)).1 ?_
       gi_wp2
       have hWn := below_new HYW.out (.cells #[.int .i64 1] 3)
       have h16n := World.alloc_heap_new Wc (.cells #[.int .i64 1] 3)
       have hDnew0 := (Below.heap_alloc Wc (.cells #[.int .i64 1] 3) _ hDl).trans HDD.out
       rw [hs8] at hDnew0
       have hDge0 : wr.heap.size < B17 + 1 := by omega
       have hold : ∀ (j : Nat) (ob : Obj), wa.heap[j]? = some ob → (Wc.alloc (.cells #[.int .i64 1] 3)).heap[j]? = some ob ∧ j < B17 := fun j ob h => ⟨(Below.heap_alloc Wc _ j (Array.getElem?_eq_some_iff.1 (HKP.out j ob h).1).1).trans (HKP.out j ob h).1, (HKP.out j ob h).2⟩
       have HOLD := Lib.hid hold
       have hlen := HLN.out
       clear t17 t16 t7 t12 hW16 hW7' hW12 hk17 hmin hold
       generalize (Wc.alloc (.cells #[.int .i64 1] 3)) = wc at *
       generalize Wc.heap.size = B16n at *
       rw [roundsIn_succ]
       obtain ⟨qc, qf, qr, ql⟩ := box_facts h16n
       gi_wp2
       have hW8 := below_new hWn (.cells #[.int .i64 0] 3)
       have h178 := World.alloc_heap_new wc (.cells #[.int .i64 0] 3)
       have h168 := (Below.heap_alloc wc (.cells #[.int .i64 0] 3) _ (Array.getElem?_eq_some_iff.1 h16n).1).trans h16n
       have hs8 : (wc.alloc (.cells #[.int .i64 0] 3)).heap.size = wc.heap.size + 1 := by simp
       have hM7 := hWn.size
       have l16 := (Array.getElem?_eq_some_iff.1 h16n).1
       have h78 : ∀ (j : Nat) (ob : Obj), wc.heap[j]? = some ob → (wc.alloc (.cells #[.int .i64 0] 3)).heap[j]? = some ob ∧ j < wc.heap.size := fun j ob h => ⟨(Below.heap_alloc wc _ j (Array.getElem?_eq_some_iff.1 h).1).trans h, (Array.getElem?_eq_some_iff.1 h).1⟩
       generalize (wc.alloc (.cells #[.int .i64 0] 3)) = w8 at *
       obtain ⟨B17, hB17⟩ : ∃ B, B = wc.heap.size := ⟨_, rfl⟩
       rw [← hB17] at h178 hs8 hM7 l16 h78 ⊢
       clear hB17
       have hclb : w8.cell? ⟨lb, 0, none⟩ = some (.slice sl.a T.length sl.cap) := (box_facts (still_blk hW8 hlb6)).1 0
       try clear qc qf qr ql
       refine (wpIn_wide (n := 0)).2 ?_
       refine wp_range_but (gf := 44) (lb := #[.pointer (some ⟨lb, 0, none⟩)]) (by simp [go_sem]) (enters_of Tryz.func44 (by kernel_rfl) rfl) (S := one B17) ?_ (xs := T.zipIdx) (V := VA) ?_ (accounts1_seq lb sl.cap sl.a T (one B17) w8 hclb (by omega) ?_)
        (fun c1 k Wc => Wc.heap[B17]? = some (.cells #[.int .i64 (k : Int)] 3) ∧ But (Off (one B17) w8) w8 Wc ∧ w8.heap.size < c1 ∧ True)
        (fun _ _ _ _ => False) ?_ ?_ ?_ ?_ ?_ ?_
       ·rintro k (rfl : k = _); omega
       ·rintro c1 x v W0 Wc ⟨s', rfl, _⟩; rfl
       ·intro y hy
        refine HTR.out y ?_
        refine ((But.of_below (S := fun _ => False) hW8).past hy (fun j hj => ?_)).below (Nat.le_refl _) (fun _ hf => hf.elim)
        rcases hj with (hj : j = _) | hj <;> omega
       ·intro c1 Wc h1 h2 hb
        exact ⟨still_blk hb h178, But.of_below hb, h1, by simp⟩
       ·rintro c1 k Wc Wc' ⟨h1, h2, h3, h4⟩ hb
        exact ⟨(hb.block _ (Array.getElem?_eq_some_iff.1 h1).1 (fun hj => by have := hj.1; omega)).trans h1, h2.trans (hb.mono fun j hj => .inr hj.1), h3, h4⟩
       ·rintro c c1 k' Wc Wc' hf hb
        exact hf.elim
       ·rintro c1 k x v W0 Wc hx ⟨s', rfl, hown⟩ ⟨hk0, hbu0, hc0, hmk⟩ hbs hc1 hc20
        have hsW := hbs.size
        obtain ⟨⟨s0, q⟩, ix⟩ := x
        have hxk : T[k]? = some (s0, q) ∧ ix = k := by
         rw [List.getElem?_zipIdx] at hx
         cases hy : T[k]? with
         | none => rw [hy] at hx; simp at hx
         | some y => rw [hy] at hx; simp at hx; exact ⟨by rw [hx.1], hx.2.symm⟩
        obtain ⟨hxk, rfl⟩ := hxk
        have hkT : ix < T.length := (List.getElem?_eq_some_iff.1 hxk).1
        have hkW : ix < TW.length := by omega
        have hTWq : TW[ix].2 = q := by
         have := congrArg (fun l => l[ix]?) HNM.out
         simp only [List.getElem?_map, hxk, Option.map_some, List.getElem?_eq_getElem hkW] at this
         exact (Option.some.inj this).symm
        obtain ⟨g, hga, hgb, hgr⟩ := HW6.out.own.row ix (by simpa using hkW)
        have hgw := (HW6.out.own.base hgb)
        simp only [List.getElem_map] at hgr
        have HOW := Lib.hid hown
        clear hx hown
        dsimp only at HOW ⊢
        gi_wp2
        have hal : Below Wc.heap.size Wc (Wc.alloc (.cells (prinC s' q) 24)) := (Below.refl _ _).alloc (Nat.le_refl _) _
        refine ⟨hal, fun U hU => ?_⟩
        have hUk : ∀ j, j < Wc.heap.size → j ≠ w8.heap.size + 1 → U.heap[j]? = Wc.heap[j]? := fun j hj hn => (hU.block j (by simp; omega) (not_one hn)).trans (hal.block j hj)
        have hUn : U.heap[Wc.heap.size]? = some (.cells (prinC s' q) 24) := (hU.block _ (by simp) (not_one (by omega))).trans (World.alloc_heap_new _ _)
        have hUs : Wc.heap.size < U.heap.size := (Array.getElem?_eq_some_iff.1 hUn).1
        have hl17 : B17 < Wc.heap.size := by omega
        have hWc17 := (hbs.block B17 (by omega) (fun hj => by have := hj.1; omega)).trans hk0
        have hU17 := (hUk B17 hl17 (by omega)).trans hWc17
        have hbU : But (Off (one B17) w8) w8 U := ((hbu0.trans (hbs.mono fun j hj => (.inr hj.1 : Off (one B17) w8 j))).trans (But.of_below hal)).trans (hU.mono fun j (hj : j = _) => .inr (by omega))
        have hyU : Below wr.heap.size wr U := ((But.of_below (S := fun _ => False) hW8).past hbU (fun j hj => by
         rcases hj with (hj : j = _) | hj <;> omega)).below (Nat.le_refl _) (fun _ hf => hf.elim)
        have hU16 := (hbU.block _ (by omega) (fun hj => by
         rcases hj with (hj : _ = _) | hj <;> omega)).trans h168
        have hU7 := still_blk hyU h76
        have hU12 := still_blk hyU HW6.out.box
        have hUw : row? U g (0 + ix * 2) 2 = some (prinC TW[ix].1 TW[ix].2) := (row?_of_block (hyU.block g hgw.2) _ _).trans hgr
        have hpU : PrinAt U s' q := HOW.out.1 U fun j hj => hUk j hj.2 (by have := hj.1; omega)
        have hpT : PrinAt U TW[ix].1 TW[ix].2 := HTP.out U hyU _ (List.getElem_mem hkW)
        rw [hTWq] at hUw hpT
        rw [Nat.zero_add] at hUw
        have hopU : s'.a = Option.none ∨ ∃ g', s'.a = some ⟨g', 0, none⟩ ∧ W0.heap.size ≤ g' ∧ g' < Wc.heap.size ∧ Go.WW.Open U g' q.parts.length := HOW.out.2.imp id fun ⟨g', h1, h2, h3⟩ => by
         have hlt : g' < Wc.heap.size := by obtain ⟨c, t, h, _⟩ := h3; exact (Array.getElem?_eq_some_iff.1 h).1
         exact ⟨g', h1, h2, hlt, h3.at (hUk g' hlt (by omega))⟩
        obtain ⟨c17, f17, r17, m17⟩ := box_facts hU17
        obtain ⟨c16, f16, r16, m16⟩ := box_facts hU16
        obtain ⟨c12, f12, r12, m12⟩ := box_facts hU12
        obtain ⟨c7, f7, r7, m7⟩ := box_facts hU7
        have hrn : row? U Wc.heap.size 0 2 = some (prinC s' q) := by rw [row?_of_cells hUn]; exact subRow_whole (prinC_size _ _)
        have hc17 : U.cell? ⟨B17, 0, none⟩ = some (.int .i64 (ix : Int)) := c17 0
        have hc12 : U.cell? ⟨Wm.heap.size + 1, 0, none⟩ = some (.slice (some ⟨g, 0, none⟩) TW.length so.cap) := by rw [← hga]; exact c12 0
        have hgU : g < U.heap.size := by omega
        have hkl : (ix : Int) < (TW.length : Int) := by omega
        have hkl' : ¬ ((TW.length : Int) ≤ (ix : Int)) := by omega
        have hkne : ((ix : Int) != (ix : Int)) = false := by simp
        have hkd : decide ((TW.length : Int) ≤ (ix : Int)) = false := by simp; omega
        have hkd2 : decide (TW.length ≤ ix) = false := by simp; omega
        clear hal hU hUk hbs hbu0 hk0 hWc17 hgr c12 c17
        gi_wp2
        refine TI.wpIn_region_sinceB (fun _ => False) (But.refl _ U) (by kernel_rfl) (by kernel_rfl) (by kernel_rfl) ?_
        repeat (first | (refine TI.text_skip (by rfl) ?_) | (refine TI.text_look (by rfl) (by rfl) (fun K hK => ?_); go_big_quiet_op; refine hK _ ?_; clear hK K))
        refine TI.text_act (by rfl) (by rfl) (by rfl) (fun K hK => ?_)
        go_wp2_with fail
        have hqq : samePrin q q = true := by simp [samePrin]
        refine (samePrincipal_c s' TW[ix].1 q q _ (hpU.later (Below.refl _ U).drew) (hpT.later (Below.refl _ U).drew)).mono ?_
        rintro z U2 ⟨rfl, hb2'⟩
        rw [hqq]
        dsimp only
        have hbb : Below U.heap.size U U2 := (Below.refl _ U).drew.trans hb2'
        refine hK _ _ (sinceB_of (But.of_below hbb)) ?_
        clear hK K
        repeat (first | (refine TI.text_skip (by rfl) ?_) | (refine TI.text_look (by rfl) (by rfl) (fun K hK => ?_); go_big_quiet_op; refine hK _ ?_; clear hK K))
        refine TI.text_nil ?_
        have hU2n := still_blk hbb hUn
        have hU217 := still_blk hbb hU17
        have hU216 := still_blk hbb hU16
        have hU27 := still_blk hbb hU7
        have hs2' := hbb.size
        have hop2 : s'.a = Option.none ∨ ∃ g', s'.a = some ⟨g', 0, none⟩ ∧ W0.heap.size ≤ g' ∧ g' < Wc.heap.size ∧ Go.WW.Open U2 g' q.parts.length := hopU.imp id fun ⟨g', h1, h2, h3, h4⟩ => ⟨g', h1, h2, h3, h4.at (hbb.block g' (by omega))⟩
        have hne : s'.a = Option.none → q.parts.length = 0 := fun h => by have := hpU.1; rw [h] at this; exact CellsAt.none this
        have hgof : ∀ j, s'.a = some ⟨j, 0, none⟩ → W0.heap.size ≤ j ∧ j < Wc.heap.size := fun j hj => by
         rcases hop2 with h | ⟨g', h1, h2, h3, -⟩
         ·rw [h] at hj; cases hj
         ·rw [h1] at hj; cases hj; exact ⟨h2, h3⟩
        have hqlen : q.parts.length ≤ 4294967000 := hpU.1.1
        have hbU2 := hbU.trans (But.of_below hbb)
        have HNE := Lib.hid hne
        have HGO := Lib.hid hgof
        have HOP := Lib.hid hop2
        clear hUn hU17 hU16 hU7 hU12 hUw hpU hpT hopU c16 f16 r16 m16 f12 r12 m12 f17 r17 c7 f7 r7 m7 hrn hc17 hc12 hkne hb2' hne hgof hop2 hTWq hqq
        gi_wp2
        gi_loopw [20] (fun cv wr => ∃ c : Nat, c ≤ q.parts.length ∧ cv = .int .i64 c ∧ Hid (But (fun j => s'.a = some ⟨j, 0, none⟩) U2 wr) ∧ Hid (∀ g', s'.a = some ⟨g', 0, none⟩ → Go.WW.Open wr g' q.parts.length)) (fun cv _ => q.parts.length - (intOf cv).toNat)
        case atStart => exact ⟨0, Nat.zero_le _, rfl, But.refl _ _, fun g' h => by
         rcases HOP.out with h0 | ⟨g2, h1, -, -, h4⟩
         ·rw [h0] at h; cases h
         ·rw [h1] at h; cases h; exact h4⟩
        case round =>
         obtain ⟨c, hc, rfl, hbi, hop⟩ := hrel
         have hsi := hbi.out.size
         have hwn := (hbi.out.block _ (by omega) (fun h => by have := HGO.out _ h; omega)).trans hU2n
         have hw17 := (hbi.out.block _ (by omega) (fun h => by have := HGO.out _ h; omega)).trans hU217
         obtain ⟨nc, nf, nr, nl⟩ := box_facts hwn
         have hcn : wr.cell? ⟨Wc.heap.size, 0, none⟩ = some (.slice s'.a q.parts.length s'.cap) := nc 0
         by_cases hlt : c < q.parts.length
         ·have hci : (c : Int) < (q.parts.length : Int) := by omega
          rcases HOP.out with h0 | ⟨g', hg', hge1, hge2, -⟩
          ·have := HNE.out h0; omega
          ·obtain ⟨cs, ty, hcs, hle⟩ := hop.out g' hg'
           obtain ⟨gc, gf, gr, gl⟩ := box_facts hcs
           have hcl : c < cs.size := by omega
           have hgc : wr.cell? ⟨g', c, none⟩ = some cs[c] := by rw [gc c]; simp [hcl]
           rw [hg'] at hcn
           have HB9 := Lib.hid (fun (v : Value) => hbi.out.trans ((setCell_but wr g' c v).mono (S' := fun j => s'.a = some ⟨j, 0, none⟩) fun j (hj : j = g') => by rw [hj]; exact hg'))
           have HO9 := Lib.hid (fun (v : Value) => (show Go.WW.Open (wr.setCell ⟨g', c, none⟩ v) g' q.parts.length from ⟨_, ty, setCell_blk (o := c) v hcs, by simpa using hle⟩))
           clear nc nr gc gr hcs hop
           gi_wp2
           go_roundw
           case rel => exact ⟨c + 1, by omega, by go_num, HB9.out _, fun g2 h2 => by rw [hg'] at h2; cases h2; exact HO9.out _⟩
           case measure => simp [intOf]; omega
         ·obtain rfl : c = q.parts.length := by omega
          have hnl9 : ¬ ((q.parts.length : Int) < (q.parts.length : Int)) := by omega
          have hw16 := (hbi.out.block _ (by omega) (fun h => by have := HGO.out _ h; omega)).trans hU216
          have hw7' := (hbi.out.block _ (by omega) (fun h => by have := HGO.out _ h; omega)).trans hU27
          obtain ⟨e17, f17, r17, m17⟩ := box_facts hw17
          obtain ⟨e16, f16, r16, m16⟩ := box_facts hw16
          obtain ⟨e7, f7, r7, m7⟩ := box_facts hw7'
          have hset := setCell_blk (o := 0) (.int .i64 ((ix : Int) + 1)) hw17
          have hX17 : (wr.setCell ⟨B17, 0, none⟩ (.int .i64 ((ix : Int) + 1))).heap[B17]? = some (.cells #[.int .i64 ((ix + 1 : Nat) : Int)] 3) := by
           rw [show ((ix + 1 : Nat) : Int) = (ix : Int) + 1 by omega]
           simpa using hset
          have hxc := (box_facts hset).1 0
          have hxc' : (wr.setCell ⟨B17, 0, none⟩ (.int .i64 ((ix : Int) + 1))).cell? ⟨B17, 0, none⟩ = some (.int .i64 ((ix : Int) + 1)) := by simpa using hxc
          have hUX : But (fun j => one B17 j ∨ c1 ≤ j) U (wr.setCell ⟨B17, 0, none⟩ (.int .i64 ((ix : Int) + 1))) := ((But.of_below hbb).trans (hbi.out.mono fun j hj => .inr (by have := HGO.out j hj; omega))).trans ((setCell_but wr B17 0 _).mono fun j hj => .inl hj)
          have hbX : But (Off (one B17) w8) w8 (wr.setCell ⟨B17, 0, none⟩ (.int .i64 ((ix : Int) + 1))) := (hbU2.trans (hbi.out.mono fun j hj => .inr (by have := HGO.out j hj; omega))).trans ((setCell_but wr B17 0 _).mono fun j hj => .inl hj)
          have HUX := Lib.hid hUX
          have HBX := Lib.hid hbX
          have HX17 := Lib.hid hX17
          clear nc nf nr hset hxc hUX hbX hX17 hop
          gi_wp2
          first | exact ⟨HUX.out, HX17.out, HBX.out, by omega, trivial⟩ | exact ⟨HUX.out, HX17.out, HBX.out, by omega⟩
       ·rintro c1 Wc ⟨hk17, hbW, hcW, hmk⟩ hD
        rw [show T.zipIdx.length = T.length by simp] at hk17
        have hyW : Below wr.heap.size wr Wc := ((But.of_below (S := fun _ => False) hW8).past hbW (fun j hj => by
         rcases hj with (hj : j = _) | hj <;> omega)).below (Nat.le_refl _) (fun _ hf => hf.elim)
        have hkeep : ∀ (j : Nat) (ob : Obj), wc.heap[j]? = some ob → Wc.heap[j]? = some ob ∧ j < B17 := fun j ob h => by
         obtain ⟨h1, h2⟩ := h78 j ob h
         exact ⟨(hbW.block j (by omega) (fun hj => by rcases hj with (hj : j = _) | hj <;> omega)).trans h1, h2⟩
        have hW16 := (hkeep _ _ h16n).1
        have hW7' := still_blk hyW h76
        have hW12 := still_blk hyW HW6.out.box
        rw [hlen] at hk17
        have hmin : True := by
         trivial
        clear hmk
        have HLN := Lib.hid hlen
        have HYW := Lib.hid hyW
        have HKP := Lib.hid hkeep
        have HDD := Lib.hid hD
        have hDl := (Array.getElem?_eq_some_iff.1 hD).1
        clear hlen hclb hbW hyW hkeep h78 hD
        have t17 : Wc.cell? ⟨B17, 0, none⟩ = some (.int .i64 (TW.length : Int)) := (box_facts hk17).1 0
        have t16 : Wc.cell? ⟨B16n, 0, none⟩ = some (.int .i64 1) := (box_facts hW16).1 0
        have t7 : Wc.cell? ⟨w.heap.size, 0, none⟩ = some (.int .i64 many) := (box_facts hW7').1 0
        have t12 : Wc.cell? ⟨Wm.heap.size + 1, 0, none⟩ = some (.slice so.a TW.length so.cap) := (box_facts hW12).1 0
        gi_wp2
        have hWn := below_new HYW.out (.cells #[.int .i64 2] 3)
        have h16n := World.alloc_heap_new Wc (.cells #[.int .i64 2] 3)
        have hDnew1 := (Below.heap_alloc Wc (.cells #[.int .i64 2] 3) _ hDl).trans HDD.out
        rw [hs8] at hDnew1
        have hDge1 : wr.heap.size < B17 + 1 := by omega
        have hold : ∀ (j : Nat) (ob : Obj), wc.heap[j]? = some ob → (Wc.alloc (.cells #[.int .i64 2] 3)).heap[j]? = some ob ∧ j < B17 := fun j ob h => ⟨(Below.heap_alloc Wc _ j (Array.getElem?_eq_some_iff.1 (HKP.out j ob h).1).1).trans (HKP.out j ob h).1, (HKP.out j ob h).2⟩
        have HOLD := Lib.hid hold
        have hlen := HLN.out
        clear t17 t16 t7 t12 hW16 hW7' hW12 hk17 hmin hold
        generalize (Wc.alloc (.cells #[.int .i64 2] 3)) = we at *
        generalize Wc.heap.size = B16n at *
        rw [roundsIn_succ]
        obtain ⟨qc, qf, qr, ql⟩ := box_facts h16n
        gi_wp2
        refine ⟨trivial, rfl, (callsIn_wide.2 (known_c we)).mono ?_⟩
        rintro z wf ⟨rfl, hbf⟩
        have h8f := still_blk hbf (still_blk hWn h86)
        have hd1 := still_blk hbf hDnew1
        obtain ⟨hd0', hd0l⟩ := HOLD.out _ _ hDnew0
        have hd0 := still_blk hbf hd0'
        obtain ⟨rc, rf, rr, rl⟩ := box_facts h8f
        have hBf := below_step (below_step hB6 hWn) hbf
        clear qc qf qr ql hDnew0 hDnew1 hd0'
        dsimp only
        gi_wp2
        refine leave2 (v := .bool true) (T := w.heap.size + 1) hd1 hd0 h8f (by omega) (by have := hDge0; omega) (by have := hDge0; omega) (fun X hX => by simp [results, Tryz.f4, go_sem, hX]) ⟨rfl, ?_⟩
        exact leave2_below hBf (by omega) (by omega) (by have := hDge0; omega)
       ·rintro c c1 k' Wc hf hD
        exact hf.elim
 ·have hT : isTime now = false := by cases h : isTime now <;> simp_all
  have hX0 : 0 < X.length := Nat.pos_of_ne_zero fun h => hTX (.inr h)
  have hsr : V.heap.size ≤ V.heap.size := Nat.le_refl _
  have h10r := h10
  obtain ⟨tc, tf, tr, tl⟩ := box_facts h10
  have hc10 : V.cell? ⟨Wm.heap.size, 2, none⟩ = some (.slice es.a D.entries.length es.cap) := tc 2
  have hbu := Lib.hid (But.refl (one (Wm.heap.size + 1)) V)
  obtain ⟨so, hso⟩ : ∃ s : Sl, s = ⟨Option.none, 0⟩ := ⟨_, rfl⟩
  have hwa := Lib.hid (show WantIs (Wm.heap.size + 1) V.heap.size so (lockT D.policies now X) V by rw [lockT_bad _ _ _ hT, hso]; exact ⟨h12, Go.WW.Own.nil _ _ _ _⟩)
  have hki : (0 : Int) < (D.entries.length : Int) := by omega
  clear tc tf tr hTX
  refine wpIn_loop_rounds 1 ?_
  rw [roundsIn_succ]
  gi_wp2
  have hGr := hbu.out.mono (S' := G) (fun j (hj : j = _) => hgm j (by omega))
  have hdbr := dbAt_same hdbV fun j hj => by
   have := hodb j hj
   exact hbu.out.block j (by omega) (not_one (by omega))
  have hEX : E.length = X.length := by have := HREL.out.perm.length_eq; simpa using this
  have hnd : (E.map nameX).Nodup := by
   have h1 := HREL.out.good.nodup
   rw [List.map_map] at h1
   have h2 : (E.map nameX).map textOf = E.map ((fun x : Entry => textOf x.name) ∘ fun x => x.2) := by rw [List.map_map]; rfl
   rw [← h2] at h1
   exact nodup_of_map h1
  have HAC := Lib.hid (accounts_c b n e p re82 s (strM NL) E P now V hdbr re82_ne (by omega) hnd (fun x hx y hy => (HKE.out x hx).on hGr y (hy.mono hgo))
   (fun x hx => by
    have hm : x.2 ∈ E.map (fun y : EE => y.2) := List.mem_map.2 ⟨x, hx, rfl⟩
    refine ⟨HREL.out.good.ok _ hm, ?_⟩
    obtain ⟨y, hy, e'⟩ := List.mem_map.1 (HREL.out.perm.mem_iff.1 hm)
    have hh := HREL.out.has y hy
    rw [e'] at hh
    exact hh.imp id fun h => by rw [HREL.out.pols.any]; exact h) (fun q hq => HREL.out.pols.ok q (HREL.out.pols.perm.mem_iff.1 hq)))
  refine ⟨trivial, rfl, (callsIn_wide.2 (moment_c now V)).mono ?_⟩
  rintro z w' ⟨rfl, rfl⟩
  rw [hT]
  dsimp only
  gi_wp2
  refine ⟨trivial, rfl, (callsIn_wide.2 HAC.out).mono ?_⟩
  rintro z w5 ⟨lb, sl, Y, T, rfl, hbF, hlbr, hlb5, hYp, hYs, hTn, hTd⟩
  have hTW : T.map (·.2) = (lockT D.policies now X).map (·.2) := hTn.trans (lock_names HREL.out.pols now ((hYp.map _).trans HREL.out.perm) hYs HREL.out.sorted)
  have hb5 : Below V.heap.size V w5 := hbF.below (Nat.le_refl _) fun _ hf => hf.elim
  have hs5 := hb5.size
  have hdb5 := hdbr.later hb5
  have hG5 := hGr.trans (But.of_below hb5)
  have hw5 := hwa.out.later hb5
  have h10r5 := still_blk hb5 h10r
  have HNM := Lib.hid hTW
  have HT0 := Lib.hid (show T = [] by have := congrArg List.length hTW; rw [lockT_bad _ _ _ hT] at this; simpa using this)
  obtain ⟨mA, hmA⟩ : ∃ m, m = V.heap.size := ⟨_, rfl⟩
  rw [← hmA] at hTd hlbr
  have HTD := Lib.hid hTd
  have HV5 := Lib.hid (hbu.out.trans (But.of_below (S := one (Wm.heap.size + 1)) hb5))
  have HG5 := Lib.hid hG5
  have HW5 := Lib.hid hw5
  have hTl : (lockT D.policies now X).length ≤ 10 := by have := lockT_len D.policies now X; omega
  have HTW := Lib.hid (show ∀ y, But G V y → ∀ x ∈ lockT D.policies now X, PrinAt y x.1 x.2 from fun y hy x hx => by
   unfold lockT at hx
   obtain ⟨z, hz, rfl⟩ := List.mem_map.1 hx
   exact ((HREF.out.ents y hy).each z (List.mem_filter.1 hz).1).name)
  have HOKT := Lib.hid (show ∀ x ∈ lockT D.policies now X, prinOk x.2 = true from fun x hx => by
   unfold lockT at hx
   obtain ⟨z, hz, rfl⟩ := List.mem_map.1 hx
   exact entryOk_nms (HREL.out.goodX.ok z.2 (List.mem_map.2 ⟨z, (List.mem_filter.1 hz).1, rfl⟩)) _ (List.mem_cons_self ..))
  generalize lockT D.policies now X = TW at *
  clear hnd HAC hbF hTn hYp hYs hTW hTd hG5 hw5 hGr hdbr hc10 tl
  dsimp only
  gi_wp2
  have hl10 : Wm.heap.size < w5.heap.size := by omega
  gi_loopw [15] (fun iv wr => ∃ (k : Nat) (s' : Int) (N' : List (ByteArray × Value)) (E' : List EE), k ≤ X.length ∧ iv = .int .i64 k ∧ Hid (But (ofDb b n e p) w5 wr) ∧ DbAt wr b n e p re82 s' N' E' P ∧ (∀ x ∈ E', x ∈ E) ∧ 0 ≤ s' ∧ s' ≤ s + k) (fun iv _ => X.length - (intOf iv).toNat)
  case atStart => exact ⟨0, s, _, E, Nat.zero_le _, rfl, But.refl _ _, hdb5, fun x hx => hx, hs0, by omega⟩
  case round =>
   obtain ⟨k, s', N', E', hk, rfl, hbu6, hdb6, hsub, hs0', hs1'⟩ := hrel
   have hs6 := hbu6.out.size
   have h106 := (hbu6.out.block Wm.heap.size hl10 (fun hj => by have := hodb _ hj; omega)).trans h10r5
   obtain ⟨tc6, tf6, tr6, tl6⟩ := box_facts h106
   have hc106 : wr.cell? ⟨Wm.heap.size, 2, none⟩ = some (.slice es.a D.entries.length es.cap) := tc6 2
   have hG6 := HG5.out.trans (hbu6.out.mono hgo)
   by_cases hlt : k < X.length
   ·have hki : (k : Int) < (D.entries.length : Int) := by omega
    have hrX := HREF.out.on hG6
    obtain ⟨bE, oE, cs, haE, hrE, x, hxk, hcs⟩ := hrX.ents.out.rows.2 k hlt
    have hxx : X[k] = x := by rw [List.getElem?_eq_getElem hlt] at hxk; exact Option.some.inj hxk
    have hxE := hrX.ents.out.each X[k] (List.getElem_mem hlt)
    have hxok := HREL.out.goodX.ok X[k].2 (List.mem_map.2 ⟨X[k], List.getElem_mem hlt, rfl⟩)
    rw [hxx] at hxE hxok
    subst hcs
    obtain ⟨r, d⟩ := x
    dsimp only at hxE hxok
    rw [show encX (r, d) = entC r d from rfl] at hrE
    have hrP : row? wr bE (oE + k * 17) 2 = some (prinC r.parts d.name) := ent_name_row hrE
    have hbE : bE < wr.heap.size := row?_lt hrE
    have HRM := Lib.hid (dremove_c b n e p re82 s' N' E' P r.parts d.name wr hdb6 re82_ne hxE.name (entryOk_nms hxok _ (List.mem_cons_self ..)) (fun x hx => ⟨fun y hy => (HKE.out x (hsub x hx)).on hG6 y (hy.mono hgo), fun q hq => entryOk_nms (HREL.out.good.ok x.2 (List.mem_map.2 ⟨x, hsub x hx, rfl⟩)) q hq⟩) hs0' (by omega))
    rw [haE] at hc106
    clear tc6 tf6 tr6 hrE hxk hxx hrX hxE hxok
    gi_wp2
    refine ⟨trivial, rfl, (callsIn_wide.2 HRM.out).mono ?_⟩
    rintro z w7 ⟨c, s2, N2, E2, rfl, hb7, hdb7, hsub7, h0, h1⟩
    have HB7 := Lib.hid (hbu6.out.trans hb7)
    dsimp only
    gi_wp2
    go_roundw
    case rel => exact ⟨k + 1, s2, N2, E2, by omega, by go_num, HB7.out, hdb7, fun x hx => hsub x (hsub7 x hx), h0, by omega⟩
    case measure => simp [intOf]; omega
   ·obtain rfl : k = X.length := by omega
    have hnl6 : ¬ ((X.length : Int) < (D.entries.length : Int)) := by omega
    clear tc6 tf6 tr6
    gi_wp2
    have hV6 : But (fun j => j = Wm.heap.size + 1 ∨ ofDb b n e p j) V wr := (HV5.out.mono fun j (hj : j = _) => .inl hj).trans (hbu6.out.mono fun j hj => .inr hj)
    have hob : ∀ j, Wm.heap.size ≤ j → ¬ ofDb b n e p j := fun j hj hd => by have := hodb j hd; omega
    have h76 := (hV6.block w.heap.size (by omega) (fun hj => by
     rcases hj with hj | hj
     ·omega
     ·have := hodb _ hj; omega)).trans h7V
    have h86 := (hV6.block (w.heap.size + 1) (by omega) (fun hj => by
     rcases hj with hj | hj
     ·omega
     ·have := hodb _ hj; omega)).trans h8V
    have hB6 : Below w.heap.size w wr := ((But.of_below (S := fun _ => False) hBV).past hV6 (fun j hj => by
     rcases hj with hj | hj
     ·omega
     ·have := hodb _ hj; omega)).below (Nat.le_refl _) (fun _ hf => hf.elim)
    have hw6 : WantIs (Wm.heap.size + 1) V.heap.size so TW wr := HW5.out.kept (hbu6.out.block _ (Array.getElem?_eq_some_iff.1 HW5.out.box).1 (hob _ (by omega))) fun j h1 h2 => hbu6.out.block j h2 (hob j (by omega))
    have hlb6 := (hbu6.out.block lb (Array.getElem?_eq_some_iff.1 hlb5).1 (hob lb (by omega))).trans hlb5
    have hTr : ∀ y, Below wr.heap.size wr y → RowsPP y sl.a T := fun y hy => HTD.out y fun j hj => (hy.block j (by have := hj.2; omega)).trans (hbu6.out.block j hj.2 (hob j (by have := hj.1; omega)))
    have hTWp : ∀ y, Below wr.heap.size wr y → ∀ x ∈ TW, PrinAt y x.1 x.2 := fun y hy => HTW.out y (hG6.trans (But.of_below hy))
    have hlen : T.length = TW.length := by have := congrArg List.length HNM.out; simpa using this
    have h12w : Wm.heap.size + 1 < wr.heap.size := (Array.getElem?_eq_some_iff.1 hw6.box).1
    have hw2w : w.heap.size + 1 < wr.heap.size := by omega
    have hlbw : lb < wr.heap.size := (Array.getElem?_eq_some_iff.1 hlb6).1
    have HTR := Lib.hid hTr
    have HTP := Lib.hid hTWp
    have HW6 := Lib.hid hw6
    have hW7 : Below wr.heap.size wr (wr.alloc (.cells #[.int .i64 0] 3)) := below_new (Below.refl _ _) _
    have h167 := World.alloc_heap_new wr (.cells #[.int .i64 0] 3)
    generalize (wr.alloc (.cells #[.int .i64 0] 3)) = wa at *
    clear HV5 hV6 hob h7V h8V hTr hTWp hw6 HW5 HTD hbu6 hdb6 hsub hG6 HG5 h106 hc106 hdbV HKE HREF h10 h12 hBV hdb5 h10r h10r5 hlb5 hb5
    refine wpIn_loop_rounds 3 ?_
    rw [roundsIn_succ]
    obtain ⟨qc, qf, qr, ql⟩ := box_facts h167
    gi_wp2
    have hW8 := below_new hW7 (.cells #[.int .i64 0] 3)
    have h178 := World.alloc_heap_new wa (.cells #[.int .i64 0] 3)
    have h168 := (Below.heap_alloc wa (.cells #[.int .i64 0] 3) _ (Array.getElem?_eq_some_iff.1 h167).1).trans h167
    have hs8 : (wa.alloc (.cells #[.int .i64 0] 3)).heap.size = wa.heap.size + 1 := by simp
    have hM7 := hW7.size
    have l16 := (Array.getElem?_eq_some_iff.1 h167).1
    have h78 : ∀ (j : Nat) (ob : Obj), wa.heap[j]? = some ob → (wa.alloc (.cells #[.int .i64 0] 3)).heap[j]? = some ob ∧ j < wa.heap.size := fun j ob h => ⟨(Below.heap_alloc wa _ j (Array.getElem?_eq_some_iff.1 h).1).trans h, (Array.getElem?_eq_some_iff.1 h).1⟩
    generalize (wa.alloc (.cells #[.int .i64 0] 3)) = w8 at *
    obtain ⟨B17, hB17⟩ : ∃ B, B = wa.heap.size := ⟨_, rfl⟩
    rw [← hB17] at h178 hs8 hM7 l16 h78 ⊢
    clear hB17
    have hclb : w8.cell? ⟨lb, 0, none⟩ = some (.slice sl.a T.length sl.cap) := (box_facts (still_blk hW8 hlb6)).1 0
    try clear qc qf qr ql
    refine (wpIn_wide (n := 0)).2 ?_
    refine wp_range_but (gf := 44) (lb := #[.pointer (some ⟨lb, 0, none⟩)]) (by simp [go_sem]) (enters_of Tryz.func44 (by kernel_rfl) rfl) (S := one B17) ?_ (xs := T.zipIdx) (V := VA) ?_ (accounts1_seq lb sl.cap sl.a T (one B17) w8 hclb (by omega) ?_)
     (fun c1 k Wc => Wc.heap[B17]? = some (.cells #[.int .i64 (k : Int)] 3) ∧ But (Off (one B17) w8) w8 Wc ∧ w8.heap.size < c1 ∧ (0 < k → (k : Int) < many))
     (fun c c1 _ Wc => c = .exit 6 ∧ ∃ k : Nat, 0 < k ∧ k ≤ T.length ∧ Wc.heap[B17]? = some (.cells #[.int .i64 (k : Int)] 3) ∧ But (Off (one B17) w8) w8 Wc ∧ w8.heap.size < c1 ∧ many ≤ (k : Int) ∧ (1 < k → (k : Int) - 1 < many)) ?_ ?_ ?_ ?_ ?_ ?_
    ·rintro k (rfl : k = _); omega
    ·rintro c1 x v W0 Wc ⟨s', rfl, _⟩; rfl
    ·intro y hy
     refine HTR.out y ?_
     refine ((But.of_below (S := fun _ => False) hW8).past hy (fun j hj => ?_)).below (Nat.le_refl _) (fun _ hf => hf.elim)
     rcases hj with (hj : j = _) | hj <;> omega
    ·intro c1 Wc h1 h2 hb
     exact ⟨still_blk hb h178, But.of_below hb, h1, by simp⟩
    ·rintro c1 k Wc Wc' ⟨h1, h2, h3, h4⟩ hb
     exact ⟨(hb.block _ (Array.getElem?_eq_some_iff.1 h1).1 (fun hj => by have := hj.1; omega)).trans h1, h2.trans (hb.mono fun j hj => .inr hj.1), h3, h4⟩
    ·rintro c c1 k' Wc Wc' ⟨h0, k, hk0, hk1, h1, h2, h3, h4⟩ hb
     exact ⟨h0, k, hk0, hk1, (hb.block _ (Array.getElem?_eq_some_iff.1 h1).1 (fun hj => by have := hj.1; omega)).trans h1, h2.trans (hb.mono fun j hj => .inr hj.1), h3, h4⟩
    ·rintro c1 k x v W0 Wc hx
     rw [HT0.out] at hx
     simp at hx
    ·rintro c1 Wc ⟨hk17, hbW, hcW, hmk⟩ hD
     rw [show T.zipIdx.length = T.length by simp] at hk17 hmk
     have hyW : Below wr.heap.size wr Wc := ((But.of_below (S := fun _ => False) hW8).past hbW (fun j hj => by
      rcases hj with (hj : j = _) | hj <;> omega)).below (Nat.le_refl _) (fun _ hf => hf.elim)
     have hkeep : ∀ (j : Nat) (ob : Obj), wa.heap[j]? = some ob → Wc.heap[j]? = some ob ∧ j < B17 := fun j ob h => by
      obtain ⟨h1, h2⟩ := h78 j ob h
      exact ⟨(hbW.block j (by omega) (fun hj => by rcases hj with (hj : j = _) | hj <;> omega)).trans h1, h2⟩
     have hW16 := (hkeep _ _ h167).1
     have hW7' := still_blk hyW h76
     have hW12 := still_blk hyW HW6.out.box
     rw [hlen] at hk17
     have hmin : min (TW.length : Int) (max 1 many) = (TW.length : Int) := by
      rw [hlen] at hmk
      omega
     clear hmk
     have HLN := Lib.hid hlen
     have HYW := Lib.hid hyW
     have HKP := Lib.hid hkeep
     have HDD := Lib.hid hD
     have hDl := (Array.getElem?_eq_some_iff.1 hD).1
     clear hlen hclb hbW hyW hkeep h78 hD
     have t17 : Wc.cell? ⟨B17, 0, none⟩ = some (.int .i64 (TW.length : Int)) := (box_facts hk17).1 0
     have t16 : Wc.cell? ⟨wr.heap.size, 0, none⟩ = some (.int .i64 0) := (box_facts hW16).1 0
     have t7 : Wc.cell? ⟨w.heap.size, 0, none⟩ = some (.int .i64 many) := (box_facts hW7').1 0
     have t12 : Wc.cell? ⟨Wm.heap.size + 1, 0, none⟩ = some (.slice so.a TW.length so.cap) := (box_facts hW12).1 0
     gi_wp2
     have hWn := below_new HYW.out (.cells #[.int .i64 1] 3)
     have h16n := World.alloc_heap_new Wc (.cells #[.int .i64 1] 3)
     have hDnew0 := (Below.heap_alloc Wc (.cells #[.int .i64 1] 3) _ hDl).trans HDD.out
     rw [hs8] at hDnew0
     have hDge0 : wr.heap.size < B17 + 1 := by omega
     have hold : ∀ (j : Nat) (ob : Obj), wa.heap[j]? = some ob → (Wc.alloc (.cells #[.int .i64 1] 3)).heap[j]? = some ob ∧ j < B17 := fun j ob h => ⟨(Below.heap_alloc Wc _ j (Array.getElem?_eq_some_iff.1 (HKP.out j ob h).1).1).trans (HKP.out j ob h).1, (HKP.out j ob h).2⟩
     have HOLD := Lib.hid hold
     have hlen := HLN.out
     clear t17 t16 t7 t12 hW16 hW7' hW12 hk17 hmin hold
     generalize (Wc.alloc (.cells #[.int .i64 1] 3)) = wc at *
     generalize Wc.heap.size = B16n at *
     rw [roundsIn_succ]
     obtain ⟨qc, qf, qr, ql⟩ := box_facts h16n
     gi_wp2
     have hW8 := below_new hWn (.cells #[.int .i64 0] 3)
     have h178 := World.alloc_heap_new wc (.cells #[.int .i64 0] 3)
     have h168 := (Below.heap_alloc wc (.cells #[.int .i64 0] 3) _ (Array.getElem?_eq_some_iff.1 h16n).1).trans h16n
     have hs8 : (wc.alloc (.cells #[.int .i64 0] 3)).heap.size = wc.heap.size + 1 := by simp
     have hM7 := hWn.size
     have l16 := (Array.getElem?_eq_some_iff.1 h16n).1
     have h78 : ∀ (j : Nat) (ob : Obj), wc.heap[j]? = some ob → (wc.alloc (.cells #[.int .i64 0] 3)).heap[j]? = some ob ∧ j < wc.heap.size := fun j ob h => ⟨(Below.heap_alloc wc _ j (Array.getElem?_eq_some_iff.1 h).1).trans h, (Array.getElem?_eq_some_iff.1 h).1⟩
     generalize (wc.alloc (.cells #[.int .i64 0] 3)) = w8 at *
     obtain ⟨B17, hB17⟩ : ∃ B, B = wc.heap.size := ⟨_, rfl⟩
     rw [← hB17] at h178 hs8 hM7 l16 h78 ⊢
     clear hB17
     have hclb : w8.cell? ⟨lb, 0, none⟩ = some (.slice sl.a T.length sl.cap) := (box_facts (still_blk hW8 hlb6)).1 0
     try clear qc qf qr ql
     refine (wpIn_wide (n := 0)).2 ?_
     refine wp_range_but (gf := 44) (lb := #[.pointer (some ⟨lb, 0, none⟩)]) (by simp [go_sem]) (enters_of Tryz.func44 (by kernel_rfl) rfl) (S := one B17) ?_ (xs := T.zipIdx) (V := VA) ?_ (accounts1_seq lb sl.cap sl.a T (one B17) w8 hclb (by omega) ?_)
      (fun c1 k Wc => Wc.heap[B17]? = some (.cells #[.int .i64 (k : Int)] 3) ∧ But (Off (one B17) w8) w8 Wc ∧ w8.heap.size < c1 ∧ True)
      (fun _ _ _ _ => False) ?_ ?_ ?_ ?_ ?_ ?_
     ·rintro k (rfl : k = _); omega
     ·rintro c1 x v W0 Wc ⟨s', rfl, _⟩; rfl
     ·intro y hy
      refine HTR.out y ?_
      refine ((But.of_below (S := fun _ => False) hW8).past hy (fun j hj => ?_)).below (Nat.le_refl _) (fun _ hf => hf.elim)
      rcases hj with (hj : j = _) | hj <;> omega
     ·intro c1 Wc h1 h2 hb
      exact ⟨still_blk hb h178, But.of_below hb, h1, by simp⟩
     ·rintro c1 k Wc Wc' ⟨h1, h2, h3, h4⟩ hb
      exact ⟨(hb.block _ (Array.getElem?_eq_some_iff.1 h1).1 (fun hj => by have := hj.1; omega)).trans h1, h2.trans (hb.mono fun j hj => .inr hj.1), h3, h4⟩
     ·rintro c c1 k' Wc Wc' hf hb
      exact hf.elim
     ·rintro c1 k x v W0 Wc hx
      rw [HT0.out] at hx
      simp at hx
     ·rintro c1 Wc ⟨hk17, hbW, hcW, hmk⟩ hD
      rw [show T.zipIdx.length = T.length by simp] at hk17
      have hyW : Below wr.heap.size wr Wc := ((But.of_below (S := fun _ => False) hW8).past hbW (fun j hj => by
       rcases hj with (hj : j = _) | hj <;> omega)).below (Nat.le_refl _) (fun _ hf => hf.elim)
      have hkeep : ∀ (j : Nat) (ob : Obj), wc.heap[j]? = some ob → Wc.heap[j]? = some ob ∧ j < B17 := fun j ob h => by
       obtain ⟨h1, h2⟩ := h78 j ob h
       exact ⟨(hbW.block j (by omega) (fun hj => by rcases hj with (hj : j = _) | hj <;> omega)).trans h1, h2⟩
      have hW16 := (hkeep _ _ h16n).1
      have hW7' := still_blk hyW h76
      have hW12 := still_blk hyW HW6.out.box
      rw [hlen] at hk17
      have hmin : True := by
       trivial
      clear hmk
      have HLN := Lib.hid hlen
      have HYW := Lib.hid hyW
      have HKP := Lib.hid hkeep
      have HDD := Lib.hid hD
      have hDl := (Array.getElem?_eq_some_iff.1 hD).1
      clear hlen hclb hbW hyW hkeep h78 hD
      have t17 : Wc.cell? ⟨B17, 0, none⟩ = some (.int .i64 (TW.length : Int)) := (box_facts hk17).1 0
      have t16 : Wc.cell? ⟨B16n, 0, none⟩ = some (.int .i64 1) := (box_facts hW16).1 0
      have t7 : Wc.cell? ⟨w.heap.size, 0, none⟩ = some (.int .i64 many) := (box_facts hW7').1 0
      have t12 : Wc.cell? ⟨Wm.heap.size + 1, 0, none⟩ = some (.slice so.a TW.length so.cap) := (box_facts hW12).1 0
      gi_wp2
      have hWn := below_new HYW.out (.cells #[.int .i64 2] 3)
      have h16n := World.alloc_heap_new Wc (.cells #[.int .i64 2] 3)
      have hDnew1 := (Below.heap_alloc Wc (.cells #[.int .i64 2] 3) _ hDl).trans HDD.out
      rw [hs8] at hDnew1
      have hDge1 : wr.heap.size < B17 + 1 := by omega
      have hold : ∀ (j : Nat) (ob : Obj), wc.heap[j]? = some ob → (Wc.alloc (.cells #[.int .i64 2] 3)).heap[j]? = some ob ∧ j < B17 := fun j ob h => ⟨(Below.heap_alloc Wc _ j (Array.getElem?_eq_some_iff.1 (HKP.out j ob h).1).1).trans (HKP.out j ob h).1, (HKP.out j ob h).2⟩
      have HOLD := Lib.hid hold
      have hlen := HLN.out
      clear t17 t16 t7 t12 hW16 hW7' hW12 hk17 hmin hold
      generalize (Wc.alloc (.cells #[.int .i64 2] 3)) = we at *
      generalize Wc.heap.size = B16n at *
      rw [roundsIn_succ]
      obtain ⟨qc, qf, qr, ql⟩ := box_facts h16n
      gi_wp2
      refine ⟨trivial, rfl, (callsIn_wide.2 (known_c we)).mono ?_⟩
      rintro z wf ⟨rfl, hbf⟩
      have h8f := still_blk hbf (still_blk hWn h86)
      have hd1 := still_blk hbf hDnew1
      obtain ⟨hd0', hd0l⟩ := HOLD.out _ _ hDnew0
      have hd0 := still_blk hbf hd0'
      obtain ⟨rc, rf, rr, rl⟩ := box_facts h8f
      have hBf := below_step (below_step hB6 hWn) hbf
      clear qc qf qr ql hDnew0 hDnew1 hd0'
      dsimp only
      gi_wp2
      refine leave2 (v := .bool true) (T := w.heap.size + 1) hd1 hd0 h8f (by omega) (by have := hDge0; omega) (by have := hDge0; omega) (fun X hX => by simp [results, Tryz.f4, go_sem, hX]) ⟨rfl, ?_⟩
      exact leave2_below hBf (by omega) (by omega) (by have := hDge0; omega)
     ·rintro c c1 k' Wc hf hD
      exact hf.elim
    ·rintro c c1 k' Wc ⟨rfl, k, hk0, hkl, -⟩ hD
     rw [HT0.out] at hkl
     simp at hkl
     omega
end Go.Proofs.YtnpddjmjdpgohaaGreatDoor
