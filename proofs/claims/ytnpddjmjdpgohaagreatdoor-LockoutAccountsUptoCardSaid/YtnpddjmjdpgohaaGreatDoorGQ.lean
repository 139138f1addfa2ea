/- Part Q of the proof about watchword's lockout: texts Text2 L4. -/
import Derived.Test.YtnpddjmjdpgohaaGreatDoorGA
import Derived.Test.YtnpddjmjdpgohaaGreatDoorGP

namespace Go.WW
open Go.RowKit
section
variable {P : Program} {ops : Array Oper} {S : World → Prop} {st : Oper → Bool} {Q : Act → World → Prop}

structure TextOk2 (st : Oper → Bool) (ops : Array Oper) (m : Array (List Nat)) (x c : Nat) : Prop where
  sel : Region.noSelect ops = true
  back : ∀ j oj, ops[j]? = some oj → ∀ e ∈ oj.after, Region.binds .any e = true → e.on < j
  pred : ∀ j oj, ops[j]? = some oj → ∀ i ∈ m.getD j [], ∃ e ∈ oj.after, Region.binds .any e = true ∧ (e.on = i ∨ i ∈ m.getD e.on [])
  pair : ∀ j oj, ops[j]? = some oj → ∀ i, i < j → ∀ oi, ops[i]? = some oi → (∃ e ∈ oj.after, Region.binds .any e = true ∧ e.on = i) ∨ (oi.apart ops oj = true ∧ (st oi = true ∨ st oj = true ∨ i ∈ m.getD j [] ∨ (i = c ∧ j = x)))
  past : ∀ i oi ox, ops[i]? = some oi → ops[x]? = some ox → c < i → i < x → ox.apart ops oi = true ∧ st oi = true
  look : ∀ i oi, ops[i]? = some oi → i ≠ x → i ≠ c → st oi = true ∨ c ∈ m.getD i []
  lt : c < x

theorem preds_listed2 {m : Array (List Nat)} {x c : Nat} (hok : TextOk2 st ops m x c) {listed : Array Bool}
    (hdown : ∀ k o, ops[k]? = some o → listed.getD k false = true → ∀ e ∈ o.after, Region.binds .any e = true → listed.getD e.on false = true) :
    ∀ (j : Nat) (oj : Oper), ops[j]? = some oj → (∀ e ∈ oj.after, Region.binds .any e = true → listed.getD e.on false = true) → ∀ i ∈ m.getD j [], listed.getD i false = true := by
  intro j
  induction j using Nat.strongRecOn with
  | _ j ih =>
    intro oj hj hall i hi
    obtain ⟨e, he, hb, hor⟩ := hok.pred j oj hj i hi
    rcases hor with rfl | hor
    · exact hall e he hb
    · have hlt := hok.back j oj hj e he hb
      have hjs : j < ops.size := (Array.getElem?_eq_some_iff.1 hj).1
      have hoe : ops[e.on]? = some (ops[e.on]'(by omega)) := by simp
      exact ih e.on hlt _ hoe (hdown _ _ hoe (hall e he hb)) i hor

def mv (x c : Nat) (L : List Nat) : List Nat := L.filter (fun k => decide (k < c)) ++ x :: L.filter (fun k => decide (c ≤ k) && decide (k ≠ x))

theorem split_sorted (c : Nat) : ∀ (L : List Nat), L.Pairwise (· < ·) → L.filter (fun k => decide (k < c)) ++ L.filter (fun k => decide (c ≤ k)) = L
  | [], _ => rfl
  | k :: L, h => by
    have hp := List.pairwise_cons.1 h
    by_cases hk : k < c
    · have ih := split_sorted c L hp.2
      simp [hk, show ¬ c ≤ k by omega, ih]
    · have h1 : L.filter (fun k => decide (k < c)) = [] := by rw [List.filter_eq_nil_iff]; intro y hy; have := hp.1 y hy; simp; omega
      have h2 : L.filter (fun k => decide (c ≤ k)) = L := by rw [List.filter_eq_self]; intro y hy; have := hp.1 y hy; simp; omega
      simp [hk, show c ≤ k by omega, h1, h2]

theorem text_any2 {m : Array (List Nat)} {x c : Nat} (hok : TextOk2 st ops m x c) {Q' : Exit → Act → World → Prop} (hQ : ∀ a w, Q a w → Q' .normal a w) :
    ∀ (n : Nat) (L : List Nat) (listed : Array Bool) (a : Act) (w : World), L.length = n → L.Pairwise (· < ·) → listed.size = ops.size → (∀ j, j ∈ L ↔ j < ops.size ∧ listed.getD j true = false) →
      (∀ k o, ops[k]? = some o → listed.getD k false = true → ∀ e ∈ o.after, Region.binds .any e = true → listed.getD e.on false = true) →
      S w → wpText P ops st S Q (L.filterMap (ops[·]?)) a w → (x ∈ L → c ∈ L → wpText P ops st S Q ((mv x c L).filterMap (ops[·]?)) a w) → wpAny P .any ops Q' n listed a w := by
  intro n
  induction n with
  | zero =>
    intro L listed a w hn _ hsz hL _ _ h _
    have : L = [] := List.eq_nil_of_length_eq_zero hn
    subst this
    refine ⟨?_, hQ _ _ h⟩
    cases hr : Region.ready .any ops listed with
    | nil => rfl
    | cons i r =>
      have hi : i ∈ Region.ready .any ops listed := by rw [hr]; simp
      obtain ⟨h0, o, ho, _⟩ := mem_ready.1 hi
      have := (hL i).2 ⟨(Array.getElem?_eq_some_iff.1 ho).1, h0⟩
      cases this
  | succ n ih =>
    intro L listed a w hn hsort hsz hL hdown hS h hX
    refine ⟨fun hr => ?_, fun i hi => ?_⟩
    · exfalso
      cases L with
      | nil => simp at hn
      | cons j L =>
        obtain ⟨hj, hjl⟩ := (hL j).1 (by simp)
        have hoj : ops[j]? = some ops[j] := by simp [hj]
        have : j ∈ Region.ready .any ops listed := by
          refine mem_ready.2 ⟨hjl, _, hoj, fun e he hb => ?_⟩
          have hlt := hok.back j _ hoj e he hb
          have hnot : e.on ∉ j :: L := by
            intro hmem
            rcases List.mem_cons.1 hmem with h1 | h1
            · omega
            · have := (List.pairwise_cons.1 hsort).1 _ h1; omega
          have h2 : listed.getD e.on true ≠ false := fun hf => hnot ((hL e.on).2 ⟨by omega, hf⟩)
          have hes : e.on < listed.size := by omega
          simp [hes] at h2 ⊢; exact h2
        rw [hr] at this; cases this
    · obtain ⟨h0, o, ho, hall⟩ := mem_ready.1 hi
      have his : i < ops.size := (Array.getElem?_eq_some_iff.1 ho).1
      have hiL : i ∈ L := (hL i).2 ⟨his, h0⟩
      have hnl : ∀ k ∈ L, ¬ listed.getD k false = true := fun k hk hf => by
        have hkl := ((hL k).1 hk).2
        rw [getD_true_of_false hf] at hkl; cases hkl
      obtain ⟨L1, L2, rfl⟩ := List.append_of_mem hiL
      have hsort' := List.pairwise_append.1 hsort
      have hlt1 : ∀ y ∈ L1, y < i := fun y hy => hsort'.2.2 y hy i (by simp)
      have hgt2 : ∀ y ∈ L2, i < y := fun y hy => (List.pairwise_cons.1 hsort'.2.1).1 y hy
      have hsortR : (L1 ++ L2).Pairwise (· < ·) := List.pairwise_append.2 ⟨hsort'.1, (List.pairwise_cons.1 hsort'.2.1).2, fun y hy z hz => hsort'.2.2 y hy z (by simp [hz])⟩
      -- one step of the induction
      have hrest : ∀ a' w', S w' → wpText P ops st S Q ((L1 ++ L2).filterMap (ops[·]?)) a' w' → (x ∈ L1 ++ L2 → c ∈ L1 ++ L2 → wpText P ops st S Q ((mv x c (L1 ++ L2)).filterMap (ops[·]?)) a' w') → wpAny P .any ops Q' n (listed.setIfInBounds i true) a' w' := by
        intro a' w' hS' hh hh2
        refine ih (L1 ++ L2) (listed.setIfInBounds i true) a' w' ?_ hsortR (by simpa using hsz) ?_ ?_ hS' hh hh2
        · simp at hn ⊢; omega
        · intro j
          by_cases hji : j = i
          · subst hji
            constructor
            · intro hm
              exfalso
              rcases List.mem_append.1 hm with h1 | h1
              · have := hlt1 _ h1; omega
              · have := hgt2 _ h1; omega
            · rintro ⟨_, hf⟩
              have : j < listed.size := by omega
              simp [this] at hf
          · rw [getD_set_ne true (Ne.symm hji), ← hL j]
            simp [hji]
        · intro k ok hk hkl e he hb
          by_cases hki : k = i
          · subst hki
            rw [ho] at hk; cases hk
            exact getD_set_true (hall e he hb)
          · rw [getD_set_ne false (Ne.symm hki)] at hkl
            exact getD_set_true (hdown k ok hk hkl e he hb)
      -- an operation k that still waits and stands ahead of i in the text may be passed by i, unless it is c and i is x
      have pass : ∀ k ox, ops[k]? = some ox → k ∈ L1 ++ i :: L2 → k < i → ¬ (k = c ∧ i = x) → (∀ cs b, ox.op ≠ .select cs b) ∧ ox.apart ops o = true ∧ (st ox = true ∨ st o = true) := by
        intro k ox hox hk hki hne
        refine ⟨(Region.noSelect_spec hok.sel k ox · · hox), ?_⟩
        rcases hok.pair i o ho k hki ox hox with ⟨e, he, hb, rfl⟩ | ⟨hap, hor⟩
        · exact absurd (hall e he hb) (hnl _ hk)
        · refine ⟨hap, ?_⟩
          rcases hor with h1 | h1 | h1 | h1
          · exact .inl h1
          · exact .inr h1
          · exact absurd (preds_listed2 hok hdown i o ho hall k h1) (hnl _ hk)
          · exact absurd h1 hne
      have hsel := (Region.noSelect_spec hok.sel i o · · ho)
      -- from the front of one list
      have single : ∀ (R : List Oper) (K : Act → World → Prop), wpText P ops st S Q (o :: R) a w → (∀ a' w', S w' → wpText P ops st S Q R a' w' → K a' w') → wpOp P ops Q' i K a w := by
        intro R K hfront hrest
        unfold wpOp
        simp only [ho]
        rw [text_cons] at hfront
        split
        · rename_i hw
          rw [if_pos hw] at hfront
          refine .inl ?_
          by_cases hs : st o = true
          · rw [if_pos hs] at hfront
            obtain ⟨v, hv, hh⟩ := hfront
            unfold Oper.wp
            rw [hv w hS]
            exact hrest _ _ hS hh
          · rw [if_neg hs] at hfront
            exact wp_mono_Q (Oper.wp_mono (fun a' w' hh => hrest a' w' hh.1 hh.2) hfront)
        · rename_i hw
          rw [if_neg hw] at hfront
          exact hrest _ _ hS hfront
      have hnot : ∀ y ∈ L1 ++ L2, y ≠ i := fun y hy e => by
        subst e
        rcases List.mem_append.1 hy with h1 | h1
        · have := hlt1 _ h1; omega
        · have := hgt2 _ h1; omega
      -- the front of the first list, where i may pass all that stand ahead of it
      have front1 : (∀ k ∈ L1, ¬ (k = c ∧ i = x)) → wpText P ops st S Q (o :: (L1 ++ L2).filterMap (ops[·]?)) a w := fun hk => by
        rw [List.filterMap_append, List.filterMap_cons_some ho] at h
        rw [List.filterMap_append]
        exact text_front hsel _ (fun y hy => by
          obtain ⟨k, hkm, hox⟩ := List.mem_filterMap.1 hy
          exact pass k y hox (by simp [hkm]) (hlt1 k hkm) (hk k hkm)) a w hS h
      by_cases hb : x ∈ L1 ++ i :: L2 ∧ c ∈ L1 ++ i :: L2
      · obtain ⟨hx, hc⟩ := hb
        have hcx := hok.lt
        have hX' := hX hx hc
        by_cases hix : i = x
        · subst hix
          have e1 : (L1 ++ i :: L2).filter (fun k => decide (k < c)) = (L1 ++ L2).filter (fun k => decide (k < c)) := by
            simp [List.filter_append, show ¬ i < c by omega]
          have e2 : (L1 ++ i :: L2).filter (fun k => decide (c ≤ k) && decide (k ≠ i)) = (L1 ++ L2).filter (fun k => decide (c ≤ k)) := by
            have : (L1 ++ i :: L2).filter (fun k => decide (c ≤ k) && decide (k ≠ i)) = (L1 ++ L2).filter (fun k => decide (c ≤ k) && decide (k ≠ i)) := by simp [List.filter_append]
            rw [this]
            apply List.filter_congr
            intro y hy
            simp [hnot y hy]
          have e3 := split_sorted c _ hsortR
          rw [mv, e1, e2, List.filterMap_append, List.filterMap_cons_some ho] at hX'
          have hf := text_front hsel _ (fun y hy => by
            obtain ⟨k, hkm, hox⟩ := List.mem_filterMap.1 hy
            have hk := List.mem_filter.1 hkm
            have hkc : k < c := by simpa using hk.2
            have hkL : k ∈ L1 ++ i :: L2 := by
              rcases List.mem_append.1 hk.1 with h1 | h1
              · simp [h1]
              · simp [h1]
            exact pass k y hox hkL (by omega) (fun h' => by omega)) a w hS hX'
          rw [← List.filterMap_append, e3] at hf
          exact single _ _ hf (fun a' w' hS' hh => hrest a' w' hS' hh (fun h' _ => absurd rfl (hnot _ h')))
        · by_cases hic : i = c
          · subst hic
            exact single _ _ (front1 (fun k hk h' => hix h'.2)) (fun a' w' hS' hh => hrest a' w' hS' hh (fun _ h' => absurd rfl (hnot _ h')))
          · have hst : st o = true := by
              rcases hok.look i o ho hix hic with h1 | h1
              · exact h1
              · exact absurd (preds_listed2 hok hdown i o ho hall c h1) (hnl _ hc)
            have hf1 := front1 (fun k hk h' => hix h'.2)
            have hox : ∃ ox, ops[x]? = some ox := by
              have := ((hL x).1 hx).1
              exact ⟨ops[x], by simp [this]⟩
            obtain ⟨ox, hox⟩ := hox
            have hf2 : wpText P ops st S Q (o :: (mv x c (L1 ++ L2)).filterMap (ops[·]?)) a w := by
              by_cases hlt : i < c
              · have e1 : (L1 ++ i :: L2).filter (fun k => decide (k < c)) = L1.filter (fun k => decide (k < c)) ++ i :: L2.filter (fun k => decide (k < c)) := by simp [List.filter_append, hlt]
                have e2 : (L1 ++ i :: L2).filter (fun k => decide (c ≤ k) && decide (k ≠ x)) = (L1 ++ L2).filter (fun k => decide (c ≤ k) && decide (k ≠ x)) := by simp [List.filter_append, show ¬ c ≤ i by omega]
                rw [mv, e1, e2, List.append_assoc, List.cons_append, List.filterMap_append, List.filterMap_cons_some ho] at hX'
                have hf := text_front hsel _ (fun y hy => by
                  obtain ⟨k, hkm, hoy⟩ := List.mem_filterMap.1 hy
                  have hk := List.mem_filter.1 hkm
                  exact pass k y hoy (by simp [hk.1]) (hlt1 k hk.1) (fun h' => hix h'.2)) a w hS hX'
                rw [← List.filterMap_append, ← List.append_assoc, ← List.filter_append] at hf
                exact hf
              · have hgt : c < i := by omega
                have e1 : (L1 ++ i :: L2).filter (fun k => decide (k < c)) = (L1 ++ L2).filter (fun k => decide (k < c)) := by simp [List.filter_append, hlt]
                have e2 : (L1 ++ i :: L2).filter (fun k => decide (c ≤ k) && decide (k ≠ x)) = L1.filter (fun k => decide (c ≤ k) && decide (k ≠ x)) ++ i :: L2.filter (fun k => decide (c ≤ k) && decide (k ≠ x)) := by
                  simp [List.filter_append, show c ≤ i by omega, hix]
                rw [mv, e1, e2, ← List.cons_append, ← List.append_assoc, List.filterMap_append, List.filterMap_cons_some ho] at hX'
                have hf := text_front hsel _ (fun y hy => by
                  obtain ⟨k, hkm, hoy⟩ := List.mem_filterMap.1 hy
                  rcases List.mem_append.1 hkm with h1 | h1
                  · have hk := List.mem_filter.1 h1
                    have hkc : k < c := by simpa using hk.2
                    have hkL : k ∈ L1 ++ i :: L2 := by
                      rcases List.mem_append.1 hk.1 with h2 | h2
                      · simp [h2]
                      · simp [h2]
                    exact pass k y hoy hkL (by omega) (fun h' => hix h'.2)
                  · rcases List.mem_cons.1 h1 with h1 | h1
                    · subst h1
                      by_cases hki : k < i
                      · exact pass k y hoy hx hki (fun h' => hix h'.2)
                      · obtain ⟨ha, hs⟩ := hok.past i o y ho hoy hgt (by omega)
                        exact ⟨(Region.noSelect_spec hok.sel k y · · hoy), ha, .inr hs⟩
                    · have hk := List.mem_filter.1 h1
                      exact pass k y hoy (by simp [hk.1]) (hlt1 k hk.1) (fun h' => hix h'.2)) a w hS hX'
                rw [← List.filterMap_append, List.append_assoc, List.cons_append, ← List.filter_append] at hf
                exact hf
            have hxR : x ∈ L1 ++ L2 := by
              rcases List.mem_append.1 hx with h1 | h1
              · simp [h1]
              · rcases List.mem_cons.1 h1 with h1 | h1
                · exact absurd h1.symm hix
                · simp [h1]
            unfold wpOp
            simp only [ho]
            rw [text_cons] at hf1 hf2
            split
            · rename_i hw
              rw [if_pos hw, if_pos hst] at hf1 hf2
              obtain ⟨v, hv, hh⟩ := hf1
              obtain ⟨v', hv', hh'⟩ := hf2
              have e : v' = v := by
                have := (hv' w hS).symm.trans (hv w hS)
                simpa using this
              subst e
              refine .inl ?_
              unfold Oper.wp
              rw [hv w hS]
              exact hrest _ _ hS hh (fun _ _ => hh')
            · rename_i hw
              rw [if_neg hw] at hf1 hf2
              exact hrest _ _ hS hf1 (fun _ _ => hf2)
      · refine single _ _ (front1 (fun k hk h' => hb ⟨by rw [← h'.2]; simp, by rw [← h'.1]; simp [hk]⟩)) (fun a' w' hS' hh => hrest a' w' hS' hh (fun h1 h2 => absurd ⟨?_, ?_⟩ hb))
        · rcases List.mem_append.1 h1 with h3 | h3
          · simp [h3]
          · simp [h3]
        · rcases List.mem_append.1 h2 with h3 | h3
          · simp [h3]
          · simp [h3]

def textB2 (st : Oper → Bool) (ops : Array Oper) (x c : Nat) : Bool :=
  let m := effPreds st ops
  Region.noSelect ops && decide (c < x) && (List.range ops.size).all fun j => match ops[j]? with
    | none => true
    | some oj =>
      oj.after.toList.all (fun e => !Region.binds .any e || decide (e.on < j)) &&
      (m.getD j []).all (fun i => oj.after.toList.any fun e => Region.binds .any e && (e.on == i || (m.getD e.on []).contains i)) &&
      ((List.range j).all fun i => match ops[i]? with
        | none => true
        | some oi => oj.after.toList.any (fun e => Region.binds .any e && e.on == i) || (oi.apart ops oj && (st oi || st oj || (m.getD j []).contains i || (i == c && j == x)))) &&
      (j == x || j == c || st oj || (m.getD j []).contains c) &&
      (match ops[x]? with
        | none => true
        | some ox => !(decide (c < j) && decide (j < x)) || (ox.apart ops oj && st oj))

theorem textB2_ok {x c : Nat} (h : textB2 st ops x c = true) : TextOk2 st ops (effPreds st ops) x c := by
  unfold textB2 at h
  simp only [Bool.and_eq_true, List.all_eq_true, List.mem_range, decide_eq_true_eq] at h
  obtain ⟨⟨hs, hlt⟩, h⟩ := h
  have lt : ∀ {j : Nat} {oj : Oper}, ops[j]? = some oj → j < ops.size := fun hj => (Array.getElem?_eq_some_iff.1 hj).1
  refine ⟨hs, fun j oj hj => ?_, fun j oj hj => ?_, fun j oj hj => ?_, fun j oj ox hj hox => ?_, fun j oj hj => ?_, hlt⟩
  all_goals
    have hh := h j (lt hj)
    simp only [hj, Bool.and_eq_true, List.all_eq_true, List.mem_range] at hh
    obtain ⟨⟨⟨⟨h1, h2⟩, h3⟩, h4⟩, h5⟩ := hh
  · intro e he hb
    have := h1 e (by simpa using he)
    simpa [hb] using this
  · intro i hi
    have := h2 i hi
    simp only [List.any_eq_true, Bool.and_eq_true, Bool.or_eq_true, beq_iff_eq, List.contains_iff_mem] at this
    obtain ⟨e, he, hb, hor⟩ := this
    exact ⟨e, by simpa using he, hb, hor⟩
  · intro i hi oi ho
    have := h3 i hi
    simp only [ho, Bool.or_eq_true, List.any_eq_true, Bool.and_eq_true, beq_iff_eq, List.contains_iff_mem] at this
    rcases this with ⟨e, he, hb, hor⟩ | ⟨ha, hor⟩
    · exact .inl ⟨e, by simpa using he, hb, hor⟩
    · exact .inr ⟨ha, by rcases hor with ((h | h) | h) | h; exact .inl h; exact .inr (.inl h); exact .inr (.inr (.inl h)); exact .inr (.inr (.inr h))⟩
  · intro hci hix
    simp only [hox, Bool.or_eq_true, Bool.not_eq_true', Bool.and_eq_false_iff, decide_eq_false_iff_not, Bool.and_eq_true] at h5
    rcases h5 with (h5 | h5) | h5
    · exact absurd hci h5
    · exact absurd hix h5
    · exact h5
  · intro hjx hjc
    simp only [Bool.or_eq_true, beq_iff_eq, List.contains_iff_mem] at h4
    rcases h4 with ((h4 | h4) | h4) | h4
    · exact absurd h4 hjx
    · exact absurd h4 hjc
    · exact .inl h4
    · exact .inr h4

def pick (l : List Oper) : List Nat → List Oper
  | [] => []
  | i :: is => match l[i]? with | some o => o :: pick l is | none => pick l is
theorem pick_eq (l : List Oper) : ∀ is, pick l is = is.filterMap (l.toArray[·]?)
  | [] => rfl
  | i :: is => by
    rw [pick, pick_eq l is]
    cases h : l[i]? with
    | none => rw [List.filterMap_cons_none (by simpa using h)]
    | some o => rw [List.filterMap_cons_some (by simpa using h)]
theorem pick_range (l : List Oper) : (List.range l.toArray.size).filterMap (l.toArray[·]?) = l := by
  have : ∀ n, (List.range n).filterMap (fun i => l.toArray[i]?) = l.take n := by
    intro n
    induction n with
    | zero => simp
    | succ n ih =>
      rw [List.range_succ, List.filterMap_append, ih]
      by_cases hn : n < l.length
      · rw [List.take_succ_eq_append_getElem hn]; simp [hn]
      · simp [hn, List.take_of_length_le (show l.length ≤ n by omega), List.take_of_length_le (show l.length ≤ n + 1 by omega)]
  rw [this]; simp

theorem wp_region_text2 {id : Nat} {Q' : Exit → Act → World → Prop} {a : Act} {w : World} {l : List Oper} (S : World → Prop) (st : Oper → Bool) (x c : Nat) (idx : List Nat) (hm : P.follows .mixedOrders = true) (hB : textB2 st l.toArray x c = true) (hi : mv x c (List.range l.toArray.size) = idx)
    (hS : S w.drew) (h : wpText P l.toArray st S (fun a' w' => Q' .normal a' w') l a w.drew) (h2 : wpText P l.toArray st S (fun a' w' => Q' .normal a' w') (pick l idx) a w.drew) : (Code.region id l.toArray true).wp P Q' a w := by
  refine wp_region_any hm ?_
  exact text_any2 (P := P) (S := S) (Q := fun a' w' => Q' .normal a' w') (textB2_ok hB) (Q' := Q') (fun _ _ h => h) l.toArray.size (List.range l.toArray.size) (Array.replicate l.toArray.size false) a w.drew
    (by simp) List.pairwise_lt_range (by simp) (by intro j; simp; intro h; simp [h]) (by intro k o hk hkl; exfalso; rw [Array.getD_eq_getD_getElem?, Array.getElem?_replicate] at hkl; split at hkl <;> simp at hkl) hS (by rw [pick_range]; exact h) (fun _ _ => by rw [hi, ← pick_eq]; exact h2)
end
theorem wp_region_since2 {P : Program} {id : Nat} {Q' : Exit → Act → World → Prop} {a : Act} {W w : World} {l : List Oper} (x c : Nat) (idx : List Nat) (hW : Below W.heap.size W w) (hm : P.follows .mixedOrders = true) (hB : textB2 looks l.toArray x c = true) (hi : mv x c (List.range l.toArray.size) = idx)
    (h : ∀ w1, Below W.heap.size W w1 → wpText P l.toArray looks (since W) (fun a' w' => Q' .normal a' w') l a w1)
    (h2 : ∀ w1, Below W.heap.size W w1 → wpText P l.toArray looks (since W) (fun a' w' => Q' .normal a' w') (pick l idx) a w1) : (Code.region id l.toArray true).wp P Q' a w :=
  wp_region_text2 (since W) looks x c idx hm hB hi ⟨⟨w.drew, hW.drew⟩, rfl⟩ (h _ hW.drew) (h2 _ hW.drew)
end Go.WW

namespace Go.WW
open Go.RowKit
theorem still_blk {X w3 : World} {k : Nat} {o : Obj} (hb3 : Below X.heap.size X w3) (hX : X.heap[k]? = some o) : w3.heap[k]? = some o := (hb3.block k (Array.getElem?_eq_some_iff.1 hX).1).trans hX
theorem acc_set (r : ERaw) (d : Entry) (p : Policy) (s : Bool) (now : Int) : subRow ((((accC r d p).setIfInBounds 11 (.int .i64 (failsOf d p s now))).setIfInBounds 12 (.int .i64 (lastFailOf d s now))).setIfInBounds 13 (.int .i64 (lastOkOf d s now))) 0 17 = some (entC r (attempted d p s now)) := by kernel_rfl
end Go.WW
namespace Go.Proofs.YtnpddjmjdpgohaaGreatDoor
open Go.RowKit Go.WW

set_option maxRecDepth 100000 in
set_option maxHeartbeats 4000000 in
theorem lAttempt_ok (r : ERaw) (d : Entry) (p : Policy) (s : Bool) (now : Int) (w : World) (he : EntAt w r d) (hs : p.name.size ≤ lim) (h1 : okAll d p now = true) (h2 : lockedAt d p now = false) :
  Calls Tryz.prog 23 #[.agg (entC r d), .agg (polC p), .bool s, .int .i64 now] w (EntOut w (attempted d p s now) 0) := by
 have hB : Below w.heap.size w (((w.alloc (.cells (entC r d) 31)).alloc (.cells (polC p) 33)).alloc (.cells (entC zeroR zeroD) 31)) := (((Below.refl _ _).alloc (Nat.le_refl _) _).alloc (by simp) _).alloc (by simp; omega) _
 have hz : canPut (((w.alloc (.cells (entC r d) 31)).alloc (.cells (polC p) 33)).alloc (.cells (entC zeroR zeroD) 31)) (w.heap.size + 1 + 1) 0 17 = true := by simp [go_sem]
 have hws : (((w.alloc (.cells (entC r d) 31)).alloc (.cells (polC p) 33)).alloc (.cells (entC zeroR zeroD) 31)).heap.size = w.heap.size + 1 + 1 + 1 := by simp
 have HWS := Lib.hid hws
 clear hws
 go_enter Tryz.func23, Tryz.ntmps23
 go_wp2_with fail
 rw [← zeroE_lit]
 refine (lvalid_c _ _ _ _ _ (he.later hB) hs).mono ?_
 rintro e w2 ⟨rfl, hb2⟩
 have hB2 := below_step hB hb2
 obtain ⟨hc, hf, hr⟩ := bcell hb2
 have hpp := bput hb2
 have hsz : w.heap.size + 1 + 1 < w2.heap.size := by have := hb2.size; simp at this; omega
 have hsz0 : w.heap.size < w2.heap.size := by omega
 have hsz1 : w.heap.size + 1 < w2.heap.size := by omega
 rw [h1]
 go_wp2_with fail
 obtain ⟨hsm, -, -, -⟩ := okAll_small h1
 refine wp_region_since2 4 1 [0, 4, 1, 2, 3, 5] hb2 (by kernel_rfl) (by kernel_rfl) (by rfl) ?_ ?_
 ·intro w4 hb4
  clear hc hf hr hpp hsz hsz0 hsz1
  have hB4 := below_step hB hb4
  obtain ⟨hc, hf, hr⟩ := bcell hb4
  have hsz : w.heap.size + 1 + 1 < w4.heap.size := by have := hb4.size; have := HWS.out; omega
  have hsz0 : w.heap.size < w4.heap.size := by omega
  have hsz1 : w.heap.size + 1 < w4.heap.size := by omega
  repeat (first | (refine text_skip (by rfl) ?_) | (refine text_look (by rfl) (by rfl) (fun K hK => ?_); go_big_quiet_op; refine hK _ ?_; clear hK K))
  refine text_act (by rfl) (by rfl) (fun K hK => ?_)
  go_wp2_with fail
  refine (eCopy_c r d _ (he.later hB4)).mono ?_
  rintro e w5 ⟨r', rfl, hb5, hd5⟩
  have hb5' := below_step hb4 hb5
  go_wp2_with fail
  refine hK _ _ (since_of hb5') ?_
  clear hK K
  clear hc hf hr
  obtain ⟨hc, hf, hr⟩ := bcell hb5'
  repeat (first | (refine text_skip (by rfl) ?_) | (refine text_look (by rfl) (by rfl) (fun K hK => ?_); go_big_quiet_op; refine hK _ ?_; clear hK K))
  refine text_act (by rfl) (by rfl) (fun K hK => ?_)
  go_wp2_with fail
  refine hK _ _ (since_of (below_new hb5' _)) ?_
  clear hK K
  repeat (first | (refine text_skip (by rfl) ?_) | (refine text_look (by rfl) (by rfl) (fun K hK => ?_); go_big_quiet_op; refine hK _ ?_; clear hK K))
  refine text_act (by rfl) (by rfl) (fun K hK => ?_)
  go_wp2_with fail
  refine hK _ _ (since_of (below_new hb5' (.cells (accC r' d p) 72))) ?_
  clear hK K
  repeat (first | (refine text_skip (by rfl) ?_) | (refine text_look (by rfl) (by rfl) (fun K hK => ?_); go_big_quiet_op; refine hK _ ?_; clear hK K))
  refine text_nil ?_
  have hVx : (w5.alloc (.cells (accC r' d p) 72)).heap[w5.heap.size]? = some (.cells (accC r' d p) 72) := World.alloc_heap_new _ _
  have hVb := below_new hb5' (.cells (accC r' d p) 72)
  have hVB := below_step hB hVb
  have hs5 := hb5.size
  have hd : Dep (w5.alloc (.cells (accC r' d p) 72)) (fun k => w4.heap.size ≤ k ∧ k < w5.heap.size) (fun x => EntAt x r' d) := hd5.to (fun k hk => Below.heap_alloc _ _ _ hk.2) (fun k hk => hk)
  have hAo : ¬ (w4.heap.size ≤ w5.heap.size ∧ w5.heap.size < w5.heap.size) := by omega
  have hAw : w.heap.size + 1 + 1 < w5.heap.size := by omega
  have hHV : ∀ k, (w4.heap.size ≤ k ∧ k < w5.heap.size) → k < (w5.alloc (.cells (accC r' d p) 72)).heap.size ∧ w.heap.size + 1 + 1 < k := fun k hk => ⟨by simp; omega, by omega⟩
  have HHV := Lib.hid hHV
  have HAO := Lib.hid hAo
  clear hc hf hr hsz hsz0 hsz1 hHV hAo hd5 hs5
  generalize w5.alloc (.cells (accC r' d p) 72) = V at *
  generalize w5.heap.size = A at *
  obtain ⟨hc, hf, hr, hlt⟩ := box_facts hVx
  go_wp2_with fail
  refine (alocked_c _ _ _ _ _ hsm).mono ?_
  rintro e V2 ⟨rfl, hbv⟩
  rw [h2]
  have hVx2 := still_blk hbv hVx
  clear hc hf hr hlt
  obtain ⟨hc, hf, hr, hlt⟩ := box_facts hVx2
  go_wp2_with fail
  refine (aattempt_c _ _ _ _ _ _ hsm).mono ?_
  rintro e V3 ⟨rfl, hbv3⟩
  have hVx3 := still_blk hbv3 hVx2
  have hvv := below_step hbv hbv3
  have hVB3 := below_step hVB hvv
  have hVb3 := below_step hVb hvv
  have hpp := bput hVb3
  have hsz : w.heap.size + 1 + 1 < V3.heap.size := by have := hVb3.size; have := HWS.out; omega
  have hy := setCell_blk (o := 13) (.int .i64 (lastOkOf d s now)) (setCell_blk (o := 12) (.int .i64 (lastFailOf d s now)) (setCell_blk (o := 11) (.int .i64 (failsOf d p s now)) hVx3))
  have hrow0 : row? (((V3.setCell ⟨A, 11, none⟩ (.int .i64 (failsOf d p s now))).setCell ⟨A, 12, none⟩ (.int .i64 (lastFailOf d s now))).setCell ⟨A, 13, none⟩ (.int .i64 (lastOkOf d s now))) A 0 17 = some (entC r' (attempted d p s now)) := (row?_of_cells hy).trans (acc_set r' d p s now)
  have hneA : w.heap.size + 1 + 1 ≠ A := by omega
  have hcp : canPut (((V3.setCell ⟨A, 11, none⟩ (.int .i64 (failsOf d p s now))).setCell ⟨A, 12, none⟩ (.int .i64 (lastFailOf d s now))).setCell ⟨A, 13, none⟩ (.int .i64 (lastOkOf d s now))) (w.heap.size + 1 + 1) 0 17 = true := by
   rw [canPut_setCell_other hneA, canPut_setCell_other hneA, canPut_setCell_other hneA]
   exact (hpp (w.heap.size + 1 + 1) 0 17 (by simp)).trans hz
  clear hc hf hr hlt hy
  obtain ⟨hc, hf, hr, hlt⟩ := box_facts hVx3
  clear hr
  go_wp2_with fail
  have hrow := row?_putRow_whole (entC_size r' (attempted d p s now)) hcp
  refine bodyPost_ret (results_row2 (by rfl) Tryz.underlying31 rfl (by kernel_rfl) rfl hrow) rfl ⟨r', rfl, Go.WW.Below.putRow (((hVB3.setCell (by simp; omega) _).setCell (by simp; omega) _).setCell (by simp; omega) _) (by omega), fun x hx => ?_⟩
  have h := hd x (fun k hk => by
   have h9 := (HHV.out k hk).1
   have h8 := (HHV.out k hk).2
   rw [hx k ⟨by omega, by rw [putRow_size]; simp only [World.setCell, Array.size_modify]; have := hvv.size; omega⟩]
   show (putRow (((V3.setCell ⟨A, 11, none⟩ (.int .i64 (failsOf d p s now))).setCell ⟨A, 12, none⟩ (.int .i64 (lastFailOf d s now))).setCell ⟨A, 13, none⟩ (.int .i64 (lastOkOf d s now))) (w.heap.size + 1 + 1) 0 (entC r' (attempted d p s now))).heap[k]? = V.heap[k]?
   have hkA : k ≠ A := fun e => HAO.out (e ▸ hk)
   rw [putRow_other (by omega), Below.heap_setCell _ _ _ _ hkA, Below.heap_setCell _ _ _ _ hkA, Below.heap_setCell _ _ _ _ hkA]
   exact hvv.block k (by omega))
  exact ⟨h.name, h.aliases, h.keys, h.targets, h.delegates, h.history, h.policy, h.attrs⟩
 ·intro w4 hb4
  change wpText _ _ _ _ _ [_, _, _, _, _, _] _ _
  clear hc hf hr hpp hsz hsz0 hsz1
  have hB4 := below_step hB hb4
  obtain ⟨hc, hf, hr⟩ := bcell hb4
  have hsz : w.heap.size + 1 + 1 < w4.heap.size := by have := hb4.size; have := HWS.out; omega
  have hsz0 : w.heap.size < w4.heap.size := by omega
  have hsz1 : w.heap.size + 1 < w4.heap.size := by omega
  repeat (first | (refine text_skip (by rfl) ?_) | (refine text_look (by rfl) (by rfl) (fun K hK => ?_); go_big_quiet_op; refine hK _ ?_; clear hK K))
  refine text_act (by rfl) (by rfl) (fun K hK => ?_)
  go_wp2_with fail
  refine hK _ _ (since_of (below_new hb4 _)) ?_
  clear hK K
  repeat (first | (refine text_skip (by rfl) ?_) | (refine text_look (by rfl) (by rfl) (fun K hK => ?_); go_big_quiet_op; refine hK _ ?_; clear hK K))
  refine text_act (by rfl) (by rfl) (fun K hK => ?_)
  go_wp2_with fail
  have hb4' := below_new hb4 (.cells #[.slice none 0 0, .string ⟨#[]⟩, .slice none 0 0, .int .u32 0, .int .i64 0, .slice none 0 0, .string ⟨#[]⟩, .int .i64 0, .int .i64 0, .int .i64 0, .int .i64 0, .int .i64 0, .int .i64 0, .int .i64 0, .slice none 0 0, .slice none 0 0, .slice none 0 0, .string ⟨#[]⟩, .int .i64 0, .int .i64 0, .int .i64 0, .int .i64 0, .int .i64 0, .int .i64 0, .int .i64 0, .int .i64 0, .int .i64 0] 72)
  have hB4' := below_step hB hb4'
  refine (eCopy_c r d _ (he.later hB4')).mono ?_
  rintro e w5 ⟨r', rfl, hb5, hd5⟩
  have hb5' := below_step hb4' hb5
  have hk5 : w5.heap[w4.heap.size]? = some (.cells #[.slice none 0 0, .string ⟨#[]⟩, .slice none 0 0, .int .u32 0, .int .i64 0, .slice none 0 0, .string ⟨#[]⟩, .int .i64 0, .int .i64 0, .int .i64 0, .int .i64 0, .int .i64 0, .int .i64 0, .int .i64 0, .slice none 0 0, .slice none 0 0, .slice none 0 0, .string ⟨#[]⟩, .int .i64 0, .int .i64 0, .int .i64 0, .int .i64 0, .int .i64 0, .int .i64 0, .int .i64 0, .int .i64 0, .int .i64 0] 72) := still_blk hb5 (World.alloc_heap_new _ _)
  have hcp5 : canPut w5 w4.heap.size 0 27 = true := canPut_of_cells hk5 (by simp)
  go_wp2_with fail
  refine hK _ _ (since_of hb5') ?_
  clear hK K
  clear hc hf hr
  obtain ⟨hc, hf, hr⟩ := bcell hb5'
  repeat (first | (refine text_skip (by rfl) ?_) | (refine text_look (by rfl) (by rfl) (fun K hK => ?_); go_big_quiet_op; refine hK _ ?_; clear hK K))
  refine text_act (by rfl) (by rfl) (fun K hK => ?_)
  go_wp2_with fail
  have hbP : Below (((w.alloc (.cells (entC r d) 31)).alloc (.cells (polC p) 33)).alloc (.cells (entC zeroR zeroD) 31)).heap.size (((w.alloc (.cells (entC r d) 31)).alloc (.cells (polC p) 33)).alloc (.cells (entC zeroR zeroD) 31)) (putRow w5 w4.heap.size 0 (accC r' d p)) := Go.WW.Below.putRow hb5' hb4.size
  refine hK _ _ (since_of hbP) ?_
  clear hK K
  repeat (first | (refine text_skip (by rfl) ?_) | (refine text_look (by rfl) (by rfl) (fun K hK => ?_); go_big_quiet_op; refine hK _ ?_; clear hK K))
  refine text_nil ?_
  have hVx : (putRow w5 w4.heap.size 0 (accC r' d p)).heap[w4.heap.size]? = some (.cells (accC r' d p) 72) := (putRow_blk hk5 (by simp [go_sem])).trans (by rw [splice_whole (by simp [go_sem])])
  have hVb := hbP
  have hVB := below_step hB hVb
  have hs5 := hb5.size
  simp at hs5
  have hd : Dep (putRow w5 w4.heap.size 0 (accC r' d p)) (fun k => w4.heap.size + 1 ≤ k ∧ k < w5.heap.size) (fun x => EntAt x r' d) := hd5.to (fun k hk => putRow_other (by have h1 := hk.1; simp at h1; omega)) (fun k hk => ⟨by have h1 := hk.1; simpa using h1, hk.2⟩)
  have hAo : ¬ (w4.heap.size + 1 ≤ w4.heap.size ∧ w4.heap.size < w5.heap.size) := by omega
  have hAw : w.heap.size + 1 + 1 < w4.heap.size := by omega
  have hHV : ∀ k, (w4.heap.size + 1 ≤ k ∧ k < w5.heap.size) → k < (putRow w5 w4.heap.size 0 (accC r' d p)).heap.size ∧ w.heap.size + 1 + 1 < k := fun k hk => ⟨by rw [putRow_size]; omega, by omega⟩
  have HHV := Lib.hid hHV
  have HAO := Lib.hid hAo
  clear hc hf hr hsz hsz0 hsz1 hHV hAo hd5 hs5 hcp5 hk5 hbP
  generalize putRow w5 w4.heap.size 0 (accC r' d p) = V at *
  generalize w4.heap.size = A at *
  obtain ⟨hc, hf, hr, hlt⟩ := box_facts hVx
  go_wp2_with fail
  refine (alocked_c _ _ _ _ _ hsm).mono ?_
  rintro e V2 ⟨rfl, hbv⟩
  rw [h2]
  have hVx2 := still_blk hbv hVx
  clear hc hf hr hlt
  obtain ⟨hc, hf, hr, hlt⟩ := box_facts hVx2
  go_wp2_with fail
  refine (aattempt_c _ _ _ _ _ _ hsm).mono ?_
  rintro e V3 ⟨rfl, hbv3⟩
  have hVx3 := still_blk hbv3 hVx2
  have hvv := below_step hbv hbv3
  have hVB3 := below_step hVB hvv
  have hVb3 := below_step hVb hvv
  have hpp := bput hVb3
  have hsz : w.heap.size + 1 + 1 < V3.heap.size := by have := hVb3.size; have := HWS.out; omega
  have hy := setCell_blk (o := 13) (.int .i64 (lastOkOf d s now)) (setCell_blk (o := 12) (.int .i64 (lastFailOf d s now)) (setCell_blk (o := 11) (.int .i64 (failsOf d p s now)) hVx3))
  have hrow0 : row? (((V3.setCell ⟨A, 11, none⟩ (.int .i64 (failsOf d p s now))).setCell ⟨A, 12, none⟩ (.int .i64 (lastFailOf d s now))).setCell ⟨A, 13, none⟩ (.int .i64 (lastOkOf d s now))) A 0 17 = some (entC r' (attempted d p s now)) := (row?_of_cells hy).trans (acc_set r' d p s now)
  have hneA : w.heap.size + 1 + 1 ≠ A := by omega
  have hcp : canPut (((V3.setCell ⟨A, 11, none⟩ (.int .i64 (failsOf d p s now))).setCell ⟨A, 12, none⟩ (.int .i64 (lastFailOf d s now))).setCell ⟨A, 13, none⟩ (.int .i64 (lastOkOf d s now))) (w.heap.size + 1 + 1) 0 17 = true := by
   rw [canPut_setCell_other hneA, canPut_setCell_other hneA, canPut_setCell_other hneA]
   exact (hpp (w.heap.size + 1 + 1) 0 17 (by simp)).trans hz
  clear hc hf hr hlt hy
  obtain ⟨hc, hf, hr, hlt⟩ := box_facts hVx3
  clear hr
  go_wp2_with fail
  have hrow := row?_putRow_whole (entC_size r' (attempted d p s now)) hcp
  refine bodyPost_ret (results_row2 (by rfl) Tryz.underlying31 rfl (by kernel_rfl) rfl hrow) rfl ⟨r', rfl, Go.WW.Below.putRow (((hVB3.setCell (by simp; omega) _).setCell (by simp; omega) _).setCell (by simp; omega) _) (by omega), fun x hx => ?_⟩
  have h := hd x (fun k hk => by
   have h9 := (HHV.out k hk).1
   have h8 := (HHV.out k hk).2
   rw [hx k ⟨by omega, by rw [putRow_size]; simp only [World.setCell, Array.size_modify]; have := hvv.size; omega⟩]
   show (putRow (((V3.setCell ⟨A, 11, none⟩ (.int .i64 (failsOf d p s now))).setCell ⟨A, 12, none⟩ (.int .i64 (lastFailOf d s now))).setCell ⟨A, 13, none⟩ (.int .i64 (lastOkOf d s now))) (w.heap.size + 1 + 1) 0 (entC r' (attempted d p s now))).heap[k]? = V.heap[k]?
   have hkA : k ≠ A := fun e => HAO.out (e ▸ hk)
   rw [putRow_other (by omega), Below.heap_setCell _ _ _ _ hkA, Below.heap_setCell _ _ _ _ hkA, Below.heap_setCell _ _ _ _ hkA]
   exact hvv.block k (by omega))
  exact ⟨h.name, h.aliases, h.keys, h.targets, h.delegates, h.history, h.policy, h.attrs⟩

set_option maxRecDepth 100000 in
set_option maxHeartbeats 4000000 in
theorem lAttempt_locked (r : ERaw) (d : Entry) (p : Policy) (s : Bool) (now : Int) (w : World) (he : EntAt w r d) (hs : p.name.size ≤ lim) (h1 : okAll d p now = true) (h2 : lockedAt d p now = true) :
  Calls Tryz.prog 23 #[.agg (entC r d), .agg (polC p), .bool s, .int .i64 now] w (EntOut w zeroD 290) := by
 have hB : Below w.heap.size w (((w.alloc (.cells (entC r d) 31)).alloc (.cells (polC p) 33)).alloc (.cells (entC zeroR zeroD) 31)) := (((Below.refl _ _).alloc (Nat.le_refl _) _).alloc (by simp) _).alloc (by simp; omega) _
 have hz : canPut (((w.alloc (.cells (entC r d) 31)).alloc (.cells (polC p) 33)).alloc (.cells (entC zeroR zeroD) 31)) (w.heap.size + 1 + 1) 0 17 = true := by simp [go_sem]
 have hws : (((w.alloc (.cells (entC r d) 31)).alloc (.cells (polC p) 33)).alloc (.cells (entC zeroR zeroD) 31)).heap.size = w.heap.size + 1 + 1 + 1 := by simp
 have HWS := Lib.hid hws
 clear hws
 go_enter Tryz.func23, Tryz.ntmps23
 go_wp2_with fail
 rw [← zeroE_lit]
 refine (lvalid_c _ _ _ _ _ (he.later hB) hs).mono ?_
 rintro e w2 ⟨rfl, hb2⟩
 have hB2 := below_step hB hb2
 obtain ⟨hc, hf, hr⟩ := bcell hb2
 have hpp := bput hb2
 have hsz : w.heap.size + 1 + 1 < w2.heap.size := by have := hb2.size; simp at this; omega
 have hsz0 : w.heap.size < w2.heap.size := by omega
 have hsz1 : w.heap.size + 1 < w2.heap.size := by omega
 rw [h1]
 go_wp2_with fail
 obtain ⟨hsm, -, -, -⟩ := okAll_small h1
 refine wp_region_since2 4 1 [0, 4, 1, 2, 3, 5] hb2 (by kernel_rfl) (by kernel_rfl) (by rfl) ?_ ?_
 ·intro w4 hb4
  clear hc hf hr hpp hsz hsz0 hsz1
  have hB4 := below_step hB hb4
  obtain ⟨hc, hf, hr⟩ := bcell hb4
  have hsz : w.heap.size + 1 + 1 < w4.heap.size := by have := hb4.size; have := HWS.out; omega
  have hsz0 : w.heap.size < w4.heap.size := by omega
  have hsz1 : w.heap.size + 1 < w4.heap.size := by omega
  repeat (first | (refine text_skip (by rfl) ?_) | (refine text_look (by rfl) (by rfl) (fun K hK => ?_); go_big_quiet_op; refine hK _ ?_; clear hK K))
  refine text_act (by rfl) (by rfl) (fun K hK => ?_)
  go_wp2_with fail
  refine (eCopy_c r d _ (he.later hB4)).mono ?_
  rintro e w5 ⟨r', rfl, hb5, hd5⟩
  have hb5' := below_step hb4 hb5
  go_wp2_with fail
  refine hK _ _ (since_of hb5') ?_
  clear hK K
  clear hc hf hr
  obtain ⟨hc, hf, hr⟩ := bcell hb5'
  repeat (first | (refine text_skip (by rfl) ?_) | (refine text_look (by rfl) (by rfl) (fun K hK => ?_); go_big_quiet_op; refine hK _ ?_; clear hK K))
  refine text_act (by rfl) (by rfl) (fun K hK => ?_)
  go_wp2_with fail
  refine hK _ _ (since_of (below_new hb5' _)) ?_
  clear hK K
  repeat (first | (refine text_skip (by rfl) ?_) | (refine text_look (by rfl) (by rfl) (fun K hK => ?_); go_big_quiet_op; refine hK _ ?_; clear hK K))
  refine text_act (by rfl) (by rfl) (fun K hK => ?_)
  go_wp2_with fail
  refine hK _ _ (since_of (below_new hb5' (.cells (accC r' d p) 72))) ?_
  clear hK K
  repeat (first | (refine text_skip (by rfl) ?_) | (refine text_look (by rfl) (by rfl) (fun K hK => ?_); go_big_quiet_op; refine hK _ ?_; clear hK K))
  refine text_nil ?_
  have hVx : (w5.alloc (.cells (accC r' d p) 72)).heap[w5.heap.size]? = some (.cells (accC r' d p) 72) := World.alloc_heap_new _ _
  have hVb := below_new hb5' (.cells (accC r' d p) 72)
  have hVB := below_step hB hVb
  have hs5 := hb5.size
  have hd : Dep (w5.alloc (.cells (accC r' d p) 72)) (fun k => w4.heap.size ≤ k ∧ k < w5.heap.size) (fun x => EntAt x r' d) := hd5.to (fun k hk => Below.heap_alloc _ _ _ hk.2) (fun k hk => hk)
  have hAo : ¬ (w4.heap.size ≤ w5.heap.size ∧ w5.heap.size < w5.heap.size) := by omega
  have hAw : w.heap.size + 1 + 1 < w5.heap.size := by omega
  have hHV : ∀ k, (w4.heap.size ≤ k ∧ k < w5.heap.size) → k < (w5.alloc (.cells (accC r' d p) 72)).heap.size ∧ w.heap.size + 1 + 1 < k := fun k hk => ⟨by simp; omega, by omega⟩
  have HHV := Lib.hid hHV
  have HAO := Lib.hid hAo
  clear hc hf hr hsz hsz0 hsz1 hHV hAo hd5 hs5
  generalize w5.alloc (.cells (accC r' d p) 72) = V at *
  generalize w5.heap.size = A at *
  obtain ⟨hc, hf, hr, hlt⟩ := box_facts hVx
  have hsm' := hsm
  clear hsm'
  go_wp2_with fail
  refine (alocked_c _ _ _ _ _ hsm).mono ?_
  rintro e V2 ⟨rfl, hbv⟩
  rw [h2]
  have hVB2 := below_step hVB hbv
  have hpp := bput (below_step hVb hbv)
  have hsz : w.heap.size + 1 + 1 < V2.heap.size := by have := (below_step hVb hbv).size; have := HWS.out; omega
  clear hc hf hr hlt
  go_wp2_with fail
  have hrow := row?_putRow_whole (w := V2) (entC_size zeroR zeroD) ((hpp (w.heap.size + 1 + 1) 0 17 (by simp)).trans hz)
  exact bodyPost_ret (results_row2 (by rfl) Tryz.underlying31 rfl (by kernel_rfl) rfl hrow) rfl ⟨zeroR, rfl, Go.WW.Below.putRow hVB2 (by omega), fun x _ => zeroE_at x⟩
 ·intro w4 hb4
  change wpText _ _ _ _ _ [_, _, _, _, _, _] _ _
  clear hc hf hr hpp hsz hsz0 hsz1
  have hB4 := below_step hB hb4
  obtain ⟨hc, hf, hr⟩ := bcell hb4
  have hsz : w.heap.size + 1 + 1 < w4.heap.size := by have := hb4.size; have := HWS.out; omega
  have hsz0 : w.heap.size < w4.heap.size := by omega
  have hsz1 : w.heap.size + 1 < w4.heap.size := by omega
  repeat (first | (refine text_skip (by rfl) ?_) | (refine text_look (by rfl) (by rfl) (fun K hK => ?_); go_big_quiet_op; refine hK _ ?_; clear hK K))
  refine text_act (by rfl) (by rfl) (fun K hK => ?_)
  go_wp2_with fail
  refine hK _ _ (since_of (below_new hb4 _)) ?_
  clear hK K
  repeat (first | (refine text_skip (by rfl) ?_) | (refine text_look (by rfl) (by rfl) (fun K hK => ?_); go_big_quiet_op; refine hK _ ?_; clear hK K))
  refine text_act (by rfl) (by rfl) (fun K hK => ?_)
  go_wp2_with fail
  have hb4' := below_new hb4 (.cells #[.slice none 0 0, .string ⟨#[]⟩, .slice none 0 0, .int .u32 0, .int .i64 0, .slice none 0 0, .string ⟨#[]⟩, .int .i64 0, .int .i64 0, .int .i64 0, .int .i64 0, .int .i64 0, .int .i64 0, .int .i64 0, .slice none 0 0, .slice none 0 0, .slice none 0 0, .string ⟨#[]⟩, .int .i64 0, .int .i64 0, .int .i64 0, .int .i64 0, .int .i64 0, .int .i64 0, .int .i64 0, .int .i64 0, .int .i64 0] 72)
  have hB4' := below_step hB hb4'
  refine (eCopy_c r d _ (he.later hB4')).mono ?_
  rintro e w5 ⟨r', rfl, hb5, hd5⟩
  have hb5' := below_step hb4' hb5
  have hk5 : w5.heap[w4.heap.size]? = some (.cells #[.slice none 0 0, .string ⟨#[]⟩, .slice none 0 0, .int .u32 0, .int .i64 0, .slice none 0 0, .string ⟨#[]⟩, .int .i64 0, .int .i64 0, .int .i64 0, .int .i64 0, .int .i64 0, .int .i64 0, .int .i64 0, .slice none 0 0, .slice none 0 0, .slice none 0 0, .string ⟨#[]⟩, .int .i64 0, .int .i64 0, .int .i64 0, .int .i64 0, .int .i64 0, .int .i64 0, .int .i64 0, .int .i64 0, .int .i64 0] 72) := still_blk hb5 (World.alloc_heap_new _ _)
  have hcp5 : canPut w5 w4.heap.size 0 27 = true := canPut_of_cells hk5 (by simp)
  go_wp2_with fail
  refine hK _ _ (since_of hb5') ?_
  clear hK K
  clear hc hf hr
  obtain ⟨hc, hf, hr⟩ := bcell hb5'
  repeat (first | (refine text_skip (by rfl) ?_) | (refine text_look (by rfl) (by rfl) (fun K hK => ?_); go_big_quiet_op; refine hK _ ?_; clear hK K))
  refine text_act (by rfl) (by rfl) (fun K hK => ?_)
  go_wp2_with fail
  have hbP : Below (((w.alloc (.cells (entC r d) 31)).alloc (.cells (polC p) 33)).alloc (.cells (entC zeroR zeroD) 31)).heap.size (((w.alloc (.cells (entC r d) 31)).alloc (.cells (polC p) 33)).alloc (.cells (entC zeroR zeroD) 31)) (putRow w5 w4.heap.size 0 (accC r' d p)) := Go.WW.Below.putRow hb5' hb4.size
  refine hK _ _ (since_of hbP) ?_
  clear hK K
  repeat (first | (refine text_skip (by rfl) ?_) | (refine text_look (by rfl) (by rfl) (fun K hK => ?_); go_big_quiet_op; refine hK _ ?_; clear hK K))
  refine text_nil ?_
  have hVx : (putRow w5 w4.heap.size 0 (accC r' d p)).heap[w4.heap.size]? = some (.cells (accC r' d p) 72) := (putRow_blk hk5 (by simp [go_sem])).trans (by rw [splice_whole (by simp [go_sem])])
  have hVb := hbP
  have hVB := below_step hB hVb
  have hs5 := hb5.size
  simp at hs5
  have hd : Dep (putRow w5 w4.heap.size 0 (accC r' d p)) (fun k => w4.heap.size + 1 ≤ k ∧ k < w5.heap.size) (fun x => EntAt x r' d) := hd5.to (fun k hk => putRow_other (by have h1 := hk.1; simp at h1; omega)) (fun k hk => ⟨by have h1 := hk.1; simpa using h1, hk.2⟩)
  have hAo : ¬ (w4.heap.size + 1 ≤ w4.heap.size ∧ w4.heap.size < w5.heap.size) := by omega
  have hAw : w.heap.size + 1 + 1 < w4.heap.size := by omega
  have hHV : ∀ k, (w4.heap.size + 1 ≤ k ∧ k < w5.heap.size) → k < (putRow w5 w4.heap.size 0 (accC r' d p)).heap.size ∧ w.heap.size + 1 + 1 < k := fun k hk => ⟨by rw [putRow_size]; omega, by omega⟩
  have HHV := Lib.hid hHV
  have HAO := Lib.hid hAo
  clear hc hf hr hsz hsz0 hsz1 hHV hAo hd5 hs5 hcp5 hk5 hbP
  generalize putRow w5 w4.heap.size 0 (accC r' d p) = V at *
  generalize w4.heap.size = A at *
  obtain ⟨hc, hf, hr, hlt⟩ := box_facts hVx
  have hsm' := hsm
  clear hsm'
  go_wp2_with fail
  refine (alocked_c _ _ _ _ _ hsm).mono ?_
  rintro e V2 ⟨rfl, hbv⟩
  rw [h2]
  have hVB2 := below_step hVB hbv
  have hpp := bput (below_step hVb hbv)
  have hsz : w.heap.size + 1 + 1 < V2.heap.size := by have := (below_step hVb hbv).size; have := HWS.out; omega
  clear hc hf hr hlt
  go_wp2_with fail
  have hrow := row?_putRow_whole (w := V2) (entC_size zeroR zeroD) ((hpp (w.heap.size + 1 + 1) 0 17 (by simp)).trans hz)
  exact bodyPost_ret (results_row2 (by rfl) Tryz.underlying31 rfl (by kernel_rfl) rfl hrow) rfl ⟨zeroR, rfl, Go.WW.Below.putRow hVB2 (by omega), fun x _ => zeroE_at x⟩

end Go.Proofs.YtnpddjmjdpgohaaGreatDoor
