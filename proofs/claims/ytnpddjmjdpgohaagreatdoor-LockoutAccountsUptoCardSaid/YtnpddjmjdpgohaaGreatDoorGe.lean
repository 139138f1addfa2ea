/- Part e of the proof about watchword's lockout: texts Y13 W1 Y14 Y15 Y16. -/
import Derived.Test.YtnpddjmjdpgohaaGreatDoorGd
import Derived.Test.YtnpddjmjdpgohaaGreatDoorGH
import Derived.Test.YtnpddjmjdpgohaaGreatDoorG7
import Derived.Test.YtnpddjmjdpgohaaGreatDoorG6
import Derived.Test.YtnpddjmjdpgohaaGreatDoorGB
import Derived.Test.YtnpddjmjdpgohaaGreatDoorGN

namespace Go.WW
open Go.RowKit
def unlP : Policy := ⟨⟨#[110, 111, 110, 101]⟩, 1, 1, 0, 0, 0, 0, 0, 0, 0⟩
theorem zeroP_lit : polC zeroP = #[.string ⟨#[]⟩, .int .i64 0, .int .i64 0, .int .i64 0, .int .i64 0, .int .i64 0, .int .i64 0, .int .i64 0, .int .i64 0, .int .i64 0] := rfl
def polOf (P : List Policy) (d : Entry) : Policy := if d.policy = ⟨#[]⟩ then unlP else (P.find? (fun x => decide (x.name = d.policy))).getD zeroP
end Go.WW
namespace Go.Proofs.YtnpddjmjdpgohaaGreatDoor
open Go.RowKit Go.WW
theorem execOp_buildU (ρ : Operand → Value) (dst : Option Tmp) (ty : TypeId) (pos : String) (after : Array Edge) (guard : Option (Nat × Bool)) :
    execOp ρ { dst, op := .build 33 #[(0, .const (.string ⟨#[110, 111, 110, 101]⟩)), (1, .const (.int .i64 1)), (2, .const (.int .i64 1))], type := ty, pos, after, guard } = structBuild 33 #[(0, ρ (.const (.string ⟨#[110, 111, 110, 101]⟩))), (1, ρ (.const (.int .i64 1))), (2, ρ (.const (.int .i64 1)))] := by simp [execOp, structBuild]
theorem buildU (w : World) : (structBuild 33 #[(0, .string ⟨#[110, 111, 110, 101]⟩), (1, .int .i64 1), (2, .int .i64 1)]).run Tryz.prog w = .ok (.value (.agg (polC unlP))) w := by kernel_rfl
attribute [go_sem] buildU
attribute [go_sem ↓] execOp_buildU
set_option maxRecDepth 100000 in
theorem unlimited_c (w : World) : Calls Tryz.prog 76 #[] w fun z w' => z = .returned (.agg (polC unlP)) ∧ Below w.heap.size w w' := by
  go_enter Tryz.func76, Tryz.ntmps76
  go_wp2_with fail
  have hrow : row? (w.alloc (.cells (polC unlP) 33)) w.heap.size 0 10 = some (polC unlP) := by rw [row?_alloc_at rfl]; exact subRow_whole (polC_size unlP)
  exact bodyPost_ret (results_row (by rfl) Tryz.underlying33 rfl (by kernel_rfl) rfl hrow) rfl ⟨rfl, below_new (Below.refl _ _) _⟩
set_option maxRecDepth 100000 in
set_option maxHeartbeats 1000000 in
theorem policyOf_none (v : Value) (r : ERaw) (d : Entry) (w : World) (hp : d.policy = ⟨#[]⟩) : Calls Tryz.prog 43 #[v, .agg (entC r d)] w fun z w' => z = .returned (.agg (polC unlP)) ∧ Below w.heap.size w w' := by
  have hB : Below w.heap.size w ((w.alloc (.cells (entC r d) 31)).alloc (.cells (polC zeroP) 33)) := below_new ((Below.refl _ _).alloc (Nat.le_refl _) _) _
  have hx3 : ((w.alloc (.cells (entC r d) 31)).alloc (.cells (polC zeroP) 33)).heap[w.heap.size]? = some (.cells (entC r d) 31) := second_blk _ _ _
  have hz3 : canPut ((w.alloc (.cells (entC r d) 31)).alloc (.cells (polC zeroP) 33)) (w.heap.size + 1) 0 10 = true := by simp [go_sem]
  have hc6 : ((w.alloc (.cells (entC r d) 31)).alloc (.cells (polC zeroP) 33)).cell? ⟨w.heap.size, 6, none⟩ = some (.string ⟨#[]⟩) := by rw [(box_facts hx3).1 6, entC_6, hp]
  have hl : w.heap.size + 1 < ((w.alloc (.cells (entC r d) 31)).alloc (.cells (polC zeroP) 33)).heap.size := by simp
  clear hx3
  rw [zeroP_lit] at hB hz3 hc6 hl
  go_enter Tryz.func43, Tryz.ntmps43
  go_wp2_with fail
  rw [← zeroP_lit] at *
  generalize ((w.alloc (.cells (entC r d) 31)).alloc (.cells (polC zeroP) 33)) = W at *
  refine (unlimited_c W).mono ?_
  rintro z w2 ⟨rfl, hb2⟩
  dsimp only
  have hz2 := (bput hb2 (w.heap.size + 1) 0 10 hl).trans hz3
  go_wp2_with fail
  have hrow := row?_putRow_whole (w := w2) (polC_size unlP) hz2
  exact bodyPost_ret (results_row (by rfl) Tryz.underlying33 rfl (by kernel_rfl) rfl hrow) rfl ⟨rfl, Go.WW.Below.putRow (below_step hB hb2) (by omega)⟩
end Go.Proofs.YtnpddjmjdpgohaaGreatDoor

namespace Go.WW
/-! ### The names' map -/
def setS (L : List (ByteArray × ByteArray)) (k o : ByteArray) : List (ByteArray × ByteArray) := if L.any (fun x => decide (x.1 = k)) = true then L.map (fun x => if x.1 = k then (k, o) else x) else L ++ [(k, o)]
def delS (L : List (ByteArray × ByteArray)) (k : ByteArray) : List (ByteArray × ByteArray) := L.filter fun x => decide (x.1 ≠ k)
theorem setM_strM (L : List (ByteArray × ByteArray)) (k o : ByteArray) : setM (strM L) k (.string o) = strM (setS L k o) := by
  have h : hasK (strM L) k = L.any (fun x => decide (x.1 = k)) := by
    unfold hasK strM; rw [List.any_map]; rfl
  unfold setM setS
  rw [h]
  unfold strM
  split
  · rw [List.map_map, List.map_map]
    refine List.map_congr_left fun x _ => ?_
    simp only [Function.comp]
    split <;> rfl
  · simp
theorem delM_strM (L : List (ByteArray × ByteArray)) (k : ByteArray) : delM (strM L) k = strM (delS L k) := by
  unfold delM delS strM
  rw [List.filter_map]
  rfl
def setAllS (L : List (ByteArray × ByteArray)) (k : ByteArray) (ps : List Prin) : List (ByteArray × ByteArray) := ps.foldl (fun m p => setS m (textOf p) k) L
def delAllS (L : List (ByteArray × ByteArray)) (ps : List Prin) : List (ByteArray × ByteArray) := ps.foldl (fun m p => delS m (textOf p)) L
theorem setAll_strM (k : ByteArray) : ∀ (ps : List Prin) (L : List (ByteArray × ByteArray)), setAll (strM L) k ps = strM (setAllS L k ps)
  | [], _ => rfl
  | p :: ps, L => by
    show setAll (setM (strM L) (textOf p) (.string k)) k ps = strM (setAllS (setS L (textOf p) k) k ps)
    rw [setM_strM]; exact setAll_strM k ps _
theorem delAll_strM : ∀ (ps : List Prin) (L : List (ByteArray × ByteArray)), delAll (strM L) ps = strM (delAllS L ps)
  | [], _ => rfl
  | p :: ps, L => by
    show delAll (delM (strM L) (textOf p)) ps = strM (delAllS (delS L (textOf p)) ps)
    rw [delM_strM]; exact delAll_strM ps _
theorem mem_delS {L : List (ByteArray × ByteArray)} {j k o : ByteArray} : (k, o) ∈ delS L j ↔ k ≠ j ∧ (k, o) ∈ L := by
  unfold delS
  rw [List.mem_filter]
  simp only [ne_eq, decide_not, Bool.not_eq_eq_eq_not, Bool.not_true, decide_eq_false_iff_not]
  exact And.comm
theorem mem_setS {L : List (ByteArray × ByteArray)} {j v k o : ByteArray} : (k, o) ∈ setS L j v ↔ (k = j ∧ o = v) ∨ (k ≠ j ∧ (k, o) ∈ L) := by
  unfold setS
  by_cases h : L.any (fun x => decide (x.1 = j)) = true
  · rw [if_pos h]
    obtain ⟨x0, hx0, e0⟩ := List.any_eq_true.1 h
    have e0 : x0.1 = j := by simpa using e0
    constructor
    · intro hm
      obtain ⟨x, hx, e⟩ := List.mem_map.1 hm
      by_cases hj : x.1 = j
      · rw [if_pos hj] at e; cases e; exact .inl ⟨rfl, rfl⟩
      · rw [if_neg hj] at e; subst e; exact .inr ⟨hj, hx⟩
    · rintro (⟨rfl, rfl⟩ | ⟨h1, h2⟩)
      · exact List.mem_map.2 ⟨x0, hx0, by rw [if_pos e0]⟩
      · exact List.mem_map.2 ⟨(k, o), h2, by rw [if_neg h1]⟩
  · rw [if_neg h]
    have hn : ∀ x ∈ L, ¬ x.1 = j := fun x hx e => h (List.any_eq_true.2 ⟨x, hx, by simpa using e⟩)
    constructor
    · intro hm
      rcases List.mem_append.1 hm with h1 | h1
      · exact .inr ⟨hn _ h1, h1⟩
      · simp only [List.mem_singleton, Prod.mk.injEq] at h1; exact .inl h1
    · rintro (⟨rfl, rfl⟩ | ⟨h1, h2⟩)
      · simp
      · exact List.mem_append_left _ h2
theorem mem_delAllS {k o : ByteArray} : ∀ (ps : List Prin) (L : List (ByteArray × ByteArray)), (k, o) ∈ delAllS L ps ↔ (∀ q ∈ ps, k ≠ textOf q) ∧ (k, o) ∈ L
  | [], L => by simp [delAllS]
  | p :: ps, L => by
    show (k, o) ∈ delAllS (delS L (textOf p)) ps ↔ _
    rw [mem_delAllS ps, mem_delS]
    constructor
    · rintro ⟨h1, h2, h3⟩
      exact ⟨fun q hq => by rcases List.mem_cons.1 hq with rfl | hq <;> first | exact h2 | exact h1 q hq, h3⟩
    · rintro ⟨h1, h2⟩
      exact ⟨fun q hq => h1 q (List.mem_cons_of_mem _ hq), h1 p (List.mem_cons_self ..), h2⟩
theorem mem_setAllS {v k o : ByteArray} : ∀ (ps : List Prin) (L : List (ByteArray × ByteArray)), (k, o) ∈ setAllS L v ps ↔ (o = v ∧ ∃ q ∈ ps, k = textOf q) ∨ ((∀ q ∈ ps, k ≠ textOf q) ∧ (k, o) ∈ L)
  | [], L => by simp [setAllS]
  | p :: ps, L => by
    show (k, o) ∈ setAllS (setS L (textOf p) v) v ps ↔ _
    rw [mem_setAllS ps, mem_setS]
    constructor
    · rintro (⟨h1, q, hq, h2⟩ | ⟨h1, (⟨h2, h3⟩ | ⟨h2, h3⟩)⟩)
      · exact .inl ⟨h1, q, List.mem_cons_of_mem _ hq, h2⟩
      · exact .inl ⟨h3, p, List.mem_cons_self .., h2⟩
      · exact .inr ⟨fun q hq => by rcases List.mem_cons.1 hq with rfl | hq <;> first | exact h2 | exact h1 q hq, h3⟩
    · rintro (⟨h1, q, hq, h2⟩ | ⟨h1, h2⟩)
      · by_cases hp : ∃ q ∈ ps, k = textOf q
        · exact .inl ⟨h1, hp⟩
        · have hn : ∀ q ∈ ps, k ≠ textOf q := fun q hq e => hp ⟨q, hq, e⟩
          rcases List.mem_cons.1 hq with rfl | hq
          · exact .inr ⟨hn, .inl ⟨h2, h1⟩⟩
          · exact absurd h2 (hn q hq)
      · exact .inr ⟨fun q hq => h1 q (List.mem_cons_of_mem _ hq), .inr ⟨h1 p (List.mem_cons_self ..), h2⟩⟩
theorem nodup_idx {β : Type} {l : List β} (h : l.Nodup) {i j : Nat} (hi : i < l.length) (hj : j < l.length) (e : l[i] = l[j]) : i = j := by
  rcases Nat.lt_trichotomy i j with h1 | h1 | h1
  · exact absurd e (List.pairwise_iff_getElem.1 h i j hi hj h1)
  · exact h1
  · exact absurd e.symm (List.pairwise_iff_getElem.1 h j i hj hi h1)
/-! ### What is known of the names -/
def nmsOf (d : Entry) : List Prin := d.name :: d.aliases
def NamesRel (NL : List (ByteArray × ByteArray)) (E : List Entry) : Prop := ∀ k o, (k, o) ∈ NL ↔ ∃ x ∈ E, textOf x.name = o ∧ ∃ q ∈ nmsOf x, k = textOf q
structure GoodE (E : List Entry) : Prop where
  ok : ∀ x ∈ E, entryOk x = true
  nodup : (E.map fun x => textOf x.name).Nodup
  apart : ∀ x ∈ E, ∀ y ∈ E, ∀ q ∈ nmsOf x, ∀ q' ∈ nmsOf y, textOf q = textOf q' → textOf x.name = textOf y.name
theorem GoodE.nil : GoodE [] := ⟨by simp, by simp, by simp⟩
theorem GoodE.perm {E F : List Entry} (h : GoodE E) (p : F.Perm E) : GoodE F :=
  ⟨fun x hx => h.ok x (p.mem_iff.1 hx), (p.map _).nodup_iff.2 h.nodup, fun x hx y hy => h.apart x (p.mem_iff.1 hx) y (p.mem_iff.1 hy)⟩
theorem GoodE.same {E : List Entry} (h : GoodE E) {x y : Entry} (hx : x ∈ E) (hy : y ∈ E) (e : textOf x.name = textOf y.name) : x = y := by
  obtain ⟨i, hi, rfl⟩ := List.mem_iff_getElem.1 hx
  obtain ⟨j, hj, rfl⟩ := List.mem_iff_getElem.1 hy
  obtain rfl := nodup_idx h.nodup (i := i) (j := j) (by simpa using hi) (by simpa using hj) (by simpa using e)
  rfl
theorem diffAll_ok {l : List Prin} (h : different l = true) : ∀ q ∈ l, prinOk q = true := by
  intro q hq
  obtain ⟨i, hi, rfl⟩ := List.mem_iff_getElem.1 hq
  cases hp : prinOk l[i] with
  | true => rfl
  | false => rw [diff_no1 i hi hp] at h; cases h
theorem entryOk_nms {d : Entry} (h : entryOk d = true) : ∀ q ∈ nmsOf d, prinOk q = true := by
  simp only [entryOk, Bool.and_eq_true] at h
  obtain ⟨⟨⟨⟨⟨⟨⟨⟨⟨h1, h2⟩, -⟩, -⟩, -⟩, -⟩, -⟩, -⟩, -⟩, -⟩ := h
  intro q hq
  rcases List.mem_cons.1 hq with rfl | hq
  · exact h1
  · exact diffAll_ok h2 q hq
def dropE (E : List Entry) (k : ByteArray) : List Entry := E.filter fun x => decide (textOf x.name ≠ k)
theorem dropE_none {E : List Entry} {k : ByteArray} (h : ∀ x ∈ E, textOf x.name ≠ k) : dropE E k = E := List.filter_eq_self.2 fun x hx => by simpa using h x hx
theorem mem_dropE {E : List Entry} {k : ByteArray} {x : Entry} : x ∈ dropE E k ↔ x ∈ E ∧ textOf x.name ≠ k := by simp [dropE]
theorem names_del {NL : List (ByteArray × ByteArray)} {E : List Entry} (h : NamesRel NL E) (hg : GoodE E) {x0 : Entry} (hx : x0 ∈ E) : NamesRel (delAllS NL (nmsOf x0)) (dropE E (textOf x0.name)) := by
  intro k o
  rw [mem_delAllS, h k o]
  constructor
  · rintro ⟨h1, x, hxE, h2, q, hq, h3⟩
    refine ⟨x, mem_dropE.2 ⟨hxE, fun e => ?_⟩, h2, q, hq, h3⟩
    rw [hg.same hxE hx e] at hq
    exact h1 q hq h3
  · rintro ⟨x, hxE, h2, q, hq, h3⟩
    obtain ⟨hxE, hne⟩ := mem_dropE.1 hxE
    exact ⟨fun q' hq' e => hne (hg.apart x hxE x0 hx q hq q' hq' (h3.symm.trans e)), x, hxE, h2, q, hq, h3⟩
theorem names_put {NL NL1 : List (ByteArray × ByteArray)} {E E1 : List Entry} {d : Entry} (h : NamesRel NL E) (h1 : NamesRel NL1 E1) (hE : ∀ x ∈ E1, x ∈ E ∧ textOf x.name ≠ textOf d.name) (hf : freeN NL (textOf d.name) (nmsOf d)) :
    NamesRel (setAllS NL1 (textOf d.name) (nmsOf d)) (E1 ++ [d]) := by
  intro k o
  rw [mem_setAllS, h1 k o]
  constructor
  · rintro (⟨rfl, q, hq, rfl⟩ | ⟨h2, x, hx, h3⟩)
    · exact ⟨d, by simp, rfl, q, hq, rfl⟩
    · exact ⟨x, List.mem_append_left _ hx, h3⟩
  · rintro ⟨x, hx, rfl, q, hq, rfl⟩
    rcases List.mem_append.1 hx with hx | hx
    · refine .inr ⟨fun q' hq' e => ?_, x, hx, rfl, q, hq, rfl⟩
      have hm : (textOf q', textOf x.name) ∈ NL := (h _ _).2 ⟨x, (hE x hx).1, rfl, q, hq, e.symm⟩
      exact (hE x hx).2 (hf q' hq' _ hm)
    · simp only [List.mem_singleton] at hx
      subst hx
      exact .inl ⟨rfl, q, hq, rfl⟩
theorem good_put {NL : List (ByteArray × ByteArray)} {E E1 : List Entry} {d : Entry} (h : NamesRel NL E) (hg : GoodE E) (hv : entryOk d = true) (hE : ∀ x ∈ E1, x ∈ E ∧ textOf x.name ≠ textOf d.name) (hn : (E1.map fun x => textOf x.name).Nodup) (hf : freeN NL (textOf d.name) (nmsOf d)) : GoodE (E1 ++ [d]) := by
  have key : ∀ x ∈ E1, ∀ q ∈ nmsOf x, ∀ q' ∈ nmsOf d, textOf q = textOf q' → False := fun x hx q hq q' hq' e => by
    have hm : (textOf q', textOf x.name) ∈ NL := (h _ _).2 ⟨x, (hE x hx).1, rfl, q, hq, e.symm⟩
    exact (hE x hx).2 (hf q' hq' _ hm)
  refine ⟨fun x hx => ?_, ?_, fun x hx y hy q hq q' hq' e => ?_⟩
  · rcases List.mem_append.1 hx with hx | hx
    · exact hg.ok x (hE x hx).1
    · simp only [List.mem_singleton] at hx; subst hx; exact hv
  · rw [List.map_append]
    refine List.nodup_append.2 ⟨hn, by simp, ?_⟩
    intro a ha c hc e
    simp only [List.map_cons, List.map_nil, List.mem_singleton] at hc
    obtain ⟨x, hx, rfl⟩ := List.mem_map.1 ha
    exact (hE x hx).2 (e.trans hc)
  · rcases List.mem_append.1 hx with hx1 | hx1 <;> rcases List.mem_append.1 hy with hy1 | hy1
    · exact hg.apart x (hE x hx1).1 y (hE y hy1).1 q hq q' hq' e
    · simp only [List.mem_singleton] at hy1; subst hy1
      exact (key x hx1 q hq q' hq' e).elim
    · simp only [List.mem_singleton] at hx1; subst hx1
      exact (key y hy1 q' hq' q hq e.symm).elim
    · simp only [List.mem_singleton] at hx1 hy1; rw [hx1, hy1]
/-! ### Which entries are in the way -/
theorem same_text {p q : Prin} (hp : prinOk p = true) (hq : prinOk q = true) : samePrin p q = true ↔ textOf p = textOf q := (textOf_eq (prinOk_ne hp) (prinOk_ne hq)).symm
theorem bsy_iff {x d : Entry} (hx : entryOk x = true) (hd : entryOk d = true) : bsy x d = true ↔ ∃ q ∈ nmsOf x, ∃ q' ∈ nmsOf d, textOf q = textOf q' := by
  have hxn := entryOk_nms hx
  have hdn := entryOk_nms hd
  have one : ∀ p ∈ nmsOf d, (hasN x p = true ↔ ∃ q ∈ nmsOf x, textOf q = textOf p) := fun p hp => by
    unfold hasN
    rw [Bool.or_eq_true, List.any_eq_true]
    constructor
    · rintro (⟨q, hq, e⟩ | e)
      · exact ⟨q, List.mem_cons_of_mem _ hq, (same_text (hxn q (List.mem_cons_of_mem _ hq)) (hdn p hp)).1 e⟩
      · exact ⟨x.name, List.mem_cons_self .., (same_text (hxn _ (List.mem_cons_self ..)) (hdn p hp)).1 e⟩
    · rintro ⟨q, hq, e⟩
      have e' := (same_text (hxn q hq) (hdn p hp)).2 e
      rcases List.mem_cons.1 hq with rfl | hq
      · exact .inr e'
      · exact .inl ⟨q, hq, e'⟩
  unfold bsy
  rw [Bool.or_eq_true, List.any_eq_true]
  constructor
  · rintro (h | ⟨p, hp, h⟩)
    · obtain ⟨q, hq, e⟩ := (one _ (List.mem_cons_self ..)).1 h
      exact ⟨q, hq, _, List.mem_cons_self .., e⟩
    · obtain ⟨q, hq, e⟩ := (one p (List.mem_cons_of_mem _ hp)).1 h
      exact ⟨q, hq, p, List.mem_cons_of_mem _ hp, e⟩
  · rintro ⟨q, hq, p, hp, e⟩
    have := (one p hp).2 ⟨q, hq, e⟩
    rcases List.mem_cons.1 hp with rfl | hp
    · exact .inl this
    · exact .inr ⟨p, hp, this⟩
theorem busy_iff {NL : List (ByteArray × ByteArray)} {E : List Entry} {d : Entry} (h : NamesRel NL E) (hg : GoodE E) (hd : entryOk d = true) : busyN NL d ↔ ∃ x ∈ E, bsy x d = true ∧ textOf x.name ≠ textOf d.name := by
  constructor
  · rintro ⟨q, hq, o, hm, hne⟩
    obtain ⟨x, hx, rfl, q', hq', e⟩ := (h _ _).1 hm
    exact ⟨x, hx, (bsy_iff (hg.ok x hx) hd).2 ⟨q', hq', q, hq, e.symm⟩, hne⟩
  · rintro ⟨x, hx, hb, hne⟩
    obtain ⟨q, hq, q', hq', e⟩ := (bsy_iff (hg.ok x hx) hd).1 hb
    exact ⟨q', hq', textOf x.name, (h _ _).2 ⟨x, hx, rfl, q, hq, e.symm⟩, hne⟩
theorem free_iff {NL : List (ByteArray × ByteArray)} {d : Entry} : freeN NL (textOf d.name) (nmsOf d) ↔ ¬ busyN NL d := by
  constructor
  · rintro h ⟨q, hq, o, hm, hne⟩
    exact hne (h q hq o hm)
  · intro h q hq o hm
    exact Classical.byContradiction fun hne => h ⟨q, hq, o, hm, hne⟩
theorem idx_cases {E : List Entry} (hg : GoodE E) {d : Entry} (hd : entryOk d = true) :
    (idxOf (fun z => samePrin z.name d.name) E = -1 ∧ ∀ x ∈ E, textOf x.name ≠ textOf d.name) ∨
    ∃ i, ∃ hi : i < E.length, idxOf (fun z => samePrin z.name d.name) E = (i : Int) ∧ textOf E[i].name = textOf d.name := by
  have st : ∀ x ∈ E, (samePrin x.name d.name = true ↔ textOf x.name = textOf d.name) := fun x hx => same_text (entryOk_nms (hg.ok x hx) _ (List.mem_cons_self ..)) (entryOk_nms hd _ (List.mem_cons_self ..))
  unfold idxOf
  cases hf : E.findIdx? (fun z => samePrin z.name d.name) with
  | none =>
    refine .inl ⟨rfl, fun x hx e => ?_⟩
    have := (List.findIdx?_eq_none_iff.1 hf) x hx
    rw [(st x hx).2 e] at this; cases this
  | some i =>
    obtain ⟨hi, h1, -⟩ := List.findIdx?_eq_some_iff_getElem.1 hf
    exact .inr ⟨i, hi, rfl, (st _ (List.getElem_mem hi)).1 h1⟩
theorem erase_drop {E : List Entry} (hn : (E.map fun x => textOf x.name).Nodup) {i : Nat} (hi : i < E.length) : E.eraseIdx i = dropE E (textOf E[i].name) := by
  induction E generalizing i with
  | nil => simp at hi
  | cons x E ih =>
    simp only [List.map_cons, List.nodup_cons] at hn
    cases i with
    | zero =>
      have : dropE (x :: E) (textOf x.name) = E := by
        unfold dropE
        rw [List.filter_cons_of_neg (by simp)]
        exact List.filter_eq_self.2 fun y hy => by
          have : ¬ textOf y.name = textOf x.name := fun e => hn.1 (List.mem_map.2 ⟨y, hy, e⟩)
          simp [this]
      simpa using this.symm
    | succ i =>
      have hi' : i < E.length := by simpa using hi
      have hne : ¬ textOf x.name = textOf E[i].name := fun e => hn.1 (List.mem_map.2 ⟨E[i], List.getElem_mem hi', e.symm⟩)
      simp only [List.eraseIdx_cons_succ, List.getElem_cons_succ]
      rw [ih hn.2 hi']
      unfold dropE
      rw [List.filter_cons_of_pos (by simp [hne])]
theorem idx_unique {E : List Entry} (hg : GoodE E) {i j : Nat} (hi : i < E.length) (hj : j < E.length) (e : textOf E[i].name = textOf E[j].name) : i = j := by
  exact nodup_idx hg.nodup (i := i) (j := j) (by simpa using hi) (by simpa using hj) (by simpa using e)
theorem first_such (f : Nat → Prop) : ∀ n, (∃ i, i < n ∧ f i) → ∃ i, i < n ∧ f i ∧ ∀ j, j < i → ¬ f j := by
  intro n
  induction n with
  | zero => rintro ⟨i, h, _⟩; omega
  | succ n ih =>
    rintro ⟨i, h, hf⟩
    by_cases hn : ∃ i, i < n ∧ f i
    · obtain ⟨j, h1, h2, h3⟩ := ih hn
      exact ⟨j, by omega, h2, h3⟩
    · exact ⟨i, h, hf, fun j hj hfj => hn ⟨j, by omega, hfj⟩⟩
inductive PutCase (E : List Entry) (d : Entry) : Prop where
  | busy (at0 : Int) (jb : Nat) (h : jb < E.length) (hat : idxOf (fun z => samePrin z.name d.name) E = at0) (hb : bsy E[jb] d = true) (hpre : ∀ i (h : i < E.length), i < jb → bsy E[i] d = true → (i : Int) = at0) (hn : ¬ (jb : Int) = at0) (hx : ∃ x ∈ E, bsy x d = true ∧ textOf x.name ≠ textOf d.name)
  | new (hat : idxOf (fun z => samePrin z.name d.name) E = -1) (hnb : ∀ i (h : i < E.length), bsy E[i] d = true → (i : Int) = -1) (hno : ∀ x ∈ E, textOf x.name ≠ textOf d.name) (hx : ∀ x ∈ E, bsy x d = true → textOf x.name = textOf d.name)
  | old (i0 : Nat) (h : i0 < E.length) (hat : idxOf (fun z => samePrin z.name d.name) E = (i0 : Int)) (hnb : ∀ i (h : i < E.length), bsy E[i] d = true → (i : Int) = (i0 : Int)) (he : textOf E[i0].name = textOf d.name) (hx : ∀ x ∈ E, bsy x d = true → textOf x.name = textOf d.name)
theorem put_cases {E : List Entry} (hg : GoodE E) {d : Entry} (hd : entryOk d = true) : PutCase E d := by
  by_cases hx : ∃ x ∈ E, bsy x d = true ∧ textOf x.name ≠ textOf d.name
  · have hat : ∃ at0 : Int, idxOf (fun z => samePrin z.name d.name) E = at0 ∧ ∀ i (h : i < E.length), ((i : Int) = at0 ↔ textOf E[i].name = textOf d.name) := by
      rcases idx_cases hg hd with ⟨h1, h2⟩ | ⟨i0, hi0, h1, h2⟩
      · exact ⟨-1, h1, fun i hi => ⟨fun e => by omega, fun e => absurd e (h2 _ (List.getElem_mem hi))⟩⟩
      · refine ⟨i0, h1, fun i hi => ⟨fun e => ?_, fun e => ?_⟩⟩
        · obtain rfl : i = i0 := by omega
          exact h2
        · rw [idx_unique hg hi hi0 (e.trans h2.symm)]
    obtain ⟨at0, h1, h2⟩ := hat
    obtain ⟨x, hxE, hxb, hxn⟩ := hx
    obtain ⟨j, hj, rfl⟩ := List.mem_iff_getElem.1 hxE
    obtain ⟨jb, hjb, ⟨hl, hb, hne⟩, hpre⟩ := first_such (fun i => ∃ h : i < E.length, bsy E[i] d = true ∧ ¬ (i : Int) = at0) E.length ⟨j, hj, hj, hxb, fun e => hxn ((h2 j hj).1 e)⟩
    exact .busy at0 jb hl h1 hb (fun i hi hij hbi => Classical.byContradiction fun hn => hpre i hij ⟨hi, hbi, hn⟩) hne ⟨E[j], List.getElem_mem hj, hxb, hxn⟩
  · have hx' : ∀ x ∈ E, bsy x d = true → textOf x.name = textOf d.name := fun x hxE hb => Classical.byContradiction fun hn => hx ⟨x, hxE, hb, hn⟩
    rcases idx_cases hg hd with ⟨h1, h2⟩ | ⟨i0, hi0, h1, h2⟩
    · exact .new h1 (fun i hi hb => absurd (hx' _ (List.getElem_mem hi) hb) (h2 _ (List.getElem_mem hi))) h2 hx'
    · refine .old i0 hi0 h1 (fun i hi hb => ?_) h2 hx'
      rw [idx_unique hg hi hi0 ((hx' _ (List.getElem_mem hi) hb).trans h2.symm)]
/-! ### The policies -/
def restAt (at_ : Int) : Nat → List Policy → List Policy
  | _, [] => []
  | k, q :: l => (if (k : Int) != at_ then [q] else []) ++ restAt at_ (k + 1) l
theorem putPol_perm (p : Policy) (at_ : Int) : ∀ (l : List Policy) (k : Nat) (dn : Bool), (putPol p at_ k dn l).Perm ((if dn then [] else [p]) ++ restAt at_ k l)
  | [], _, dn => by cases dn <;> simp [putPol, restAt]
  | q :: l, k, dn => by
    unfold putPol restAt
    generalize (if (k : Int) != at_ then [q] else []) = M
    cases dn with
    | true =>
      have := putPol_perm p at_ l (k + 1) true
      simpa using this.append_left M
    | false =>
      cases leT p.name q.name with
      | true =>
        have := putPol_perm p at_ l (k + 1) true
        simpa using this.append_left M
      | false =>
        have := (putPol_perm p at_ l (k + 1) false).append_left M
        simp only [Bool.not_false, Bool.true_and, Bool.or_false, Bool.false_eq_true, if_false, List.nil_append] at this ⊢
        exact this.trans (by simp)
theorem restAt_none : ∀ (l : List Policy) (k : Nat), restAt (-1) k l = l
  | [], _ => rfl
  | q :: l, k => by
    unfold restAt
    rw [restAt_none l (k + 1)]
    have : ((k : Int) != -1) = true := by simp
    rw [this]; rfl
theorem restAt_past : ∀ (l : List Policy) (k : Nat) (at_ : Int), at_ < (k : Int) → restAt at_ k l = l
  | [], _, _, _ => rfl
  | q :: l, k, at_, h => by
    unfold restAt
    rw [restAt_past l (k + 1) at_ (by omega)]
    have : ((k : Int) != at_) = true := by simp; omega
    rw [this]; rfl
theorem restAt_some : ∀ (l : List Policy) (k i : Nat), restAt ((k + i : Nat) : Int) k l = l.eraseIdx i
  | [], _, _ => rfl
  | q :: l, k, 0 => by
    unfold restAt
    rw [restAt_past l (k + 1) _ (by omega)]
    simp
  | q :: l, k, i + 1 => by
    unfold restAt
    have := restAt_some l (k + 1) i
    rw [show k + 1 + i = k + (i + 1) by omega] at this
    rw [this]
    have : ((k : Int) != ((k + (i + 1) : Nat) : Int)) = true := by simp; omega
    rw [this]; rfl
theorem erase_key {α : Type} (f : α → ByteArray) {E : List α} (hn : (E.map f).Nodup) {i : Nat} (hi : i < E.length) : E.eraseIdx i = E.filter fun x => decide (f x ≠ f E[i]) := by
  induction E generalizing i with
  | nil => simp at hi
  | cons x E ih =>
    simp only [List.map_cons, List.nodup_cons] at hn
    cases i with
    | zero =>
      simp only [List.eraseIdx_zero, List.tail_cons, List.getElem_cons_zero]
      rw [List.filter_cons_of_neg (by simp)]
      exact (List.filter_eq_self.2 fun y hy => by
        have : ¬ f y = f x := fun e => hn.1 (List.mem_map.2 ⟨y, hy, e⟩)
        simp [this]).symm
    | succ i =>
      have hi' : i < E.length := by simpa using hi
      have hne : ¬ f x = f E[i] := fun e => hn.1 (List.mem_map.2 ⟨E[i], List.getElem_mem hi', e.symm⟩)
      simp only [List.eraseIdx_cons_succ, List.getElem_cons_succ]
      rw [ih hn.2 hi', List.filter_cons_of_pos (by simp [hne])]
theorem setP_old (q : Policy) : ∀ (P : List Policy), (P.map (·.name)).Nodup → P.any (fun x => decide (x.name = q.name)) = true → (P.map (fun x => if x.name = q.name then q else x)).Perm (q :: P.filter fun x => decide (x.name ≠ q.name))
  | [], _, h => by simp at h
  | x :: P, hn, h => by
    simp only [List.map_cons, List.nodup_cons] at hn
    by_cases hx : x.name = q.name
    · have h1 : P.map (fun x => if x.name = q.name then q else x) = P := by
        conv => rhs; rw [← List.map_id P]
        refine List.map_congr_left fun y hy => ?_
        have : ¬ y.name = q.name := fun e => hn.1 (List.mem_map.2 ⟨y, hy, e.trans hx.symm⟩)
        simp [this]
      have h2 : (P.filter fun x => decide (x.name ≠ q.name)) = P := List.filter_eq_self.2 fun y hy => by
        have : ¬ y.name = q.name := fun e => hn.1 (List.mem_map.2 ⟨y, hy, e.trans hx.symm⟩)
        simp [this]
      rw [List.map_cons, h1, if_pos hx, List.filter_cons_of_neg (by simp [hx]), h2]
    · have h' : P.any (fun x => decide (x.name = q.name)) = true := by simpa [hx] using h
      rw [List.map_cons, if_neg hx, List.filter_cons_of_pos (by simp [hx])]
      exact ((setP_old q P hn.2 h').cons x).trans (List.Perm.swap _ _ _)
structure PolRel (P L : List Policy) : Prop where
  perm : P.Perm L
  nodup : (L.map (·.name)).Nodup
  ok : ∀ q ∈ L, polOk q = true
theorem PolRel.nil : PolRel [] [] := ⟨List.Perm.refl _, by simp, by simp⟩
theorem PolRel.any {P L : List Policy} (h : PolRel P L) (k : ByteArray) : P.any (fun x => decide (x.name = k)) = L.any (fun x => decide (x.name = k)) := by
  rw [Bool.eq_iff_iff, List.any_eq_true, List.any_eq_true]
  exact ⟨fun ⟨x, hx, e⟩ => ⟨x, h.perm.mem_iff.1 hx, e⟩, fun ⟨x, hx, e⟩ => ⟨x, h.perm.mem_iff.2 hx, e⟩⟩
theorem polIdx_cases (L : List Policy) (k : ByteArray) : (idxOf (fun z => decide (z.name = k)) L = -1 ∧ L.any (fun x => decide (x.name = k)) = false) ∨ ∃ i, ∃ hi : i < L.length, idxOf (fun z => decide (z.name = k)) L = (i : Int) ∧ L[i].name = k ∧ L.any (fun x => decide (x.name = k)) = true := by
  unfold idxOf
  cases hf : L.findIdx? (fun z => decide (z.name = k)) with
  | none =>
    refine .inl ⟨rfl, ?_⟩
    rw [List.any_eq_false]
    intro x hx
    have := (List.findIdx?_eq_none_iff.1 hf) x hx
    simp [this]
  | some i =>
    obtain ⟨hi, h1, -⟩ := List.findIdx?_eq_some_iff_getElem.1 hf
    exact .inr ⟨i, hi, rfl, by simpa using h1, List.any_eq_true.2 ⟨L[i], List.getElem_mem hi, h1⟩⟩
theorem PolRel.new {P L : List Policy} (h : PolRel P L) {q : Policy} (hq : polOk q = true) (hn : L.any (fun x => decide (x.name = q.name)) = false) : PolRel (setP P q) (putPol q (-1) 0 false L) := by
  have hp := putPol_perm q (-1) L 0 false
  rw [restAt_none] at hp
  have hpp : (putPol q (-1) 0 false L).Perm (q :: L) := hp
  have hset : setP P q = P ++ [q] := by
    unfold setP
    rw [if_neg (by rw [h.any, hn]; simp)]
  refine ⟨?_, (hpp.map _).nodup_iff.2 ?_, fun x hx => ?_⟩
  · rw [hset]
    exact (List.perm_append_singleton q P).trans ((h.perm.cons q).trans hpp.symm)
  · rw [List.map_cons, List.nodup_cons]
    refine ⟨fun hm => ?_, h.nodup⟩
    obtain ⟨x, hx, e⟩ := List.mem_map.1 hm
    have := List.any_eq_false.1 hn x hx
    simp [e] at this
  · rcases List.mem_cons.1 (hpp.mem_iff.1 hx) with rfl | hx
    · exact hq
    · exact h.ok x hx
theorem PolRel.old {P L : List Policy} (h : PolRel P L) {q : Policy} (hq : polOk q = true) {i : Nat} (hi : i < L.length) (hn : L[i].name = q.name) : PolRel (setP P q) (putPol q (i : Int) 0 false L) := by
  have hp := putPol_perm q (i : Int) L 0 false
  have hr := restAt_some L 0 i
  rw [Nat.zero_add] at hr
  rw [hr, erase_key (·.name) h.nodup hi, hn] at hp
  have hpp : (putPol q (i : Int) 0 false L).Perm (q :: L.filter fun x => decide (x.name ≠ q.name)) := hp
  have ha : P.any (fun x => decide (x.name = q.name)) = true := by rw [h.any]; exact List.any_eq_true.2 ⟨L[i], List.getElem_mem hi, by simpa using hn⟩
  have hset : setP P q = P.map (fun x => if x.name = q.name then q else x) := by
    unfold setP
    rw [if_pos ha]
  have hPn : (P.map (·.name)).Nodup := (h.perm.map _).nodup_iff.2 h.nodup
  refine ⟨?_, (hpp.map _).nodup_iff.2 ?_, fun x hx => ?_⟩
  · rw [hset]
    exact (setP_old q P hPn ha).trans (((h.perm.filter _).cons q).trans hpp.symm)
  · rw [List.map_cons, List.nodup_cons]
    refine ⟨fun hm => ?_, (List.filter_sublist.map _).nodup h.nodup⟩
    obtain ⟨x, hx, e⟩ := List.mem_map.1 hm
    have := (List.mem_filter.1 hx).2
    simp [e] at this
  · rcases List.mem_cons.1 (hpp.mem_iff.1 hx) with rfl | hx
    · exact hq
    · exact h.ok x (List.mem_filter.1 hx).1
end Go.WW

namespace Go.WW
theorem polOf_mem {P : List Policy} {d : Entry} (h : ¬ d.policy = ⟨#[]⟩) (hp : P.any (fun x => decide (x.name = d.policy)) = true) : polOf P d ∈ P ∧ (polOf P d).name = d.policy := by
  unfold polOf
  rw [if_neg h]
  obtain ⟨x, hx, e⟩ := List.any_eq_true.1 hp
  cases hf : P.find? (fun x => decide (x.name = d.policy)) with
  | none => exact absurd e (by simpa using List.find?_eq_none.1 hf x hx)
  | some y => exact ⟨List.mem_of_find?_eq_some hf, by simpa using List.find?_some hf⟩
theorem polOf_none {P : List Policy} {d : Entry} (h : d.policy = ⟨#[]⟩) : polOf P d = unlP := by
  unfold polOf
  rw [if_pos h]
def HasPol (P : List Policy) (d : Entry) : Prop := d.policy = ⟨#[]⟩ ∨ P.any (fun x => decide (x.name = d.policy)) = true
theorem unlP_ok : polOk unlP = true := by decide +kernel
theorem polOf_ok {P : List Policy} {d : Entry} (h : HasPol P d) (hP : ∀ q ∈ P, polOk q = true) : polOk (polOf P d) = true := by
  by_cases he : d.policy = ⟨#[]⟩
  · rw [polOf_none he]; exact unlP_ok
  · rcases h with h | h
    · exact absurd h he
    · exact hP _ (polOf_mem he h).1
end Go.WW
namespace Go.Proofs.YtnpddjmjdpgohaaGreatDoor
open Go.RowKit Go.WW
set_option maxRecDepth 100000 in
set_option maxHeartbeats 1000000 in
theorem policyOf_some (b n e p : Nat) (re : ByteArray) (s : Int) (N : List (ByteArray × Value)) (E : List EE) (P : List Policy) (r : ERaw) (d : Entry) (q : Policy) (w : World) (h : DbAt w b n e p re s N E P) (hre : ¬ re = ⟨#[]⟩) (hq : q ∈ P) (hqn : q.name = d.policy) (hne : ¬ d.policy = ⟨#[]⟩) : Calls Tryz.prog 43 #[.pointer (some ⟨b, 0, none⟩), .agg (entC r d)] w fun z w' => z = .returned (.agg (polC q)) ∧ Below w.heap.size w w' := by
  have hB : Below w.heap.size w ((w.alloc (.cells (entC r d) 31)).alloc (.cells (polC zeroP) 33)) := below_new ((Below.refl _ _).alloc (Nat.le_refl _) _) _
  have hx3 : ((w.alloc (.cells (entC r d) 31)).alloc (.cells (polC zeroP) 33)).heap[w.heap.size]? = some (.cells (entC r d) 31) := second_blk _ _ _
  have hz3 : canPut ((w.alloc (.cells (entC r d) 31)).alloc (.cells (polC zeroP) 33)) (w.heap.size + 1) 0 10 = true := by simp [go_sem]
  have hc6 : ((w.alloc (.cells (entC r d) 31)).alloc (.cells (polC zeroP) 33)).cell? ⟨w.heap.size, 6, none⟩ = some (.string d.policy) := by rw [(box_facts hx3).1 6, entC_6]
  have hl : w.heap.size + 1 < ((w.alloc (.cells (entC r d) 31)).alloc (.cells (polC zeroP) 33)).heap.size := by simp
  have h0 := str_ne _ _ hne
  have h1 : ¬ d.policy.toList = [] := fun h => hne (toList_inj (b := ⟨#[]⟩) (by rw [h, ByteArray.toList_eq]))
  have h2 : d.policy.toList.isEmpty = false := by cases h : d.policy.toList <;> simp_all
  have hl0 : w.heap.size < ((w.alloc (.cells (entC r d) 31)).alloc (.cells (polC zeroP) 33)).heap.size := by simp; omega
  have HC := Lib.hid (dbPolicy_c b n e p re s N E P q _ (h.later hB) hre hq)
  clear hx3
  rw [zeroP_lit] at hB hz3 hc6 hl HC hl0
  rw [hqn] at HC
  go_enter Tryz.func43, Tryz.ntmps43
  go_wp2_with fail
  generalize ((w.alloc (.cells (entC r d) 31)).alloc (.cells #[.string ⟨#[]⟩, .int .i64 0, .int .i64 0, .int .i64 0, .int .i64 0, .int .i64 0, .int .i64 0, .int .i64 0, .int .i64 0, .int .i64 0] 33)) = W at *
  refine HC.out.mono ?_
  rintro z w2 ⟨rfl, hb2⟩
  dsimp only
  have hz2 := (bput hb2 (w.heap.size + 1) 0 10 hl).trans hz3
  have hl2 : w.heap.size + 1 < w2.heap.size := by have := hb2.size; omega
  have hne2 : w2.heap.size ≠ w.heap.size + 1 := by omega
  go_wp2_with fail
  have hrow := row?_putRow_whole (w := w2.alloc (.cells (polC q) 33)) (polC_size q) ((canPut_alloc_past hl2).trans hz2)
  exact bodyPost_ret (results_row (by rfl) Tryz.underlying33 rfl (by kernel_rfl) rfl hrow) rfl ⟨rfl, Go.WW.Below.putRow ((below_step hB hb2).alloc (below_step hB hb2).size _) (by omega)⟩
theorem policyOf_c (b n e p : Nat) (re : ByteArray) (s : Int) (N : List (ByteArray × Value)) (E : List EE) (P : List Policy) (r : ERaw) (d : Entry) (w : World) (h : DbAt w b n e p re s N E P) (hre : ¬ re = ⟨#[]⟩) (hp : HasPol P d) : Calls Tryz.prog 43 #[.pointer (some ⟨b, 0, none⟩), .agg (entC r d)] w fun z w' => z = .returned (.agg (polC (polOf P d))) ∧ Below w.heap.size w w' := by
  by_cases he : d.policy = ⟨#[]⟩
  · rw [polOf_none he]
    exact policyOf_none _ _ _ _ he
  · rcases hp with hp | hp
    · exact absurd hp he
    · obtain ⟨h1, h2⟩ := polOf_mem he hp
      exact policyOf_some b n e p re s N E P r d _ w h hre h1 h2 he
end Go.Proofs.YtnpddjmjdpgohaaGreatDoor

namespace Go.WW
open Go.RowKit
def lockL (P : List Policy) (now : Int) (Y : List EE) : List Prin := (Y.filter fun x => isTime now && lockedAt x.2 (polOf P x.2) now).map fun x => x.2.name
theorem lockL_snoc (P : List Policy) (now : Int) (Y : List EE) (x : EE) (h : isTime now = true) : lockL P now (Y ++ [x]) = lockL P now Y ++ (if lockedAt x.2 (polOf P x.2) now = true then [x.2.name] else []) := by
  unfold lockL
  rw [List.filter_append, List.map_append]
  congr 1
  simp only [List.filter_cons, List.filter_nil, h, Bool.true_and]
  split <;> rfl
theorem lockL_bad (P : List Policy) (now : Int) (Y : List EE) (h : isTime now = false) : lockL P now Y = [] := by
  unfold lockL
  simp [h]
theorem wpListIn_append_n {P : Program} {l : Nat} {ops : Array Oper} {rest : List Oper} {o : Oper} {a : Act} {w : World} {Q : Exit → Act → World → Prop} (hgd : o.guard = none) (x y : Operand) (t : TypeId) (ho : o.op = .call { callee := .builtin .append, args := #[x, y], argTypes := #[t, t] })
    {e : TypeId} {k bytes : Nat} (he : ElemOk P t e k bytes) {base : Nat} {s : Sl} {n : Nat} {rows : List (Array Value)} (hx : a.eval x = .slice s.a n s.cap) (hn : n = rows.length) (h : Own w base e k s rows) {A : Option Addr} {news : List (Array Value)} {m c : Nat}
    (hy : a.eval y = .slice A m c) (hm : m = news.length) (hs : SrcRows w k A news) (hlen : (rows.length + news.length) * (bytes + 1) ≤ 140737488355328) (hbase : base ≤ w.heap.size)
    (hK : ∀ (s' : Sl) w', Own w' base e k s' (rows ++ news) → w.grownBy w' s.blk → (s'.blk = s.blk ∨ s'.blk = some w.heap.size) → wpListIn (Fence.wide.inRound l) 0 P ops Q rest (a.put o.dst (.slice s'.a (n + m) s'.cap)) w') : wpListIn (Fence.wide.inRound l) 0 P ops Q (o :: rest) a w := by
  subst hn hm
  exact wpListIn_plain hgd fun K hK' => TI.wp_mono_Q (TI.wpIn_of_wp (fun c hc => by rw [ho] at hc; cases hc) (wp_append_rows x y t ho he hx h hy rfl hs hlen hbase fun s' w' h2 h3 h4 => hK' _ _ (hK s' w' h2 h3 h4)))
theorem setCell_but (w : World) (b o : Nat) (v : Value) : But (one b) w (w.setCell ⟨b, o, Option.none⟩ v) := ⟨rfl, rfl, rfl, by simp [World.setCell], fun k _ hn => Below.heap_setCell _ _ _ _ (show k ≠ b from hn)⟩
theorem grown_but {w w' : World} {row : Option Nat} (h : w.grownBy w' row) : But (fun k => row = some k) w w' := ⟨h.os, h.tape, h.output, h.size, fun k hk hn => h.block k hk fun e => hn e.symm⟩
end Go.WW
namespace Go.Proofs.YtnpddjmjdpgohaaGreatDoor
open Go.RowKit Go.WW
theorem execOp_bsPrin (ρ : Operand → Value) (dst : Option Tmp) (x : Operand) (ty : TypeId) (pos : String) (after : Array Edge) (guard : Option (Nat × Bool)) : execOp ρ { dst, op := .buildSlice 25 1 #[(0, x)], type := ty, pos, after, guard } = sliceBuild 25 1 #[(0, ρ x)] := by simp [execOp, sliceBuild]
theorem bsPrin (w : World) (s : Sl) (p : Prin) : (sliceBuild 25 1 #[(0, .agg (prinC s p))]).run Tryz.prog w = .ok (.value (.slice (some ⟨w.heap.size, 0, none⟩) 1 1)) (w.alloc (.cells (prinC s p) 24)) := by kernel_rfl
attribute [go_sem] bsPrin
attribute [go_sem ↓] execOp_bsPrin
structure AccIs (lb c1 : Nat) (L : List Prin) (so : Sl) (T : List PP) (wr : World) : Prop where
  box : wr.heap[lb]? = some (.cells #[.slice so.a T.length so.cap] 25)
  own : Go.WW.Own wr c1 24 2 so (T.map encP)
  eq : T.map (·.2) = L
  each : ∀ x ∈ T, Dep wr (freshBut c1 wr so.blk) (fun y => PrinAt y x.1 x.2)
def AccInv (lb c1 : Nat) (L : List Prin) (wr : World) : Prop := ∃ (so : Sl) (T : List PP), AccIs lb c1 L so T wr
theorem AccIs.kept {lb c1 : Nat} {L : List Prin} {so : Sl} {T : List PP} {w w' : World} (h : AccIs lb c1 L so T w) (hl : w'.heap[lb]? = w.heap[lb]?) (hs : w.heap.size ≤ w'.heap.size) (hb : ∀ k, c1 ≤ k → k < w.heap.size → w'.heap[k]? = w.heap[k]?) : AccIs lb c1 L so T w' :=
  ⟨hl.trans h.box, h.own.kept fun g hg => hb g (h.own.base hg).1 (h.own.base hg).2, h.eq, fun x hx => (h.each x hx).to (fun k hk => hb k hk.1 hk.2.1) (fun k hk => ⟨hk.1, by have := hk.2.1; omega, hk.2.2⟩)⟩
theorem AccIs.later {lb c1 : Nat} {L : List Prin} {so : Sl} {T : List PP} {w w' : World} (h : AccIs lb c1 L so T w) (hb : Below w.heap.size w w') : AccIs lb c1 L so T w' :=
  h.kept (hb.block _ (Array.getElem?_eq_some_iff.1 h.box).1) hb.size fun k _ hk => hb.block k hk
theorem AccIs.span {lb c1 m : Nat} {L : List Prin} {so : Sl} {T : List PP} {w w' : World} (h : AccIs lb c1 L so T w) (hb : But (span m c1) w w') (hm : lb < m) : AccIs lb c1 L so T w' :=
  h.kept (hb.block _ (Array.getElem?_eq_some_iff.1 h.box).1 fun hj => by have := hj.1; omega) hb.size fun k h1 hk => hb.block k hk fun hj => by have := hj.2; omega
theorem AccIs.push {lb c1 : Nat} {L : List Prin} {so s3 : Sl} {T : List PP} {w w3 : World} {x : PP} (h : AccIs lb c1 L so T w) (hlb : lb < c1) (ho : Go.WW.Own w3 c1 24 2 s3 ((T ++ [x]).map encP)) (hg : w.grownBy w3 so.blk) (hat : s3.blk = so.blk ∨ s3.blk = some w.heap.size)
    (hx : Dep w3 (freshBut c1 w3 s3.blk) (fun y => PrinAt y x.1 x.2)) : AccIs lb c1 (L ++ [x.2]) s3 (T ++ [x]) (w3.setCell ⟨lb, 0, none⟩ (.slice s3.a (T.length + 1) s3.cap)) := by
  have hbl := (Array.getElem?_eq_some_iff.1 h.box).1
  have hb3 : w3.heap[lb]? = some (.cells #[.slice so.a T.length so.cap] 25) := (hg.block lb hbl (fun e => by have := (h.own.base e.symm).1; omega)).trans h.box
  have hset := setCell_blk (o := 0) (.slice s3.a (T.length + 1) s3.cap) hb3
  have hoth : ∀ k, k ≠ lb → (w3.setCell ⟨lb, 0, none⟩ (.slice s3.a (T.length + 1) s3.cap)).heap[k]? = w3.heap[k]? := fun k hk => Below.heap_setCell _ _ _ _ hk
  have hsz : (w3.setCell ⟨lb, 0, none⟩ (.slice s3.a (T.length + 1) s3.cap)).heap.size = w3.heap.size := by simp [World.setCell]
  refine ⟨by simpa using hset, ho.kept fun g hg' => hoth g (by have := (ho.base hg').1; omega), by simp [h.eq], fun y hy => ?_⟩
  have fin : ∀ {Φ : World → Prop}, Dep w3 (freshBut c1 w3 s3.blk) Φ → Dep (w3.setCell ⟨lb, 0, none⟩ (.slice s3.a (T.length + 1) s3.cap)) (freshBut c1 (w3.setCell ⟨lb, 0, none⟩ (.slice s3.a (T.length + 1) s3.cap)) s3.blk) Φ := fun hd =>
    hd.to (fun k hk => hoth k (by have := hk.1; omega)) fun k hk => ⟨hk.1, by rw [hsz]; exact hk.2.1, hk.2.2⟩
  rcases List.mem_append.1 hy with hy | hy
  · refine fin ((h.each y hy).to (fun k hk => hg.block k hk.2.1 hk.2.2) fun k hk => ⟨hk.1, Nat.lt_of_lt_of_le hk.2.1 hg.size, ?_⟩)
    rcases hat with e | e
    · rw [e]; exact hk.2.2
    · rw [e]; intro e'; cases e'; exact Nat.lt_irrefl _ hk.2.1
  · simp only [List.mem_singleton] at hy
    subst hy
    exact fin hx
theorem accFin {lb c1 : Nat} {L : List Prin} {so : Sl} {T : List PP} {w w3 Wc : World} (hi : AccIs lb c1 L so T Wc) (hB : Below w.heap.size w w3) (hbu : But (Off (one lb) w3) w3 Wc) (hlb : w.heap.size ≤ lb) (hl3 : lb < w3.heap.size) (hc : w3.heap.size < c1) (hn : T.length ≤ 12) :
    But (fun _ => False) w (Wc.putObj w3.heap.size (.deferred Option.none)) ∧ (Wc.putObj w3.heap.size (.deferred Option.none)).heap[lb]? = some (.cells #[.slice so.a T.length so.cap] 25) ∧ Dep (Wc.putObj w3.heap.size (.deferred Option.none)) (fresh w.heap.size (Wc.putObj w3.heap.size (.deferred Option.none))) (fun x => RowsPP x so.a T) := by
  have hs := hB.size
  have hp : But (one w3.heap.size) Wc (Wc.putObj w3.heap.size (.deferred Option.none)) := But.putObj _
  have hsz : (Wc.putObj w3.heap.size (.deferred Option.none)).heap.size = Wc.heap.size := by simp [World.putObj]
  have hoth : ∀ k, c1 ≤ k → (Wc.putObj w3.heap.size (.deferred Option.none)).heap[k]? = Wc.heap[k]? := fun k hk => World.putObj_heap_other (by omega)
  refine ⟨((But.of_below hB).past hbu fun j hj => ?_).past hp fun j hj => ?_, (World.putObj_heap_other (by omega)).trans hi.box, fun y hy => ⟨by simp [lim]; omega, fun i hi' => ?_, fun x hx => ?_⟩⟩
  · rcases hj with (hj : j = _) | hj <;> omega
  · have : j = _ := hj
    omega
  · obtain ⟨g, ha, hg, hr⟩ := hi.own.row i (by simpa using hi')
    have hgb := hi.own.base hg
    refine ⟨g, 0, ha, ?_⟩
    rw [row?_of_block (hy g ⟨by omega, by omega⟩), row?_of_block (hoth g hgb.1), hr]
    simp
  · exact hi.each x hx y fun k hk => (hy k ⟨by have := hk.1; omega, by have := hk.2.1; omega⟩).trans (hoth k hk.1)
theorem lockL_len (P : List Policy) (now : Int) (Y : List EE) : (lockL P now Y).length ≤ Y.length := by
  unfold lockL
  rw [List.length_map]; exact List.length_filter_le _ _
attribute [local go_sem] Oper.semAt_some
set_option maxRecDepth 100000 in
set_option maxHeartbeats 2000000 in
theorem accounts_c (b n e p : Nat) (re : ByteArray) (s : Int) (N : List (ByteArray × Value)) (E : List EE) (P : List Policy) (now : Int) (w : World) (h : DbAt w b n e p re s N E P) (hre : ¬ re = ⟨#[]⟩) (hn : E.length ≤ 12) (hD : (E.map nameX).Nodup) (hE : ∀ x ∈ E, KeptE (ofDb b n e p) w x) (hV : ∀ x ∈ E, entryOk x.2 = true ∧ HasPol P x.2) (hP : ∀ q ∈ P, polOk q = true) :
    Calls Tryz.prog 19 #[.pointer (some ⟨b, 0, none⟩), .int .i64 now] w fun z w' => ∃ (lb : Nat) (sl : Sl) (Y : List EE) (T : List PP), z = .returned (.func (.func 44) #[] #[.pointer (some ⟨lb, 0, none⟩)]) ∧ But (fun _ => False) w w' ∧ w.heap.size ≤ lb ∧ w'.heap[lb]? = some (.cells #[.slice sl.a T.length sl.cap] 25) ∧ Y.Perm E ∧ Sorted cmpPrin nameX Y ∧ T.map (·.2) = lockL P now Y ∧ Dep w' (fresh w.heap.size w') (fun x => RowsPP x sl.a T) := by
  have HV := Lib.hid hV
  have HP := Lib.hid hP
  have HE := Lib.hid hE
  obtain ⟨W, hW⟩ : ∃ W, W = ((w.alloc (.cells #[.pointer (some ⟨b, 0, none⟩)] 48)).alloc (.cells #[.int .i64 now] 3)).alloc (.cells #[.slice none 0 0] 25) := ⟨_, rfl⟩
  have hB : Below w.heap.size w W := by rw [hW]; exact below_new (below_new (below_new (Below.refl _ _) _) _) _
  have hsW : W.heap.size = w.heap.size + 3 := by rw [hW]; simp
  have hd : W.heap[w.heap.size]? = some (.cells #[.pointer (some ⟨b, 0, none⟩)] 48) := by
    rw [hW, Below.heap_alloc _ _ _ (by simp; omega), Below.heap_alloc _ _ _ (by simp)]; exact World.alloc_heap_new _ _
  have hnow : W.heap[w.heap.size + 1]? = some (.cells #[.int .i64 now] 3) := by
    rw [hW, Below.heap_alloc _ _ _ (by simp)]
    have := World.alloc_heap_new (w.alloc (.cells #[.pointer (some ⟨b, 0, none⟩)] 48)) (.cells #[.int .i64 now] 3)
    rwa [World.size_alloc] at this
  have hlb : W.heap[w.heap.size + 2]? = some (.cells #[.slice none 0 0] 25) := by
    have := World.alloc_heap_new ((w.alloc (.cells #[.pointer (some ⟨b, 0, none⟩)] 48)).alloc (.cells #[.int .i64 now] 3)) (.cells #[.slice none 0 0] 25)
    rw [World.size_alloc, World.size_alloc, ← hW] at this
    exact this
  have h' := h.later hB
  have HC := Lib.hid (dEntries_c b n e p re s N E P W h' hre hn hD (fun x hx => (hE x hx).out.later hB))
  clear hV hP hE hD
  refine (callsIn_wide (n := 0)).1 ?_
  refine callsIn_of_wp_marks Tryz.func19 rfl trivial ?_ rfl
  simp only [Tryz.ntmps19, List.size_toArray, List.length_cons, List.length_nil, Nat.reduceAdd, Nat.reduceSub, Array.replicate_succ, Array.replicate_zero, List.push_toArray, List.append_toArray, List.nil_append, List.cons_append]
  have hcd : W.cell? ⟨w.heap.size, 0, none⟩ = some (.pointer (some ⟨b, 0, none⟩)) := (box_facts hd).1 0
  gi_wp2
  refine wpIn_scope_straight ?_
  gi_wp2
  refine wpIn_label ?_
  gi_wp2
  refine ⟨trivial, rfl, ?_⟩
  rw [← hW]
  refine (callsIn_wide.2 HC.out).mono ?_
  rintro z w3 ⟨sl, Y, rfl, hb3, hsl, hperm, hsort, hdep⟩
  dsimp only
  have hs3 := hb3.size
  have hd3 := still_blk hb3 hd
  have hnow3 := still_blk hb3 hnow
  have hlb3 := still_blk hb3 hlb
  have hB3 := below_step hB hb3
  have h3 := h'.later hb3
  have hYE : ∀ x ∈ Y, x ∈ E := fun x hx => hperm.mem_iff.1 hx
  clear hW hd hnow hlb hcd HC h'
  gi_wp2
  refine (wpIn_wide (n := 0)).2 ?_
  refine wp_range_but (gf := 74) (lb := #[.pointer (some ⟨W.heap.size, 0, none⟩)]) (by simp [go_sem]) (enters_of Tryz.func74 (by kernel_rfl) rfl) (S := one (w.heap.size + 2)) ?_ (xs := Y.zipIdx) (V := VE) ?_ (entries1_seq W.heap.size sl Y (one (w.heap.size + 2)) w3 hsl ?_ ?_)
    (fun c1 k Wc => AccInv (w.heap.size + 2) c1 (lockL P now (Y.take k)) Wc ∧ But (Off (one (w.heap.size + 2)) w3) w3 Wc ∧ w3.heap.size < c1)
    (fun c c1 k Wc => c = .exit 0 ∧ isTime now = false ∧ AccInv (w.heap.size + 2) c1 [] Wc ∧ But (Off (one (w.heap.size + 2)) w3) w3 Wc ∧ w3.heap.size < c1) ?_ ?_ ?_ ?_ ?_ ?_
  · rintro k (rfl : k = _); omega
  · rintro c1 x v W0 Wc ⟨r', rfl, _⟩; rfl
  · rintro k (rfl : k = _); omega
  · intro y hy
    refine ⟨hdep y fun k hk => hy.block k hk.2 fun hj => ?_, fun x hx => HE.out x (hYE x hx) y ((But.of_below hB3).past hy fun j hj => ?_)⟩
    · rcases hj with (hj : k = _) | hj
      · have := hk.1; omega
      · have := hk.2; omega
    · rcases hj with (hj : j = _) | hj
      · omega
      · have := hB3.size; omega
  · intro c1 Wc h1 h2 hb
    exact ⟨⟨⟨Option.none, 0⟩, [], still_blk hb hlb3, Go.WW.Own.nil _ _ _ _, rfl, by simp⟩, But.of_below hb, h1⟩
  · rintro c1 k Wc Wc' ⟨⟨so, T, h1⟩, h2, h4⟩ hb
    exact ⟨⟨so, T, h1.span hb (by omega)⟩, h2.trans (hb.mono fun j hj => .inr hj.1), h4⟩
  · rintro c c1 k Wc Wc' ⟨h0, ht, ⟨so, T, h1⟩, h2, h4⟩ hb
    exact ⟨h0, ht, ⟨so, T, h1.span hb (by omega)⟩, h2.trans (hb.mono fun j hj => .inr hj.1), h4⟩
  · rintro c1 k x v W0 Wc hx ⟨r', rfl, hdx⟩ ⟨⟨so, T, hi0⟩, hbu0, hc0⟩ hbs hc1 hc20
    have hsW := hbs.size
    have hso : ∀ g, so.blk = some g → g < W0.heap.size := fun g hg => (hi0.own.base hg).2
    have hi1 := hi0.span hbs (by omega)
    have hbu := hbu0.trans (hbs.mono fun j hj => (.inr hj.1 : Off (one (w.heap.size + 2)) w3 j))
    obtain ⟨⟨s0, d⟩, ix⟩ := x
    have hxk : Y[k]? = some (s0, d) := by
      rw [List.getElem?_zipIdx] at hx
      cases hy : Y[k]? with
      | none => rw [hy] at hx; simp at hx
      | some y => rw [hy] at hx; simp at hx; rw [hx.1]
    have hxE : (s0, d) ∈ E := hYE _ (List.mem_of_getElem? hxk)
    have hve := (HV.out _ hxE).1
    have hpo := (HV.out _ hxE).2
    have HD := Lib.hid hdx
    clear hdx hi0 hbu0 hbs hx
    dsimp only at hve hpo HD ⊢
    gi_wp2
    have hal : Below Wc.heap.size Wc (Wc.alloc (.cells (entC r' d) 31)) := (Below.refl _ _).alloc (Nat.le_refl _) _
    refine ⟨hal, fun U hU => ?_⟩
    have hUk : ∀ j, j < Wc.heap.size → j ≠ w3.heap.size + 1 → U.heap[j]? = Wc.heap[j]? := fun j hj hn => (hU.block j (by simp; omega) (not_one hn)).trans (hal.block j hj)
    have hUe : U.heap[Wc.heap.size]? = some (.cells (entC r' d) 31) := (hU.block _ (by simp) (not_one (by omega))).trans (World.alloc_heap_new _ _)
    have hUs : Wc.heap.size < U.heap.size := (Array.getElem?_eq_some_iff.1 hUe).1
    have hlbc : w.heap.size + 2 < Wc.heap.size := (Array.getElem?_eq_some_iff.1 hi1.box).1
    have hiU : AccIs (w.heap.size + 2) c1 (lockL P now (Y.take k)) so T U := hi1.kept (hUk _ hlbc (by omega)) (by omega) fun j h1 h2 => hUk j h2 (by omega)
    have hbU : But (Off (one (w.heap.size + 2)) w3) w3 U := (hbu.trans (But.of_below hal)).trans (hU.mono fun j (hj : j = _) => .inr (by omega))
    have hold : ∀ j, j < w3.heap.size → j ≠ w.heap.size + 2 → U.heap[j]? = w3.heap[j]? := fun j h1 h2 => hbU.block j h1 fun hj => by
      rcases hj with (hj : j = _) | hj <;> omega
    have hdbl : ∀ j, ofDb b n e p j → j < w.heap.size := fun j hj => Classical.byContradiction fun hn => not_ofDb h j (by omega) hj
    have hdbU : DbAt U b n e p re s N E P := by
      have ho : ∀ j, ofDb b n e p j → U.heap[j]? = w3.heap[j]? := fun j hj => by have := hdbl j hj; exact hold j (by omega) (by omega)
      exact ⟨(ho b (.inl rfl)).trans h3.box, h3.nm.at (ho n (.inr (.inl rfl))), h3.em.at (ho e (.inr (.inr (.inl rfl)))), h3.pm.at (ho p (.inr (.inr (.inr rfl)))), h3.ne⟩
    have hdU := (hold w.heap.size (by omega) (by omega)).trans hd3
    have hnU := (hold (w.heap.size + 1) (by omega) (by omega)).trans hnow3
    have hDU : Dep U (fresh W0.heap.size Wc) (fun y => EntAt y r' d) := HD.out.to (fun j hj => hUk j hj.2 (by have := hj.1; omega)) fun j hj => hj
    have cd : U.cell? ⟨w.heap.size, 0, none⟩ = some (.pointer (some ⟨b, 0, none⟩)) := (box_facts hdU).1 0
    have cn : U.cell? ⟨w.heap.size + 1, 0, none⟩ = some (.int .i64 now) := (box_facts hnU).1 0
    have lU0 : w.heap.size < U.heap.size := by omega
    have lU1 : w.heap.size + 1 < U.heap.size := by omega
    clear hal hU hUk hbu hi1 hold
    gi_wp2
    refine ⟨trivial, rfl, CallsIn.mono (CallsIn.inRound _ (callsIn_wide.2 (validTime_c now U))) ?_⟩
    rintro z w' ⟨rfl, rfl⟩
    cases hT : isTime now
    · dsimp only
      gi_wp2
      rw [lockL_bad _ _ _ hT] at hiU
      exact ⟨But.refl _ _, rfl, hT, ⟨so, T, hiU⟩, hbU, by omega⟩
    · have hok : okAll d (polOf P d) now = true := by simp only [okAll, hve, polOf_ok hpo HP.out, hT, Bool.and_self]
      have hsm := (okAll_small hok).1
      have HL := Lib.hid (show lockL P now (Y.take (k + 1)) = lockL P now (Y.take k) ++ (if lockedAt d (polOf P d) now = true then [d.name] else []) by rw [take_snoc hxk]; exact lockL_snoc _ _ _ _ hT)
      dsimp only
      have hrE : row? U Wc.heap.size 0 17 = some (entC r' d) := by rw [row?_of_cells hUe]; exact subRow_whole (by simp [go_sem])
      have q0 := not_one (p := w.heap.size + 2) (k := Wc.heap.size) (by omega)
      have q1 := not_one (p := w.heap.size + 2) (k := w.heap.size) (by omega)
      have q2 := not_one (p := w.heap.size + 2) (k := w.heap.size + 1) (by omega)
      gi_wp2
      refine TI.wpIn_region_sinceB (one (w.heap.size + 2)) (But.refl _ U) (by kernel_rfl) (by kernel_rfl) (by kernel_rfl) ?_
      repeat (first | (refine TI.text_skip (by rfl) ?_) | (refine TI.text_look (by rfl) (by rfl) (fun K hK => ?_); go_big_quiet_op; refine hK _ ?_; clear hK K))
      refine TI.text_act (by rfl) (by rfl) (by rfl) (fun K hK => ?_)
      go_wp2_with fail
      refine (policyOf_c b n e p re s N E P r' d U.drew (hdbU.later (Below.refl _ _).drew) hre hpo).mono ?_
      rintro z U2 ⟨rfl, hb2⟩
      dsimp only
      have hbb : Below U.heap.size U U2 := (Below.refl _ U).drew.trans hb2
      refine hK _ _ (sinceB_of (But.of_below hbb)) ?_
      clear hK K
      repeat (first | (refine TI.text_skip (by rfl) ?_) | (refine TI.text_look (by rfl) (by rfl) (fun K hK => ?_); go_big_quiet_op; refine hK _ ?_; clear hK K))
      refine TI.text_act (by rfl) (by rfl) (by rfl) (fun K hK => ?_)
      go_wp2_with fail
      refine (alocked_c r' d (polOf P d) now U2 hsm).mono ?_
      rintro z U3 ⟨rfl, hb3'⟩
      dsimp only
      have hbc : Below U.heap.size U U3 := below_step hbb hb3'
      refine hK _ _ (sinceB_of (But.of_below hbc)) ?_
      clear hK K
      refine TI.text_nil ?_
      have hi3 := hiU.later hbc
      have hb3U : But (Off (one (w.heap.size + 2)) w3) w3 U3 := hbU.trans (But.of_below hbc)
      have hD3 : Dep U3 (fresh W0.heap.size Wc) (fun y => PrinAt y r'.parts d.name) := Dep.to (fun y hy => (hDU y hy).name) (fun j hj => hbc.block j (by have := hj.2; omega)) fun j hj => hj
      have hlb3' := (box_facts hi3.box)
      have hx3 := still_blk hbc hUe
      have hs3U := hbc.size
      have hbU0 := hbU
      clear hiU hbU hdbU hdU hnU hDU cd cn hrE hUe hbb hb2 hb3'
      cases hlk : lockedAt d (polOf P d) now
      · rw [hlk] at HL
        gi_wp2
        exact ⟨But.of_below hbc, ⟨so, T, by rw [HL.out]; simpa using hi3⟩, hb3U, by omega⟩
      · rw [hlk] at HL
        obtain ⟨lc, lf, lr, ll⟩ := hlb3'
        have hrE3 : row? U3 Wc.heap.size 0 17 = some (entC r' d) := by rw [row?_of_cells hx3]; exact subRow_whole (by simp [go_sem])
        have hrP3 : row? U3 Wc.heap.size 0 2 = some (prinC r'.parts d.name) := ent_name_row hrE3
        have hcl : U3.cell? ⟨w.heap.size + 2, 0, none⟩ = some (.slice so.a T.length so.cap) := lc 0
        have hTl : T.length ≤ 12 := by
          have h1 := congrArg List.length hi3.eq
          have h2 : (lockL P now (Y.take k)).length ≤ (Y.take k).length := by unfold lockL; rw [List.length_map]; exact List.length_filter_le _ _
          have h3' := hperm.length_eq
          simp at h1 h2; omega
        have hsz := Lib.hid hs3U
        have HO := Lib.hid (hi3.own.kept (w' := U3.alloc (.cells (prinC r'.parts d.name) 24)) fun g hg => Below.heap_alloc _ _ _ (hi3.own.base hg).2)
        have HS := Lib.hid (SrcRows.new U3 (prinC r'.parts d.name) 24 2 (prinC_size _ _) (prinC_one _ _))
        have HB1 := Lib.hid (show c1 ≤ (U3.alloc (.cells (prinC r'.parts d.name) 24)).heap.size by simp; omega)
        have HLB := Lib.hid (fun (w4 : World) (hg : (U3.alloc (.cells (prinC r'.parts d.name) 24)).grownBy w4 so.blk) => box_facts ((hg.block (w.heap.size + 2) (by simp; omega) (fun e => by have := (hi3.own.base e.symm).1; omega)).trans ((Below.heap_alloc U3 _ _ ll).trans hi3.box)))
        gi_wp2_with (gi_at_builtin; refine wpListIn_append_n rfl (.tmp 22) (.tmp 25) _ rfl elemPrin2 (n := T.length) (rows := T.map encP) (news := [prinC r'.parts d.name]) rfl (by simp) HO.out rfl rfl HS.out (by rw [List.length_map]; simp; omega) HB1.out ?_; intro s3 w4 hown3 hg3 hat3; obtain ⟨f1, f2, f3, f4⟩ := HLB.out w4 hg3)
        have hal3 : Below U3.heap.size U3 (U3.alloc (.cells (prinC r'.parts d.name) 24)) := (Below.refl _ _).alloc (Nat.le_refl _) _
        have hi4 := hi3.later hal3
        have hsz3 : (U3.alloc (.cells (prinC r'.parts d.name) 24)).heap.size = U3.heap.size + 1 := by simp
        have hgs := hg3.size
        have hbs4 : But (fun j => one (w.heap.size + 2) j ∨ c1 ≤ j) U (w4.setCell ⟨w.heap.size + 2, 0, Option.none⟩ (.slice s3.a (T.length + 1) s3.cap)) :=
          (((But.of_below hbc).trans (But.of_below hal3)).trans ((grown_but hg3).mono fun j hj => .inr (hi3.own.base hj).1)).trans ((setCell_but w4 _ _ _).mono fun j hj => .inl hj)
        have hpush := hi4.push (x := (r'.parts, d.name)) (s3 := s3) (w3 := w4) (by omega) (by rw [List.map_append]; exact hown3) hg3 hat3 (hD3.to (fun j hj => by
          have := hj.1
          have := hj.2
          exact (hg3.block j (by omega) (fun e => by have := hso j e.symm; omega)).trans (hal3.block j (by omega))) (fun j hj => by
          have := hj.1
          have := hj.2
          refine ⟨by omega, by omega, fun e => ?_⟩
          rcases hat3 with e' | e'
          · have := hso j (e'.symm.trans e.symm); omega
          · rw [e', hsz3] at e; cases e; omega))
        refine ⟨hbs4, ⟨s3, T ++ [(r'.parts, d.name)], by rw [HL.out]; exact hpush⟩, (hbU0.trans (hbs4.mono fun j hj => hj.imp id fun hj => ?_)), by omega⟩
        omega
  · rintro c1 Wc ⟨⟨so, T, hi⟩, hbu, hc0⟩ hD
    rw [List.take_of_length_le (by simp)] at hi
    have hTl : T.length ≤ 12 := by
      have h1 := congrArg List.length hi.eq
      have h2 := lockL_len P now Y
      have h4 := hperm.length_eq
      simp at h1; omega
    obtain ⟨f1, f2, f3⟩ := accFin hi hB3 hbu (by omega) (by omega) hc0 hTl
    gi_wp2
    refine ⟨by simp, .inl ⟨_, _, rfl, run_takeDeferred hD, ?_⟩⟩
    exact ⟨.func (.func 44) #[] #[.pointer (some ⟨w.heap.size + 2, 0, Option.none⟩)], by simp [results, Tryz.f19, go_sem], w.heap.size + 2, so, Y, T, rfl, f1, by omega, f2, hperm, hsort, hi.eq, f3⟩
  · rintro c c1 k Wc ⟨rfl, hT, ⟨so, T, hi⟩, hbu, hc0⟩ hD
    have hTl : T.length ≤ 12 := by
      have h1 := congrArg List.length hi.eq
      simp at h1; simp [h1]
    obtain ⟨f1, f2, f3⟩ := accFin hi hB3 hbu (by omega) (by omega) hc0 hTl
    refine (wpIn_wide (n := 0)).1 ?_
    gi_wp2
    refine ⟨by simp, .inl ⟨_, _, rfl, run_takeDeferred hD, ?_⟩⟩
    exact ⟨.func (.func 44) #[] #[.pointer (some ⟨w.heap.size + 2, 0, Option.none⟩)], by simp [results, Tryz.f19, go_sem], w.heap.size + 2, so, Y, T, rfl, f1, by omega, f2, hperm, hsort, hi.eq.trans (lockL_bad _ _ _ hT).symm, f3⟩
end Go.Proofs.YtnpddjmjdpgohaaGreatDoor

namespace Go.WW
open Go.RowKit
def OwnPrin (base : Nat) (w : World) (s : Sl) (p : Prin) : Prop := Dep w (fresh base w) (fun y => PrinAt y s p) ∧ (s.a = Option.none ∨ ∃ g, s.a = some ⟨g, 0, none⟩ ∧ base ≤ g ∧ Open w g p.parts.length)
def VA (_ : Nat) (x : PP × Nat) (v : Array Value) (W0 W1 : World) : Prop := ∃ s', v = #[.int .i64 x.2, .agg (prinC s' x.1.2)] ∧ OwnPrin W0.heap.size W1 s' x.1.2
theorem own_open {w : World} {base : Nat} {e : TypeId} {k : Nat} {s : Sl} {rows : List (Array Value)} (h : Own w base e k s rows) : s.a = Option.none ∨ ∃ g, s.a = some ⟨g, 0, none⟩ ∧ base ≤ g ∧ Open w g (rows.length * k) := by
  rcases h.own.2 with ⟨hv, _⟩ | ⟨g', cap, cur, hv, hb, hh, hle, _, hsz, _⟩
  · exact .inl (by injection hv)
  · have ha : s.a = some ⟨g', 0, none⟩ := by injection hv
    exact .inr ⟨g', ha, hb, cur, e, hh, by rw [hsz]; exact Nat.mul_le_mul_right _ hle⟩
end Go.WW
namespace Go.Proofs.YtnpddjmjdpgohaaGreatDoor
open Go.RowKit Go.WW
def ClonedO (w : World) (l : List ByteArray) (e : Ending) (w' : World) : Prop := ∃ s : Sl, e = .returned (.slice s.a l.length s.cap) ∧ Below w.heap.size w w' ∧ Dep w' (fresh w.heap.size w') (fun y => StrsAt y s.a l) ∧ (s.a = Option.none ∨ ∃ g, s.a = some ⟨g, 0, none⟩ ∧ w.heap.size ≤ g ∧ Go.WW.Open w' g l.length)
set_option maxRecDepth 100000 in
theorem cloneStrsO_c (a : Option Addr) (cap : Nat) (l : List ByteArray) (w : World) (hl : StrsAt w a l) : Calls Tryz.prog 78 #[.slice a l.length cap] w (ClonedO w l) := by
  have hn : l.length ≤ 4294967000 := hl.1
  cases a with
  | none =>
    obtain rfl : l = [] := List.eq_nil_of_length_eq_zero (CellsAt.none hl)
    go_enter Tryz.func78, Tryz.ntmps78
    go_wp2_with fail
    go_ret
    exact ⟨⟨none, 0⟩, rfl, Below.refl _ _, fun x _ => ⟨by simp [lim], fun i hi => by simp at hi⟩, .inl rfl⟩
  | some ad =>
    obtain ⟨rows, hlr, hsr, hrR⟩ := CellsAt.src hl strR_one
    have hown := Own.empty w 9 1
    have HS := hsr.later ((Below.refl _ w).alloc (Nat.le_refl _) (.cells #[] 9))
    have HLR := Lib.hid hlr
    have HRR := Lib.hid hrR
    have hln : l.length ≤ lim := hl.1
    have HLN := Lib.hid hln
    clear hlr hrR hl hsr hln
    go_enter Tryz.func78, Tryz.ntmps78
    go_wp2_with (at_builtin; refine wpList_append_n rfl (.tmp 5) (.tmp 6) _ rfl elemStr (n := 0) (s := ⟨some ⟨w.heap.size, 0, none⟩, 0⟩) rfl rfl hown rfl HLR.out.symm HS (by rw [HLR.out]; simp; omega) (by simp) ?_; intro s3 w3 hown3 hg3 hat3)
    go_ret
    have hb3 : Below w.heap.size w w3 := ((Below.refl _ w).alloc (Nat.le_refl _) _).grown hg3 (by simp) (fun k e => by cases e; exact Nat.le_refl _)
    obtain ⟨s, h1, h2, h3⟩ := cloned_strs (l := l) hown3 (by simpa using HLR.out) HLN.out hb3 (fun i hi => by simpa using HRR.out i (by simpa using hi))
    have ho := own_open hown3
    rw [show (([] ++ rows : List (Array Value)).length * 1) = l.length by simpa using HLR.out] at ho
    refine ⟨s3, by simp, hb3, fun x hx => CellsAt.of_own (hown3.fresh hx) (by simpa using HLR.out) HLN.out (fun i hi => by simpa using HRR.out i (by simpa using hi)), ho⟩
def CopiedO (w : World) (p : Prin) (e : Ending) (w' : World) : Prop := ∃ s : Sl, e = .returned (.agg (prinC s p)) ∧ Below w.heap.size w w' ∧ OwnPrin w.heap.size w' s p
set_option maxRecDepth 100000 in
set_option maxHeartbeats 1000000 in
theorem nameCopyO_c (s : Sl) (p : Prin) (w : World) (hp : PrinAt w s p) : Calls Tryz.prog 45 #[.agg (prinC s p)] w (CopiedO w p) := by
  obtain ⟨Z, hZ⟩ : ∃ Z : Array Value, Z = #[.slice none 0 0, .string ⟨#[]⟩] := ⟨_, rfl⟩
  have hB : Below w.heap.size w ((w.alloc (.cells (prinC s p) 24)).alloc (.cells Z 24)) := ((Below.refl _ w).alloc (Nat.le_refl _) _).alloc (by simp) _
  have hq : StrsAt ((w.alloc (.cells (prinC s p) 24)).alloc (.cells Z 24)) s.a p.parts := hp.1.later hB
  have hrl := hp.2
  subst hZ
  go_enter Tryz.func45, Tryz.ntmps45
  go_wp2_with fail
  refine (cloneStrsO_c _ _ _ _ hq).mono ?_
  rintro e w2 ⟨s', rfl, hb2, hd2, ho2⟩
  have hblk := setCell_blk (o := 0) (.slice s'.a p.parts.length s'.cap) ((hb2.block w.heap.size (by simp; omega)).trans (second_blk w _ _))
  have hrow : row? (w2.setCell ⟨w.heap.size, 0, none⟩ (.slice s'.a p.parts.length s'.cap)) w.heap.size 0 2 = some (prinC s' p) := by rw [row?_of_cells hblk]; rfl
  obtain ⟨hcc, hff, hrr⟩ := bcell hb2
  have hpp := bput hb2
  have hsz : w.heap.size + 1 < w2.heap.size := by have := hb2.size; simp at this; omega
  have hsz0 : w.heap.size < w2.heap.size := by omega
  have hne : w.heap.size + 1 ≠ w.heap.size := by omega
  have HO := Lib.hid ho2
  clear hblk ho2
  go_wp2_with fail
  have hk : ∀ k, w.heap.size + 1 < k → (putRow (w2.setCell ⟨w.heap.size, 0, none⟩ (.slice s'.a p.parts.length s'.cap)) (w.heap.size + 1) 0 (prinC s' p)).heap[k]? = w2.heap[k]? := fun k hk => by
    rw [putRow_other (by omega), Below.heap_setCell _ _ _ _ (by simp; omega)]
  refine bodyPost_ret (v := .agg (prinC s' p)) (by simp [results, Tryz.results45, go_sem, *]; rfl) rfl ⟨s', rfl, ?_, ?_, ?_⟩
  · exact Go.WW.Below.putRow ((hB.trans (hb2.mono hB.size)).setCell (by simp) _) (by omega)
  · refine Dep.to (fun x hx => ⟨hd2 x hx, hrl⟩) (fun j hj => ?_) (fun j hj => ?_)
    · have h1 := hj.1
      simp at h1
      exact hk j (by omega)
    · have h1 := hj.1
      have h2 := hj.2
      simp at h1
      exact ⟨by omega, by rw [putRow_size]; simpa [World.setCell] using h2⟩
  · rcases HO.out with h | ⟨g, hg, hgb, hgo⟩
    · exact .inl h
    · simp at hgb
      exact .inr ⟨g, hg, by omega, hgo.at (hk g (by omega))⟩
attribute [local go_sem] Oper.semAt_some
set_option maxRecDepth 100000 in
set_option maxHeartbeats 1000000 in
theorem accounts1_seq (b cap : Nat) (a : Option Addr) (X : List PP) (S : Nat → Prop) (w : World) (hc : w.cell? ⟨b, 0, none⟩ = some (.slice a X.length cap)) (hn : X.length ≤ 4294967000) (hL : ∀ y, But (Off S w) w y → RowsPP y a X) :
    SeqB Tryz.prog 44 #[.pointer (some ⟨b, 0, none⟩)] S X.zipIdx VA w := by
  intro l J Jx W hW hl1 hl2 h0 hJ hJx hY
  have hcW : W.cell? ⟨b, 0, none⟩ = some (.slice a X.length cap) := (hW.cell (World.block_lt_of_cell? w _ hc)).trans hc
  have hWB : But (Off S w) w W := But.of_below hW
  have HJ := Lib.hid hJ
  have HJx := Lib.hid hJx
  have HY := Lib.hid hY
  have HL := Lib.hid hL
  have H0 := Lib.hid (h0 W.heap.size W (Nat.le_refl _) (Nat.le_refl _) (Below.refl _ _))
  clear hJ hJx hY hL h0
  refine (callsIn_wide (n := 0)).1 ?_
  refine callsIn_of_wp Tryz.func44 rfl trivial ?_ rfl
  simp only [Tryz.ntmps44, List.size_toArray, List.length_cons, List.length_nil, Nat.reduceAdd, Nat.reduceSub, Array.replicate_succ, Array.replicate_zero, List.push_toArray, List.append_toArray, List.nil_append, List.cons_append]
  rcases Nat.eq_zero_or_pos X.length with hX | hX
  · obtain rfl : X = [] := List.eq_nil_of_length_eq_zero hX
    gi_wp2
    refine wpIn_loop_rounds 1 ?_
    rw [roundsIn_succ]
    gi_wp2
    go_end0
    exact ⟨⟨_, rfl⟩, .inl ⟨_, H0.out⟩⟩
  obtain ⟨B, o, rfl, -⟩ := (HL.out w (But.refl _ _)).rows 0 hX
  gi_wp2
  gi_loopw [7] (fun iv wr => ∃ i : Nat, i ≤ X.length ∧ iv = .int .i64 i ∧ Hid (J W.heap.size i wr) ∧ Hid (But (Off S w) w wr) ∧ W.heap.size ≤ wr.heap.size) (fun iv _ => X.length - (intOf iv).toNat)
  case atStart => exact ⟨0, Nat.zero_le _, rfl, H0, hWB, Nat.le_refl _⟩
  case round =>
    obtain ⟨i, hi, rfl, hj, hbu, hsz⟩ := hrel
    by_cases hlt : i < X.length
    · have hki : (i : Int) < (X.length : Int) := by omega
      obtain ⟨B', o', hBo, hr⟩ := (HL.out wr hbu.out).rows i hlt
      cases hBo
      have hx : (X.zipIdx)[i]? = some (X[i], i) := by rw [List.getElem?_zipIdx]; simp [hlt]
      have HP := Lib.hid (fun y hy => (HL.out y hy).each _ (List.getElem_mem hlt))
      generalize X[i] = x at *
      obtain ⟨s0, q⟩ := x
      have hr' : row? wr B (o + i * 2) 2 = some (prinC s0 q) := hr
      clear hr
      have hal : Below wr.heap.size wr (wr.alloc (.cells (prinC s0 q) 24)) := (Below.refl _ wr).alloc (Nat.le_refl _) _
      have halB : But (Off S w) w (wr.alloc (.cells (prinC s0 q) 24)) := hbu.out.trans (But.of_below hal)
      have HC := Lib.hid (nameCopyO_c s0 q _ (HP.out _ halB))
      gi_wp2
      refine ⟨trivial, rfl, (callsIn_wide.2 HC.out).mono ?_⟩
      rintro z W2 ⟨s2, rfl, hb2, ho2⟩
      have hb2' := below_step hal hb2
      dsimp only
      obtain ⟨fn, tmps, assign, body, hy, hR⟩ := HY.out W.heap.size i ((s0, q), i) #[.int .i64 i, .agg (prinC s2 q)] wr W2 hx hj.out (But.of_below hb2') ⟨s2, rfl, ho2.1.to (fun _ _ => rfl) (fun j hj => ⟨by have := hj.1; simp at this; omega, hj.2⟩), ho2.2.imp id (fun ⟨g, h1, h2, h3⟩ => ⟨g, h1, by simp at h2; omega, h3⟩)⟩ (Nat.le_refl _) hsz
      gi_wp2
      refine ⟨rfl, hR.mono ?_⟩
      rintro e W3 ⟨hb3, h3⟩
      have HB3 := Lib.hid (show But (Off S w) w W3 from (hbu.out.trans (But.of_below hb2')).trans (hb3.mono fun k hk => by
        rcases hk with (hk | rfl) | hk
        · exact .inl hk
        · exact .inr hl1
        · exact .inr (Nat.le_trans hW.size hk)))
      have HS3 : W.heap.size ≤ W3.heap.size := by have := hb3.size; have := hb2'.size; omega
      clear hal halB hy hR hb3 hb2 hb2' ho2
      rcases h3 with ⟨rfl, hj3⟩ | ⟨rfl, hx3⟩
      · have HJ3 := Lib.hid hj3
        clear hj3
        gi_wp2
        go_roundw
        case rel => exact ⟨i + 1, by omega, by go_num, HJ3.out, HB3.out, HS3⟩
        case measure => simp [intOf]; omega
      · have HJ3 := Lib.hid hx3
        clear hx3
        gi_wp2
        refine bodyPost_ret (results_none rfl _ _ _) rfl ?_
        exact ⟨⟨_, rfl⟩, .inr ⟨_, _, HJ3.out⟩⟩
    · obtain rfl : i = X.length := by omega
      gi_wp2
      go_end0
      exact ⟨⟨_, rfl⟩, .inl ⟨_, by simpa using hj.out⟩⟩
end Go.Proofs.YtnpddjmjdpgohaaGreatDoor
