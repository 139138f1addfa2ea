/- sha's add at any words: lists of opaque values. -/
import Derived.Test.YthbialpbkpiekaaGreatDoorTB
import Derived.Test.YthbialpbkpiekaaGreatDoorTA
import Derived.Test.YthbialpbkpiekaaGreatDoorTC
namespace Go.Mini
open Go.RowKit
theorem ins_get : ∀ (l : List Int) (n : Nat) (S : Tr Int) (k : Nat), look (ins l n S) k = if n ≤ k ∧ k < n + l.length then odi (l[k - n]?) else look S k := by
  intro l
  induction l with
  | nil => intro n S k; rw [if_neg (by simp)]; rfl
  | cons a l ih =>
    intro n S k
    have e : ins (a :: l) n S = ins l (n + 1) (S.put n a) := rfl
    rw [e, ih]
    simp only [List.length_cons]
    by_cases h1 : n + 1 ≤ k ∧ k < n + 1 + l.length
    · rw [if_pos h1, if_pos (by omega), show k - n = (k - (n + 1)) + 1 by omega]; simp
    · rw [if_neg h1]
      unfold look
      rw [Tr.get_put]
      by_cases h2 : k = n
      · subst h2; rw [if_pos rfl, if_pos (by omega)]; simp
      · rw [if_neg h2, if_neg (by omega)]
end Go.Mini
namespace Go.MiniT
open Go Go.Mini Go.RowKit
theorem symF_in (l : List Int) (hl : l.length = 72) (k : Nat) (hk : k < 72) : symF symT l k = odi (l[k]?) := by
  unfold symF
  rw [ssa_old _ _ _ k hk, ins_get, if_pos (by omega)]; rfl
theorem opqsAt_get : ∀ (n k i : Nat), (opqsAt k n)[i]? = if i < n then some (.opq (k + i)) else none := by
  intro n
  induction n with
  | zero => intro k i; rw [if_neg (by omega)]; rfl
  | succ n ih =>
    intro k i
    have e : opqsAt k (n + 1) = .opq k :: opqsAt (k + 1) n := rfl
    rw [e]
    cases i with
    | zero => simp
    | succ i =>
      rw [List.getElem?_cons_succ, ih]
      by_cases h : i < n
      · rw [if_pos h, if_pos (by omega)]; congr 2; omega
      · rw [if_neg h, if_neg (by omega)]
theorem opqsAt_len (n k : Nat) : (opqsAt k n).length = n := by
  have h1 := opqsAt_get n k n
  rw [if_neg (Nat.lt_irrefl _), List.getElem?_eq_none_iff] at h1
  cases n with
  | zero => omega
  | succ n =>
    have h2 := opqsAt_get (n + 1) k n
    rw [if_pos (by omega)] at h2
    have := (List.getElem?_eq_some_iff.1 h2).1
    omega
theorem opqsAt_all (σ : Sg) (V : Nat → Prop) (k n : Nat) : wfs σ V (opqsAt k n) ∧ ones (opqsAt k n) = true := by
  have hm : ∀ v ∈ opqsAt k n, ∃ j, v = .opq j := fun v hv => by
    obtain ⟨i, hi⟩ := List.mem_iff_getElem?.1 hv
    rw [opqsAt_get] at hi
    split at hi
    · cases hi; exact ⟨_, rfl⟩
    · cases hi
  exact ⟨(wfs_iff _).2 fun v hv => by obtain ⟨j, rfl⟩ := hm v hv; simp only [wf], (ones_iff _).2 fun v hv => by obtain ⟨j, rfl⟩ := hm v hv; rfl⟩
theorem winL_get {m so : Nat} {mid : List MV} (hm : mid.length = 8) (hs : so + 8 ≤ m) (i : Nat) :
    (winL m so mid)[i]? = if so ≤ i ∧ i < so + 8 then mid[i - so]? else if i < m then some (.opq (100000 + i)) else none := by
  unfold winL
  by_cases h1 : i < so
  · rw [List.getElem?_append_left (by rw [opqsAt_len]; exact h1), opqsAt_get, if_pos h1, if_neg (by omega), if_pos (by omega)]
  · rw [List.getElem?_append_right (by rw [opqsAt_len]; omega), opqsAt_len]
    by_cases h2 : i < so + 8
    · rw [List.getElem?_append_left (by omega), if_pos (by omega)]
    · rw [List.getElem?_append_right (by omega), opqsAt_get, hm]
      have e1 : Nat.sub m (Nat.add so 8) = m - (so + 8) := rfl
      have e2 : Nat.add 100008 so = 100008 + so := rfl
      rw [e1, e2]
      have e3 : ¬ (so ≤ i ∧ i < so + 8) := by omega
      rw [if_neg e3]
      by_cases h3 : i < m
      · rw [if_pos (by omega), if_pos h3]; congr 2; omega
      · rw [if_neg (by omega), if_neg h3]
theorem winL_all {m so : Nat} {mid : List MV} (σ : Sg) (V : Nat → Prop) (h : wfs σ V mid ∧ ones mid = true) : wfs σ V (winL m so mid) ∧ ones (winL m so mid) = true := by
  unfold winL
  have a := opqsAt_all σ V 100000 so
  have b := opqsAt_all σ V (Nat.add 100008 so) (Nat.sub m (Nat.add so 8))
  rw [wfs_iff, ones_iff]
  refine ⟨fun v hv => ?_, fun v hv => ?_⟩
  · simp only [List.mem_append] at hv
    rcases hv with hv | hv | hv
    · exact (wfs_iff _).1 a.1 v hv
    · exact (wfs_iff _).1 h.1 v hv
    · exact (wfs_iff _).1 b.1 v hv
  · simp only [List.mem_append] at hv
    rcases hv with hv | hv | hv
    · exact (ones_iff _).1 a.2 v hv
    · exact (ones_iff _).1 h.2 v hv
    · exact (ones_iff _).1 b.2 v hv
theorem addTab_get (m so : Nat) (t u : TypeId) (k : Nat) (b : MB) (h : (addTab m so t u).get k = some b) : (k = 11 ∧ b = .cells (winL m so (opqsAt 0 8)) t 1 false) ∨ (k = 10 ∧ b = .cells (opqsAt 8 64) u 1 false) ∨ (k = shaT.s1 ∧ b = shaT.b1) ∨ (k = shaT.s0 ∧ b = shaT.b0) := by
  unfold addTab ShaT.tab at h
  rw [Tr.get_put] at h
  split at h
  · rename_i e; cases h; exact .inl ⟨e, rfl⟩
  · rw [Tr.get_put] at h
    split at h
    · rename_i e; cases h; exact .inr (.inl ⟨e, rfl⟩)
    · rw [Tr.get_put] at h
      split at h
      · rename_i e; cases h; exact .inr (.inr (.inl ⟨e, rfl⟩))
      · rw [Tr.get_put] at h
        split at h
        · rename_i e; cases h; exact .inr (.inr (.inr ⟨e, rfl⟩))
        · rw [Tr.get_nil] at h; cases h
end Go.MiniT
/- sha's add at any words: the start. -/
namespace Go.MiniT
open Go Go.Mini Go.RowKit
theorem symE_ok (l : List Int) (X : Ext) : @EnvOk (symO symT l X) symE Go.Proofs.Tryz.prog :=
  @envS (symO symT l X) 11 _ _ _ (fun op t x y v h σ V _ _ => boS_ok op t x y v h σ V) (fun s d x v h σ V _ => coS_ok (by kernel_rfl) (by kernel_rfl) s d x v h σ V)
/-- A table of words at a variable. -/
def WordsAt (w : World) (b : Nat) (l : List Nat) (t : TypeId) : Prop := ∃ (c : Array Value) (fz : Nat × Nat), w.heap[b]? = some (.cells c t fz) ∧ (∀ (i n : Nat), l[i]? = some n → c[i]? = some (Value.int .u32 (n : Nat))) ∧ (fz.1 = fz.2 ∨ c.size ≤ fz.1)
theorem WordsAt.blk [Opq] {w : World} {b : Nat} {l : List Nat} {t : TypeId} (h : WordsAt w b l t) {σ : Sg} {V : Nat → Prop} (e : σ b = ⟨b, 0, 0⟩) : Blk σ V b w (.cells (u32s l) t 1 false) := by
  obtain ⟨c, fz, h1, h2, h3⟩ := h
  rw [u32s_eq]
  have hm : ∀ v ∈ l.map (fun n => MV.int .u32 (.ofNat n)), ∃ n : Nat, v = .int .u32 (.ofNat n) := fun v hv => by obtain ⟨n, -, rfl⟩ := List.mem_map.1 hv; exact ⟨n, rfl⟩
  refine ⟨c, fz, by rw [e]; exact h1, (wfs_iff _).2 fun v hv => by obtain ⟨n, rfl⟩ := hm v hv; simp only [wf], (ones_iff _).2 fun v hv => by obtain ⟨n, rfl⟩ := hm v hv; rfl, fun i v hv => ?_, fun hf => (by cases hf), h3⟩
  rw [List.getElem?_map] at hv
  cases hi : l[i]? with
  | none => rw [hi] at hv; cases hv
  | some n =>
    rw [hi] at hv; cases hv
    rw [e, Nat.zero_add]
    simp only [emb]
    exact h2 i n hi
structure AddAt (st bs : List Int) (vs : List Value) (m so sb wo bb bo : Nat) (t u : TypeId) (w : World) : Prop where
  n8 : st.length = 8
  n64 : bs.length = 64
  nm : vs.length = m
  fit : so + 8 ≤ m
  one : ∀ v ∈ vs, v.cells = #[v] ∧ v.oneCell' = true
  words : ∀ i, i < 8 → vs[so + i]? = some (.int .u32 (odi st[i]?))
  state : ∃ c fz, w.heap[sb]? = some (.cells c t fz) ∧ (∀ i v, vs[i]? = some v → c[wo + i]? = some v) ∧ (fz.1 = fz.2 ∨ c.size ≤ fz.1)
  bytes : ∃ c fz, w.heap[bb]? = some (.cells c u fz) ∧ (∀ i, i < 64 → c[bo + i]? = some (.int .u8 (odi bs[i]?))) ∧ (fz.1 = fz.2 ∨ c.size ≤ fz.1)
  ne : bb ≠ sb
  lo : (sb ≠ shaT.s0 ∧ sb ≠ shaT.s1) ∧ bb ≠ shaT.s0 ∧ bb ≠ shaT.s1
  sha0 : WordsAt w shaT.s0 shaT.l0 shaT.t0
  sha1 : WordsAt w shaT.s1 shaT.l1 shaT.t1
def extOf (vs : List Value) (hv : ∀ v ∈ vs, v.cells = #[v] ∧ v.oneCell' = true) : Ext where
  val i := (vs[i]?).getD .nilFunc
  single i := by
    cases h : vs[i]? with
    | none => rfl
    | some v => exact (hv v (List.mem_of_getElem? h)).1
  one i := by
    cases h : vs[i]? with
    | none => rfl
    | some v => exact (hv v (List.mem_of_getElem? h)).2
def addS (sb wo bb bo : Nat) : Sg := fun k => if k = 10 then ⟨bb, bo, 0⟩ else if k = 11 then ⟨sb, wo, 0⟩ else ⟨k, 0, 0⟩
theorem add_start {st bs : List Int} {vs : List Value} {m so sb wo bb bo : Nat} {t u : TypeId} {w : World} (h : AddAt st bs vs m so sb wo bb bo t u w) :
    @StartN (symO symT (st ++ bs) (extOf vs h.one)) ⟨11, 10⟩ 12 (fun k => k < w.heap.size ∧ k ≠ sb) (addTab m so t u) (addS sb wo bb bo) w := by
  letI O := symO symT (st ++ bs) (extOf vs h.one)
  have hl : (st ++ bs).length = 72 := by rw [List.length_append, h.n8, h.n64]
  have e10 : addS sb wo bb bo 10 = ⟨bb, bo, 0⟩ := rfl
  have e11 : addS sb wo bb bo 11 = ⟨sb, wo, 0⟩ := rfl
  have s0 : addS sb wo bb bo shaT.s0 = ⟨shaT.s0, 0, 0⟩ := rfl
  have s1 : addS sb wo bb bo shaT.s1 = ⟨shaT.s1, 0, 0⟩ := rfl
  have g0 : shaT.s0 < 10 := by decide
  have g1 : shaT.s1 < 10 := by decide
  refine ⟨by decide, by decide, fun id b hb => ?_, fun id hid => ?_, fun id b hb => ?_, fun id id' b b' hb hb' _ _ he => ?_, fun id b hb _ hr => ?_⟩
  · rcases addTab_get m so t u id b hb with ⟨rfl, -⟩ | ⟨rfl, -⟩ | ⟨rfl, -⟩ | ⟨rfl, -⟩ <;> omega
  · have hid : id < 10 := hid
    unfold addS
    rw [if_neg (by omega), if_neg (by omega)]
    exact ⟨rfl, rfl⟩
  · rcases addTab_get m so t u id b hb with ⟨rfl, rfl⟩ | ⟨rfl, rfl⟩ | ⟨rfl, rfl⟩ | ⟨rfl, rfl⟩
    · obtain ⟨c, fz, h1, h2, h3⟩ := h.state
      obtain ⟨a1, a2⟩ := winL_all (m := m) (so := so) (addS sb wo bb bo) (· < 12) (opqsAt_all (addS sb wo bb bo) (· < 12) 0 8)
      refine ⟨c, fz, h1, a1, a2, fun i v hv => ?_, fun hf => (by cases hf), h3⟩
      rw [winL_get (opqsAt_len 8 0) h.fit] at hv
      rw [e11]
      split at hv
      · rename_i hi
        rw [opqsAt_get, if_pos (by omega), Nat.zero_add] at hv
        cases hv
        have := h2 (so + (i - so)) _ (h.words (i - so) (by omega))
        rw [show so + (i - so) = i by omega] at this
        rw [this]
        show _ = some (extV symT (st ++ bs) (extOf vs h.one) (i - so))
        have hb : wordN (i - so) = true := by
          unfold wordN
          rw [show Nat.blt (i - so) 8 = true from Nat.ble_eq_true_of_le (by omega)]; rfl
        rw [symV_word hb, symF_in _ hl (i - so) (by omega), List.getElem?_append_left (by rw [h.n8]; omega)]
      · split at hv
        · rename_i hi
          cases hv
          have hlt : i < vs.length := by rw [h.nm]; exact hi
          rw [h2 i vs[i] (List.getElem?_eq_getElem hlt)]
          show _ = some (extV symT (st ++ bs) (extOf vs h.one) (100000 + i))
          rw [extV_ge]
          show _ = some ((vs[i]?).getD .nilFunc)
          rw [List.getElem?_eq_getElem hlt]; rfl
        · cases hv
    · obtain ⟨c, fz, h1, h2, h3⟩ := h.bytes
      obtain ⟨a1, a2⟩ := opqsAt_all (addS sb wo bb bo) (· < 12) 8 64
      refine ⟨c, fz, h1, a1, a2, fun i v hv => ?_, fun hf => (by cases hf), h3⟩
      rw [opqsAt_get] at hv
      split at hv
      · rename_i hi
        cases hv
        rw [e10, h2 i hi]
        show _ = some (extV symT (st ++ bs) (extOf vs h.one) (8 + i))
        have hk : extV symT (st ++ bs) (extOf vs h.one) (8 + i) = .int .u8 (symF symT (st ++ bs) (8 + i)) := by
          rw [extV_lt (by omega)]
          unfold symV wordN
          have e1 : Nat.blt (8 + i) 8 = false := by
            cases hh : Nat.blt (8 + i) 8 with
            | false => rfl
            | true => have := blt_lt hh; omega
          have e2 : Nat.ble 72 (8 + i) = false := by
            cases hh : Nat.ble 72 (8 + i) with
            | false => rfl
            | true => have := Nat.le_of_ble_eq_true hh; omega
          rw [e1, e2]; rfl
        rw [hk, symF_in _ hl (8 + i) (by omega), List.getElem?_append_right (by rw [h.n8]; omega), h.n8, show 8 + i - 8 = i by omega]
      · cases hv
    · exact h.sha1.blk s1
    · exact h.sha0.blk s0
  · obtain ⟨⟨l1, l2⟩, l3, l4⟩ := h.lo
    have := h.ne
    rcases addTab_get m so t u id b hb with ⟨rfl, -⟩ | ⟨rfl, -⟩ | ⟨rfl, -⟩ | ⟨rfl, -⟩ <;> rcases addTab_get m so t u id' b' hb' with ⟨rfl, -⟩ | ⟨rfl, -⟩ | ⟨rfl, -⟩ | ⟨rfl, -⟩ <;> first
      | rfl
      | (exfalso; simp only [e10, e11, s0, s1] at he; first | exact absurd he (by decide) | (exact absurd he ‹_›) | (exact absurd he.symm ‹_›))
  · have hr : 11 ≤ id := hr
    rcases addTab_get m so t u id b hb with ⟨rfl, -⟩ | ⟨rfl, -⟩ | ⟨rfl, -⟩ | ⟨rfl, -⟩
    · rintro ⟨-, hx⟩; exact hx rfl
    · omega
    · omega
    · omega
end Go.MiniT
/- sha's add at any words: the contract, the state being a part of a struct. -/
namespace Go.MiniT
open Go Go.Mini Go.RowKit
def TurnC : Prop := ∀ (x : Int) (b o cap : Nat) (ps : List Nat), (∀ p ∈ ps, 1 ≤ p ∧ p ≤ 31) → ps.length ≤ 64 → ∀ w : World, (∀ i (h : i < ps.length), w.cell? ⟨b, o + i, none⟩ = some (.int .i64 (ps[i] : Nat))) →
      Calls Go.Proofs.Tryz.prog 88 #[.int .u32 x, .slice (some ⟨b, o, none⟩) ps.length cap] w (fun e w' => e = .returned (.int .u32 (ps.foldl (fun y p => bits .xor .u32 y (rotI x (32 - p))) 0)) ∧ w = w')
def ChoiceC : Prop := ∀ (x y z : Int) (w : World), Calls Go.Proofs.Tryz.prog 89 #[.int .u32 x, .int .u32 y, .int .u32 z] w (fun e w' => e = .returned (.int .u32 (chI x y z)) ∧ w = w')
/-- The words after a block. -/
noncomputable def addF (st bs : List Int) (i : Nat) : Int := symF symT (st ++ bs) (1561 + i)
theorem addOut_get (i : Nat) (hi : i < 8) : addOut[i]? = some (.opq (1561 + i)) := by
  match i, hi with
  | 0, _ => rfl
  | 1, _ => rfl
  | 2, _ => rfl
  | 3, _ => rfl
  | 4, _ => rfl
  | 5, _ => rfl
  | 6, _ => rfl
  | 7, _ => rfl
theorem add_c (hT : TurnC) (hC : ChoiceC) {st bs : List Int} {vs : List Value} {m so sb wo bb bo : Nat} {t u : TypeId} {w : World} (hrun : AddRun m so) (h : AddAt st bs vs m so sb wo bb bo t u w) :
    Calls Go.Proofs.Tryz.prog 49 #[.pointer (some ⟨sb, wo + so, none⟩), .slice (some ⟨bb, bo, none⟩) 64 64] w fun e w' => e = .returned (.tuple #[]) ∧ Kept (fun k => k < w.heap.size ∧ k ≠ sb) w w' ∧
      ∃ c fz, w'.heap[sb]? = some (.cells c t fz) ∧ (∀ i, i < 8 → c[wo + (so + i)]? = some (.int .u32 (addF st bs i))) ∧ (∀ i v, (i < so ∨ so + 8 ≤ i) → vs[i]? = some v → c[wo + i]? = some v) ∧ (fz.1 = fz.2 ∨ c.size ≤ fz.1) := by
  letI O := symO symT (st ++ bs) (extOf vs h.one)
  have hW : ∀ k, (k < w.heap.size ∧ k ≠ sb) → k < w.heap.size := fun _ hk => hk.1
  have hO : OrcOk symE Go.Proofs.Tryz.prog (fun k => k < w.heap.size ∧ k ≠ sb) w := orcOk_of (orcIs_or (orcTurnS_ok hW hT) (orcChS_ok hW hC))
  have hE := symE_ok (st ++ bs) (extOf vs h.one)
  have hr := hrun t u
  unfold resA at hr
  split at hr
  · rename_i h' he
    split at hr
    · rename_i cs v es o hg
      cases hr
      obtain ⟨F, -, -, hc⟩ := (run_ok (W0 := w) hE hO hW (fun go hgo => draw_ok hE hW hgo) 60).1 49 _ ⟨addTab m so t u, 12⟩ _ _ he
      have := hc (addS sb wo bb bo) (· < 12) w (rel_startN (add_start h)) (by simp only [wfs, wf]; exact ⟨by decide, ⟨by decide, Nat.le_refl _⟩, trivial⟩)
      refine this.mono ?_
      rintro e w' ⟨σ', V', a1, a2, -, -, R, -, rfl⟩
      have e11 : σ' 11 = ⟨sb, wo, 0⟩ := a1 11 (by decide)
      obtain ⟨c, fz, k1, -, -, k4, -, k6⟩ := R.blk 11 _ (a2 11 (by decide)) hg
      rw [e11] at k1 k4
      refine ⟨rfl, R.below, c, fz, k1, fun i hi => ?_, fun i v hi hv => ?_, k6⟩
      · have hv : (winL m so addOut)[so + i]? = some (.opq (1561 + i)) := by
          rw [winL_get rfl h.fit, if_pos (by omega), show so + i - so = i by omega, addOut_get i hi]
        rw [k4 _ _ hv]
        show some (extV symT (st ++ bs) (extOf vs h.one) (1561 + i)) = _
        have hb : wordN (1561 + i) = true := by
          unfold wordN
          rw [Nat.ble_eq_true_of_le (show 72 ≤ 1561 + i by omega), show Nat.blt (1561 + i) 100000 = true from Nat.ble_eq_true_of_le (by omega)]
          cases Nat.blt (1561 + i) 8 <;> rfl
        rw [symV_word hb]; rfl
      · have hlt := (List.getElem?_eq_some_iff.1 hv).1
        rw [h.nm] at hlt
        have hq : (winL m so addOut)[i]? = some (.opq (100000 + i)) := by
          rw [winL_get rfl h.fit, if_neg (by omega), if_pos hlt]
        rw [k4 _ _ hq]
        show some (extV symT (st ++ bs) (extOf vs h.one) (100000 + i)) = _
        rw [extV_ge]
        show some ((vs[i]?).getD .nilFunc) = _
        rw [hv]; rfl
    · cases hr
  · cases hr
end Go.MiniT
/- The oracle of sha's add at known words and bytes. -/
namespace Go.Mini
open Go.RowKit
variable [O : Opq] {G : GB} {B : Nat → Prop} {W0 : World} {σ : Sg} {V : Nat → Prop} {h : MH} {w w' : World}
/-- A block changes, and the world with it. -/
theorem Rel.redo (R : Rel G B W0 σ V h w) {id : Nat} {b0 b : MB} (hv : V id) (hb0 : h.get id = some b0) (hl0 : live b0 = true) (hG : G.ro ≤ id)
    (hW : ∀ k, B k → k < W0.heap.size) (hk : Kept (fun k => k < w.heap.size ∧ k ≠ (σ id).blk) w w') (hblk : Blk σ V id w' b) : Rel G B W0 σ V (h.set id b) w' := by
  have hget : ∀ k, k ≠ id → (h.set id b).get k = h.get k := fun k hk => by rw [MH.get_set, if_neg hk]
  have hsame : (h.set id b).get id = some b := by rw [MH.get_set, if_pos rfl]
  have hown := R.own id b0 hv hb0 hl0 hG
  refine ⟨fun k b' hk' hb' => ?_, fun id1 id2 b1 b2 hv1 hv2 h1 h2 l1 l2 he => ?_, fun k b' hk' hb' hl hg => ?_, R.glob, fun k b' hb' => ?_, R.vx, R.gx,
    ⟨hk.os.trans R.below.os, hk.tape.trans R.below.tape, hk.output.trans R.below.output, Nat.le_trans R.below.size hk.size, fun k hB => ?_⟩⟩
  · by_cases e : k = id
    · subst e; rw [hsame] at hb'; cases hb'; exact hblk
    · rw [hget k e] at hb'
      refine (R.blk k b' hk' hb').agr (fun _ _ => rfl) (fun _ hx => hx) hk' (fun hl => hk.block _ ⟨R.lt hk' hb' hl, fun e' => e ?_⟩)
      exact R.inj k id b' b0 hk' hv hb' hb0 hl hl0 e'
  · by_cases e1 : id1 = id <;> by_cases e2 : id2 = id
    · rw [e1, e2]
    · subst e1; rw [hget _ e2] at h2; exact R.inj _ _ _ _ hv1 hv2 hb0 h2 hl0 l2 he
    · subst e2; rw [hget _ e1] at h1; exact R.inj _ _ _ _ hv1 hv2 h1 hb0 l1 hl0 he
    · rw [hget _ e1] at h1; rw [hget _ e2] at h2; exact R.inj _ _ _ _ hv1 hv2 h1 h2 l1 l2 he
  · by_cases e : k = id
    · subst e; exact hown
    · rw [hget k e] at hb'; exact R.own k b' hk' hb' hl hg
  · by_cases e : k = id
    · subst e; exact R.nx _ _ hb0
    · rw [hget k e] at hb'; exact R.nx k b' hb'
  · have hlt : k < w.heap.size := Nat.lt_of_lt_of_le (hW k hB) R.below.size
    exact (hk.block k ⟨hlt, fun e => hown (e ▸ hB)⟩).trans (R.below.block k hB)
omit O in
theorem one_cellsV {v : Value} (h : v.oneCell' = true) : v.cells = #[v] ∧ v.oneCell' = true := by
  refine ⟨?_, h⟩
  cases v <;> first | rfl | cases h
noncomputable def wordsOf (l : List MV) : Option (List Nat) :=
  List.rec (some []) (fun v _ ih => match v with
    | .int .u32 (.ofNat n) => match ih with | some r => some (n :: r) | none => none
    | _ => none) l
omit O in
theorem wordsOf_cons (v : MV) (l : List MV) : wordsOf (v :: l) = (match v with
    | .int .u32 (.ofNat n) => match wordsOf l with | some r => some (n :: r) | none => none
    | _ => none) := rfl
omit O in
theorem wordsOf_ok : ∀ (l : List MV) (ws : List Nat), wordsOf l = some ws → l = ws.map (fun n => .int .u32 (.ofNat n)) := by
  intro l
  induction l with
  | nil => intro ws h; have e : wordsOf [] = some [] := rfl
           rw [e] at h; cases h; rfl
  | cons v l ih =>
    intro ws h
    rw [wordsOf_cons] at h
    split at h
    · split at h
      · rename_i r hr
        cases h
        rw [ih r hr]; rfl
      · cases h
    · cases h
noncomputable def ints (l : List Nat) : List Int := List.rec [] (fun n _ ih => Int.ofNat n :: ih) l
omit O in
theorem ints_eq (l : List Nat) : ints l = l.map Int.ofNat := by
  induction l with
  | nil => rfl
  | cons n l ih => exact congrArg (Int.ofNat n :: ·) ih
end Go.Mini
namespace Go.MiniT
open Go Go.Mini Go.RowKit
noncomputable def eights (S : Tr Int) : List Int := [Mini.look S 1561, Mini.look S 1562, Mini.look S 1563, Mini.look S 1564, Mini.look S 1565, Mini.look S 1566, Mini.look S 1567, Mini.look S 1568]
/-- The words after a block. -/
def AddFact (st bs out : List Nat) : Prop := eights (ssa symT.tab 72 (ins (ints st ++ ints bs) 0 .nil)) = ints out
theorem AddFact.get {st bs out : List Nat} (h : AddFact st bs out) (i : Nat) (hi : i < 8) : (ints out)[i]? = some (addF (ints st) (ints bs) i) := by
  unfold AddFact eights at h
  rw [← h]
  match i, hi with
  | 0, _ => rfl
  | 1, _ => rfl
  | 2, _ => rfl
  | 3, _ => rfl
  | 4, _ => rfl
  | 5, _ => rfl
  | 6, _ => rfl
  | 7, _ => rfl
abbrev AddTab := List (List Nat × List Nat × List Nat)
noncomputable def findAdd (tab : AddTab) (st bs : List Nat) : Option (List Nat) := List.rec none (fun p _ ih => Bool.rec ih (some p.2.2) (and (eqNs p.1 st) (eqNs p.2.1 bs))) tab
theorem findAdd_mem {tab : AddTab} {st bs out : List Nat} (h : findAdd tab st bs = some out) : (st, bs, out) ∈ tab := by
  induction tab with
  | nil => cases h
  | cons p tab ih =>
    have e : findAdd (p :: tab) st bs = Bool.rec (findAdd tab st bs) (some p.2.2) (and (eqNs p.1 st) (eqNs p.2.1 bs)) := rfl
    rw [e] at h
    cases hq : and (eqNs p.1 st) (eqNs p.2.1 bs) with
    | false => rw [hq] at h; exact List.mem_cons_of_mem _ (ih h)
    | true =>
      rw [hq] at h; cases h
      obtain ⟨q1, q2⟩ := and2 hq
      rw [← eqNs_eq _ _ q1, ← eqNs_eq _ _ q2]
      exact List.mem_cons_self
def layOk (n so : Nat) : Bool := and (or (Nat.beq n 8) (Nat.beq n 73)) (Nat.beq so 0)
theorem layOk_run {n so : Nat} (h : layOk n so = true) : AddRun n so ∧ so + 8 ≤ n := by
  obtain ⟨h1, h2⟩ := and2 h
  obtain rfl := Nat.eq_of_beq_eq_true h2
  cases h8 : Nat.beq n 8 with
  | true => obtain rfl := Nat.eq_of_beq_eq_true h8; exact ⟨add_run0, by decide⟩
  | false =>
    rw [h8] at h1
    obtain rfl := Nat.eq_of_beq_eq_true (show Nat.beq n 73 = true from h1)
    exact ⟨add_run1, by decide⟩
noncomputable def shaIn (h : MH) : Bool := and (isB shaT.b0 (h.get shaT.s0)) (isB shaT.b1 (h.get shaT.s1))
theorem isB_eq {b : MB} {x : Option MB} (hx : isB b x = true) : x = some b := by
  unfold isB at hx
  split at hx
  · rw [eqB_eq _ _ hx]
  · cases hx
noncomputable def addV8 (tab : AddTab) : Option (List MV) → Option (List MV) → Option (List Nat)
  | some l, some d => match wordsOf l, bytesOf d with
    | some st, some bs => findAdd tab st bs
    | _, _ => none
  | _, _ => none
noncomputable def addR (h : MH) (s so b bo : Nat) (tab : AddTab) : Option (MV × MH) :=
  match h.get s, h.get b with
  | some (.cells cs t es false), some (.cells ds _ _ _) => cond (and (layOk (llen cs 0) so) (shaIn h)) (match addV8 tab (ltake 8 (ldrop so cs)) (ltake 64 (ldrop bo ds)) with
    | some out => cond (Nat.beq (llen out 0) 8) (some (.tup [], h.set s (.cells (lsets so (u32s out) cs) t es false))) none
    | none => none) none
  | _, _ => none
noncomputable def orcAdd (f a ro : Nat) (tab : AddTab) : Orc := fun g args h =>
  cond (Nat.beq g f) (match args with
    | [.ptr s so, .sl b bo len cap] => cond (and (and (Nat.beq len 64) (Nat.beq cap 64)) (and (and (Nat.ble a s) (Nat.ble ro s)) (and (Nat.ble a b) (not (Nat.beq s b))))) (addR h s so b bo tab) none
    | _ => none) none
theorem words_at [Opq] {G : GB} {B : Nat → Prop} {W0 : World} {σ : Sg} {V : Nat → Prop} {h : MH} {w : World} (R : Rel G B W0 σ V h w) {s : Nat} {l : List Nat} {t : TypeId} (hs : s < G.g0) (hg : h.get s = some (.cells (u32s l) t 1 false)) : WordsAt w s l t := by
  obtain ⟨g1, g2, g3⟩ := R.glob s hs
  obtain ⟨c, fz, k1, -, -, k4, -, k6⟩ := R.blk s _ g1 hg
  rw [g2] at k1
  refine ⟨c, fz, k1, fun i n hi => ?_, k6⟩
  have := k4 i (.int .u32 (.ofNat n)) (by rw [u32s_eq, List.getElem?_map, hi]; rfl)
  rw [g3, Nat.zero_add] at this
  exact this
set_option maxHeartbeats 1000000 in
theorem orcAdd_ok [Opq] (hT : TurnC) (hC : ChoiceC) {tab : AddTab} (facts : ∀ p ∈ tab, AddFact p.1 p.2.1 p.2.2) {G : GB} (hGg : G.g0 = 10) {B : Nat → Prop} {W0 : World} (hW : ∀ k, B k → k < W0.heap.size) :
    OrcIs G Go.Proofs.Tryz.prog B W0 (orcAdd 49 10 G.ro tab) := by
  intro g args h v h' ho σ V w R hw
  unfold orcAdd at ho
  cases hg : Nat.beq g 49 with
  | false => rw [hg] at ho; cases ho
  | true =>
    rw [hg] at ho
    obtain rfl := Nat.eq_of_beq_eq_true hg
    simp only [cond_true] at ho
    split at ho
    · rename_i s so b bo len cap
      cases hq : and (and (Nat.beq len 64) (Nat.beq cap 64)) (and (and (Nat.ble 10 s) (Nat.ble G.ro s)) (and (Nat.ble 10 b) (not (Nat.beq s b)))) with
      | false => rw [hq] at ho; cases ho
      | true =>
        rw [hq] at ho
        simp only [cond_true] at ho
        obtain ⟨q1, q2⟩ := and2 hq
        obtain ⟨q11, q12⟩ := and2 q1
        obtain ⟨q2, q3⟩ := and2 q2
        obtain ⟨q21, q22⟩ := and2 q2
        obtain ⟨q31, q32⟩ := and2 q3
        obtain rfl := Nat.eq_of_beq_eq_true q11
        obtain rfl := Nat.eq_of_beq_eq_true q12
        have q21 := Nat.le_of_ble_eq_true q21
        have q22 := Nat.le_of_ble_eq_true q22
        have q31 := Nat.le_of_ble_eq_true q31
        have hsb : s ≠ b := fun e => by subst e; rw [Nat.beq_refl] at q32; cases q32
        simp only [wfs, wf] at hw
        obtain ⟨hvs, ⟨hvb, -⟩, -⟩ := hw
        unfold addR at ho
        split at ho
        · rename_i cs t es ds u es2 o2 hgs hgb
          cases hl : and (layOk (llen cs 0) so) (shaIn h) with
          | false => rw [hl] at ho; cases ho
          | true =>
            rw [hl] at ho
            simp only [cond_true] at ho
            obtain ⟨l1, l2⟩ := and2 hl
            rw [llen_eq, Nat.add_zero] at l1
            obtain ⟨l3, l4⟩ := and2 l2
            have l3 := isB_eq l3
            have l4 := isB_eq l4
            obtain ⟨hrun, hfit⟩ := layOk_run l1
            split at ho
            · rename_i out hout
              cases h8 : Nat.beq (llen out 0) 8 with
              | false => rw [h8] at ho; cases ho
              | true =>
                rw [h8] at ho
                cases ho
                have h8 := Nat.eq_of_beq_eq_true h8
                rw [llen_eq, Nat.add_zero] at h8
                unfold addV8 at hout
                split at hout
                · rename_i l d hl hd
                  split at hout
                  · rename_i st bs hst hbs
                    have hfact := facts _ (findAdd_mem hout)
                    have e1 := wordsOf_ok _ _ hst
                    obtain ⟨b1, b2⟩ := bytesOf_ok _ _ hbs
                    obtain ⟨t1, t2⟩ := ltake_some hl
                    obtain ⟨t3, t4⟩ := ltake_some hd
                    rw [ldrop_eq] at t1 t2 t3 t4
                    have hl8 : l.length = 8 := by rw [t2, List.length_take]; omega
                    have hd64 : d.length = 64 := by rw [t4, List.length_take]; omega
                    have hst8 : st.length = 8 := by rw [← hl8, e1]; simp
                    have hbs64 : bs.length = 64 := by rw [← hd64, b2]; simp
                    have lget : ∀ i, i < 8 → cs[so + i]? = l[i]? := fun i hi => by
                      rw [t2, List.getElem?_take, if_pos hi, List.getElem?_drop]
                    have dget : ∀ i, i < 64 → ds[bo + i]? = d[i]? := fun i hi => by
                      rw [t4, List.getElem?_take, if_pos hi, List.getElem?_drop]
                    obtain ⟨c, fz, k1, k2, k3, k4, -, k6⟩ := R.blk s _ hvs hgs
                    obtain ⟨c', fz', j1, j2, j3, j4, -, j6⟩ := R.blk b _ hvb hgb
                    have hone : ∀ v ∈ embs σ cs, v.cells = #[v] ∧ v.oneCell' = true := fun v hv => by
                      rw [embs_map] at hv
                      obtain ⟨x, hx, rfl⟩ := List.mem_map.1 hv
                      exact one_cellsV (one_emb σ ((ones_iff _).1 k3 x hx))
                    have g0 := R.glob shaT.s0 (by rw [hGg]; decide)
                    have g1 := R.glob shaT.s1 (by rw [hGg]; decide)
                    have far : ∀ k x, k < 10 → V k → h.get k = some x → live x = true → (σ k).blk = k → ∀ j y, 10 ≤ j → V j → h.get j = some y → live y = true → (σ j).blk ≠ k := fun k x hk hvk hgk hlk ek j y hj hvj hgj hlj e => by
                      have := R.inj j k y x hvj hvk hgj hgk hlj hlk (by rw [e, ek])
                      omega
                    have hat : AddAt (ints st) (ints bs) (embs σ cs) cs.length so (σ s).blk (σ s).off (σ b).blk ((σ b).off + bo) t u w := by
                      refine ⟨by rw [ints_eq]; simpa using hst8, by rw [ints_eq]; simpa using hbs64, by rw [embs_map]; simp, hfit, hone, fun i hi => ?_, ⟨c, fz, k1, fun i v hv => ?_, k6⟩, ⟨c', fz', j1, fun i hi => ?_, j6⟩, ?_, ⟨⟨?_, ?_⟩, ?_, ?_⟩, ?_, ?_⟩
                      · rw [embs_map, List.getElem?_map, lget i hi, e1, List.getElem?_map, ints_eq, List.getElem?_map, List.getElem?_eq_getElem (show i < st.length by omega)]
                        rfl
                      · rw [embs_map, List.getElem?_map] at hv
                        cases hx : cs[i]? with
                        | none => rw [hx] at hv; cases hv
                        | some x => rw [hx] at hv; cases hv; exact k4 i x hx
                      · have hx : ds[bo + i]? = some (.int .u8 (.ofNat (bs[i]'(by omega)))) := by
                          rw [dget i hi, b2, List.getElem?_map, List.getElem?_eq_getElem (show i < bs.length by omega)]; rfl
                        have := j4 (bo + i) _ hx
                        rw [← Nat.add_assoc] at this
                        rw [this, ints_eq, List.getElem?_map, List.getElem?_eq_getElem (show i < bs.length by omega)]
                        rfl
                      · exact fun e => hsb (R.inj s b _ _ hvs hvb hgs hgb rfl rfl e.symm)
                      · exact far _ _ (by decide) g0.1 l3 rfl g0.2.1 s _ q21 hvs hgs rfl
                      · exact far _ _ (by decide) g1.1 l4 rfl g1.2.1 s _ q21 hvs hgs rfl
                      · exact far _ _ (by decide) g0.1 l3 rfl g0.2.1 b _ q31 hvb hgb rfl
                      · exact far _ _ (by decide) g1.1 l4 rfl g1.2.1 b _ q31 hvb hgb rfl
                      · exact words_at R (by rw [hGg]; decide) l3
                      · exact words_at R (by rw [hGg]; decide) l4
                    have hc := add_c hT hC hrun hat
                    have ea : (⟨embs σ [.ptr s so, .sl b bo 64 64]⟩ : Array Value) = #[.pointer (some ⟨(σ s).blk, (σ s).off + so, none⟩), .slice (some ⟨(σ b).blk, (σ b).off + bo, none⟩) 64 64] := by
                      simp only [embs, emb]
                    rw [ea]
                    refine hc.mono ?_
                    rintro e w' ⟨rfl, hkept, c2, fz2, m1, m2, m3, m4⟩
                    have hu8 : (u32s out).length = 8 := by rw [u32s_eq]; simpa using h8
                    obtain ⟨n1, n2⟩ := lsets_get so (u32s out) cs (by rw [hu8]; exact hfit)
                    have hm : ∀ v ∈ u32s out, ∃ n : Nat, v = .int .u32 (.ofNat n) := fun v hv => by rw [u32s_eq] at hv; obtain ⟨n, -, rfl⟩ := List.mem_map.1 hv; exact ⟨n, rfl⟩
                    obtain ⟨w1, w2, -⟩ := lsets_wf (off := so) (by rw [hu8]; exact hfit) ((wfs_iff _).2 fun v hv => by obtain ⟨n, rfl⟩ := hm v hv; simp only [wf]) ((ones_iff _).2 fun v hv => by obtain ⟨n, rfl⟩ := hm v hv; rfl) k2 k3
                    have hblk : Blk σ V s w' (.cells (lsets so (u32s out) cs) t es false) := by
                      refine ⟨c2, fz2, m1, w1, w2, fun i v hv => ?_, fun hf => (by cases hf), m4⟩
                      rw [n2, hu8] at hv
                      split at hv
                      · rename_i hi
                        have hj := hfact.get (i - so) (by omega)
                        rw [ints_eq, List.getElem?_map] at hj
                        rw [u32s_eq, List.getElem?_map] at hv
                        cases hx : out[i - so]? with
                        | none => rw [hx] at hv; cases hv
                        | some n =>
                          rw [hx] at hv hj
                          cases hv
                          have hm2 := m2 (i - so) (by omega)
                          rw [show so + (i - so) = i by omega] at hm2
                          rw [hm2]
                          simp only [Option.map_some, Option.some.injEq] at hj
                          rw [← hj]
                          simp only [emb]
                      · rename_i hi
                        exact m3 i (emb σ v) (by omega) (by rw [embs_map, List.getElem?_map, hv]; rfl)
                    exact ⟨σ, V, Agr.refl _ _, fun _ hx => hx, fun _ hx => .inl hx, Nat.le_refl _, R.redo hvs hgs rfl q22 hW hkept hblk, by simp only [wf, wfs], rfl⟩
                  · cases hout
                · cases hout
            · cases ho
        · cases ho
    · cases ho
end Go.MiniT
