/- A straight list of operations on words: its values, and that each value is what its operation gives. -/
import Derived.Test.YthbialpbkpiekaaGreatDoorEG
namespace Go.Mini
open Go.RowKit
inductive SO where
  | q (n : Nat)
  | u (n : Nat)
inductive SI where
  | bin (op : Nat) (a b : SO)
  | cv (a : Nat)
  | turn (ps : List Nat) (a : Nat)
  | ch (a b c : Nat)
def binI (op : Nat) (a b : Int) : Int :=
  match op with
  | 0 => IntKind.u32.wrap (a + b)
  | 1 => bits .and .u32 a b
  | 2 => bits .or .u32 a b
  | 3 => bits .xor .u32 a b
  | 4 => IntKind.u32.wrap (a * 2 ^ (min b.toNat 32))
  | _ => a.fdiv (2 ^ (min b.toNat 32))
def chI (x y z : Int) : Int := bits .xor .u32 (bits .and .u32 x y) (bits .and .u32 (bits .xor .u32 IntKind.u32.max x) z)
def SO.val (S : Nat → Int) : SO → Int
  | .q n => S n
  | .u n => n
noncomputable def evalI (I : SI) (S : Nat → Int) : Int :=
  match I with
  | .bin op a b => binI op (a.val S) (b.val S)
  | .cv a => IntKind.u32.wrap (S a)
  | .turn ps a => turnI (S a) ps 0
  | .ch a b c => chI (S a) (S b) (S c)
def SO.lt (n : Nat) : SO → Bool
  | .q k => Nat.blt k n
  | .u _ => true
def SI.lt (n : Nat) : SI → Bool
  | .bin _ a b => and (a.lt n) (b.lt n)
  | .cv a => Nat.blt a n
  | .turn _ a => Nat.blt a n
  | .ch a b c => and (Nat.blt a n) (and (Nat.blt b n) (Nat.blt c n))
theorem SO.congr {n : Nat} {a : SO} {S S' : Nat → Int} (h : ∀ k, k < n → S k = S' k) (ha : a.lt n = true) : a.val S = a.val S' := by
  cases a with
  | q k => exact h k (blt_lt ha)
  | u k => rfl
theorem evalI_congr {n : Nat} {I : SI} {S S' : Nat → Int} (h : ∀ k, k < n → S k = S' k) (hI : I.lt n = true) : evalI I S = evalI I S' := by
  cases I with
  | bin op a b =>
    obtain ⟨h1, h2⟩ := and2 hI
    simp only [evalI, SO.congr h h1, SO.congr h h2]
  | cv a => simp only [evalI, h a (blt_lt hI)]
  | turn ps a => simp only [evalI, h a (blt_lt hI)]
  | ch a b c =>
    obtain ⟨h1, h2⟩ := and2 hI
    obtain ⟨h2, h3⟩ := and2 h2
    simp only [evalI, h a (blt_lt h1), h b (blt_lt h2), h c (blt_lt h3)]
def odi (o : Option Int) : Int := match o with | some n => n | none => 0
noncomputable def look (S : Tr Int) (k : Nat) : Int := odi (S.get k)
noncomputable def ssa (tab : List SI) : Nat → Tr Int → Tr Int :=
  List.rec (fun _ S => S) (fun I _ ih n S => ih (Nat.succ n) (S.put n (evalI I (look S)))) tab
noncomputable def ltAll (tab : List SI) : Nat → Bool := List.rec (fun _ => true) (fun I _ ih n => and (I.lt n) (ih (Nat.succ n))) tab
theorem ssa_cons (I : SI) (tab : List SI) (n : Nat) (S : Tr Int) : ssa (I :: tab) n S = ssa tab (n + 1) (S.put n (evalI I (look S))) := rfl
theorem ssa_old : ∀ (tab : List SI) (n : Nat) (S : Tr Int) (k : Nat), k < n → look (ssa tab n S) k = look S k := by
  intro tab
  induction tab with
  | nil => intro n S k _; rfl
  | cons I tab ih =>
    intro n S k hk
    rw [ssa_cons, ih (n + 1) _ k (by omega)]
    unfold look
    rw [Tr.get_put, if_neg (by omega)]
/-- Each value is what its operation gives. -/
theorem ssa_at : ∀ (tab : List SI) (n : Nat) (S : Tr Int), ltAll tab n = true → ∀ i I, tab[i]? = some I → look (ssa tab n S) (n + i) = evalI I (look (ssa tab n S)) := by
  intro tab
  induction tab with
  | nil => intro n S _ i I h; cases h
  | cons J tab ih =>
    intro n S hlt i I hi
    have e : ltAll (J :: tab) n = and (J.lt n) (ltAll tab (Nat.succ n)) := rfl
    rw [e] at hlt
    obtain ⟨h1, h2⟩ := and2 hlt
    rw [ssa_cons]
    cases i with
    | zero =>
      simp only [List.getElem?_cons_zero, Option.some.injEq] at hi
      subst hi
      show look (ssa tab (n + 1) (S.put n (evalI J (look S)))) n = _
      rw [ssa_old tab (n + 1) _ n (by omega)]
      have hn : look (S.put n (evalI J (look S))) n = evalI J (look S) := by unfold look; rw [Tr.get_put, if_pos rfl]; rfl
      rw [hn]
      refine evalI_congr (n := n) (fun k hk => ?_) h1
      rw [ssa_old tab (n + 1) _ k (by omega)]
      unfold look
      rw [Tr.get_put, if_neg (by omega)]
    | succ i =>
      have := ih (n + 1) (S.put n (evalI J (look S))) h2 i I (by simpa using hi)
      rw [show n + (i + 1) = n + 1 + i by omega]
      exact this
end Go.Mini
/- Operations on opaque words, looked up in a table. -/
namespace Go.Mini
open Go.RowKit
/-- The table: the operations by their numbers, and the numbers by a key. -/
structure SymT where
  tab : List SI
  ix : Tr SI
  no : Tr (List Nat)
  ixok : ∀ k I, ix.get k = some I → ∃ i, k = 72 + i ∧ tab[i]? = some I
  lts : ltAll tab 72 = true
  lens : Nat.ble (llen tab 0) 90000 = true
theorem SymT.lt (T : SymT) {i : Nat} {I : SI} (h : T.tab[i]? = some I) : 72 + i < 100000 := by
  have h1 := Nat.le_of_ble_eq_true T.lens
  rw [llen_eq] at h1
  have := (List.getElem?_eq_some_iff.1 h).1
  omega
def opc : BinOp → Option Nat
  | .add => some 0
  | .and => some 1
  | .or => some 2
  | .xor => some 3
  | _ => none
def opsh : BinOp → Option Nat
  | .shl => some 4
  | .shr => some 5
  | _ => none
/-- a word: an opaque one, but no byte, and none of the further ones (100000 and on); or a number -/
def wordN (n : Nat) : Bool := or (Nat.blt n 8) (and (Nat.ble 72 n) (Nat.blt n 100000))
def soOf : MV → Option SO
  | .opq n => cond (wordN n) (some (.q n)) none
  | .int .u32 (.ofNat n) => some (.u n)
  | _ => none
/-- where an operation is looked for: by its first word -/
def encO : SO → Nat
  | .q n => n
  | .u n => n
def eqO : SO → SO → Bool
  | .q a, .q b => Nat.beq a b
  | .u a, .u b => Nat.beq a b
  | _, _ => false
def eqI : SI → SI → Bool
  | .bin c a b, .bin d x y => and (Nat.beq c d) (and (eqO a x) (eqO b y))
  | .cv a, .cv b => Nat.beq a b
  | .turn p a, .turn q b => and (eqNs p q) (Nat.beq a b)
  | .ch a b c, .ch x y z => and (Nat.beq a x) (and (Nat.beq b y) (Nat.beq c z))
  | _, _ => false
theorem eqO_eq : ∀ a b, eqO a b = true → a = b
  | .q a, .q b, h => by rw [Nat.eq_of_beq_eq_true h]
  | .u a, .u b, h => by rw [Nat.eq_of_beq_eq_true h]
  | .q _, .u _, h | .u _, .q _, h => by cases h
theorem eqI_eq : ∀ a b, eqI a b = true → a = b
  | .bin c a b, .bin d x y, h => by
    obtain ⟨h1, h2⟩ := and2 h
    obtain ⟨h2, h3⟩ := and2 h2
    rw [Nat.eq_of_beq_eq_true h1, eqO_eq _ _ h2, eqO_eq _ _ h3]
  | .cv a, .cv b, h => by rw [Nat.eq_of_beq_eq_true h]
  | .turn p a, .turn q b, h => by
    obtain ⟨h1, h2⟩ := and2 h
    rw [eqNs_eq _ _ h1, Nat.eq_of_beq_eq_true h2]
  | .ch a b c, .ch x y z, h => by
    obtain ⟨h1, h2⟩ := and2 h
    obtain ⟨h2, h3⟩ := and2 h2
    rw [Nat.eq_of_beq_eq_true h1, Nat.eq_of_beq_eq_true h2, Nat.eq_of_beq_eq_true h3]
  | .bin .., .cv _, h | .bin .., .turn .., h | .bin .., .ch .., h => by cases h
  | .cv _, .bin .., h | .cv _, .turn .., h | .cv _, .ch .., h => by cases h
  | .turn .., .bin .., h | .turn .., .cv _, h | .turn .., .ch .., h => by cases h
  | .ch .., .bin .., h | .ch .., .cv _, h | .ch .., .turn .., h => by cases h
/-- The number of an operation. -/
noncomputable def findL (T : SymT) (I : SI) (l : List Nat) : Option Nat :=
  List.rec none (fun k _ ih => match T.ix.get k with
    | some J => cond (eqI J I) (some k) ih
    | none => ih) l
theorem findL_cons (T : SymT) (I : SI) (k : Nat) (l : List Nat) : findL T I (k :: l) = (match T.ix.get k with
    | some J => cond (eqI J I) (some k) (findL T I l)
    | none => findL T I l) := rfl
theorem findL_ok {T : SymT} {I : SI} {k : Nat} : ∀ l : List Nat, findL T I l = some k → ∃ i, k = 72 + i ∧ T.tab[i]? = some I := by
  intro l
  induction l with
  | nil => intro h; cases h
  | cons j l ih =>
    intro h
    rw [findL_cons] at h
    split at h
    · rename_i J hJ
      cases hq : eqI J I with
      | false => rw [hq] at h; exact ih h
      | true =>
        rw [hq] at h
        cases h
        obtain rfl := eqI_eq _ _ hq
        exact T.ixok _ _ hJ
    · exact ih h
noncomputable def findI (T : SymT) (a : Nat) (I : SI) : Option Nat :=
  match T.no.get a with
  | some l => findL T I l
  | none => none
theorem findI_ok {T : SymT} {a k : Nat} {I : SI} (h : findI T a I = some k) : ∃ i, k = 72 + i ∧ T.tab[i]? = some I := by
  unfold findI at h
  split at h
  · exact findL_ok _ h
  · cases h
def symR : Option Nat → Option MV
  | some k => some (.opq k)
  | none => none
noncomputable def boS (T : SymT) (op : BinOp) (_t : TypeId) (x y : MV) : Option MV :=
  match opc op with
  | some c => match soOf x, soOf y with
    | some a, some b => symR (findI T (encO a) (.bin c a b))
    | _, _ => none
  | none => match opsh op, soOf x, y with
    | some c, some a, .int .u64 (.ofNat n) => symR (findI T (encO a) (.bin c a (.u n)))
    | _, _, _ => none
noncomputable def coS (T : SymT) (s d u8 u32 : TypeId) (x : MV) : Option MV :=
  match x with
  | .opq n => cond (and (and (Nat.ble 8 n) (Nat.blt n 72)) (and (Nat.beq s u8) (Nat.beq d u32))) (symR (findI T n (.cv n))) none
  | _ => none

/-- The values of a table at given words and bytes. -/
noncomputable def ins (l : List Int) : Nat → Tr Int → Tr Int := List.rec (fun _ S => S) (fun a _ ih n S => ih (Nat.succ n) (S.put n a)) l
noncomputable def symF (T : SymT) (l : List Int) : Nat → Int := look (ssa T.tab 72 (ins l 0 .nil))
theorem symF_at (T : SymT) (l : List Int) {i : Nat} {I : SI} (h : T.tab[i]? = some I) : symF T l (72 + i) = evalI I (symF T l) := ssa_at T.tab 72 _ T.lts i I h
noncomputable def symV (T : SymT) (l : List Int) (n : Nat) : Value := .int (cond (wordN n) .u32 .u8) (symF T l n)
/-- Further values: of one cell each. -/
structure Ext where
  val : Nat → Value
  single : ∀ i, (val i).cells = #[val i]
  one : ∀ i, (val i).oneCell' = true
noncomputable def extV (T : SymT) (l : List Int) (X : Ext) (n : Nat) : Value := cond (Nat.blt n 100000) (symV T l n) (X.val (n - 100000))
noncomputable abbrev symO (T : SymT) (l : List Int) (X : Ext) : Opq where
  val := extV T l X
  single n := by unfold extV; cases Nat.blt n 100000 <;> first | rfl | exact X.single _
  one n := by unfold extV; cases Nat.blt n 100000 <;> first | rfl | exact X.one _
theorem extV_lt {T : SymT} {l : List Int} {X : Ext} {n : Nat} (h : n < 100000) : extV T l X n = symV T l n := by
  unfold extV
  rw [show Nat.blt n 100000 = true from Nat.ble_eq_true_of_le h]; rfl
theorem extV_ge {T : SymT} {l : List Int} {X : Ext} (i : Nat) : extV T l X (100000 + i) = X.val i := by
  unfold extV
  have e : Nat.blt (100000 + i) 100000 = false := by
    cases h : Nat.blt (100000 + i) 100000 with
    | false => rfl
    | true => have := blt_lt h; omega
  rw [e, Nat.add_sub_cancel_left]; rfl
theorem bin_plain (c : Nat) (op : BinOp) (h : opc op = some c) (t : TypeId) (a b : Int) : binOp op t (.int .u32 a) (.int .u32 b) = pure (.int .u32 (binI c a b)) := by
  cases op <;> cases h <;> rfl
theorem bin_shift (c : Nat) (op : BinOp) (h : opsh op = some c) (t : TypeId) (a : Int) (n : Nat) : binOp op t (.int .u32 a) (.int .u64 (n : Int)) = pure (.int .u32 (binI c a n)) := by
  have hn : ¬ ((n : Int) < 0) := by omega
  cases op <;> cases h
  · show Op.shift .shl .u32 a .u64 (n : Int) = _
    unfold Op.shift
    rw [if_neg hn]
    rfl
  · show Op.shift .shr .u32 a .u64 (n : Int) = _
    unfold Op.shift
    rw [if_neg hn]
    rfl
end Go.Mini
/- The table's operations are the model's. -/
namespace Go.Mini
open Go.RowKit
section
variable {T : SymT} {l : List Int} {X : Ext}
theorem wordN_lt {n : Nat} (h : wordN n = true) : n < 100000 := by
  unfold wordN at h
  cases h1 : Nat.blt n 8 with
  | true => have := blt_lt h1; omega
  | false => rw [h1] at h; exact blt_lt (and2 h).2
theorem wordN_new {i : Nat} (h : 72 + i < 100000) : wordN (72 + i) = true := by
  unfold wordN
  rw [Nat.ble_eq_true_of_le (Nat.le_add_right 72 i), show Nat.blt (72 + i) 100000 = true from Nat.ble_eq_true_of_le h]
  cases Nat.blt (72 + i) 8 <;> rfl
theorem symV_word {n : Nat} (h : wordN n = true) : extV T l X n = .int .u32 (symF T l n) := by
  rw [extV_lt (wordN_lt h)]; unfold symV; rw [h]; rfl
theorem symV_new {i : Nat} {I : SI} (h : T.tab[i]? = some I) : extV T l X (72 + i) = .int .u32 (symF T l (72 + i)) := symV_word (wordN_new (T.lt h))
theorem so_val {x : MV} {a : SO} (h : soOf x = some a) (σ : Sg) : @emb (symO T l X) σ x = .int .u32 (a.val (symF T l)) := by
  unfold soOf at h
  split at h
  · rename_i n
    cases hq : wordN n with
    | false => rw [hq] at h; cases h
    | true =>
      rw [hq] at h
      cases h
      exact symV_word hq
  · cases h; rfl
  · cases h
theorem symR_some {o : Option Nat} {v : MV} (h : symR o = some v) : ∃ k, o = some k ∧ v = .opq k := by
  cases o with
  | none => cases h
  | some k => cases h; exact ⟨k, rfl, rfl⟩
theorem boS_ok {P : Program} (op : BinOp) (t : TypeId) (x y v : MV) (h : boS T op t x y = some v) (σ : Sg) (V : Nat → Prop) :
    @wf σ V v ∧ (@emb (symO T l X) σ x ≠ .nilIface ∧ ∀ c, @emb (symO T l X) σ x ≠ .agg c) ∧ ∀ w, (binOp op t (@emb (symO T l X) σ x) (@emb (symO T l X) σ y)).run P w = .ok (@emb (symO T l X) σ v) w := by
  unfold boS at h
  split at h
  · rename_i c hc
    split at h
    · rename_i a b ha hb
      obtain ⟨k, hk, rfl⟩ := symR_some h
      obtain ⟨i, rfl, hi⟩ := findI_ok hk
      rw [so_val ha, so_val hb]
      refine ⟨by simp only [wf], ⟨by simp, fun _ => by simp⟩, fun w => ?_⟩
      rw [bin_plain c op hc]
      show Result.ok _ w = Result.ok (extV T l X (72 + i)) w
      rw [symV_new hi, symF_at T l hi]
      rfl
    · cases h
  · split at h
    · rename_i c a n hc ha
      obtain ⟨k, hk, rfl⟩ := symR_some h
      obtain ⟨i, rfl, hi⟩ := findI_ok hk
      rw [so_val ha]
      refine ⟨by simp only [wf], ⟨by simp, fun _ => by simp⟩, fun w => ?_⟩
      show (binOp op t (.int .u32 (a.val (symF T l))) (.int .u64 (n : Int))).run P w = _
      rw [bin_shift c op hc]
      show Result.ok _ w = Result.ok (extV T l X (72 + i)) w
      rw [symV_new hi, symF_at T l hi]
      rfl
    · cases h
theorem coS_ok {P : Program} {u8 u32 : TypeId} (h8 : P.underlying u8 = some (.int .u8)) (h32 : P.underlying u32 = some (.int .u32)) (s d : TypeId) (x v : MV) (h : coS T s d u8 u32 x = some v) (σ : Sg) (V : Nat → Prop) :
    @wf σ V v ∧ ∀ w, (convert s d (@emb (symO T l X) σ x)).run P w = .ok (@emb (symO T l X) σ v) w := by
  unfold coS at h
  split at h
  · rename_i n
    cases hq : and (and (Nat.ble 8 n) (Nat.blt n 72)) (and (Nat.beq s u8) (Nat.beq d u32)) with
    | false => rw [hq] at h; cases h
    | true =>
      rw [hq] at h
      obtain ⟨q1, q2⟩ := and2 hq
      obtain ⟨q1, q3⟩ := and2 q1
      obtain ⟨q4, q5⟩ := and2 q2
      obtain rfl := Nat.eq_of_beq_eq_true q4
      obtain rfl := Nat.eq_of_beq_eq_true q5
      obtain ⟨k, hk, rfl⟩ := symR_some h
      obtain ⟨i, rfl, hi⟩ := findI_ok hk
      refine ⟨by simp only [wf], fun w => ?_⟩
      have q1 := Nat.le_of_ble_eq_true q1
      have q3 := blt_lt q3
      have hb : extV T l X n = .int .u8 (symF T l n) := by
        rw [extV_lt (by omega)]
        unfold symV wordN
        have e1 : Nat.blt n 8 = false := by
          cases hh : Nat.blt n 8 with
          | false => rfl
          | true => have := blt_lt hh; omega
        have e2 : Nat.ble 72 n = false := by
          cases hh : Nat.ble 72 n with
          | false => rfl
          | true => have := Nat.le_of_ble_eq_true hh; omega
        rw [e1, e2]; rfl
      show (convert s d (extV T l X n)).run P w = Result.ok (extV T l X (72 + i)) w
      rw [hb, symV_new hi, symF_at T l hi]
      unfold convert
      rw [Sem.bind_ok (r_und h8 w), Sem.bind_ok (r_und h32 w)]
      rfl
  · cases h
end
end Go.Mini
/- Functions on opaque words, looked up in a table. -/
namespace Go.Mini
open Go.RowKit
noncomputable def orcTurnS (T : SymT) (f : Nat) : Orc := fun g args h =>
  cond (Nat.beq g f) (match args with
    | [.opq a, .sl id off len _] => cond (and (Nat.ble len 64) (wordN a)) (match readCells h id off len with
      | some l => match placesOf l with
        | some ps => match findI T a (.turn ps a) with
          | some k => some (.opq k, h)
          | none => none
        | none => none
      | none => none) none
    | _ => none) none
noncomputable def orcChS (T : SymT) (f : Nat) : Orc := fun g args h =>
  cond (Nat.beq g f) (match args with
    | [.opq a, .opq b, .opq c] => cond (and (wordN a) (and (wordN b) (wordN c))) (match findI T a (.ch a b c) with
      | some k => some (.opq k, h)
      | none => none) none
    | _ => none) none
section
variable {T : SymT} {l : List Int} {X : Ext} {G : GB} {P : Program} {B : Nat → Prop} {W0 : World}
theorem orcTurnS_ok (hW : ∀ k, B k → k < W0.heap.size) {f : Nat} (hc : ∀ (x : Int) (b o cap : Nat) (ps : List Nat), (∀ p ∈ ps, 1 ≤ p ∧ p ≤ 31) → ps.length ≤ 64 → ∀ w : World, (∀ i (h : i < ps.length), w.cell? ⟨b, o + i, none⟩ = some (.int .i64 (ps[i] : Nat))) →
      Calls P f #[.int .u32 x, .slice (some ⟨b, o, none⟩) ps.length cap] w (fun e w' => e = .returned (.int .u32 (ps.foldl (fun y p => bits .xor .u32 y (rotI x (32 - p))) 0)) ∧ w = w')) : @OrcIs (symO T l X) G P B W0 (orcTurnS T f) := by
  letI O := symO T l X
  intro g args h v h' ho σ V w R hw
  unfold orcTurnS at ho
  cases hg : Nat.beq g f with
  | false => rw [hg] at ho; cases ho
  | true =>
    rw [hg] at ho
    obtain rfl := Nat.eq_of_beq_eq_true hg
    simp only [cond_true] at ho
    split at ho
    · rename_i a id off len cap
      cases hl : (and (Nat.ble len 64) (wordN a)) with
      | false => rw [hl] at ho; cases ho
      | true =>
        rw [hl] at ho
        simp only [cond_true] at ho
        obtain ⟨l1, l2⟩ := and2 hl
        split at ho
        · rename_i cs hr
          split at ho
          · rename_i ps hps
            split at ho
            · rename_i k hk
              cases ho
              obtain ⟨i, rfl, hi⟩ := findI_ok hk
              obtain ⟨p1, p2⟩ := placesOf_ok cs ps hps
              simp only [wfs, wf] at hw
              obtain ⟨r1, -, r3⟩ := rel_cells R hw.2.1.1 hr
              have hlen : len = ps.length := by rw [← r1, p2]; simp
              subst hlen
              have := hc (symF T l a) (σ id).blk ((σ id).off + off) cap ps p1 (Nat.le_of_ble_eq_true l1) w (fun i hi => r3 i (.int .i64 (.ofNat ps[i])) (by rw [p2]; simp [hi]))
              have e : (⟨embs σ [.opq a, .sl id off ps.length cap]⟩ : Array Value) = #[.int .u32 (symF T l a), .slice (some ⟨(σ id).blk, (σ id).off + off, none⟩) ps.length cap] := by
                simp only [embs, emb]
                rw [show O.val a = .int .u32 (symF T l a) from symV_word l2]
              rw [e]
              refine this.mono ?_
              rintro e w' ⟨rfl, rfl⟩
              rw [← turnI_eq]
              have ev : (Value.int .u32 (turnI (symF T l a) ps 0)) = emb σ (.opq (72 + i)) := by
                show _ = extV T l X (72 + i)
                rw [symV_new hi, symF_at T l hi]; rfl
              rw [ev]
              exact endK_same (v := .opq (72 + i)) R hW (Below.refl _ _) (by simp only [wf])
            · cases ho
          · cases ho
        · cases ho
    · cases ho
theorem orcChS_ok (hW : ∀ k, B k → k < W0.heap.size) {f : Nat} (hc : ∀ (x y z : Int) (w : World), Calls P f #[.int .u32 x, .int .u32 y, .int .u32 z] w (fun e w' => e = .returned (.int .u32 (chI x y z)) ∧ w = w')) : @OrcIs (symO T l X) G P B W0 (orcChS T f) := by
  letI O := symO T l X
  intro g args h v h' ho σ V w R hw
  unfold orcChS at ho
  cases hg : Nat.beq g f with
  | false => rw [hg] at ho; cases ho
  | true =>
    rw [hg] at ho
    obtain rfl := Nat.eq_of_beq_eq_true hg
    simp only [cond_true] at ho
    split at ho
    · rename_i a b c
      cases hl : (and (wordN a) (and (wordN b) (wordN c))) with
      | false => rw [hl] at ho; cases ho
      | true =>
        rw [hl] at ho
        simp only [cond_true] at ho
        obtain ⟨l1, l2⟩ := and2 hl
        obtain ⟨l2, l3⟩ := and2 l2
        split at ho
        · rename_i k hk
          cases ho
          obtain ⟨i, rfl, hi⟩ := findI_ok hk
          have e : (⟨embs σ [.opq a, .opq b, .opq c]⟩ : Array Value) = #[.int .u32 (symF T l a), .int .u32 (symF T l b), .int .u32 (symF T l c)] := by
            simp only [embs, emb]
            rw [show O.val a = .int .u32 (symF T l a) from symV_word l1, show O.val b = .int .u32 (symF T l b) from symV_word l2, show O.val c = .int .u32 (symF T l c) from symV_word l3]
          rw [e]
          refine (hc _ _ _ w).mono ?_
          rintro e w' ⟨rfl, rfl⟩
          have ev : (Value.int .u32 (chI (symF T l a) (symF T l b) (symF T l c))) = emb σ (.opq (72 + i)) := by
            show _ = extV T l X (72 + i)
            rw [symV_new hi, symF_at T l hi]; rfl
          rw [ev]
          exact endK_same (v := .opq (72 + i)) R hW (Below.refl _ _) (by simp only [wf])
        · cases ho
    · cases ho
end
end Go.Mini
namespace Go.Mini
noncomputable def mkIx (tab : List SI) : Nat → Tr SI → Tr SI := List.rec (fun _ S => S) (fun I _ ih n S => ih (Nat.succ n) (S.put n I)) tab
theorem mkIx_get : ∀ (tab : List SI) (n : Nat) (S : Tr SI) (k : Nat) (I : SI), (mkIx tab n S).get k = some I → (∃ i, k = n + i ∧ tab[i]? = some I) ∨ S.get k = some I := by
  intro tab
  induction tab with
  | nil => intro n S k I h; exact .inr h
  | cons J tab ih =>
    intro n S k I h
    have e : mkIx (J :: tab) n S = mkIx tab (n + 1) (S.put n J) := rfl
    rw [e] at h
    rcases ih (n + 1) _ k I h with ⟨i, rfl, hi⟩ | h
    · exact .inl ⟨i + 1, by omega, by simpa using hi⟩
    · rw [Tr.get_put] at h
      split at h
      · rename_i e; cases h; exact .inl ⟨0, by omega, rfl⟩
      · exact .inr h
theorem ixok_of {tab : List SI} {ix : Tr SI} (h : ix = mkIx tab 72 .nil) : ∀ k I, ix.get k = some I → ∃ i, k = 72 + i ∧ tab[i]? = some I := by
  intro k I hk
  rw [h] at hk
  rcases mkIx_get tab 72 .nil k I hk with h | h
  · exact h
  · rw [Tr.get_nil] at h; cases h
end Go.Mini
