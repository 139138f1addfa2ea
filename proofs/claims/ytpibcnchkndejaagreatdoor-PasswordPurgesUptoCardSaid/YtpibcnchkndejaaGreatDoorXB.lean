/- Contracts of the library: strings.Index at a substring of one byte (laid off the shelf's templates). -/
import Derived.Test.YtpibcnchkndejaaGreatDoorXA
import Derived.Lib.Strings
import Derived.Lib.Slices
import Derived.Lib.Walk
import Derived.Lib.Bytealg
import Derived.RangeFuncNested
import Derived.RangeFuncBound
import Derived.RangeFuncCalls
import Derived.RangeFuncLeaves
import Derived.Shelf.Abstract
import Derived.Shelf.RegionOpen
import Derived.OwnWalkIn
import Derived.TacticsInMore
import Derived.LoopNIn
import Derived.LoopIn
namespace Go.Proofs

set_option maxHeartbeats 1000000 in
set_option maxRecDepth 100000 in
/-- internal/stringslite.IndexByte (what strings.IndexByte calls): IT RETURNS 'Lib.indexByte s c'; the world is as it was. -/
theorem Tryz.stringslite_IndexByte (s : ByteArray) (c : Int) (w : World) :
    Calls Tryz.prog 233 #[.string s, .int .u8 c] w fun e w' => e = .returned (.int .i64 (Lib.indexByte s.data.toList c.toNat.toUInt8)) ∧ w' = w := by
  go_enter Tryz.func233, Tryz.ntmps233
  go_wp2
  rw [run_callFunc_extern Tryz.func253 (by kernel_rfl) (by kernel_rfl) (by kernel_rfl) (e := Extern.BytealgIndexByte.indexByte) (by kernel_rfl), Lib.run_indexByteString]
  simp only [Result.andThen]
  rw [Oper.upon_value]
  go_wp2
  go_ret
  exact ⟨rfl, rfl⟩

set_option maxHeartbeats 2000000 in
set_option maxRecDepth 100000 in
/-- internal/stringslite.Index (what strings.Index calls) AT A substr OF ONE BYTE c: IT RETURNS 'Lib.indexByte s c'; the world is as it was. -/
theorem Tryz.stringslite_Index_one (s : ByteArray) (c : UInt8) (w : World) :
    Calls Tryz.prog 215 #[.string s, .string ⟨#[c]⟩] w fun e w' => e = .returned (.int .i64 (Lib.indexByte s.data.toList c)) ∧ w' = w := by
  go_enter Tryz.func215, Tryz.ntmps215
  go_wp2_with (go_at_call 233; refine (Tryz.stringslite_IndexByte _ _ _).mono ?_; rintro e w' ⟨rfl, rfl⟩)
  · have h : ([c] == s.toList) = true := by assumption
    go_ret
    refine ⟨?_, rfl⟩
    have e : s.data.toList = [c] := by rw [← Lib.toList_data]; exact (beq_iff_eq.1 h).symm
    rw [e]
    simp [Lib.indexByte]
  · go_ret
    exact ⟨rfl, rfl⟩

set_option maxHeartbeats 1000000 in
/-- strings.Index: "Index returns the index of the first instance of substr in s, or -1 if substr is not present in s.": AT A substr OF ONE BYTE c: IT RETURNS 'Lib.indexByte s c'; the world is as it was. -/
theorem Tryz.strings_Index_one (s : ByteArray) (c : UInt8) (w : World) :
    Calls Tryz.prog 185 #[.string s, .string ⟨#[c]⟩] w fun e w' => e = .returned (.int .i64 (Lib.indexByte s.data.toList c)) ∧ w' = w := by
  go_enter Tryz.func185, Tryz.ntmps185
  go_wp2_with (go_at_call 215; refine (Tryz.stringslite_Index_one _ _ _).mono ?_; rintro e w' ⟨rfl, rfl⟩)
  go_ret
  exact ⟨rfl, rfl⟩

end Go.Proofs
/- A range over a function whose iterator keeps its state in one cell of its own (strings.SplitSeq). -/
namespace Go.WW
open Go.RowKit

/-- The iterator g hands on what S says, or is stopped at what Sp says. Its state is the cell at bs; a round that goes on keeps what lay below B. -/
def SeqCell {α : Type} (F : Fence) (n : Nat) (P : Program) (g : Nat) (lb : Array Value) (encs : α → Array Value) (bs B : Nat) (ok : α → Prop) (S Sp : List α → Prop) (w : World) : Prop :=
  ∀ (l : Nat) (J Jx : List α → World → Prop) (W : World), Below B w W →
    (∀ pre W1 v, J pre W1 → J pre (W1.setCell ⟨bs, 0, none⟩ v)) →
    (∀ pre x W1, ok x → J pre W1 → YieldAt F (n - 1) P l (encs x) W1 fun e W' =>
      (e = .returned (.bool true) ∧ J (pre ++ [x]) W' ∧ Below B W1 W') ∨ (e = .returned (.bool false) ∧ Jx (pre ++ [x]) W')) →
    J [] W →
    CallsIn F n P g (#[.func (.yield l) #[] #[]] ++ lb) W fun e W' => (∃ v, e = .returned v) ∧ ((∃ xs, S xs ∧ J xs W') ∨ (∃ pre, Sp pre ∧ Jx pre W'))

/-- The ways out of a round's body: it goes on, or the function returns. -/
def cellPost {α : Type} (B : Nat) (I Ix : List α → World → Prop) (xs : List α) (W : World) : Exit → Act → World → Prop
  | .normal, _, W' => KeepsOthers W W' ∧ Below B W W' ∧ I xs W'
  | .ret, _, W' => KeepsOthers W W' ∧ Ix xs W'
  | _, _, _ => False

variable {F : Fence} {n : Nat} {P : Program}

theorem wpIn_range_cell {α : Type} {g : Operand} {ps : Array Tmp} {assign body : Code} {Q : Exit → Act → World → Prop} {a : Act} {w : World}
    (hro : F.round = none) (h1 : 1 ≤ n) {gf : Nat} {lb : Array Value} (hg : a.eval g = .func (.func gf) #[] lb) (hFg : F.fn gf) (eg : ∀ args w, (callFunc gf args).run P w = .ok (.enter gf args) w)
    {encs : α → Array Value} {bs : Nat} {ok : α → Prop} {S Sp : List α → Prop} (hseq : SeqCell F (n - 1) P gf lb encs bs w.heap.size ok S Sp w) (hbs : bs < w.heap.size) (hps : ∀ x, (encs x).size = ps.size)
    (I Ix : List α → World → Prop) (hI : OwnFrom w.heap.size I) (hIs : ∀ s W v, I s W → I s (W.setCell ⟨bs, 0, none⟩ v)) (hIx : OwnFrom w.heap.size Ix) (h0 : I [] w) (a₁ : α → Act)
    (hassign : ∀ (l : Nat) (x : α) (W : World) (K : Act → World → Prop), K (a₁ x) W →
      assign.wpIn (F.inRound l) (n - 1 - 1) P (Exit.then K (fun _ _ _ => False)) { tmps := (ps.zip (encs x)).foldl (fun t (p, v) => t.setIfInBounds p v) a.tmps, defers := [] } W)
    (hbody : ∀ (l : Nat) (pre : List α) (x : α) (W : World), ok x → I pre W → body.wpIn (F.inRound l) (n - 1 - 1) P (cellPost w.heap.size I Ix (pre ++ [x]) W) (a₁ x) W)
    (hdone : ∀ (D : Nat) (xs : List α) (W : World), w.heap.size ≤ D → S xs → I xs W → W.heap[D]? = some (.deferred (some [])) → Q .normal { a with defers := { target := .collected D, args := #[] } :: a.defers } W)
    (hstop : ∀ (D : Nat) (pre : List α) (W : World), w.heap.size ≤ D → Sp pre → Ix pre W → W.heap[D]? = some (.deferred (some [])) → Code.ret.wpIn F n P Q { a with defers := { target := .collected D, args := #[] } :: a.defers } W) :
    (Code.rangeFunc g ps assign body).wpIn F n P Q a w := by
  refine wpIn_rangeFunc ?_
  intro fn hfn
  rw [hro]
  obtain ⟨lp, hlp⟩ : ∃ lp : LoopState → Option Code → Loop, lp = fun st pe => { state := st, pending := pe, fn, tmps := a.tmps, params := ps, assign, body, defers := w.heap.size } := ⟨_, rfl⟩
  obtain ⟨V, hV⟩ : ∃ V, (w.alloc (.deferred (some []))).alloc (.loop (lp .ready none)) = V := ⟨_, rfl⟩
  have hL : V.heap[w.heap.size + 1]? = some (.loop (lp .ready none)) := by
    have := World.alloc_heap_new (w.alloc (.deferred (some []))) (.loop (lp .ready none))
    rw [World.size_alloc, hV] at this; exact this
  have hD : V.heap[w.heap.size]? = some (.deferred (some [])) := by
    rw [← hV]; exact (Below.heap_alloc _ _ _ (by simp)).trans (World.alloc_heap_new w _)
  have hB : Below w.heap.size w V := by
    rw [← hV]; exact ((Below.refl _ w).alloc (Nat.le_refl _) _).alloc (by simp) _
  refine ⟨w.heap.size + 1, [{ target := .collected w.heap.size, args := #[] }], V, { target := .fn (.func gf) lb, args := #[.func (.yield (w.heap.size + 1)) #[] #[]] }, V, gf,
    #[.func (.yield (w.heap.size + 1)) #[] #[]] ++ lb, V, ?_, ?_, ?_, ?_, fun _ => h1, ?_⟩
  · rw [← hV, hlp]; exact run_enterLoop_outer _ _ _ _ _
  · simp only [resolve, hg]; simp [go_sem]
  · intro f' hf'; simp [Target.leads] at hf'; subst hf'; exact hFg
  · simp [invoke, go_sem, eg]
  · refine (hseq (w.heap.size + 1)
      (fun pre W => I pre W ∧ W.heap[w.heap.size + 1]? = some (.loop (lp .ready none)) ∧ W.heap[w.heap.size]? = some (.deferred (some [])))
      (fun pre W => Ix pre W ∧ W.heap[w.heap.size + 1]? = some (.loop (lp .done (some .ret))) ∧ W.heap[w.heap.size]? = some (.deferred (some [])))
      V hB
      (fun pre W1 v hs => ⟨hIs _ _ _ hs.1, (Below.heap_setCell _ _ _ _ (by simp; omega)).trans hs.2.1, (Below.heap_setCell _ _ _ _ (by simp; omega)).trans hs.2.2⟩)
      ?_ ⟨by rw [← hV]; exact hI.alloc _ (hI.alloc _ h0), hL, hD⟩).mono ?_
    · rintro pre x W hx ⟨hi, hl, hk⟩
      have hlt : w.heap.size + 1 < W.heap.size := (Array.getElem?_eq_some_iff.1 hl).1
      have hy := run_yield (P := P) (args := encs x) hl (by rw [hlp]; exact hps x)
      rw [hlp] at hy
      refine ⟨fn, _, assign, body, hy, roundIn_of_wpIn hfn (hassign _ x W _ ⟨_, run_beginRound hl (by rw [hlp]), ?_⟩)⟩
      obtain ⟨U, hU⟩ : ∃ U, W.putObj (w.heap.size + 1) (.loop { lp .ready none with state := .busy }) = U := ⟨_, rfl⟩
      have hl2 : U.heap[w.heap.size + 1]? = some (.loop { lp .ready none with state := .busy }) := by rw [← hU]; exact World.putObj_heap_same hlt
      have hk2 : U.heap[w.heap.size]? = some (.deferred (some [])) := by rw [← hU]; exact (World.putObj_heap_other (by omega)).trans hk
      have hw2 : Below w.heap.size W U := by rw [← hU]; exact belowK_b (w := w) (Nat.le_refl _) _ _ _ _ (by omega) hl rfl rfl
      have hi2 : I pre U := by rw [← hU]; exact hI.putObj _ hi (by omega) hl rfl
      rw [hU]
      refine wpIn_mono (hbody _ pre x _ hx hi2) ?_
      have over : ∀ (jump : Option Code) (X : World), KeepsOthers U X →
          (Instr.endRound (w.heap.size + 1) jump).run P X = .ok (.bool jump.isNone) (X.putObj (w.heap.size + 1) (.loop (lp (if jump.isNone then .ready else .done) jump))) ∧
          X.heap[w.heap.size + 1]? = some (.loop { lp .ready none with state := .busy }) ∧
          (X.putObj (w.heap.size + 1) (.loop (lp (if jump.isNone then .ready else .done) jump))).heap[w.heap.size + 1]? = some (.loop (lp (if jump.isNone then .ready else .done) jump)) ∧
          (X.putObj (w.heap.size + 1) (.loop (lp (if jump.isNone then .ready else .done) jump))).heap[w.heap.size]? = some (.deferred (some [])) := fun jump X hX => by
        have hl3 := hX.same _ _ hl2 rfl
        have hr := run_endRound (P := P) jump hl3
        rw [hlp] at hr ⊢
        exact ⟨hr, by rw [hlp] at hl3; exact hl3, World.putObj_heap_same (Array.getElem?_eq_some_iff.1 hl3).1, (World.putObj_heap_other (by omega)).trans (hX.same _ _ hk2 rfl)⟩
      rintro e a3 X hp
      cases e with
      | normal =>
        obtain ⟨hX, hbX, hiX⟩ := hp
        obtain ⟨hr, hl3, hl4, hk4⟩ := over none X hX
        exact ⟨_, _, hr, .inl ⟨rfl, ⟨hI.putObj _ hiX (by omega) hl3 rfl, hl4, hk4⟩, (hw2.trans hbX).trans (belowK_b (w := w) (Nat.le_refl _) _ _ _ _ (by omega) hl3 rfl rfl)⟩⟩
      | ret =>
        obtain ⟨hX, hiX⟩ := hp
        obtain ⟨hr, hl3, hl4, hk4⟩ := over (some .ret) X hX
        exact ⟨_, _, hr, .inr ⟨rfl, hIx.putObj _ hiX (by omega) hl3 rfl, hl4, hk4⟩⟩
      | exit id => exact hp.elim
      | goto t => exact hp.elim
      | panic ch => exact hp.elim
      | outgrown => exact hp.elim
    · rintro e X ⟨⟨v, rfl⟩, (⟨xs, hS, hi, hl, hk⟩ | ⟨pre, hSp, hi, hl, hk⟩)⟩
      · exact ⟨none, _, by have := run_endLoop (P := P) hl (by rw [hlp]; simp); rw [hlp] at this; exact this, hdone _ xs _ (Nat.le_refl _) hS (hI.putObj _ hi (by omega) hl rfl) ((World.putObj_heap_other (by omega)).trans hk)⟩
      · exact ⟨some .ret, _, by have := run_endLoop (P := P) hl (by rw [hlp]; simp); rw [hlp] at this; exact this, hstop _ pre _ (Nat.le_refl _) hSp (hIx.putObj _ hi (by omega) hl rfl) ((World.putObj_heap_other (by omega)).trans hk)⟩
end Go.WW
/- Contracts of the small functions on numbers. -/
namespace Go.WW
/-- A number from lo to hi. -/
def btw (v lo hi : Int) : Bool := decide (lo ≤ v) && decide (v ≤ hi)
theorem btw_iff {v lo hi : Int} : btw v lo hi = true ↔ lo ≤ v ∧ v ≤ hi := by simp [btw]
/-- A time. -/
def isTime (t : Int) : Bool := btw t 0 1099511627776
end Go.WW
namespace Go.Proofs.YtpibcnchkndejaaGreatDoor
open Go.RowKit Go.WW

theorem between_c (v lo hi : Int) (w : World) : Calls Tryz.prog 80 #[.int .i64 v, .int .i64 lo, .int .i64 hi] w fun e w' => e = .returned (.bool (btw v lo hi)) ∧ w = w' := by
  go_enter Tryz.func80, Tryz.ntmps80
  go_wp2
  all_goals go_ret
  all_goals exact ⟨by first | (simp [btw, *]; done) | (simp [btw]; omega), rfl⟩

theorem pbetween_c (v lo hi : Int) (w : World) : Calls Tryz.prog 112 #[.int .i64 v, .int .i64 lo, .int .i64 hi] w fun e w' => e = .returned (.bool (btw v lo hi)) ∧ w = w' := by
  go_enter Tryz.func112, Tryz.ntmps112
  go_wp2
  all_goals go_ret
  all_goals exact ⟨by first | (simp [btw, *]; done) | (simp [btw]; omega), rfl⟩

theorem in16_c (v lo hi : Int) (w : World) : Calls Tryz.prog 31 #[.int .i64 v, .int .i64 lo, .int .i64 hi] w fun e w' => e = .returned (.bool (btw v lo hi)) ∧ w = w' := by
  go_enter Tryz.func31, Tryz.ntmps31
  go_wp2
  all_goals go_ret
  all_goals exact ⟨by first | (simp [btw, *]; done) | (simp [btw]; omega), rfl⟩

end Go.Proofs.YtpibcnchkndejaaGreatDoor
/- Contracts of the functions that look at the bytes of a string. -/
namespace Go.WW
/-- A visible byte. -/
def visB (c : UInt8) : Bool := decide (33 ≤ (c.toNat : Int)) && decide ((c.toNat : Int) ≤ 126)
def visible (s : ByteArray) : Bool := s.data.toList.all visB
/-- A string of 1 to 32 bytes. -/
def sized (s : ByteArray) : Bool := decide (1 ≤ (s.size : Int)) && decide ((s.size : Int) ≤ 32)
def isPart (s : ByteArray) : Bool := visible s && sized s

theorem bget (s : ByteArray) (k : Nat) (h : k < s.size) : s.data.toList[k]? = some s[k] := by
  have h' : k < s.data.size := h
  rw [Array.getElem?_toList, Array.getElem?_eq_getElem h']; rfl
theorem all_step {p : UInt8 → Bool} (s : ByteArray) (k : Nat) (h : k < s.size) (h1 : (s.data.toList.take k).all p = true) (h2 : p s[k] = true) : (s.data.toList.take (k + 1)).all p = true := by
  rw [List.take_succ_eq_append_getElem (by simpa using h), List.all_append, h1]
  have : s.data.toList[k] = s[k] := rfl
  simp [this, h2]
theorem all_no {p : UInt8 → Bool} (s : ByteArray) (k : Nat) (h : k < s.size) (h2 : p s[k] = false) : s.data.toList.all p = false := by
  rw [List.all_eq_false]
  exact ⟨s[k], List.mem_of_getElem? (bget s k h), by simp [h2]⟩
theorem all_end {p : UInt8 → Bool} (s : ByteArray) (k : Nat) (h : s.size ≤ k) (h1 : (s.data.toList.take k).all p = true) : s.data.toList.all p = true := by
  rwa [List.take_of_length_le (by simpa using h)] at h1
end Go.WW
namespace Go.Proofs.YtpibcnchkndejaaGreatDoor
open Go.RowKit Go.WW

theorem visible_c (s : ByteArray) (w : World) (hs : s.size ≤ maxLen) : Calls Tryz.prog 93 #[.string s] w fun e w' => e = .returned (.bool (visible s)) ∧ w = w' := by
  unfold maxLen at hs
  go_enter Tryz.func93, Tryz.ntmps93
  go_wp2
  go_loop [3] (fun i => ∃ k : Nat, k ≤ s.size ∧ i = .int .i64 k ∧ Hid ((s.data.toList.take k).all visB = true)) (fun i => s.size - (intOf i).toNat)
  case atStart => exact ⟨0, Nat.zero_le _, rfl, by simp [Hid]⟩
  case round =>
    obtain ⟨k, hk, rfl, hall⟩ := hrel
    by_cases hlt : k < s.size
    · go_wp2
      all_goals first
        | (go_ret; exact ⟨by rw [show visible s = false from all_no s k hlt (by simp [visB]; omega)]; rfl, rfl⟩)
        | (go_round
           case rel => exact ⟨k + 1, by omega, by go_num, all_step s k hlt hall.out (by simp [visB]; omega)⟩
           case measure => simp [intOf]; omega)
    · go_wp2
      go_ret
      exact ⟨by rw [show visible s = true from all_end s k (by omega) hall.out]; rfl, rfl⟩

theorem sized_c (s : ByteArray) (w : World) (hs : s.size ≤ maxLen) : Calls Tryz.prog 109 #[.string s] w fun e w' => e = .returned (.bool (sized s)) ∧ w = w' := by
  unfold maxLen at hs
  go_enter Tryz.func109, Tryz.ntmps109
  go_wp2
  all_goals go_ret
  all_goals exact ⟨by first | (simp [sized, *]; done) | (simp [sized]; omega), rfl⟩

theorem part_c (s : ByteArray) (w : World) (hs : s.size ≤ maxLen) : Calls Tryz.prog 96 #[.string s] w fun e w' => e = .returned (.bool (isPart s)) ∧ w = w' := by
  have hs' := hs
  unfold maxLen at hs
  go_enter Tryz.func96, Tryz.ntmps96
  go_wp2
  go_loop [6] (fun i => ∃ k : Nat, k ≤ s.size ∧ i = .int .i64 k ∧ Hid ((s.data.toList.take k).all visB = true)) (fun i => s.size - (intOf i).toNat)
  case atStart => exact ⟨0, Nat.zero_le _, rfl, by simp [Hid]⟩
  case round =>
    obtain ⟨k, hk, rfl, hall⟩ := hrel
    by_cases hlt : k < s.size
    · go_wp2
      all_goals first
        | (go_ret; exact ⟨by rw [show isPart s = false from by rw [isPart, show visible s = false from all_no s k hlt (by simp [visB]; omega)]; rfl]; rfl, rfl⟩)
        | (go_round
           case rel => exact ⟨k + 1, by omega, by go_num, all_step s k hlt hall.out (by simp [visB]; omega)⟩
           case measure => simp [intOf]; omega)
    · go_wp2_with (go_at_call 109; refine (sized_c _ _ hs').mono ?_; rintro e w' ⟨rfl, rfl⟩)
      go_ret
      exact ⟨by rw [show isPart s = sized s from by rw [isPart, show visible s = true from all_end s k (by omega) hall.out]; rfl]; rfl, rfl⟩

theorem validText_c (s : ByteArray) (w : World) (hs : s.size ≤ maxLen) : Calls Tryz.prog 83 #[.string s] w fun e w' => e = .returned (.bool (visible s && decide ((s.size : Int) ≤ 32))) ∧ w = w' := by
  unfold maxLen at hs
  go_enter Tryz.func83, Tryz.ntmps83
  go_wp2
  go_loop [6] (fun i => ∃ k : Nat, k ≤ s.size ∧ i = .int .i64 k ∧ Hid ((s.data.toList.take k).all visB = true)) (fun i => s.size - (intOf i).toNat)
  case atStart => exact ⟨0, Nat.zero_le _, rfl, by simp [Hid]⟩
  case round =>
    obtain ⟨k, hk, rfl, hall⟩ := hrel
    by_cases hlt : k < s.size
    · go_wp2
      all_goals first
        | (go_ret; exact ⟨by rw [show visible s = false from all_no s k hlt (by simp [visB]; omega)]; rfl, rfl⟩)
        | (go_round
           case rel => exact ⟨k + 1, by omega, by go_num, all_step s k hlt hall.out (by simp [visB]; omega)⟩
           case measure => simp [intOf]; omega)
    · go_wp2
      all_goals go_ret
      all_goals exact ⟨by rw [show visible s = true from all_end s k (by omega) hall.out]; first | rfl | (simp; done) | (simp; omega), rfl⟩
end Go.Proofs.YtpibcnchkndejaaGreatDoor
/- Contracts of the reference's functions on principals. -/
namespace Go.WW
/-- A byte of a realm. -/
def realmB (c : UInt8) : Bool := (c.toNat : Int) == 46 || (c.toNat : Int) == 45 || (decide (65 ≤ (c.toNat : Int)) && decide ((c.toNat : Int) ≤ 90)) || (decide (48 ≤ (c.toNat : Int)) && decide ((c.toNat : Int) ≤ 57))
def dotB (c : UInt8) : Bool := (c.toNat : Int) == 46
/-- What the reference asks of the byte with number i. -/
def realmAt (s : ByteArray) (i : Nat) : Bool :=
  match s.data.toList[i]? with
  | none => true
  | some c => realmB c && !(dotB c && (i == 0 || i + 1 == s.size || (s.data.toList[i - 1]?).any dotB))
def realmOk (s : ByteArray) : Bool := (List.range s.size).all (realmAt s) && sized s
def prinOk (p : Prin) : Bool := p.parts.all isPart && decide (1 ≤ (p.parts.length : Int)) && decide ((p.parts.length : Int) ≤ 4) && realmOk p.realm
def samePrin (p q : Prin) : Bool := decide (p.realm = q.realm) && decide (p.parts = q.parts)

theorem le_max {n : Nat} (h : n ≤ lim) : n ≤ maxLen := by unfold lim at h; unfold maxLen; omega
theorem lall_step {α : Type} {p : α → Bool} (l : List α) (k : Nat) (h : k < l.length) (h1 : (l.take k).all p = true) (h2 : p l[k] = true) : (l.take (k + 1)).all p = true := by
  rw [List.take_succ_eq_append_getElem h, List.all_append, h1]; simp [h2]
theorem lall_no {α : Type} {p : α → Bool} (l : List α) (k : Nat) (h : k < l.length) (h2 : p l[k] = false) : l.all p = false := by
  rw [List.all_eq_false]; exact ⟨l[k], List.getElem_mem h, by simp [h2]⟩
theorem lall_end {α : Type} {p : α → Bool} (l : List α) (k : Nat) (h : l.length ≤ k) (h1 : (l.take k).all p = true) : l.all p = true := by
  rwa [List.take_of_length_le h] at h1
theorem realmAt_at (s : ByteArray) (k : Nat) (h : k < s.size) : realmAt s k = (realmB s[k] && !(dotB s[k] && (k == 0 || k + 1 == s.size || (s.data.toList[k - 1]?).any dotB))) := by
  unfold realmAt; rw [bget s k h]
theorem realm_no (s : ByteArray) (k : Nat) (h : k < s.size) (hn : realmAt s k = false) : realmOk s = false := by
  have : (List.range s.size).all (realmAt s) = false := by rw [List.all_eq_false]; exact ⟨k, List.mem_range.2 h, by simp [hn]⟩
  rw [realmOk, this]; rfl
theorem realm_step (s : ByteArray) (k : Nat) (h : (List.range k).all (realmAt s) = true) (hn : realmAt s k = true) : (List.range (k + 1)).all (realmAt s) = true := by
  rw [List.range_succ, List.all_append, h]; simp [hn]
theorem realm_end (s : ByteArray) (k : Nat) (hk : k = s.size) (h : (List.range k).all (realmAt s) = true) : realmOk s = sized s := by
  subst hk; rw [realmOk, h]; rfl
/-- The ways that a byte goes. -/
theorem byte_ways (c : Int) : c = 46 ∨ c = 45 ∨ (65 ≤ c ∧ c ≤ 90) ∨ (48 ≤ c ∧ c ≤ 57) ∨ c < 45 ∨ c = 47 ∨ (57 < c ∧ c < 65) ∨ 90 < c := by omega
theorem realmB_yes {c : UInt8} (h : (c.toNat : Int) = 46 ∨ (c.toNat : Int) = 45 ∨ (65 ≤ (c.toNat : Int) ∧ (c.toNat : Int) ≤ 90) ∨ (48 ≤ (c.toNat : Int) ∧ (c.toNat : Int) ≤ 57)) : realmB c = true := by
  unfold realmB; simp; omega
theorem realmB_no {c : UInt8} (h : (c.toNat : Int) < 45 ∨ (c.toNat : Int) = 47 ∨ (57 < (c.toNat : Int) ∧ (c.toNat : Int) < 65) ∨ 90 < (c.toNat : Int)) : realmB c = false := by
  unfold realmB; simp; omega
theorem dotB_no {c : UInt8} (h : ¬ (c.toNat : Int) = 46) : dotB c = false := by unfold dotB; simpa using h
theorem dotB_yes {c : UInt8} (h : (c.toNat : Int) = 46) : dotB c = true := by unfold dotB; simpa using h
theorem realmAt_no {s : ByteArray} {k : Nat} (hk : k < s.size) (h : realmB s[k] = false) : realmAt s k = false := by rw [realmAt_at s k hk, h]; rfl
theorem realmAt_plain {s : ByteArray} {k : Nat} (hk : k < s.size) (h : realmB s[k] = true) (h' : dotB s[k] = false) : realmAt s k = true := by rw [realmAt_at s k hk, h, h']; rfl
theorem realmAt_dot {s : ByteArray} {k : Nat} (hk : k < s.size) (h' : dotB s[k] = true) : realmAt s k = !(k == 0 || k + 1 == s.size || (s.data.toList[k - 1]?).any dotB) := by
  have : realmB s[k] = true := realmB_yes (.inl (by unfold dotB at h'; simpa using h'))
  rw [realmAt_at s k hk, this, h']; rfl
theorem isPart_no1 {s : ByteArray} (h : ((s.size : Int) < 1 ∨ 32 < (s.size : Int)) ∨ (!visible s) = true) : isPart s = false := by
  unfold isPart sized
  rcases h with h | h
  · have : (decide (1 ≤ (s.size : Int)) && decide ((s.size : Int) ≤ 32)) = false := by simp; omega
    rw [this]; simp
  · have : visible s = false := by simpa using h
    rw [this]; rfl
theorem isPart_no2 {s : ByteArray} (h : 32 < (s.size : Int)) : isPart s = false := isPart_no1 (.inl (.inr h))
theorem isPart_no3 {s : ByteArray} (h : (s.size : Int) < 1) : isPart s = false := isPart_no1 (.inl (.inl h))
theorem isPart_yes {s : ByteArray} (h : (1 ≤ (s.size : Int) ∧ (s.size : Int) ≤ 32) ∧ (!visible s) = false) : isPart s = true := by
  have : visible s = true := by simpa using h.2
  unfold isPart sized; rw [this]; simp [h.1]
theorem prin_no {p : Prin} (k : Nat) (hlt : k < p.parts.length) (h : isPart p.parts[k] = false) : prinOk p = false := by rw [prinOk, lall_no p.parts k hlt h]; rfl
theorem prin_end1 {p : Prin} (h : p.parts.all isPart = true) (h1 : 1 ≤ (p.parts.length : Int)) (h2 : (p.parts.length : Int) ≤ 4) : prinOk p = realmOk p.realm := by simp [prinOk, h, h1, h2]
theorem prin_end2 {p : Prin} (h2 : 4 < (p.parts.length : Int)) : prinOk p = false := by
  have : decide ((p.parts.length : Int) ≤ 4) = false := by simp; omega
  simp [prinOk, this]
theorem prin_end3 {p : Prin} (h2 : (p.parts.length : Int) < 1) : prinOk p = false := by
  have : decide (1 ≤ (p.parts.length : Int)) = false := by simp; omega
  simp [prinOk, this]
end Go.WW
namespace Go.Proofs.YtpibcnchkndejaaGreatDoor
open Go.RowKit Go.WW

set_option maxHeartbeats 1000000 in
theorem realm15_c (s : ByteArray) (w : World) (hs : s.size ≤ lim) : Calls Tryz.prog 135 #[.string s] w fun e w' => e = .returned (.bool (realmOk s)) ∧ w = w' := by
  have hs' : s.size ≤ 4294967000 := hs
  go_enter Tryz.func135, Tryz.ntmps135
  go_wp2
  go_loop [3] (fun i => ∃ k : Nat, k ≤ s.size ∧ i = .int .i64 k ∧ Hid ((List.range k).all (realmAt s) = true)) (fun i => s.size - (intOf i).toNat)
  case atStart => exact ⟨0, Nat.zero_le _, rfl, by simp [Hid]⟩
  case round =>
    obtain ⟨k, hk, rfl, hall⟩ := hrel
    by_cases hlt : k < s.size
    · have hall' := hall; clear hall
      rcases byte_ways (s[k].toNat : Int) with hc | hc | ⟨hc1, hc2⟩ | ⟨hc1, hc2⟩ | hc | hc | ⟨hc1, hc2⟩ | hc
      · have HD := dotB_yes hc
        have HA := Lib.hid (realmAt_dot hlt HD)
        clear HD
        have hb : ((s[k].toNat : Int) == 46) = true := by simp [hc]
        have hb' : ((s[k].toNat : Int) != 46) = false := by simp [hc]
        clear hc
        by_cases h0 : k = 0
        · subst h0
          go_wp2
          go_ret
          exact ⟨by rw [realm_no s 0 hlt (by rw [HA.out]; rfl)]; rfl, rfl⟩
        · have h0' : ((k : Int) == 0) = false := by simp; omega
          by_cases h1 : k + 1 = s.size
          · have h1' : ((k : Int) == (s.size : Int) - 1) = true := by simp; omega
            have H1 := Lib.hid h1
            clear h1
            go_wp2
            go_ret
            exact ⟨by rw [realm_no s k hlt (by rw [HA.out, H1.out]; simp)]; rfl, rfl⟩
          · obtain ⟨j, rfl⟩ : ∃ j, k = j + 1 := ⟨k - 1, by omega⟩
            have hj : j < s.size := by omega
            have h0'' : ((j : Int) + 1 == 0) = false := by simp; omega
            have h1' : ((j : Int) + 1 == (s.size : Int) - 1) = false := by simp; omega
            have H1 := Lib.hid h1
            clear h1 h0 h0'
            by_cases h2 : (s[j].toNat : Int) = 46
            · have h2' : ((s[j].toNat : Int) == 46) = true := by simp [h2]
              have HJ := Lib.hid (dotB_yes h2)
              clear h2
              go_wp2
              go_ret
              exact ⟨by rw [realm_no s (j + 1) hlt (by rw [HA.out]; simp [bget s j hj, HJ.out])]; rfl, rfl⟩
            · have h2' : ((s[j].toNat : Int) == 46) = false := by simp [h2]
              have HJ := Lib.hid (dotB_no h2)
              clear h2
              have HS := Lib.hid (realm_step s (j + 1) hall'.out (by rw [HA.out]; simp [bget s j hj, HJ.out, H1.out]))
              go_wp2
              go_round
              case rel => exact ⟨j + 1 + 1, by omega, by go_num, HS.out⟩
              case measure => simp [intOf]; omega
      · have HA := Lib.hid (realmAt_plain hlt (realmB_yes (.inr (.inl hc))) (dotB_no (by omega)))
        go_wp2
        go_round
        case rel => exact ⟨k + 1, by omega, by go_num, realm_step s k hall'.out HA.out⟩
        case measure => simp [intOf]; omega
      · have HA := Lib.hid (realmAt_plain hlt (realmB_yes (.inr (.inr (.inl ⟨hc1, hc2⟩)))) (dotB_no (by omega)))
        go_wp2
        go_round
        case rel => exact ⟨k + 1, by omega, by go_num, realm_step s k hall'.out HA.out⟩
        case measure => simp [intOf]; omega
      · have HA := Lib.hid (realmAt_plain hlt (realmB_yes (.inr (.inr (.inr ⟨hc1, hc2⟩)))) (dotB_no (by omega)))
        go_wp2
        go_round
        case rel => exact ⟨k + 1, by omega, by go_num, realm_step s k hall'.out HA.out⟩
        case measure => simp [intOf]; omega
      all_goals
        have HA := Lib.hid (realm_no s k hlt (realmAt_no hlt (realmB_no (by omega))))
        have b1 : ((s[k].toNat : Int) == 46) = false := by simp; omega
        have b2 : ((s[k].toNat : Int) != 46) = true := by simp; omega
        have b3 : ((s[k].toNat : Int) != 45) = true := by simp; omega
        first | (have b4 : decide ((s[k].toNat : Int) ≤ 57) = false := (by simp; omega)) | skip
        first | (have b5 : decide ((s[k].toNat : Int) ≤ 90) = false := (by simp; omega)) | skip
        go_wp2
        go_ret
        exact ⟨by rw [HA.out]; rfl, rfl⟩
    · have HE := Lib.hid (realm_end s k (by omega) hall.out)
      go_wp2
      all_goals go_ret
      all_goals exact ⟨by rw [HE.out]; first | rfl | (simp [sized, *]; done) | (simp [sized]; omega), rfl⟩

set_option maxHeartbeats 1000000 in
theorem validPrincipal_c (s : Sl) (p : Prin) (w : World) (hp : PrinAt w s p) : Calls Tryz.prog 89 #[.agg (prinC s p)] w fun e w' => e = .returned (.bool (prinOk p)) ∧ Below w.heap.size w w' := by
  have hl : p.parts.length ≤ 4294967000 := hp.1.1
  go_enter Tryz.func89, Tryz.ntmps89
  go_wp2
  go_loop [3] (fun i => ∃ k : Nat, k ≤ p.parts.length ∧ i = .int .i64 k ∧ Hid ((p.parts.take k).all isPart = true)) (fun i => p.parts.length - (intOf i).toNat)
  case atStart => exact ⟨0, Nat.zero_le _, rfl, by simp [Hid]⟩
  case round =>
    obtain ⟨k, hk, rfl, hall⟩ := hrel
    by_cases hlt : k < p.parts.length
    · obtain ⟨b, o, ha, hc, hsz⟩ := hp.1.get k hlt
      have hb : b < w.heap.size := World.block_lt_of_cell? w _ hc
      go_wp2_with (go_at_call 93; refine (visible_c _ _ (le_max hsz)).mono ?_; rintro e w' ⟨rfl, rfl⟩)
      all_goals first
        | (go_ret
           have hno : isPart p.parts[k] = false := by first | exact isPart_no1 ‹_› | exact isPart_no2 ‹_› | exact isPart_no3 ‹_›
           exact ⟨by rw [prin_no k hlt hno]; rfl, (Below.refl _ _).alloc (Nat.le_refl _) _⟩)
        | (go_round
           case rel => exact ⟨k + 1, by omega, by go_num, lall_step p.parts k hlt hall.out (isPart_yes ‹_›)⟩
           case measure => simp [intOf]; omega)
    · have hy := lall_end p.parts k (by omega) hall.out
      have HY : Hid (p.parts.all isPart = true) := hy
      clear hy
      go_wp2_with (go_at_call 135; refine (realm15_c _ _ hp.2).mono ?_; rintro e w' ⟨rfl, rfl⟩)
      all_goals go_ret
      all_goals exact ⟨by first | (rw [prin_end1 HY.out ‹_› ‹_›]; rfl) | (rw [prin_end2 ‹_›]; rfl) | (rw [prin_end3 ‹_›]; rfl), (Below.refl _ _).alloc (Nat.le_refl _) _⟩
end Go.Proofs.YtpibcnchkndejaaGreatDoor
/- Contracts: equality of principals. -/
namespace Go.WW
theorem str_eq (a b : ByteArray) (h : a = b) : (a.toList == b.toList) = true := by subst h; simp
theorem str_ne (a b : ByteArray) (h : ¬ a = b) : (a.toList == b.toList) = false := by
  rw [ByteArray.toList_eq, ByteArray.toList_eq, beq_eq_false_iff_ne]
  exact fun e => h (WideShapes.bytes_inj e)
theorem same_no1 {p q : Prin} (h : ¬ p.realm = q.realm) : samePrin p q = false := by simp [samePrin, h]
theorem same_no2 {p q : Prin} (h : ¬ p.parts.length = q.parts.length) : samePrin p q = false := by
  have : decide (p.parts = q.parts) = false := by simp; intro e; exact h (by rw [e])
  simp [samePrin, this]
theorem same_no3 {p q : Prin} (k : Nat) (h1 : k < p.parts.length) (h2 : k < q.parts.length) (h : ¬ p.parts[k] = q.parts[k]) : samePrin p q = false := by
  have : decide (p.parts = q.parts) = false := by simp; intro e; exact h (by simp [e])
  simp [samePrin, this]
theorem same_yes {p q : Prin} (k : Nat) (hr : p.realm = q.realm) (h1 : p.parts.length ≤ k) (h2 : q.parts.length ≤ k) (h : p.parts.take k = q.parts.take k) : samePrin p q = true := by
  rw [List.take_of_length_le h1, List.take_of_length_le h2] at h
  simp [samePrin, hr, h]
theorem take_step {α : Type} {l m : List α} (k : Nat) (h1 : k < l.length) (h2 : k < m.length) (h : l.take k = m.take k) (he : l[k] = m[k]) : l.take (k + 1) = m.take (k + 1) := by
  rw [List.take_succ_eq_append_getElem h1, List.take_succ_eq_append_getElem h2, h, he]
end Go.WW
namespace Go.Proofs.YtpibcnchkndejaaGreatDoor
open Go.RowKit Go.WW

set_option maxHeartbeats 1000000 in
theorem samePrincipal_c (s t : Sl) (p q : Prin) (w : World) (hp : PrinAt w s p) (hq : PrinAt w t q) : Calls Tryz.prog 91 #[.agg (prinC s p), .agg (prinC t q)] w fun e w' => e = .returned (.bool (samePrin p q)) ∧ Below w.heap.size w w' := by
  have hl : p.parts.length ≤ 4294967000 := hp.1.1
  have hB : Below w.heap.size w ((w.alloc (.cells (prinC s p) 24)).alloc (.cells (prinC t q) 24)) := ((Below.refl _ _).alloc (Nat.le_refl _) _).alloc (by simp) _
  by_cases hr : p.realm = q.realm
  · have hr' := str_eq _ _ hr
    have HR := Lib.hid hr; clear hr
    by_cases hn : p.parts.length = q.parts.length
    · have hn' : ((p.parts.length : Int) != (q.parts.length : Int)) = false := by simp [hn]
      have hn1 : p.parts.length ≤ q.parts.length := by omega
      have hn2 : q.parts.length ≤ p.parts.length := by omega
      clear hn
      go_enter Tryz.func91, Tryz.ntmps91
      go_wp2
      go_loopw [5] (fun i wr => Below ((w.alloc (.cells (prinC s p) 24)).alloc (.cells (prinC t q) 24)).heap.size ((w.alloc (.cells (prinC s p) 24)).alloc (.cells (prinC t q) 24)) wr ∧ ∃ k : Nat, k ≤ p.parts.length ∧ i = .int .i64 k ∧ Hid (p.parts.take k = q.parts.take k)) (fun i _ => p.parts.length - (intOf i).toNat)
      case atStart => exact ⟨Below.refl _ _, 0, Nat.zero_le _, rfl, by simp [Hid]⟩
      case round =>
        obtain ⟨hbr, k, hk, rfl, hall⟩ := hrel
        obtain ⟨hcc, hff, hrr⟩ := bcell hbr
        by_cases hlt : k < p.parts.length
        · have hlq : k < q.parts.length := by omega
          obtain ⟨b, o, ha, hc, hsz⟩ := hp.1.get k hlt
          obtain ⟨b', o', ha', hc', hsz'⟩ := hq.1.get k hlq
          have hb : b < w.heap.size := World.block_lt_of_cell? w _ hc
          have hb' : b' < w.heap.size := World.block_lt_of_cell? w _ hc'
          have hb1 : b < w.heap.size + 1 + 1 := by omega
          have hb1' : b' < w.heap.size + 1 + 1 := by omega
          have hki : (k : Int) < (p.parts.length : Int) := by omega
          have hkq : (k : Int) < (q.parts.length : Int) := by omega
          by_cases he : p.parts[k] = q.parts[k]
          · have he' := str_eq _ _ he
            have HT := Lib.hid (take_step k hlt hlq hall.out he)
            clear he
            go_wp2
            refine wp_region_later hbr (by kernel_rfl) (by kernel_rfl) ?_
            repeat (go_big_quiet_step (fail))
            refine wpQuiet_nil ?_
            intro w2 hb2
            go_wp2
            go_roundw
            case rel => exact ⟨hb2, k + 1, by omega, by go_num, HT.out⟩
            case measure => simp [intOf]; omega
          · have he' := str_ne _ _ he
            have HT := Lib.hid (same_no3 k hlt hlq he)
            clear he
            go_wp2
            refine wp_region_later hbr (by kernel_rfl) (by kernel_rfl) ?_
            repeat (go_big_quiet_step (fail))
            refine wpQuiet_nil ?_
            intro w2 hb2
            go_wp2
            go_ret
            exact ⟨by rw [HT.out]; rfl, hB.trans (hb2.mono (by simp; omega))⟩
        · have HT := Lib.hid (same_yes k HR.out (by omega) (by omega) hall.out)
          go_wp2
          go_ret
          exact ⟨by rw [HT.out]; rfl, hB.trans (hbr.mono (by simp; omega))⟩
    · have hn' : ((p.parts.length : Int) != (q.parts.length : Int)) = true := by simp; omega
      have HN := Lib.hid (same_no2 hn); clear hn
      go_enter Tryz.func91, Tryz.ntmps91
      go_wp2
      go_ret
      exact ⟨by rw [HN.out]; rfl, hB⟩
  · have hr' := str_ne _ _ hr
    have HN := Lib.hid (same_no1 hr); clear hr
    go_enter Tryz.func91, Tryz.ntmps91
    go_wp2
    go_ret
    exact ⟨by rw [HN.out]; rfl, hB⟩
end Go.Proofs.YtpibcnchkndejaaGreatDoor
/- Contracts: the reference's key lengths, valid keys, valid sets. -/
namespace Go.WW
def keyLen (p : Int) : Int := if p == 1 then 16 else if p == 2 then 32 else 0
def keyOk (k : Key) : Bool := decide (0 < keyLen k.profile) && ((k.bytes.length : Int) == keyLen k.profile) && btw k.version 0 65535
/-- A key that fits into a set with a version, under a master key's version. -/
def keyFits (master ver : Int) (k : Key) : Bool := !(keyLen k.profile == 0) && !(k.version != ver) && (if master == 0 then keyOk k else btw k.bytes.length 1 256)
/-- Each element from the second on may follow the one before it. -/
def ordAt {α : Type} (r : α → α → Bool) (l : List α) (i : Nat) : Bool := i == 0 || (match l[i - 1]?, l[i]? with | some a, some b => r a b | _, _ => true)
def ordered {α : Type} (r : α → α → Bool) (l : List α) : Bool := (List.range l.length).all (ordAt r l)
def profLt (a b : Key) : Bool := decide (a.profile < b.profile)
def setEnd (s : KeySet) : Bool := btw s.version 1 65535 && btw s.keys.length 1 4 && decide ((s.salt.size : Int) ≤ 256) && btw s.iterations 0 65536 && (decide (0 < s.iterations) || s.salt.toList.isEmpty) && btw s.created 0 1099511627776
def setOk (master : Int) (s : KeySet) : Bool := s.keys.all (keyFits master s.version) && ordered profLt s.keys && setEnd s

theorem rall_step {f : Nat → Bool} (k : Nat) (h : (List.range k).all f = true) (hn : f k = true) : (List.range (k + 1)).all f = true := by
  rw [List.range_succ, List.all_append, h]; simp [hn]
theorem rall_no {f : Nat → Bool} (n k : Nat) (h : k < n) (hn : f k = false) : (List.range n).all f = false := by
  rw [List.all_eq_false]; exact ⟨k, List.mem_range.2 h, by simp [hn]⟩
theorem rall_end {f : Nat → Bool} (n k : Nat) (hk : k = n) (h : (List.range k).all f = true) : (List.range n).all f = true := by subst hk; exact h
end Go.WW
namespace Go.Proofs.YtpibcnchkndejaaGreatDoor
open Go.RowKit Go.WW

theorem keyLen16_c (p : Int) (w : World) : Calls Tryz.prog 136 #[.int .i64 p] w fun e w' => e = .returned (.int .i64 (keyLen p)) ∧ w = w' := by
  rcases (show p = 1 ∨ p = 2 ∨ (¬ p = 1 ∧ ¬ p = 2) by omega) with rfl | rfl | ⟨h1, h2⟩
  · go_enter Tryz.func136, Tryz.ntmps136
    go_wp2
    go_ret
    exact ⟨rfl, rfl⟩
  · go_enter Tryz.func136, Tryz.ntmps136
    go_wp2
    go_ret
    exact ⟨rfl, rfl⟩
  · have h1' : (p == 1) = false := by simpa using h1
    have h2' : (p == 2) = false := by simpa using h2
    have HK : Hid (keyLen p = 0) := by simp [Hid, keyLen, h1, h2]
    clear h1 h2
    go_enter Tryz.func136, Tryz.ntmps136
    go_wp2
    go_ret
    exact ⟨by rw [HK.out]; rfl, rfl⟩

set_option maxHeartbeats 1000000 in
theorem validKey16_c (s : Sl) (k : Key) (w : World) : Calls Tryz.prog 137 #[.agg (keyC s k)] w fun e w' => e = .returned (.bool (keyOk k)) ∧ Below w.heap.size w w' := by
  have hB : ∀ ob, Below w.heap.size w (w.alloc ob) := fun ob => (Below.refl _ _).alloc (Nat.le_refl _) _
  by_cases h1 : 0 < keyLen k.profile
  · by_cases h2 : (k.bytes.length : Int) = keyLen k.profile
    · have h2' : ((k.bytes.length : Int) == keyLen k.profile) = true := by simp [h2]
      have HF : Hid (keyOk k = btw k.version 0 65535) := by simp [Hid, keyOk, h1, h2]
      clear h2
      go_enter Tryz.func137, Tryz.ntmps137
      go_wp2
      refine wp_region_later (Below.refl _ _) (by kernel_rfl) (by kernel_rfl) ?_
      repeat (go_big_quiet_step (first | (go_at_call 136; exact Calls.later_same (keyLen16_c _ _)) | (go_at_call 31; exact Calls.later_same (in16_c _ _ _ _))))
      refine wpQuiet_nil ?_
      intro w2 hb2
      go_wp2
      go_ret
      exact ⟨by rw [HF.out]; rfl, (hB _).trans (hb2.mono (by simp))⟩
    · have h2' : ((k.bytes.length : Int) == keyLen k.profile) = false := by simp [h2]
      have HF : Hid (keyOk k = false) := by simp [Hid, keyOk, h2]
      clear h2
      go_enter Tryz.func137, Tryz.ntmps137
      go_wp2
      refine wp_region_later (Below.refl _ _) (by kernel_rfl) (by kernel_rfl) ?_
      repeat (go_big_quiet_step ((go_at_call 136; exact Calls.later_same (keyLen16_c _ _))))
      refine wpQuiet_nil ?_
      intro w2 hb2
      go_wp2
      go_ret
      exact ⟨by rw [HF.out]; rfl, (hB _).trans (hb2.mono (by simp))⟩
  · have h1' : decide (0 < keyLen k.profile) = false := by simpa using h1
    have HF : Hid (keyOk k = false) := by simp [Hid, keyOk, h1']
    clear h1
    go_enter Tryz.func137, Tryz.ntmps137
    go_wp2
    refine wp_region_later (Below.refl _ _) (by kernel_rfl) (by kernel_rfl) ?_
    repeat (go_big_quiet_step ((go_at_call 136; exact Calls.later_same (keyLen16_c _ _))))
    refine wpQuiet_nil ?_
    intro w2 hb2
    go_wp2
    go_ret
    exact ⟨by rw [HF.out]; rfl, (hB _).trans (hb2.mono (by simp))⟩
end Go.Proofs.YtpibcnchkndejaaGreatDoor
