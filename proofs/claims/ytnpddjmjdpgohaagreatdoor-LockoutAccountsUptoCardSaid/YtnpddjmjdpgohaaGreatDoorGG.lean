/- Part G of the proof about watchword's lockout: texts L1 Seq S1 S2 N1 N2. -/
import Derived.Test.YtnpddjmjdpgohaaGreatDoorGA
import Derived.Lib.Strings
import Derived.Lib.Slices
import Derived.Lib.Walk
import Derived.Lib.Bytealg
import Derived.RangeFuncNested
import Derived.RangeFuncBound
import Derived.RangeFuncCalls
import Derived.RangeFuncLeaves
import Derived.Shelf.Abstract
import Derived.Shelf.RegionOpen
import Derived.OwnWalkIn
import Derived.TacticsInMore
import Derived.LoopNIn
import Derived.LoopIn
import Derived.Test.YtnpddjmjdpgohaaGreatDoorGF

namespace Go.Proofs

set_option maxHeartbeats 1000000 in
set_option maxRecDepth 100000 in
theorem Tryz.stringslite_IndexByte (s : ByteArray) (c : Int) (w : World) :
    Calls Tryz.prog 167 #[.string s, .int .u8 c] w fun e w' => e = .returned (.int .i64 (Lib.indexByte s.data.toList c.toNat.toUInt8)) ∧ w' = w := by
  go_enter Tryz.func167, Tryz.ntmps167
  go_wp2
  rw [run_callFunc_extern Tryz.func181 (by kernel_rfl) (by kernel_rfl) (by kernel_rfl) (e := Extern.BytealgIndexByte.indexByte) (by kernel_rfl), Lib.run_indexByteString]
  simp only [Result.andThen]
  rw [Oper.upon_value]
  go_wp2
  go_ret
  exact ⟨rfl, rfl⟩

set_option maxHeartbeats 2000000 in
set_option maxRecDepth 100000 in
theorem Tryz.stringslite_Index_one (s : ByteArray) (c : UInt8) (w : World) :
    Calls Tryz.prog 149 #[.string s, .string ⟨#[c]⟩] w fun e w' => e = .returned (.int .i64 (Lib.indexByte s.data.toList c)) ∧ w' = w := by
  go_enter Tryz.func149, Tryz.ntmps149
  go_wp2_with (go_at_call 167; refine (Tryz.stringslite_IndexByte _ _ _).mono ?_; rintro e w' ⟨rfl, rfl⟩)
  · have h : ([c] == s.toList) = true := by assumption
    go_ret
    refine ⟨?_, rfl⟩
    have e : s.data.toList = [c] := by rw [← Lib.toList_data]; exact (beq_iff_eq.1 h).symm
    rw [e]
    simp [Lib.indexByte]
  · go_ret
    exact ⟨rfl, rfl⟩

set_option maxHeartbeats 1000000 in
theorem Tryz.strings_Index_one (s : ByteArray) (c : UInt8) (w : World) :
    Calls Tryz.prog 141 #[.string s, .string ⟨#[c]⟩] w fun e w' => e = .returned (.int .i64 (Lib.indexByte s.data.toList c)) ∧ w' = w := by
  go_enter Tryz.func141, Tryz.ntmps141
  go_wp2_with (go_at_call 149; refine (Tryz.stringslite_Index_one _ _ _).mono ?_; rintro e w' ⟨rfl, rfl⟩)
  go_ret
  exact ⟨rfl, rfl⟩

end Go.Proofs

namespace Go.WW
open Go.RowKit

def SeqCell {α : Type} (F : Fence) (n : Nat) (P : Program) (g : Nat) (lb : Array Value) (encs : α → Array Value) (bs B : Nat) (ok : α → Prop) (S Sp : List α → Prop) (w : World) : Prop :=
  ∀ (l : Nat) (J Jx : List α → World → Prop) (W : World), Below B w W →
    (∀ pre W1 v, J pre W1 → J pre (W1.setCell ⟨bs, 0, none⟩ v)) →
    (∀ pre x W1, ok x → J pre W1 → YieldAt F (n - 1) P l (encs x) W1 fun e W' =>
      (e = .returned (.bool true) ∧ J (pre ++ [x]) W' ∧ Below B W1 W') ∨ (e = .returned (.bool false) ∧ Jx (pre ++ [x]) W')) →
    J [] W →
    CallsIn F n P g (#[.func (.yield l) #[] #[]] ++ lb) W fun e W' => (∃ v, e = .returned v) ∧ ((∃ xs, S xs ∧ J xs W') ∨ (∃ pre, Sp pre ∧ Jx pre W'))

def cellPost {α : Type} (B : Nat) (I Ix : List α → World → Prop) (xs : List α) (W : World) : Exit → Act → World → Prop
  | .normal, _, W' => KeepsOthers W W' ∧ Below B W W' ∧ I xs W'
  | .ret, _, W' => KeepsOthers W W' ∧ Ix xs W'
  | _, _, _ => False

variable {F : Fence} {n : Nat} {P : Program}

theorem wpIn_range_cell {α : Type} {g : Operand} {ps : Array Tmp} {assign body : Code} {Q : Exit → Act → World → Prop} {a : Act} {w : World}
    (hro : F.round = none) (h1 : 1 ≤ n) {gf : Nat} {lb : Array Value} (hg : a.eval g = .func (.func gf) #[] lb) (hFg : F.fn gf) (eg : ∀ args w, (callFunc gf args).run P w = .ok (.enter gf args) w)
    {encs : α → Array Value} {bs : Nat} {ok : α → Prop} {S Sp : List α → Prop} (hseq : SeqCell F (n - 1) P gf lb encs bs w.heap.size ok S Sp w) (hbs : bs < w.heap.size) (hps : ∀ x, (encs x).size = ps.size)
    (I Ix : List α → World → Prop) (hI : OwnFrom w.heap.size I) (hIs : ∀ s W v, I s W → I s (W.setCell ⟨bs, 0, none⟩ v)) (hIx : OwnFrom w.heap.size Ix) (h0 : I [] w) (a₁ : α → Act)
    (hassign : ∀ (l : Nat) (x : α) (W : World) (K : Act → World → Prop), K (a₁ x) W →
      assign.wpIn (F.inRound l) (n - 1 - 1) P (Exit.then K (fun _ _ _ => False)) { tmps := (ps.zip (encs x)).foldl (fun t (p, v) => t.setIfInBounds p v) a.tmps, defers := [] } W)
    (hbody : ∀ (l : Nat) (pre : List α) (x : α) (W : World), ok x → I pre W → body.wpIn (F.inRound l) (n - 1 - 1) P (cellPost w.heap.size I Ix (pre ++ [x]) W) (a₁ x) W)
    (hdone : ∀ (D : Nat) (xs : List α) (W : World), w.heap.size ≤ D → S xs → I xs W → W.heap[D]? = some (.deferred (some [])) → Q .normal { a with defers := { target := .collected D, args := #[] } :: a.defers } W)
    (hstop : ∀ (D : Nat) (pre : List α) (W : World), w.heap.size ≤ D → Sp pre → Ix pre W → W.heap[D]? = some (.deferred (some [])) → Code.ret.wpIn F n P Q { a with defers := { target := .collected D, args := #[] } :: a.defers } W) :
    (Code.rangeFunc g ps assign body).wpIn F n P Q a w := by
  refine wpIn_rangeFunc ?_
  intro fn hfn
  rw [hro]
  obtain ⟨lp, hlp⟩ : ∃ lp : LoopState → Option Code → Loop, lp = fun st pe => { state := st, pending := pe, fn, tmps := a.tmps, params := ps, assign, body, defers := w.heap.size } := ⟨_, rfl⟩
  obtain ⟨V, hV⟩ : ∃ V, (w.alloc (.deferred (some []))).alloc (.loop (lp .ready none)) = V := ⟨_, rfl⟩
  have hL : V.heap[w.heap.size + 1]? = some (.loop (lp .ready none)) := by
    have := World.alloc_heap_new (w.alloc (.deferred (some []))) (.loop (lp .ready none))
    rw [World.size_alloc, hV] at this; exact this
  have hD : V.heap[w.heap.size]? = some (.deferred (some [])) := by
    rw [← hV]; exact (Below.heap_alloc _ _ _ (by simp)).trans (World.alloc_heap_new w _)
  have hB : Below w.heap.size w V := by
    rw [← hV]; exact ((Below.refl _ w).alloc (Nat.le_refl _) _).alloc (by simp) _
  refine ⟨w.heap.size + 1, [{ target := .collected w.heap.size, args := #[] }], V, { target := .fn (.func gf) lb, args := #[.func (.yield (w.heap.size + 1)) #[] #[]] }, V, gf,
    #[.func (.yield (w.heap.size + 1)) #[] #[]] ++ lb, V, ?_, ?_, ?_, ?_, fun _ => h1, ?_⟩
  · rw [← hV, hlp]; exact run_enterLoop_outer _ _ _ _ _
  · simp only [resolve, hg]; simp [go_sem]
  · intro f' hf'; simp [Target.leads] at hf'; subst hf'; exact hFg
  · simp [invoke, go_sem, eg]
  · refine (hseq (w.heap.size + 1)
      (fun pre W => I pre W ∧ W.heap[w.heap.size + 1]? = some (.loop (lp .ready none)) ∧ W.heap[w.heap.size]? = some (.deferred (some [])))
      (fun pre W => Ix pre W ∧ W.heap[w.heap.size + 1]? = some (.loop (lp .done (some .ret))) ∧ W.heap[w.heap.size]? = some (.deferred (some [])))
      V hB
      (fun pre W1 v hs => ⟨hIs _ _ _ hs.1, (Below.heap_setCell _ _ _ _ (by simp; omega)).trans hs.2.1, (Below.heap_setCell _ _ _ _ (by simp; omega)).trans hs.2.2⟩)
      ?_ ⟨by rw [← hV]; exact hI.alloc _ (hI.alloc _ h0), hL, hD⟩).mono ?_
    · rintro pre x W hx ⟨hi, hl, hk⟩
      have hlt : w.heap.size + 1 < W.heap.size := (Array.getElem?_eq_some_iff.1 hl).1
      have hy := run_yield (P := P) (args := encs x) hl (by rw [hlp]; exact hps x)
      rw [hlp] at hy
      refine ⟨fn, _, assign, body, hy, roundIn_of_wpIn hfn (hassign _ x W _ ⟨_, run_beginRound hl (by rw [hlp]), ?_⟩)⟩
      obtain ⟨U, hU⟩ : ∃ U, W.putObj (w.heap.size + 1) (.loop { lp .ready none with state := .busy }) = U := ⟨_, rfl⟩
      have hl2 : U.heap[w.heap.size + 1]? = some (.loop { lp .ready none with state := .busy }) := by rw [← hU]; exact World.putObj_heap_same hlt
      have hk2 : U.heap[w.heap.size]? = some (.deferred (some [])) := by rw [← hU]; exact (World.putObj_heap_other (by omega)).trans hk
      have hw2 : Below w.heap.size W U := by rw [← hU]; exact belowK_b (w := w) (Nat.le_refl _) _ _ _ _ (by omega) hl rfl rfl
      have hi2 : I pre U := by rw [← hU]; exact hI.putObj _ hi (by omega) hl rfl
      rw [hU]
      refine wpIn_mono (hbody _ pre x _ hx hi2) ?_
      have over : ∀ (jump : Option Code) (X : World), KeepsOthers U X →
          (Instr.endRound (w.heap.size + 1) jump).run P X = .ok (.bool jump.isNone) (X.putObj (w.heap.size + 1) (.loop (lp (if jump.isNone then .ready else .done) jump))) ∧
          X.heap[w.heap.size + 1]? = some (.loop { lp .ready none with state := .busy }) ∧
          (X.putObj (w.heap.size + 1) (.loop (lp (if jump.isNone then .ready else .done) jump))).heap[w.heap.size + 1]? = some (.loop (lp (if jump.isNone then .ready else .done) jump)) ∧
          (X.putObj (w.heap.size + 1) (.loop (lp (if jump.isNone then .ready else .done) jump))).heap[w.heap.size]? = some (.deferred (some [])) := fun jump X hX => by
        have hl3 := hX.same _ _ hl2 rfl
        have hr := run_endRound (P := P) jump hl3
        rw [hlp] at hr ⊢
        exact ⟨hr, by rw [hlp] at hl3; exact hl3, World.putObj_heap_same (Array.getElem?_eq_some_iff.1 hl3).1, (World.putObj_heap_other (by omega)).trans (hX.same _ _ hk2 rfl)⟩
      rintro e a3 X hp
      cases e with
      | normal =>
        obtain ⟨hX, hbX, hiX⟩ := hp
        obtain ⟨hr, hl3, hl4, hk4⟩ := over none X hX
        exact ⟨_, _, hr, .inl ⟨rfl, ⟨hI.putObj _ hiX (by omega) hl3 rfl, hl4, hk4⟩, (hw2.trans hbX).trans (belowK_b (w := w) (Nat.le_refl _) _ _ _ _ (by omega) hl3 rfl rfl)⟩⟩
      | ret =>
        obtain ⟨hX, hiX⟩ := hp
        obtain ⟨hr, hl3, hl4, hk4⟩ := over (some .ret) X hX
        exact ⟨_, _, hr, .inr ⟨rfl, hIx.putObj _ hiX (by omega) hl3 rfl, hl4, hk4⟩⟩
      | exit id => exact hp.elim
      | goto t => exact hp.elim
      | panic ch => exact hp.elim
      | outgrown => exact hp.elim
    · rintro e X ⟨⟨v, rfl⟩, (⟨xs, hS, hi, hl, hk⟩ | ⟨pre, hSp, hi, hl, hk⟩)⟩
      · exact ⟨none, _, by have := run_endLoop (P := P) hl (by rw [hlp]; simp); rw [hlp] at this; exact this, hdone _ xs _ (Nat.le_refl _) hS (hI.putObj _ hi (by omega) hl rfl) ((World.putObj_heap_other (by omega)).trans hk)⟩
      · exact ⟨some .ret, _, by have := run_endLoop (P := P) hl (by rw [hlp]; simp); rw [hlp] at this; exact this, hstop _ pre _ (Nat.le_refl _) hSp (hIx.putObj _ hi (by omega) hl rfl) ((World.putObj_heap_other (by omega)).trans hk)⟩
end Go.WW

namespace Go.WW
open Go.RowKit
inductive Split : ByteArray → List ByteArray → Prop
  | last (s : ByteArray) (h : Lib.indexByte s.data.toList 46 < 0) : Split s [s]
  | more (s : ByteArray) (k : Nat) (ys : List ByteArray) (h : Lib.indexByte s.data.toList 46 = (k : Int)) (hk : k < s.size) (t : Split (s.extract (k + 1) s.size) ys) : Split s (s.extract 0 k :: ys)
def strIn (w : World) (b : Nat) : Nat := match w.cell? ⟨b, 0, none⟩ with | some (.string s) => s.size | _ => 0
theorem strIn_eq {w : World} {b : Nat} {s : ByteArray} (h : w.cell? ⟨b, 0, none⟩ = some (.string s)) : strIn w b = s.size := by unfold strIn; rw [h]
theorem index_ways (s : ByteArray) : Lib.indexByte s.data.toList 46 = -1 ∨ ∃ k : Nat, Lib.indexByte s.data.toList 46 = (k : Int) ∧ k < s.size := by
  have : ∀ l : List UInt8, Lib.indexByte l 46 = -1 ∨ ∃ k : Nat, Lib.indexByte l 46 = (k : Int) ∧ k < l.length := by
    intro l
    induction l with
    | nil => left; rfl
    | cons b l ih =>
      unfold Lib.indexByte
      by_cases hb : (b == 46) = true
      · right; exact ⟨0, by simp [hb], by simp⟩
      · rcases ih with h | ⟨k, h, hk⟩
        · left; simp [hb, h]
        · right; refine ⟨k + 1, ?_, by simp; omega⟩
          have : ¬ ((k : Int) = -1) := by omega
          simp [hb, h, this]
  simpa using this s.data.toList
theorem split_total (n : Nat) : ∀ s : ByteArray, s.size ≤ n → ∃ ys, Split s ys := by
  induction n with
  | zero =>
    intro s h
    rcases index_ways s with hi | ⟨k, hi, hk⟩
    · exact ⟨_, .last s (by rw [hi]; decide)⟩
    · omega
  | succ n ih =>
    intro s h
    rcases index_ways s with hi | ⟨k, hi, hk⟩
    · exact ⟨_, .last s (by rw [hi]; decide)⟩
    · obtain ⟨ys, hys⟩ := ih (s.extract (k + 1) s.size) (by simp; omega)
      exact ⟨_, .more s k ys hi hk hys⟩
end Go.WW
namespace Go.Proofs.YtnpddjmjdpgohaaGreatDoor
open Go.RowKit Go.WW
attribute [local go_sem] Oper.semAt_some
set_option maxRecDepth 100000 in
set_option maxHeartbeats 400000 in
theorem splitSeq1_c (n : Nat) (hn : 1 ≤ n) (m B : Nat) (s : ByteArray) (hs : s.size ≤ lim) (w : World) (hB : m + 2 < B)
  (hc0 : w.cell? ⟨m, 0, none⟩ = some (.string s)) (hc1 : w.cell? ⟨m + 1, 0, none⟩ = some (.string ⟨#[46]⟩)) (hc2 : w.cell? ⟨m + 2, 0, none⟩ = some (.int .i64 0)) (hf : w.frozen? ⟨m, 0, none⟩ = false) :
  SeqCell Fence.wide n Tryz.prog 139 #[.pointer (some ⟨m + 1, 0, none⟩), .pointer (some ⟨m, 0, none⟩), .pointer (some ⟨m + 2, 0, none⟩)] (fun x : ByteArray => #[.string x]) m B (fun x => x.size ≤ lim) (Split s) (fun pre => ∃ ys, Split s (pre ++ ys)) w := by
  intro l J Jx W hW hJs hY h0
  have hs' : s.size ≤ 4294967000 := hs
  refine callsIn_of_wp Tryz.func139 rfl trivial ?_ rfl
  simp only [Tryz.ntmps139, List.size_toArray, List.length_cons, List.length_nil, Nat.reduceAdd, Nat.reduceSub, Array.replicate_succ, Array.replicate_zero, List.push_toArray, List.append_toArray, List.nil_append, List.cons_append]
  have hd1 : W.cell? ⟨m + 1, 0, none⟩ = some (.string ⟨#[46]⟩) := (hW.cell (p := ⟨m + 1, 0, none⟩) (by simp; omega)).trans hc1
  gi_wp2
  have hfW : W.frozen? ⟨m, 0, none⟩ = false := (hW.frozen (p := ⟨m, 0, none⟩) (by simp; omega)).trans hf
  gi_loopw [] (fun wr => ∃ (pre : List ByteArray) (r : ByteArray), wr.cell? ⟨m, 0, none⟩ = some (.string r) ∧ wr.frozen? ⟨m, 0, none⟩ = false ∧ wr.cell? ⟨m + 1, 0, none⟩ = some (.string ⟨#[46]⟩) ∧ wr.cell? ⟨m + 2, 0, none⟩ = some (.int .i64 0) ∧ J pre wr ∧ r.size ≤ s.size ∧ ∀ ys, Split r ys → Split s (pre ++ ys)) (fun wr => strIn wr m)
  case atStart => exact ⟨[], s, (hW.cell (p := ⟨m, 0, none⟩) (by simp; omega)).trans hc0, hfW, hd1, (hW.cell (p := ⟨m + 2, 0, none⟩) (by simp; omega)).trans hc2, h0, Nat.le_refl _, fun ys h => h⟩
  case round =>
    obtain ⟨pre, r, h1, hf1, h2, h3, hJ, hrs, hsp⟩ := hrel
    rcases index_ways r with hi | ⟨k, hi, hk⟩
    · obtain ⟨fn, tmps, assign, body, hy, hR⟩ := hY pre r wr (by unfold lim; omega) hJ
      gi_wp2_with (refine ⟨trivial, ?_⟩; gi_at_call 141; refine (callsIn_wide.2 (Tryz.strings_Index_one _ _ _)).mono ?_; rintro e w' ⟨rfl, rfl⟩; rw [hi])
      refine hR.mono ?_
      have hS : Split s (pre ++ [r]) := hsp _ (.last r (by rw [hi]; decide))
      rintro e W3 (⟨rfl, hJ3, hk3⟩ | ⟨rfl, hJx3⟩)
      · gi_wp2
        go_end0
        exact ⟨⟨_, rfl⟩, .inl ⟨_, hS, hJ3⟩⟩
      · gi_wp2
        go_end0
        exact ⟨⟨_, rfl⟩, .inr ⟨_, ⟨[], by simpa using hS⟩, hJx3⟩⟩
    · have hk' : k ≤ r.size := by omega
      have hr' : r.size ≤ 4294967000 := by omega
      obtain ⟨fn, tmps, assign, body, hy, hR⟩ := hY pre (r.extract 0 k) wr (by unfold lim; simp; omega) hJ
      gi_wp2_with (refine ⟨trivial, ?_⟩; gi_at_call 141; refine (callsIn_wide.2 (Tryz.strings_Index_one _ _ _)).mono ?_; rintro e w' ⟨rfl, rfl⟩; rw [hi])
      refine hR.mono ?_
      rintro e W3 (⟨rfl, hJ3, hk3⟩ | ⟨rfl, hJx3⟩)
      · have g1 := (hk3.cell (p := ⟨m, 0, none⟩) (by simp; omega)).trans h1
        have g2 := (hk3.cell (p := ⟨m + 1, 0, none⟩) (by simp; omega)).trans h2
        have g3 := (hk3.cell (p := ⟨m + 2, 0, none⟩) (by simp; omega)).trans h3
        have gf := (hk3.frozen (p := ⟨m, 0, none⟩) (by simp; omega)).trans hf1
        gi_wp2
        go_roundw
        case rel =>
          refine ⟨pre ++ [r.extract 0 k], r.extract (k + 1) r.size, World.cell?_setCell_same' _ _ _ (by rw [g1]; rfl), by rw [World.frozen?_setCell]; exact gf, ?_, ?_, hJs _ _ _ hJ3, ?_, ?_⟩
          · rw [World.cell?_setCell_other _ _ _ _ (by simp)]; exact g2
          · rw [World.cell?_setCell_other _ _ _ _ (by simp)]; exact g3
          · simp; omega
          · intro ys hy; rw [List.append_assoc]; exact hsp _ (.more r k ys hi hk hy)
        case measure =>
          rw [strIn_eq (World.cell?_setCell_same' _ _ _ (by rw [g1]; rfl)), strIn_eq h1]
          simp; omega
      · gi_wp2
        refine bodyPost_ret (results_none rfl _ _ _) rfl ?_
        obtain ⟨ys, hys⟩ := split_total (r.extract (k + 1) r.size).size _ (Nat.le_refl _)
        exact ⟨⟨_, rfl⟩, .inr ⟨_, ⟨ys, by rw [List.append_assoc]; exact hsp _ (.more r k ys hi hk hys)⟩, hJx3⟩⟩
end Go.Proofs.YtnpddjmjdpgohaaGreatDoor

namespace Go.WW
open Go.RowKit
def labelB (c : UInt8) : Bool := (decide (65 ≤ (c.toNat : Int)) && decide ((c.toNat : Int) ≤ 90)) || (decide (48 ≤ (c.toNat : Int)) && decide ((c.toNat : Int) ≤ 57)) || (c.toNat : Int) == 45
def labelOk (s : ByteArray) : Bool := !s.data.toList.isEmpty && s.data.toList.all labelB
def good : Bool → List UInt8 → Bool
  | p, [] => !p
  | p, c :: l => if dotB c then !p && good true l else labelB c && good false l
theorem dotB_iff (c : UInt8) : dotB c = true ↔ c = 46 := by
  unfold dotB
  constructor
  · intro h; apply UInt8.toNat_inj.1; have : (c.toNat : Int) = 46 := by simpa using h
    simp; omega
  · rintro rfl; rfl
theorem good_plain : ∀ (l : List UInt8) (p : Bool), (∀ c ∈ l, dotB c = false) → good p l = (!(p && l.isEmpty) && l.all labelB) := by
  intro l
  induction l with
  | nil => intro p _; cases p <;> rfl
  | cons c l ih =>
    intro p h
    have h1 : dotB c = false := h c (by simp)
    unfold good
    rw [h1, ih false (fun c hc => h c (by simp [hc]))]
    simp
theorem good_more : ∀ (a b : List UInt8) (p : Bool), (∀ c ∈ a, dotB c = false) → good p (a ++ 46 :: b) = (!(p && a.isEmpty) && a.all labelB && good true b) := by
  intro a b
  induction a with
  | nil => intro p _; cases p <;> simp [good, dotB]
  | cons c l ih =>
    intro p h
    have h1 : dotB c = false := h c (by simp)
    rw [List.cons_append, good, h1, ih false (fun c hc => h c (by simp [hc]))]
    simp [Bool.and_assoc]
theorem index_none : ∀ l : List UInt8, Lib.indexByte l 46 < 0 → ∀ c ∈ l, dotB c = false := by
  intro l
  induction l with
  | nil => intro _ c h; simp at h
  | cons b l ih =>
    intro h c hc
    unfold Lib.indexByte at h
    by_cases hb : (b == 46) = true
    · simp [hb] at h
    · by_cases hm : Lib.indexByte l 46 = -1
      · rcases List.mem_cons.1 hc with rfl | hc
        · cases hd : dotB c
          · rfl
          · exact absurd (by simpa using (dotB_iff c).1 hd) hb
        · exact ih (by omega) c hc
      · have := Lib.indexByte_ge l 46
        simp [hb, hm] at h <;> omega
theorem index_some : ∀ (l : List UInt8) (k : Nat), Lib.indexByte l 46 = (k : Int) → (∀ c ∈ l.take k, dotB c = false) ∧ l = l.take k ++ 46 :: l.drop (k + 1) := by
  intro l
  induction l with
  | nil => intro k h; simp [Lib.indexByte] at h <;> omega
  | cons b l ih =>
    intro k h
    unfold Lib.indexByte at h
    by_cases hb : (b == 46) = true
    · simp [hb] at h
      have : k = 0 := by omega
      subst this
      have : b = 46 := by simpa using hb
      subst this; simp
    · by_cases hm : Lib.indexByte l 46 = -1
      · simp [hb, hm] at h <;> omega
      · have h' : Lib.indexByte l 46 + 1 = (k : Int) := by simpa [hb, hm] using h
        have := Lib.indexByte_ge l 46
        obtain ⟨j, rfl⟩ : ∃ j, k = j + 1 := ⟨k - 1, by omega⟩
        obtain ⟨h1, h2⟩ := ih j (by omega)
        have hbd : dotB b = false := by
          cases hd : dotB b
          · rfl
          · exact absurd (by simpa using (dotB_iff b).1 hd) hb
        refine ⟨?_, ?_⟩
        · intro c hc; simp at hc; rcases hc with rfl | hc
          · exact hbd
          · exact h1 c hc
        · simp only [List.take_succ_cons, List.drop_succ_cons, List.cons_append]; rw [← h2]
theorem split_good {s : ByteArray} {ys : List ByteArray} (h : Split s ys) : ys.all labelOk = good true s.data.toList := by
  induction h with
  | last s h =>
    rw [good_plain _ _ (index_none _ h)]; simp [labelOk]
  | more s k ys h hk t ih =>
    obtain ⟨h1, h2⟩ := index_some _ _ h
    have e1 : (s.extract 0 k).data.toList = s.data.toList.take k := by simp [ByteArray.data_extract]
    have e2 : (s.extract (k + 1) s.size).data.toList = s.data.toList.drop (k + 1) := by
      simp [ByteArray.data_extract]
      exact List.take_of_length_le (by simp)
    rw [e2] at ih
    rw [h2, good_more _ _ _ h1, List.all_cons, ih]
    simp only [labelOk, e1]
    simp
theorem realm_good (s : ByteArray) : ∀ (k i : Nat), i + k = s.size → good (i == 0 || (s.data.toList[i - 1]?).any dotB) (s.data.toList.drop i) = ((List.range' i k).all (realmAt s) && !(k == 0 && (i == 0 || (s.data.toList[i - 1]?).any dotB))) := by
  intro k
  induction k with
  | zero =>
    intro i h
    have : s.data.toList.drop i = [] := List.drop_of_length_le (by have : s.data.toList.length = s.size := by simp
                                                                   omega)
    rw [this]; simp [good]
  | succ k ih =>
    intro i h
    have hl : s.data.toList.length = s.size := by simp
    have hi : i < s.data.toList.length := by omega
    rw [List.drop_eq_getElem_cons hi, List.range'_succ, List.all_cons]
    have ih' := ih (i + 1) (by omega)
    have e0 : (i + 1 == 0 || (s.data.toList[i + 1 - 1]?).any dotB) = dotB (s.data.toList[i]) := by
      rw [Nat.add_sub_cancel, List.getElem?_eq_getElem hi]; simp
    rw [e0] at ih'
    rw [good]
    have er : realmAt s i = (realmB s.data.toList[i] && !(dotB s.data.toList[i] && (i == 0 || i + 1 == s.size || (s.data.toList[i - 1]?).any dotB))) := by
      unfold realmAt; rw [List.getElem?_eq_getElem hi]
    have e3 : (i + 1 == s.size) = (k == 0) := by
      rw [Bool.eq_iff_iff]; simp; omega
    rw [er, e3]
    cases hd : dotB s.data.toList[i]
    · rw [hd] at ih'
      have e4 : labelB s.data.toList[i] = realmB s.data.toList[i] := by
        unfold dotB at hd
        unfold labelB realmB
        rw [hd]
        generalize ((s.data.toList[i]).toNat : Int) = z
        rw [Bool.eq_iff_iff]; simp; omega
      simp only [Bool.false_eq_true, if_false, e4, ih']
      simp
    · rw [hd] at ih'
      have e4 : realmB s.data.toList[i] = true := realmB_yes (.inl (by unfold dotB at hd; simpa using hd))
      simp only [if_true, ih', e4]
      cases k <;> simp [Bool.and_comm]
theorem realmOk_good (s : ByteArray) (hz : sized s = true) : realmOk s = good true s.data.toList := by
  have h1 : 1 ≤ (s.size : Int) := by unfold sized at hz; simp at hz; exact hz.1
  have := realm_good s s.size 0 (by simp)
  simp only [List.drop_zero, BEq.rfl, Bool.true_or] at this
  have hk : (s.size == 0) = false := by simp; intro e; rw [e] at h1; simp at h1
  rw [hk] at this
  rw [this, realmOk, hz, List.range_eq_range']
  simp
theorem realm_split {s : ByteArray} {ys : List ByteArray} (hz : sized s = true) (h : Split s ys) : realmOk s = ys.all labelOk := by
  rw [split_good h, realmOk_good s hz]
theorem realmOk_sized {s : ByteArray} (hz : sized s = false) : realmOk s = false := by rw [realmOk, hz]; simp
end Go.WW
namespace Go.Proofs.YtnpddjmjdpgohaaGreatDoor
open Go.RowKit Go.WW
theorem splitSeq_c (s t : ByteArray) (k : Int) (w : World) : Calls Tryz.prog 123 #[.string s, .string t, .int .i64 k] w fun e w' => e = .returned (.func (.func 139) #[] #[.pointer (some ⟨w.heap.size + 1, 0, none⟩), .pointer (some ⟨w.heap.size, 0, none⟩), .pointer (some ⟨w.heap.size + 2, 0, none⟩)]) ∧
   w' = ((w.alloc (.cells #[.string s] 9)).alloc (.cells #[.string t] 9)).alloc (.cells #[.int .i64 k] 3) := by
  go_enter Tryz.func123, Tryz.ntmps123
  go_wp2
  go_ret
  exact ⟨rfl, rfl⟩
theorem SplitSeq_c (s t : ByteArray) (w : World) : Calls Tryz.prog 102 #[.string s, .string t] w fun e w' => e = .returned (.func (.func 139) #[] #[.pointer (some ⟨w.heap.size + 1, 0, none⟩), .pointer (some ⟨w.heap.size, 0, none⟩), .pointer (some ⟨w.heap.size + 2, 0, none⟩)]) ∧
   w' = ((w.alloc (.cells #[.string s] 9)).alloc (.cells #[.string t] 9)).alloc (.cells #[.int .i64 0] 3) := by
  go_enter Tryz.func102, Tryz.ntmps102
  go_wp2_with (go_at_call 123; refine (splitSeq_c _ _ _ _).mono ?_; rintro e w' ⟨rfl, rfl⟩)
  go_ret
  exact ⟨rfl, rfl⟩
def RealmI (w : World) (pre : List ByteArray) (W : World) : Prop := (W.cell? ⟨w.heap.size, 0, none⟩ = some (.bool false) ∧ W.frozen? ⟨w.heap.size, 0, none⟩ = false) ∧ Below w.heap.size w W ∧ Hid (pre.all labelOk = true)
def RealmX (w : World) (pre : List ByteArray) (W : World) : Prop := (W.cell? ⟨w.heap.size, 0, none⟩ = some (.bool false)) ∧ Below w.heap.size w W ∧ Hid (pre.all labelOk = false)
attribute [local go_sem] Oper.semAt_some
set_option maxRecDepth 100000 in
set_option maxHeartbeats 400000 in
theorem nameRealm_c (s : ByteArray) (w : World) (hs : s.size ≤ lim) : Calls Tryz.prog 65 #[.string s] w fun e w' => e = .returned (.bool (realmOk s)) ∧ Below w.heap.size w w' := by
  refine (callsIn_wide (n := 5)).1 ?_
  have h1 : 1 ≤ 5 := by omega
  refine callsIn_of_wp_marks Tryz.func65 rfl trivial ?_ rfl
  simp only [Tryz.ntmps65, List.size_toArray, List.length_cons, List.length_nil, Nat.reduceAdd, Nat.reduceSub, Array.replicate_succ, Array.replicate_zero, List.push_toArray, List.append_toArray, List.nil_append, List.cons_append]
  cases hz : sized s
  · have HN := Lib.hid (realmOk_sized hz)
    gi_wp2_with (refine ⟨trivial, ?_⟩; gi_at_call 101; refine (callsIn_wide.2 (sized_c _ _ (le_max hs))).mono ?_; rintro e w' ⟨rfl, rfl⟩; rw [hz])
    refine ⟨.bool false, ?_, by rw [HN.out], (Below.refl _ w).alloc (Nat.le_refl _) _⟩
    simp [results, Tryz.f65, go_sem]
  gi_wp2_with (first
    | (refine ⟨trivial, ?_⟩; gi_at_call 101; refine (callsIn_wide.2 (sized_c _ _ (le_max hs))).mono ?_; rintro e w' ⟨rfl, rfl⟩; rw [hz])
    | (refine ⟨trivial, ?_⟩; gi_at_call 102; refine (callsIn_wide.2 (SplitSeq_c _ _ _)).mono ?_; rintro e w' ⟨rfl, rfl⟩))
  obtain ⟨W0, hW0⟩ : ∃ W0, (((w.alloc (.cells #[.bool false] 4)).alloc (.cells #[.string s] 9)).alloc (.cells #[.string ⟨#[46]⟩] 9)).alloc (.cells #[.int .i64 0] 3) = W0 := ⟨_, rfl⟩
  have hsz : W0.heap.size = w.heap.size + 4 := by rw [← hW0]; simp
  have hB0 : Below w.heap.size w W0 := by rw [← hW0]; exact ((((Below.refl _ w).alloc (Nat.le_refl _) _).alloc (by simp) _).alloc (by simp; omega) _).alloc (by simp; omega) _
  have g0 : W0.cell? ⟨w.heap.size, 0, none⟩ = some (.bool false) := by rw [← hW0]; simp [go_sem]
  have f0 : W0.frozen? ⟨w.heap.size, 0, none⟩ = false := by rw [← hW0]; simp [go_sem]
  have g1 : W0.cell? ⟨w.heap.size + 1, 0, none⟩ = some (.string s) := by rw [← hW0]; simp [go_sem]
  have f1 : W0.frozen? ⟨w.heap.size + 1, 0, none⟩ = false := by rw [← hW0]; simp [go_sem]
  have g2 : W0.cell? ⟨w.heap.size + 1 + 1, 0, none⟩ = some (.string ⟨#[46]⟩) := by rw [← hW0]; simp [go_sem]
  have g3 : W0.cell? ⟨w.heap.size + 1 + 2, 0, none⟩ = some (.int .i64 0) := by rw [← hW0]; simp [go_sem]
  rw [hW0]
  refine wpIn_range_cell (α := ByteArray) rfl h1 (gf := 139) (lb := #[.pointer (some ⟨w.heap.size + 1 + 1, 0, none⟩), .pointer (some ⟨w.heap.size + 1, 0, none⟩), .pointer (some ⟨w.heap.size + 1 + 2, 0, none⟩)]) (by simp [go_sem]) trivial (enters_of Tryz.func139 (by kernel_rfl) rfl)
    (splitSeq1_c 4 (by omega) (w.heap.size + 1) W0.heap.size s hs W0 (by omega) g1 g2 g3 f1) (by omega) (fun _ => rfl)
    (RealmI w)
    (RealmX w)
    ?_ ?_ ?_ ⟨⟨g0, f0⟩, hB0, by simp [Hid]⟩
    (fun x => { tmps := #[.string s, undef, .pointer (some ⟨w.heap.size, 0, none⟩), .string x, undef, undef, .string s, .bool true, .bool false, .string s, .func (.func 139) #[] #[.pointer (some ⟨w.heap.size + 1 + 1, 0, none⟩), .pointer (some ⟨w.heap.size + 1, 0, none⟩), .pointer (some ⟨w.heap.size + 1 + 2, 0, none⟩)], .string x, undef, undef, undef, undef, undef, undef, undef, undef, undef, undef, undef, undef, undef, undef, undef, undef, undef, undef, undef, undef, undef, undef, undef, undef, undef, undef, undef, undef, undef], defers := [] }) ?assign ?body ?done ?stop
  · unfold RealmI
    refine OwnFrom.and (Own.from (fun s A B row hs hg hr => ⟨cell_kept hs.1 hg hr, (frozen_kept hs.1 hg hr).trans hs.2⟩) _) (OwnFrom.and (ownFrom_below (Nat.le_refl _) (by omega)) ?_)
    exact fun s A B row hs hg hr => hs
  · rintro pre W v ⟨⟨hc, hf⟩, hB, hall⟩
    exact ⟨⟨by rw [World.cell?_setCell_other _ _ _ _ (by simp)]; exact hc, by rw [World.frozen?_setCell]; exact hf⟩, hB.setCell (p := ⟨w.heap.size + 1, 0, none⟩) (by simp) _, hall⟩
  · unfold RealmX
    refine OwnFrom.and (Own.from (fun s A B row hs hg hr => cell_kept hs hg hr) _) (OwnFrom.and (ownFrom_below (Nat.le_refl _) (by omega)) ?_)
    exact fun s A B row hs hg hr => hs
  all_goals clear hsz
  case assign =>
    intro l x W K hK
    gi_wp2
    exact hK
  case body =>
    rintro l pre x W hx ⟨⟨hc, hf⟩, hB, hall⟩
    have hx' : x.size ≤ 4294967000 := hx
    have hno : labelOk x = false → cellPost W0.heap.size
      (RealmI w)
      (RealmX w) (pre ++ [x]) W Exit.ret { tmps := #[], defers := [] } (W.setCell ⟨w.heap.size, 0, none⟩ (.bool false)) := fun h =>
      ⟨KeepsOthers.setCell _ _ _, World.cell?_setCell_same' _ _ _ (by rw [hc]; rfl), hB.setCell (p := ⟨w.heap.size, 0, none⟩) (Nat.le_refl _) _, by simp [Hid, h]⟩
    cases he : x.toList.isEmpty
    · gi_wp2
      gi_loop [16] (fun i => ∃ k : Nat, k ≤ x.size ∧ i = .int .i64 k ∧ Hid ((x.data.toList.take k).all labelB = true)) (fun i => x.size - (intOf i).toNat)
      case atStart => exact ⟨0, Nat.zero_le _, rfl, by simp [Hid]⟩
      case round =>
        obtain ⟨k, hk, rfl, hall2⟩ := hrel
        by_cases hlt : k < x.size
        · by_cases h45 : (x[k].toNat : Int) = 45
          · have h45' : ((x[k].toNat : Int) != 45) = false := by simp [h45]
            gi_wp2
            all_goals
              go_round
              case rel => exact ⟨k + 1, by omega, by go_num, all_step x k hlt hall2.out (by simp [labelB, h45])⟩
              case measure => simp [intOf]; omega
          · have h45' : ((x[k].toNat : Int) != 45) = true := by simp [h45]
            gi_wp2
            all_goals first
              | (go_round
                 case rel => exact ⟨k + 1, by omega, by go_num, all_step x k hlt hall2.out (by simp [labelB]; omega)⟩
                 case measure => simp [intOf]; omega)
              | exact hno (by rw [labelOk, all_no x k hlt (by simp [labelB]; omega)]; simp)
        · gi_wp2
          refine ⟨KeepsOthers.refl _, Below.refl _ _, ⟨hc, hf⟩, hB, ?_⟩
          have : labelOk x = true := by rw [labelOk, all_end x k (by omega) hall2.out, ← Lib.toList_data, he]; rfl
          have h2 := hall.out
          simp [Hid, this]; simpa using h2
    · gi_wp2
      exact hno (by rw [labelOk, ← Lib.toList_data, he]; rfl)
  case done =>
    rintro D ys W hD hS ⟨⟨hc, hf⟩, hB, hall⟩ hK
    have hok : realmOk s = true := by rw [realm_split hz hS]; exact hall.out
    have hD' : w.heap.size ≤ D := Nat.le_trans hB0.size hD
    gi_wp2
    have hK' := (KeepsOthers.setCell W ⟨w.heap.size, 0, none⟩ (.bool true)).same D _ hK rfl
    refine ⟨by simp, .inl ⟨_, _, rfl, run_takeDeferred hK', ?_⟩⟩
    have hc5 := cell_kept (World.cell?_setCell_same' W ⟨w.heap.size, 0, none⟩ (.bool true) (by rw [hc]; rfl)) (grownBy_putObj' _ D (.deferred none)) (fun r e => by cases e; exact ⟨_, hK', rfl⟩)
    refine ⟨.bool true, ?_, by rw [hok], (hB.setCell (p := ⟨w.heap.size, 0, none⟩) (Nat.le_refl _) _).trans (belowK_b (w := w) (Nat.le_refl _) _ D _ _ hD' hK' rfl rfl)⟩
    simp [results, Tryz.f65, go_sem, hc5]
  case stop =>
    rintro D pre W hD ⟨ys, hS⟩ ⟨hc, hB, hall⟩ hK
    have hok : realmOk s = false := by rw [realm_split hz hS, List.all_append, hall.out]; rfl
    have hD' : w.heap.size ≤ D := Nat.le_trans hB0.size hD
    gi_wp2
    refine ⟨by simp, .inl ⟨_, _, rfl, run_takeDeferred hK, ?_⟩⟩
    have hc5 := cell_kept hc (grownBy_putObj' _ D (.deferred none)) (fun r e => by cases e; exact ⟨_, hK, rfl⟩)
    refine ⟨.bool false, ?_, by rw [hok], hB.trans (belowK_b (w := w) (Nat.le_refl _) _ D _ _ hD' hK rfl rfl)⟩
    simp [results, Tryz.f65, go_sem, hc5]
end Go.Proofs.YtnpddjmjdpgohaaGreatDoor

namespace Go.WW
def idxF (l : List Bool) : Int := if l.all (fun b => b) = true then -1 else (l.findIdx (fun b => !b) : Int)
theorem idxF_no {l : List Bool} (k : Nat) (h : k < l.length) (h1 : (l.take k).all (fun b => b) = true) (h2 : l[k] = false) : idxF l = (k : Int) := by
  have hn : l.all (fun b => b) = false := by rw [List.all_eq_false]; exact ⟨l[k], List.getElem_mem h, by simp [h2]⟩
  rw [idxF, hn]
  have : l.findIdx (fun b => !b) = k := by
    rw [List.findIdx_eq h]
    refine ⟨by simp [h2], fun j hj => ?_⟩
    have := List.all_eq_true.1 h1 (l[j]'(by omega)) (by rw [List.mem_take_iff_getElem]; exact ⟨j, by omega, rfl⟩)
    simpa using this
  simp [this]
theorem idxF_end {l : List Bool} (k : Nat) (h : l.length ≤ k) (h1 : (l.take k).all (fun b => b) = true) : idxF l = -1 := by
  rw [List.take_of_length_le h] at h1; rw [idxF, h1]; rfl
theorem idxF_ge (l : List Bool) : decide (0 ≤ idxF l) = !l.all (fun b => b) := by
  unfold idxF
  cases h : l.all (fun b => b)
  · simp
  · simp
end Go.WW
namespace Go.Proofs.YtnpddjmjdpgohaaGreatDoor
open Go.RowKit Go.WW
set_option maxHeartbeats 1000000 in
theorem indexBool_c (b o cap : Nat) (l : List Bool) (w : World) (hl : BoolsAt w (some ⟨b, o, none⟩) l) (hn : l.length ≤ lim) : Calls Tryz.prog 160 #[.slice (some ⟨b, o, none⟩) l.length cap, .bool false] w fun e w' => e = .returned (.int .i64 (idxF l)) ∧ w = w' := by
  have hn' : l.length ≤ 4294967000 := hn
  go_enter Tryz.func160, Tryz.ntmps160
  go_wp2
  go_loop [8] (fun i => ∃ k : Nat, k ≤ l.length ∧ i = .int .i64 k ∧ Hid ((l.take k).all (fun b => b) = true)) (fun i => l.length - (intOf i).toNat)
  case atStart => exact ⟨0, Nat.zero_le _, rfl, by simp [Hid]⟩
  case round =>
    obtain ⟨k, hk, rfl, hall⟩ := hrel
    by_cases hlt : k < l.length
    · have hc := hl.at k hlt
      have hb : b < w.heap.size := World.block_lt_of_cell? w _ hc
      cases hv : l[k]
      · rw [hv] at hc
        have HN := Lib.hid (idxF_no k hlt hall.out hv)
        go_wp2
        go_ret
        exact ⟨by rw [HN.out]; rfl, rfl⟩
      · rw [hv] at hc
        have HN := Lib.hid (lall_step l k hlt hall.out hv)
        go_wp2
        go_round
        case rel => exact ⟨k + 1, by omega, by go_num, HN.out⟩
        case measure => simp [intOf]; omega
    · have HN := Lib.hid (idxF_end k (by omega) hall.out)
      go_wp2
      go_ret
      exact ⟨by rw [HN.out]; rfl, rfl⟩
theorem containsBool_c (b o cap : Nat) (l : List Bool) (w : World) (hl : BoolsAt w (some ⟨b, o, none⟩) l) (hn : l.length ≤ lim) : Calls Tryz.prog 145 #[.slice (some ⟨b, o, none⟩) l.length cap, .bool false] w fun e w' => e = .returned (.bool (!l.all (fun b => b))) ∧ w = w' := by
  go_enter Tryz.func145, Tryz.ntmps145
  have HN := Lib.hid (idxF_ge l)
  go_wp2_with (go_at_call 160; refine (indexBool_c _ _ _ _ _ hl hn).mono ?_; rintro e w' ⟨rfl, rfl⟩)
  all_goals go_ret
  all_goals exact ⟨by rw [← HN.out]; rfl, rfl⟩
theorem nameAll_c (b o cap : Nat) (l : List Bool) (w : World) (hl : BoolsAt w (some ⟨b, o, none⟩) l) (hn : l.length ≤ lim) : Calls Tryz.prog 130 #[.slice (some ⟨b, o, none⟩) l.length cap] w fun e w' => e = .returned (.bool (l.all (fun b => b))) ∧ w = w' := by
  go_enter Tryz.func130, Tryz.ntmps130
  cases h : l.all (fun b => b)
  · go_wp2_with (go_at_call 145; refine (containsBool_c _ _ _ _ _ hl hn).mono ?_; rintro e w' ⟨rfl, rfl⟩; rw [h])
    go_ret
    exact ⟨rfl, rfl⟩
  · go_wp2_with (go_at_call 145; refine (containsBool_c _ _ _ _ _ hl hn).mono ?_; rintro e w' ⟨rfl, rfl⟩; rw [h])
    go_ret
    exact ⟨rfl, rfl⟩
end Go.Proofs.YtnpddjmjdpgohaaGreatDoor

namespace Go.WW
open Go.RowKit
theorem bools3 {w : World} {b : Nat} (x y z : Bool) (h : w.cell? ⟨b, 0, none⟩ = some (.bool x)) (h1 : w.cell? ⟨b, 1, none⟩ = some (.bool y)) (h2 : w.cell? ⟨b, 2, none⟩ = some (.bool z)) : BoolsAt w (some ⟨b, 0, none⟩) [x, y, z] := by
  refine ⟨by simp [lim], fun i hi => ?_⟩
  match i, hi with
  | 0, _ => exact ⟨_, _, _, rfl, h, x, rfl, rfl⟩
  | 1, _ => exact ⟨_, _, _, rfl, h1, y, rfl, rfl⟩
  | 2, _ => exact ⟨_, _, _, rfl, h2, z, rfl, rfl⟩
theorem prin_head_no {p : Prin} (h : ([decide (1 ≤ (p.parts.length : Int)), decide ((p.parts.length : Int) ≤ 4), realmOk p.realm].all fun b => b) = false) : prinOk p = false := by
  simp only [List.all_cons, List.all_nil, Bool.and_true] at h
  rw [prinOk, Bool.and_assoc, Bool.and_assoc, h]; simp
theorem prin_head {p : Prin} (h : ([decide (1 ≤ (p.parts.length : Int)), decide ((p.parts.length : Int) ≤ 4), realmOk p.realm].all fun b => b) = true) : p.parts.all isPart = true → prinOk p = true := by
  intro h2
  simp only [List.all_cons, List.all_nil, Bool.and_true] at h
  rw [prinOk, Bool.and_assoc, Bool.and_assoc, h, h2]; rfl
theorem prin_head_one {p : Prin} (h : ([decide (1 ≤ (p.parts.length : Int)), decide ((p.parts.length : Int) ≤ 4), realmOk p.realm].all fun b => b) = true) : 0 < p.parts.length := by
  simp at h; omega
end Go.WW
namespace Go.Proofs.YtnpddjmjdpgohaaGreatDoor
open Go.RowKit Go.WW
set_option maxRecDepth 100000 in
set_option maxHeartbeats 2000000 in
theorem nameValid_c (s : Sl) (p : Prin) (w : World) (hp : PrinAt w s p) : Calls Tryz.prog 110 #[.agg (prinC s p)] w fun e w' => e = .returned (.bool (prinOk p)) ∧ Below w.heap.size w w' := by
  have hl : p.parts.length ≤ 4294967000 := hp.1.1
  go_enter Tryz.func110, Tryz.ntmps110
  go_wp2_with fail
  refine wp_region_since (Below.refl _ (w.alloc (.cells (prinC s p) 24))) (by kernel_rfl) (by kernel_rfl) ?_
  intro w1 hb1
  obtain ⟨hc, hf, hr⟩ := bcell hb1
  have hsz : w.heap.size < w1.heap.size := by have := hb1.size; simp at this; omega
  repeat (first | (refine text_skip (by rfl) ?_) | (refine text_look (by rfl) (by rfl) (fun K hK => ?_); go_big_quiet_op; refine hK _ ?_; clear hK K))
  refine text_act (by rfl) (by rfl) (fun K hK => ?_)
  go_wp2_with fail
  refine (nameRealm_c _ _ hp.2).mono ?_
  rintro e w2 ⟨rfl, hb2⟩
  have hb3 := below_step hb1 hb2
  go_wp2_with fail
  refine hK _ _ (since_of hb3) ?_
  clear hK K
  clear hc hf hr hsz
  obtain ⟨hc, hf, hr⟩ := bcell hb3
  have hsz : w.heap.size < w2.heap.size := by have := hb3.size; simp at this; omega
  repeat (first | (refine text_skip (by rfl) ?_) | (refine text_look (by rfl) (by rfl) (fun K hK => ?_); go_big_quiet_op; refine hK _ ?_; clear hK K))
  refine text_act (by rfl) (by rfl) (fun K hK => ?_)
  go_wp2_with fail
  have hb4 := below_new hb3 (.cells #[.bool (decide (1 ≤ (p.parts.length : Int))), .bool (decide ((p.parts.length : Int) ≤ 4)), .bool (realmOk p.realm)] 4)
  refine hK _ _ (since_of hb4) ?_
  clear hK K
  repeat (first | (refine text_skip (by rfl) ?_) | (refine text_look (by rfl) (by rfl) (fun K hK => ?_); go_big_quiet_op; refine hK _ ?_; clear hK K))
  refine text_act (by rfl) (by rfl) (fun K hK => ?_)
  go_wp2_with fail
  refine (nameAll_c _ _ _ [decide (1 ≤ (p.parts.length : Int)), decide ((p.parts.length : Int) ≤ 4), realmOk p.realm] _ (bools3 _ _ _ (by simp [go_sem]) (by simp [go_sem]) (by simp [go_sem])) (by simp [lim])).mono ?_
  rintro e w5 ⟨rfl, rfl⟩
  obtain ⟨c, h3⟩ : ∃ c, ([decide (1 ≤ (p.parts.length : Int)), decide ((p.parts.length : Int) ≤ 4), realmOk p.realm].all fun b => b) = c := ⟨_, rfl⟩
  rw [h3]
  go_wp2_with fail
  refine hK _ _ (since_of hb4) ?_
  clear hK K
  repeat (first | (refine text_skip (by rfl) ?_) | (refine text_look (by rfl) (by rfl) (fun K hK => ?_); go_big_quiet_op; refine hK _ ?_; clear hK K))
  refine text_nil ?_
  have hb5 : Below w.heap.size w (w2.alloc (.cells #[.bool (decide (1 ≤ (p.parts.length : Int))), .bool (decide ((p.parts.length : Int) ≤ 4)), .bool (realmOk p.realm)] 4)) := ((Below.refl _ w).alloc (Nat.le_refl _) _).trans (hb4.mono (by simp))
  cases c
  · have HN := Lib.hid (prin_head_no h3)
    go_wp2_with fail
    go_ret
    exact ⟨by rw [HN.out]; rfl, hb5⟩
  simp only [Bool.not_true]
  have HH := Lib.hid (prin_head h3)
  obtain ⟨sa, scap⟩ := s
  obtain ⟨b, o, ha, -, -⟩ := hp.1.get 0 (prin_head_one h3)
  dsimp only at ha
  subst ha
  clear h3 hc hf hr hsz
  obtain ⟨hc, hf, hr⟩ := bcell hb4
  have hsz : w.heap.size < (w2.alloc (.cells #[.bool (decide (1 ≤ (p.parts.length : Int))), .bool (decide ((p.parts.length : Int) ≤ 4)), .bool (realmOk p.realm)] 4)).heap.size := by have := hb4.size; simp at this ⊢; omega
  have hp5 := hp.later hb5
  generalize w2.alloc (.cells #[.bool (decide (1 ≤ (p.parts.length : Int))), .bool (decide ((p.parts.length : Int) ≤ 4)), .bool (realmOk p.realm)] 4) = w6 at *
  clear hb1 hb2 hb3 hb4
  go_wp2_with fail
  go_loop [22] (fun i => ∃ k : Nat, k ≤ p.parts.length ∧ i = .int .i64 k ∧ Hid ((p.parts.take k).all isPart = true)) (fun i => p.parts.length - (intOf i).toNat)
  case atStart => exact ⟨0, Nat.zero_le _, rfl, by simp [Hid]⟩
  case round =>
    obtain ⟨k, hk, rfl, hall⟩ := hrel
    by_cases hlt : k < p.parts.length
    · obtain ⟨hcc, hss⟩ := hp5.1.at k hlt
      have hbb : b < w6.heap.size := World.block_lt_of_cell? w6 _ hcc
      cases hpart : isPart p.parts[k]
      · have HN := Lib.hid (prin_no k hlt hpart)
        go_wp2_with (go_at_call 131; refine (part_c _ _ (le_max hss)).mono ?_; rintro e w' ⟨rfl, rfl⟩; rw [hpart])
        go_ret
        exact ⟨by rw [HN.out]; rfl, hb5⟩
      · have HN := Lib.hid (lall_step p.parts k hlt hall.out hpart)
        go_wp2_with (go_at_call 131; refine (part_c _ _ (le_max hss)).mono ?_; rintro e w' ⟨rfl, rfl⟩; rw [hpart])
        go_round
        case rel => exact ⟨k + 1, by omega, by go_num, HN.out⟩
        case measure => simp [intOf]; omega
    · have HN := Lib.hid (HH.out (lall_end p.parts k (by omega) hall.out))
      go_wp2_with fail
      go_ret
      exact ⟨by rw [HN.out]; rfl, hb5⟩
end Go.Proofs.YtnpddjmjdpgohaaGreatDoor
