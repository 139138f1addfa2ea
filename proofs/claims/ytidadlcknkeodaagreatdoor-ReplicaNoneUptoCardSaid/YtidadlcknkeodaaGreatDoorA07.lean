/- A part of the proof. -/
import Derived.Test.YtidadlcknkeodaaGreatDoorA06
import Derived.RangeFuncNested
import Derived.RangeFuncBound
import Derived.RangeFuncCalls
import Derived.RangeFuncLeaves
import Derived.Shelf.Abstract
import Derived.Shelf.RegionOpen
import Derived.OwnWalkIn
import Derived.TacticsInMore
import Derived.LoopNIn
import Derived.LoopIn
import Derived.Maps.AppendAt
import Derived.Deep.AppendLies
import Derived.OwnWalk
import Derived.Laws.BytesString
import Derived.Laws.MakeOwn
import Derived.Laws.CopyOwn
import Derived.RangeFuncOwn
import Derived.Lib.Strings
import Derived.Lib.Slices
import Derived.Lib.Walk
import Derived.Lib.Bytealg
set_option maxRecDepth 100000
set_option maxHeartbeats 4000000
/- A region that draws its order, walked once in the order of the text, in a round of a range over a function. -/
namespace Go.WW.TI
open Go.RowKit
section
variable {F : Fence} {P : Program} {ops : Array Oper} {S : World → Prop} {st : Oper → Bool} {Q : Act → World → Prop}
def wpText (F : Fence) (P : Program) (ops : Array Oper) (st : Oper → Bool) (S : World → Prop) (Q : Act → World → Prop) : List Oper → Act → World → Prop
  | [], a, w => Q a w
  | o :: rest, a, w =>
    if Region.wanted o (yielded ops a.tmps) then
      if st o then ∃ v, (∀ w', S w' → (execOp a.eval o).run P w' = .ok (.value v) w') ∧ wpText F P ops st S Q rest (a.put o.dst v) w
      else o.wpIn F 0 P a w (fun a' w' => S w' ∧ wpText F P ops st S Q rest a' w') never
    else wpText F P ops st S Q rest (a.put o.dst undef) w
def isDefer (o : Oper) : Bool := match o.op with | .defer _ => true | _ => false
def noDefer (l : List Oper) : Bool := l.all fun o => !isDefer o
theorem wp_mono_Q {o : Oper} {a : Act} {w : World} {K : Act → World → Prop} {Q' : Exit → Act → World → Prop} (h : o.wpIn F 0 P a w K never) : o.wpIn F 0 P a w K Q' := by
  unfold Oper.wpIn at *
  refine ⟨h.1, ?_⟩
  have h := h.2
  generalize (o.semAt F.round a.eval).run P w = r at *
  cases r with
  | ok n w' =>
    cases n <;> simp only [Oper.uponIn] at h ⊢ <;>
      first
        | exact h
        | exact ⟨h.1, CallsIn.mono h.2 (fun e w'' he => by cases e <;> first | exact he | exact he.elim | (obtain ⟨_, _, he⟩ := he; exact he.elim))⟩
        | exact ⟨h.1, RoundIn.mono h.2 (fun e w'' he => by cases e <;> first | exact he | exact he.elim | (obtain ⟨_, _, he⟩ := he; exact he.elim))⟩
  | halt x w' => cases x <;> simp only [Oper.uponIn, never] at h ⊢
theorem wp_form {o : Oper} {a : Act} {w : World} {K : Act → World → Prop} (h : o.wpIn F 0 P a w K never) :
    o.wpIn F 0 P a w (fun a' w' => (∃ u ds, a' = ({ a with defers := ds } : Act).put o.dst u) ∧ K a' w') never := by
  unfold Oper.wpIn at *
  refine ⟨h.1, ?_⟩
  have h := h.2
  generalize (o.semAt F.round a.eval).run P w = r at *
  cases r with
  | ok n w' =>
    cases n <;> simp only [Oper.uponIn] at h ⊢ <;>
      first
        | exact ⟨⟨_, a.defers, rfl⟩, h⟩
        | exact ⟨⟨_, _, rfl⟩, h⟩
        | exact ⟨h.1, CallsIn.mono h.2 (fun e w'' he => by cases e <;> first | exact ⟨⟨_, a.defers, rfl⟩, he⟩ | exact he)⟩
        | exact ⟨h.1, RoundIn.mono h.2 (fun e w'' he => by cases e <;> first | exact ⟨⟨_, a.defers, rfl⟩, he⟩ | exact he)⟩
        | exact ⟨h.1, RowsIn.mono h.2 (fun _ _ he => ⟨⟨_, a.defers, rfl⟩, he⟩)⟩
        | exact h
  | halt x w' => cases x <;> simp only [Oper.uponIn, never] at h ⊢
theorem wp_exists (hd : F.depth = none) {o : Oper} {a : Act} {w : World} {K : Act → World → Prop} (h : o.wpIn F 0 P a w K never) : ∃ a' w', K a' w' := by
  have hroom : ∀ n, F.room n := fun n d e => by rw [hd] at e; cases e
  unfold Oper.wpIn at *
  have h := h.2
  generalize (o.semAt F.round a.eval).run P w = r at *
  cases r with
  | ok n w' =>
    cases n <;> simp only [Oper.uponIn] at h <;>
      first
        | exact ⟨_, _, h⟩
        | (obtain ⟨e, w'', fr, hR, _⟩ := h.2.2 [] (hroom _)
           cases e with
           | returned v => exact ⟨_, _, hR⟩
           | panicked c => exact hR.elim
           | outgrown => obtain ⟨_, _, hR⟩ := hR; exact hR.elim)
        | (obtain ⟨e, w'', hR, _⟩ := h.2.2 default [] (hroom _)
           cases e with
           | returned v => exact ⟨_, _, hR⟩
           | panicked c => exact hR.elim
           | outgrown => obtain ⟨_, _, hR⟩ := hR; exact hR.elim)
        | (obtain ⟨v, w'', hR, _⟩ := h.2 default [] (hroom _); exact ⟨_, _, hR⟩)
        | exact h.elim
  | halt x w' => cases x <;> simp only [Oper.uponIn, never] at h
theorem wp_put (hF : ∀ f, F.fn f) {o : Oper} {a : Act} {w : World} {K : Act → World → Prop} {dst : Option Tmp} {v : Value} (hnd : ∀ c, o.op ≠ .defer c) (hs : ∀ cs b, o.op ≠ .select cs b)
    (h1 : ∀ d, dst = some d → d ∉ o.looksAt ops) (h2 : ∀ d, dst = some d → o.dst ≠ some d) :
    o.wpIn F 0 P (a.put dst v) w K never ↔ o.wpIn F 0 P a w (fun a' w' => K (a'.put dst v) w') never := by
  unfold Oper.wpIn
  rw [Oper.semAt_eq _ _ _ hnd, Oper.semAt_eq _ _ _ hnd, execOp_put o hs a dst v h1]
  generalize (execOp a.eval o).run P w = r
  have hc : ∀ (b : Act) u, (b.put dst v).put o.dst u = (b.put o.dst u).put dst v := fun b u => Act.put_comm b v u h2
  have hd : ∀ d, ({ a.put dst v with defers := d :: (a.put dst v).defers } : Act) = ({ a with defers := d :: a.defers } : Act).put dst v := fun d => Act.put_defers a dst v d
  refine and_congr ⟨fun _ f _ => hF f, fun _ f _ => hF f⟩ ?_
  cases r with
  | ok n w' =>
    cases n <;> simp only [Oper.uponIn, hc, hd]
  | halt x w' => cases x <;> simp only [Oper.uponIn]
theorem text_cons (o : Oper) (rest : List Oper) (a : Act) (w : World) : wpText F P ops st S Q (o :: rest) a w =
    (if Region.wanted o (yielded ops a.tmps) then
      if st o then ∃ v, (∀ w', S w' → (execOp a.eval o).run P w' = .ok (.value v) w') ∧ wpText F P ops st S Q rest (a.put o.dst v) w
      else o.wpIn F 0 P a w (fun a' w' => S w' ∧ wpText F P ops st S Q rest a' w') never
    else wpText F P ops st S Q rest (a.put o.dst undef) w) := rfl
theorem text_mono {l : List Oper} {Q' : Act → World → Prop} (h : ∀ a w, Q a w → Q' a w) : ∀ {a w}, wpText F P ops st S Q l a w → wpText F P ops st S Q' l a w := by
  induction l with
  | nil => exact fun hh => h _ _ hh
  | cons o l ih =>
    intro a w hh
    rw [text_cons] at *
    split
    · rename_i hw
      simp only [hw, if_true] at hh
      split
      · rename_i hs
        simp only [hs, if_true] at hh
        obtain ⟨v, h1, h2⟩ := hh
        exact ⟨v, h1, ih h2⟩
      · rename_i hs
        simp only [hs] at hh
        exact Oper.wpIn_mono (fun a' w' ⟨x, y⟩ => ⟨x, ih y⟩) hh
    · rename_i hw
      simp only [hw] at hh
      exact ih hh
theorem cons_mono {o : Oper} {M M' : List Oper} {a : Act} {w : World} (hS : S w) (h : ∀ a' w', S w' → wpText F P ops st S Q M a' w' → wpText F P ops st S Q M' a' w')
    (hh : wpText F P ops st S Q (o :: M) a w) : wpText F P ops st S Q (o :: M') a w := by
  rw [text_cons] at *
  split
  · rename_i hw
    simp only [hw, if_true] at hh
    split
    · rename_i hs
      simp only [hs, if_true] at hh
      obtain ⟨v, h1, h2⟩ := hh
      exact ⟨v, h1, h _ _ hS h2⟩
    · rename_i hs
      simp only [hs] at hh
      exact Oper.wpIn_mono (fun a' w' ⟨x, y⟩ => ⟨x, h _ _ x y⟩) hh
  · rename_i hw
    simp only [hw] at hh
    exact h _ _ hS hh
theorem text_swap (hF : ∀ f, F.fn f) (hdp : F.depth = none) {x o : Oper} {L : List Oper} {a : Act} {w : World} (hxd : ∀ c, x.op ≠ .defer c) (hod : ∀ c, o.op ≠ .defer c) (hx : ∀ cs b, x.op ≠ .select cs b) (ho : ∀ cs b, o.op ≠ .select cs b)
    (hap : x.apart ops o = true) (hst : st x = true ∨ st o = true) (h : wpText F P ops st S Q (x :: o :: L) a w) : wpText F P ops st S Q (o :: x :: L) a w := by
  obtain ⟨h1, h2, h3⟩ := Oper.apart_spec hap
  have h2' : ∀ d, o.dst = some d → x.dst ≠ some d := fun d hd hxd => h2 d hxd hd
  have wo : ∀ (b : Act) v, Region.wanted o (yielded ops (b.put x.dst v).tmps) = Region.wanted o (yielded ops b.tmps) := fun b v => wanted_put o b x.dst v h1
  have wx : ∀ (b : Act) v, Region.wanted x (yielded ops (b.put o.dst v).tmps) = Region.wanted x (yielded ops b.tmps) := fun b v => wanted_put x b o.dst v h3
  have eo : ∀ (b : Act) v, execOp (b.put x.dst v).eval o = execOp b.eval o := fun b v => execOp_put o ho b x.dst v h1
  have ex : ∀ (b : Act) v, execOp (b.put o.dst v).eval x = execOp b.eval x := fun b v => execOp_put x hx b o.dst v h3
  have hc : ∀ (b : Act) v u, (b.put x.dst v).put o.dst u = (b.put o.dst u).put x.dst v := fun b v u => Act.put_comm b v u h2
  rw [text_cons] at h ⊢
  by_cases hwx : Region.wanted x (yielded ops a.tmps) = true
  · rw [if_pos hwx] at h
    by_cases hsx : st x = true
    · rw [if_pos hsx] at h
      obtain ⟨v, hv, h⟩ := h
      rw [text_cons, wo, eo] at h
      by_cases hwo : Region.wanted o (yielded ops a.tmps) = true
      · rw [if_pos hwo] at h ⊢
        by_cases hso : st o = true
        · rw [if_pos hso] at h ⊢
          obtain ⟨u, hu, h⟩ := h
          refine ⟨u, hu, ?_⟩
          rw [text_cons, wx, if_pos hwx, if_pos hsx, ex]
          exact ⟨v, hv, by rw [← hc]; exact h⟩
        · rw [if_neg hso] at h ⊢
          have h' := wp_form ((wp_put hF hod ho h1 h2).1 h)
          refine Oper.wpIn_mono ?_ h'
          rintro a' w' ⟨⟨u, ds, rfl⟩, hS', h⟩
          refine ⟨hS', ?_⟩
          rw [text_cons, wx, show Region.wanted x (yielded ops ({ a with defers := ds } : Act).tmps) = true from hwx, if_pos rfl, if_pos hsx, ex]
          exact ⟨v, hv, h⟩
      · rw [if_neg hwo] at h ⊢
        rw [text_cons, wx, if_pos hwx, if_pos hsx, ex]
        exact ⟨v, hv, by rw [← hc]; exact h⟩
    · have hso : st o = true := hst.resolve_left hsx
      rw [if_neg hsx] at h
      have h' := wp_form h
      by_cases hwo : Region.wanted o (yielded ops a.tmps) = true
      · rw [if_pos hwo, if_pos hso]
        have key : ∀ a' w', ((∃ u ds, a' = ({ a with defers := ds } : Act).put x.dst u) ∧ S w' ∧ wpText F P ops st S Q (o :: L) a' w') →
            ∃ v, (∀ w', S w' → (execOp a.eval o).run P w' = .ok (.value v) w') ∧ S w' ∧ wpText F P ops st S Q L (a'.put o.dst v) w' := by
          rintro a' w' ⟨⟨u, ds, rfl⟩, hS', hh⟩
          rw [text_cons, wo, show Region.wanted o (yielded ops ({ a with defers := ds } : Act).tmps) = true from hwo, if_pos rfl, if_pos hso, eo] at hh
          obtain ⟨v, hv, hh⟩ := hh
          exact ⟨v, hv, hS', hh⟩
        obtain ⟨a1, w1, h1'⟩ := wp_exists hdp h'
        obtain ⟨v, hv, _⟩ := key _ _ h1'
        refine ⟨v, hv, ?_⟩
        rw [text_cons, wx, if_pos hwx, if_neg hsx, wp_put hF hxd hx h3 h2']
        refine Oper.wpIn_mono ?_ h'
        intro a' w' hh
        obtain ⟨v', hv', hS', hh⟩ := key _ _ hh
        have e : v' = v := by
          have := (hv' _ hS').symm.trans (hv _ hS')
          simpa using this
        subst e
        exact ⟨hS', hh⟩
      · rw [if_neg hwo, text_cons, wx, if_pos hwx, if_neg hsx, wp_put hF hxd hx h3 h2']
        refine Oper.wpIn_mono ?_ h'
        rintro a' w' ⟨⟨u, ds, rfl⟩, hS', hh⟩
        rw [text_cons, wo, show Region.wanted o (yielded ops ({ a with defers := ds } : Act).tmps) = false from by simpa using hwo, if_neg (by simp)] at hh
        exact ⟨hS', hh⟩
  · rw [if_neg hwx] at h
    rw [text_cons, wo, eo] at h
    by_cases hwo : Region.wanted o (yielded ops a.tmps) = true
    · rw [if_pos hwo] at h ⊢
      by_cases hso : st o = true
      · rw [if_pos hso] at h ⊢
        obtain ⟨u, hu, h⟩ := h
        refine ⟨u, hu, ?_⟩
        rw [text_cons, wx, if_neg hwx, ← hc]
        exact h
      · rw [if_neg hso] at h ⊢
        have h' := wp_form ((wp_put hF hod ho h1 h2).1 h)
        refine Oper.wpIn_mono ?_ h'
        rintro a' w' ⟨⟨u, ds, rfl⟩, hS', h⟩
        refine ⟨hS', ?_⟩
        rw [text_cons, wx, show Region.wanted x (yielded ops ({ a with defers := ds } : Act).tmps) = false from by simpa using hwx, if_neg (by simp)]
        exact h
    · rw [if_neg hwo] at h ⊢
      rw [text_cons, wx, if_neg hwx, ← hc]
      exact h
theorem text_front (hF : ∀ f, F.fn f) (hdp : F.depth = none) {o : Oper} {L2 : List Oper} (hod : ∀ c, o.op ≠ .defer c) (ho : ∀ cs b, o.op ≠ .select cs b) : ∀ (L1 : List Oper), (∀ x ∈ L1, ((∀ c, x.op ≠ .defer c) ∧ ∀ cs b, x.op ≠ .select cs b) ∧ x.apart ops o = true ∧ (st x = true ∨ st o = true)) →
    ∀ (a : Act) (w : World), S w → wpText F P ops st S Q (L1 ++ o :: L2) a w → wpText F P ops st S Q (o :: (L1 ++ L2)) a w
  | [], _, _, _, _, h => h
  | x :: L1, hall, a, w, hS, h => by
    have hx := hall x (by simp)
    refine text_swap hF hdp hx.1.1 hod hx.1.2 ho hx.2.1 hx.2.2 ?_
    exact cons_mono hS (fun a' w' hS' hh => text_front hF hdp hod ho L1 (fun y hy => hall y (by simp [hy])) a' w' hS' hh) h
theorem text_any (hF : ∀ f, F.fn f) (hdp : F.depth = none) (hnd : ∀ (i : Nat) (o : Oper), ops[i]? = some o → ∀ c, o.op ≠ .defer c) {m : Array (List Nat)} (hok : TextOk st ops m) {Q' : Exit → Act → World → Prop} (hQ : ∀ a w, Q a w → Q' .normal a w) :
    ∀ (n : Nat) (L : List Nat) (listed : Array Bool) (a : Act) (w : World), L.length = n → L.Pairwise (· < ·) → listed.size = ops.size → (∀ j, j ∈ L ↔ j < ops.size ∧ listed.getD j true = false) →
      (∀ k o, ops[k]? = some o → listed.getD k false = true → ∀ e ∈ o.after, Region.binds .any e = true → listed.getD e.on false = true) →
      S w → wpText F P ops st S Q (L.filterMap (ops[·]?)) a w → wpAnyIn F 0 P .any ops Q' n listed a w := by
  intro n
  induction n with
  | zero =>
    intro L listed a w hn _ hsz hL _ _ h
    have : L = [] := List.eq_nil_of_length_eq_zero hn
    subst this
    refine ⟨?_, hQ _ _ h⟩
    cases hr : Region.ready .any ops listed with
    | nil => rfl
    | cons i r =>
      have hi : i ∈ Region.ready .any ops listed := by rw [hr]; simp
      obtain ⟨h0, o, ho, _⟩ := mem_ready.1 hi
      have := (hL i).2 ⟨(Array.getElem?_eq_some_iff.1 ho).1, h0⟩
      cases this
  | succ n ih =>
    intro L listed a w hn hsort hsz hL hdown hS h
    refine ⟨fun hr => ?_, fun i hi => ?_⟩
    · exfalso
      cases L with
      | nil => simp at hn
      | cons j L =>
        obtain ⟨hj, hjl⟩ := (hL j).1 (by simp)
        have hoj : ops[j]? = some ops[j] := by simp [hj]
        have : j ∈ Region.ready .any ops listed := by
          refine mem_ready.2 ⟨hjl, _, hoj, fun e he hb => ?_⟩
          have hlt := hok.back j _ hoj e he hb
          have hnot : e.on ∉ j :: L := by
            intro hmem
            rcases List.mem_cons.1 hmem with h1 | h1
            · omega
            · have := (List.pairwise_cons.1 hsort).1 _ h1; omega
          have h2 : listed.getD e.on true ≠ false := fun hf => hnot ((hL e.on).2 ⟨by omega, hf⟩)
          have hes : e.on < listed.size := by omega
          simp [hes] at h2 ⊢; exact h2
        rw [hr] at this; cases this
    · obtain ⟨h0, o, ho, hall⟩ := mem_ready.1 hi
      have his : i < ops.size := (Array.getElem?_eq_some_iff.1 ho).1
      have hiL : i ∈ L := (hL i).2 ⟨his, h0⟩
      obtain ⟨L1, L2, rfl⟩ := List.append_of_mem hiL
      have hsort' := List.pairwise_append.1 hsort
      have hlt1 : ∀ x ∈ L1, x < i := fun x hx => hsort'.2.2 x hx i (by simp)
      have hgt2 : ∀ x ∈ L2, i < x := fun x hx => (List.pairwise_cons.1 hsort'.2.1).1 x hx
      rw [List.filterMap_append, List.filterMap_cons_some ho] at h
      have hfront := text_front hF hdp (P := P) (ops := ops) (S := S) (st := st) (Q := Q) (hnd i o ho) (Region.noSelect_spec hok.sel i o · · ho) (L1.filterMap (ops[·]?)) (fun x hx => by
        obtain ⟨k, hk, hox⟩ := List.mem_filterMap.1 hx
        have hkl := ((hL k).1 (by simp [hk])).2
        have hnl : ¬ listed.getD k false = true := fun hf => by rw [getD_true_of_false hf] at hkl; cases hkl
        refine ⟨⟨hnd k x hox, (Region.noSelect_spec hok.sel k x · · hox)⟩, ?_⟩
        rcases hok.pair i o ho k (hlt1 k hk) x hox with ⟨e, he, hb, rfl⟩ | ⟨hap, hor⟩
        · exact absurd (hall e he hb) hnl
        · refine ⟨hap, ?_⟩
          rcases hor with h1 | h1 | h1
          · exact .inl h1
          · exact .inr h1
          · exact absurd (preds_listed hok hdown i o ho hall k h1) hnl) a w hS h
      have hrest : ∀ a' w', S w' → wpText F P ops st S Q (L1.filterMap (ops[·]?) ++ L2.filterMap (ops[·]?)) a' w' → wpAnyIn F 0 P .any ops Q' n (listed.setIfInBounds i true) a' w' := by
        intro a' w' hS' hh
        rw [← List.filterMap_append] at hh
        refine ih (L1 ++ L2) (listed.setIfInBounds i true) a' w' ?_ ?_ (by simpa using hsz) ?_ ?_ hS' hh
        · simp at hn ⊢; omega
        · exact List.pairwise_append.2 ⟨hsort'.1, (List.pairwise_cons.1 hsort'.2.1).2, fun x hx y hy => hsort'.2.2 x hx y (by simp [hy])⟩
        · intro j
          by_cases hji : j = i
          · subst hji
            constructor
            · intro hm
              exfalso
              rcases List.mem_append.1 hm with h1 | h1
              · have := hlt1 _ h1; omega
              · have := hgt2 _ h1; omega
            · rintro ⟨_, hf⟩
              have : j < listed.size := by omega
              simp [this] at hf
          · rw [getD_set_ne true (Ne.symm hji), ← hL j]
            simp [hji]
        · intro k ok hk hkl e he hb
          by_cases hki : k = i
          · subst hki
            rw [ho] at hk; cases hk
            exact getD_set_true (hall e he hb)
          · rw [getD_set_ne false (Ne.symm hki)] at hkl
            exact getD_set_true (hdown k ok hk hkl e he hb)
      unfold wpOpIn
      simp only [ho]
      rw [text_cons] at hfront
      split
      · rename_i hw
        rw [if_pos hw] at hfront
        by_cases hs : st o = true
        · rw [if_pos hs] at hfront
          obtain ⟨v, hv, hh⟩ := hfront
          unfold Oper.wpIn
          refine ⟨fun f _ => hF f, ?_⟩
          rw [Oper.semAt_eq _ _ _ (hnd i o ho), hv w hS]
          exact hrest _ _ hS hh
        · rw [if_neg hs] at hfront
          exact wp_mono_Q (Oper.wpIn_mono (fun a' w' hh => hrest a' w' hh.1 hh.2) hfront)
      · rename_i hw
        rw [if_neg hw] at hfront
        exact ⟨fun f _ => hF f, hrest _ _ hS hfront⟩
theorem wpIn_of_wp {l : Nat} {o : Oper} {a : Act} {w : World} {K : Act → World → Prop} (hnd : ∀ c, o.op ≠ .defer c) (h : o.wp P a w K never) : o.wpIn (Fence.wide.inRound l) 0 P a w K never := by
  unfold Oper.wpIn
  refine ⟨fun f _ => trivial, ?_⟩
  rw [Oper.semAt_eq _ _ _ hnd]
  unfold Oper.wp at h
  generalize (execOp a.eval o).run P w = r at *
  cases r with
  | ok n w' =>
    cases n <;> simp only [Oper.upon, Oper.uponIn] at h ⊢ <;>
      first
        | exact h
        | exact ⟨fun e => (by cases e), (callsIn_wide (n := 0)).2 h⟩
        | exact ⟨fun e => (by cases e), fun c cs _ => let ⟨v, w'', hR, hs⟩ := h c cs; ⟨v, w'', hR, stepsIn_wide.2 hs⟩⟩
        | exact h.elim
  | halt x w' => cases x <;> simp only [Oper.upon, never] at h ⊢
theorem text_nil {a : Act} {w : World} (h : Q a w) : wpText F P ops st S Q [] a w := h
theorem text_skip {o : Oper} {rest : List Oper} {a : Act} {w : World} (hw : Region.wanted o (yielded ops a.tmps) = false) (h : wpText F P ops st S Q rest (a.put o.dst undef) w) : wpText F P ops st S Q (o :: rest) a w := by
  rw [text_cons, if_neg (by simp [hw])]; exact h
theorem text_look {o : Oper} {rest : List Oper} {a : Act} {w : World} (hw : Region.wanted o (yielded ops a.tmps) = true) (hs : looksN o = true)
    (h : ∀ K : Act → Prop, (∀ a', wpText F P ops looksN S Q rest a' w → K a') → o.quiet P a S K) : wpText F P ops looksN S Q (o :: rest) a w := by
  rw [text_cons, if_pos hw, if_pos hs]
  obtain ⟨v, hv, hh⟩ := h _ (fun _ x => x)
  refine ⟨v, fun w' hw' => ?_, hh⟩
  have := hv w' hw'
  unfold Oper.quietAt at this
  rcases looksN_value (P := P) hs a.eval w' with ⟨u, w'', e⟩ | ⟨x, w'', e⟩
  · rw [e] at this ⊢
    obtain ⟨rfl, rfl⟩ := this
    rfl
  · rw [e] at this
    exact this.elim
theorem text_act {l : Nat} {o : Oper} {rest : List Oper} {a : Act} {w : World} (hw : Region.wanted o (yielded ops a.tmps) = true) (hs : looksN o = false) (hnd : isDefer o = false)
    (h : ∀ K : Act → World → Prop, (∀ a' w', S w' → wpText (Fence.wide.inRound l) P ops looksN S Q rest a' w' → K a' w') → o.wp P a w K never) : wpText (Fence.wide.inRound l) P ops looksN S Q (o :: rest) a w := by
  rw [text_cons, if_pos hw, if_neg (by simp [hs])]
  exact wpIn_of_wp (fun c hc => by simp [isDefer, hc] at hnd) (h _ (fun _ _ x y => ⟨x, y⟩))
end
end Go.WW.TI
/- A range over a function whose rounds may write into some blocks S and into what was made since the mark c1; the iterator has blocks of its own, between the world at its call and c1. -/
namespace Go.WW
open Go.RowKit
def span (m c : Nat) : Nat → Prop := fun b => m ≤ b ∧ b < c
def SeqB {α : Type} (P : Program) (g : Nat) (lb : Array Value) (S : Nat → Prop) (xs : List α) (V : Nat → α → Array Value → World → World → Prop) (w : World) : Prop :=
  ∀ (l : Nat) (J Jx : Nat → Nat → World → Prop) (W : World), Below w.heap.size w W → w.heap.size ≤ l → l < W.heap.size →
    (∀ c1 W1, W.heap.size ≤ c1 → c1 ≤ W1.heap.size → Below W.heap.size W W1 → J c1 0 W1) →
    (∀ c1 k W1 W2, J c1 k W1 → But (span W.heap.size c1) W1 W2 → J c1 k W2) →
    (∀ c1 k W1 W2, Jx c1 k W1 → But (span W.heap.size c1) W1 W2 → Jx c1 k W2) →
    (∀ c1 k x v W0 W1, xs[k]? = some x → J c1 k W0 → But (span W.heap.size c1) W0 W1 → V c1 x v W0 W1 → W.heap.size ≤ c1 → c1 ≤ W0.heap.size → YieldAt Fence.wide 0 P l v W1 fun e W' =>
      But (fun b => (S b ∨ b = l) ∨ c1 ≤ b) W1 W' ∧ ((e = .returned (.bool true) ∧ J c1 (k + 1) W') ∨ (e = .returned (.bool false) ∧ Jx c1 (k + 1) W'))) →
    Calls P g (#[.func (.yield l) #[] #[]] ++ lb) W fun e W' => (∃ v, e = .returned v) ∧ ((∃ c1, J c1 xs.length W') ∨ (∃ c1 k, Jx c1 k W'))
def roundB (S : Nat → Prop) (I : Nat → Nat → World → Prop) (Ix : Code → Nat → Nat → World → Prop) (c1 k : Nat) (U : World) : Exit → Act → World → Prop
  | .normal, _, X => But (fun b => S b ∨ c1 ≤ b) U X ∧ I c1 k X
  | .ret, _, X => But (fun b => S b ∨ c1 ≤ b) U X ∧ Ix .ret c1 k X
  | .exit id, _, X => But (fun b => S b ∨ c1 ≤ b) U X ∧ Ix (.exit id) c1 k X
  | .goto t, _, X => But (fun b => S b ∨ c1 ≤ b) U X ∧ Ix (.goto t) c1 k X
  | _, _, _ => False
theorem But.putObj {w : World} {l : Nat} (o : Obj) : But (one l) w (w.putObj l o) := putObj_but o
end Go.WW
/- A loop over an iterator that makes blocks of its own as it goes: the mark between the iterator's blocks and the rounds' may rise. Turned out of RB. -/
namespace Go.WW
open Go.RowKit
def SeqM {α : Type} (P : Program) (g : Nat) (lb : Array Value) (S : Nat → Prop) (xs : List α) (V : Nat → α → Array Value → World → World → Prop) (w : World) : Prop :=
  ∀ (l : Nat) (J Jx : Nat → Nat → World → Prop) (W : World), Below w.heap.size w W → w.heap.size ≤ l → l < W.heap.size →
    (∀ c1 W1, W.heap.size ≤ c1 → c1 ≤ W1.heap.size → Below W.heap.size W W1 → J c1 0 W1) →
    (∀ c1 k W1 W2, J c1 k W1 → But (span W.heap.size c1) W1 W2 → J c1 k W2) →
    (∀ c1 c2 k W1, J c1 k W1 → c1 ≤ c2 → c2 ≤ W1.heap.size → J c2 k W1) →
    (∀ c1 k W1 W2, Jx c1 k W1 → But (span W.heap.size c1) W1 W2 → Jx c1 k W2) →
    (∀ c1 k x v W0 W1, xs[k]? = some x → J c1 k W0 → But (span W.heap.size c1) W0 W1 → V c1 x v W0 W1 → W.heap.size ≤ c1 → c1 ≤ W0.heap.size → YieldAt Fence.wide 0 P l v W1 fun e W' =>
      But (fun b => (S b ∨ b = l) ∨ c1 ≤ b) W1 W' ∧ ((e = .returned (.bool true) ∧ J c1 (k + 1) W') ∨ (e = .returned (.bool false) ∧ Jx c1 (k + 1) W'))) →
    Calls P g (#[.func (.yield l) #[] #[]] ++ lb) W fun e W' => (∃ v, e = .returned v) ∧ ((∃ c1, J c1 xs.length W') ∨ (∃ c1 k, Jx c1 k W'))
theorem wp_range_mono {α : Type} {P : Program} {g : Operand} {ps : Array Tmp} {assign body : Code} {Q : Exit → Act → World → Prop} {a : Act} {w : World}
    {gf : Nat} {lb : Array Value} (hg : a.eval g = .func (.func gf) #[] lb) (eg : ∀ args w, (callFunc gf args).run P w = .ok (.enter gf args) w)
    {S : Nat → Prop} (hS : ∀ b, S b → b < w.heap.size) {xs : List α} {V : Nat → α → Array Value → World → World → Prop} (hps : ∀ c1 x v W0 W, V c1 x v W0 W → v.size = ps.size)
    (hseq : SeqM P gf lb S xs V w) (I : Nat → Nat → World → Prop) (Ix : Code → Nat → Nat → World → Prop)
    (hI0 : ∀ c1 W, w.heap.size < c1 → c1 ≤ W.heap.size → Below w.heap.size w W → I c1 0 W)
    (hIs : ∀ c1 k W W', I c1 k W → But (span w.heap.size c1) W W' → I c1 k W')
    (hIm : ∀ c1 c2 k W, I c1 k W → c1 ≤ c2 → c2 ≤ W.heap.size → I c2 k W)
    (hIxs : ∀ c c1 k W W', Ix c c1 k W → But (span w.heap.size c1) W W' → Ix c c1 k W')
    (hround : ∀ c1 k x v W0 W, xs[k]? = some x → V c1 x v W0 W → I c1 k W0 → But (span w.heap.size c1) W0 W → w.heap.size + 1 < c1 → c1 ≤ W0.heap.size → (∃ lp, W.heap[w.heap.size + 1]? = some (.loop lp)) →
      assign.wpIn (Fence.wide.inRound (w.heap.size + 1)) 0 P (Exit.then (fun a' W' => Below W.heap.size W W' ∧ ∀ U, But (one (w.heap.size + 1)) W' U → body.wpIn (Fence.wide.inRound (w.heap.size + 1)) 0 P (roundB S I Ix c1 (k + 1) U) a' U) (fun _ _ _ => False))
        { tmps := (ps.zip v).foldl (fun t (p, v) => t.setIfInBounds p v) a.tmps, defers := [] } W)
    (hdone : ∀ c1 W, I c1 xs.length W → W.heap[w.heap.size]? = some (.deferred (some [])) → Q .normal { a with defers := { target := .collected w.heap.size, args := #[] } :: a.defers } W)
    (hstop : ∀ c c1 k W, Ix c c1 k W → W.heap[w.heap.size]? = some (.deferred (some [])) → c.wp P Q { a with defers := { target := .collected w.heap.size, args := #[] } :: a.defers } W) :
    (Code.rangeFunc g ps assign body).wp P Q a w := by
  refine (wpIn_wide (n := 0)).1 (wpIn_rangeFunc ?_)
  intro fn hfn
  show ∃ l mark w₁ d w₁' f args w₂, _
  obtain ⟨lp, hlp⟩ : ∃ lp : LoopState → Option Code → Loop, lp = fun st pe => { state := st, pending := pe, fn, tmps := a.tmps, params := ps, assign, body, defers := w.heap.size } := ⟨_, rfl⟩
  obtain ⟨A, hA⟩ : ∃ A, (w.alloc (.deferred (some []))).alloc (.loop (lp .ready none)) = A := ⟨_, rfl⟩
  have hL : A.heap[w.heap.size + 1]? = some (.loop (lp .ready none)) := by
    have := World.alloc_heap_new (w.alloc (.deferred (some []))) (.loop (lp .ready none))
    rw [World.size_alloc, hA] at this; exact this
  have hD : A.heap[w.heap.size]? = some (.deferred (some [])) := by
    rw [← hA]; exact (Below.heap_alloc _ _ _ (by simp)).trans (World.alloc_heap_new w _)
  have hB : Below w.heap.size w A := by
    rw [← hA]; exact ((Below.refl _ w).alloc (Nat.le_refl _) _).alloc (by simp) _
  have hsz : A.heap.size = w.heap.size + 1 + 1 := by rw [← hA]; simp
  refine ⟨w.heap.size + 1, [{ target := .collected w.heap.size, args := #[] }], A, { target := .fn (.func gf) lb, args := #[.func (.yield (w.heap.size + 1)) #[] #[]] }, A, gf,
    #[.func (.yield (w.heap.size + 1)) #[] #[]] ++ lb, A, ?_, ?_, ?_, ?_, fun e => (by cases e), ?_⟩
  · rw [← hA, hlp]; exact run_enterLoop_outer _ _ _ _ _
  · simp only [resolve, hg]; simp [go_sem]
  · intro f' hf'; trivial
  · simp [invoke, go_sem, eg]
  · have wide : ∀ {c1 b : Nat}, span A.heap.size c1 b → span w.heap.size c1 b := fun h => ⟨by have := h.1; omega, h.2⟩
    have keep : ∀ {c1 b : Nat} {X Y : World}, But (span A.heap.size c1) X Y → b < A.heap.size → b < X.heap.size → Y.heap[b]? = X.heap[b]? := fun h hb hx => h.block _ hx (fun e => by have := e.1; omega)
    refine (callsIn_wide (n := 0)).2 (Calls.mono (hseq (w.heap.size + 1)
      (fun c1 k W => w.heap.size + 1 < c1 ∧ I c1 k W ∧ W.heap[w.heap.size + 1]? = some (.loop (lp .ready none)) ∧ W.heap[w.heap.size]? = some (.deferred (some [])))
      (fun c1 k W => w.heap.size + 1 < c1 ∧ ∃ c, Ix c c1 k W ∧ W.heap[w.heap.size + 1]? = some (.loop (lp .done (some c))) ∧ W.heap[w.heap.size]? = some (.deferred (some [])))
      A hB (by omega) (by omega) ?_ ?_ ?_ ?_ ?_) ?_)
    · intro c1 W1 h1 h2 hb
      exact ⟨by omega, hI0 c1 W1 (by omega) h2 (hB.trans (hb.mono hB.size)), (hb.block _ (by omega)).trans hL, (hb.block _ (by omega)).trans hD⟩
    · rintro c1 k W1 W2 ⟨hc, hi, hl, hk⟩ hb
      exact ⟨hc, hIs _ _ _ _ hi (hb.mono fun _ => wide), (keep hb (by omega) (Array.getElem?_eq_some_iff.1 hl).1).trans hl, (keep hb (by omega) (Array.getElem?_eq_some_iff.1 hk).1).trans hk⟩
    · rintro c1 c2 k W1 ⟨hc, hi, hl, hk⟩ h1 h2
      exact ⟨by omega, hIm _ _ _ _ hi h1 h2, hl, hk⟩
    · rintro c1 k W1 W2 ⟨hc, c, hi, hl, hk⟩ hb
      exact ⟨hc, c, hIxs _ _ _ _ _ hi (hb.mono fun _ => wide), (keep hb (by omega) (Array.getElem?_eq_some_iff.1 hl).1).trans hl, (keep hb (by omega) (Array.getElem?_eq_some_iff.1 hk).1).trans hk⟩
    · rintro c1 k x v W0 W hx ⟨_, hi, hl0, hk0⟩ hbs hv hc0 hc1
      have hl := (keep hbs (by omega) (Array.getElem?_eq_some_iff.1 hl0).1).trans hl0
      have hk := (keep hbs (by omega) (Array.getElem?_eq_some_iff.1 hk0).1).trans hk0
      have hlt : w.heap.size + 1 < W.heap.size := (Array.getElem?_eq_some_iff.1 hl).1
      have hy := run_yield (P := P) (args := v) hl (by rw [hlp]; exact hps _ _ _ _ _ hv)
      rw [hlp] at hy
      refine ⟨fn, _, assign, body, hy, roundIn_of_wpIn hfn (wpIn_mono (hround c1 k x v W0 W hx hv hi (hbs.mono fun _ => wide) (by omega) hc1 ⟨_, hl⟩) ?_)⟩
      rintro e a' W' he
      cases e with
      | normal =>
        obtain ⟨hbW, hbody⟩ := he
        have hl1 := (hbW.block _ hlt).trans hl
        have hk1 := (hbW.block _ (by omega)).trans hk
        refine ⟨_, run_beginRound hl1 (by rw [hlp]), ?_⟩
        obtain ⟨U, hU⟩ : ∃ U, W'.putObj (w.heap.size + 1) (.loop { lp .ready none with state := .busy }) = U := ⟨_, rfl⟩
        have hbU : But (one (w.heap.size + 1)) W' U := by rw [← hU]; exact But.putObj _
        have hlU : U.heap[w.heap.size + 1]? = some (.loop { lp .ready none with state := .busy }) := by rw [← hU]; exact World.putObj_heap_same (Array.getElem?_eq_some_iff.1 hl1).1
        have hkU : U.heap[w.heap.size]? = some (.deferred (some [])) := (hbU.block _ (Array.getElem?_eq_some_iff.1 hk1).1 (not_one (by omega))).trans hk1
        rw [hU]
        refine wpIn_mono (hbody U hbU) ?_
        have hbWU : But (fun b => (S b ∨ b = w.heap.size + 1) ∨ c1 ≤ b) W U := (But.of_below hbW).trans (hbU.mono fun _ e => .inl (.inr e))
        have over : ∀ (jump : Option Code) (X : World), But (fun b => S b ∨ c1 ≤ b) U X →
            (Instr.endRound (w.heap.size + 1) jump).run P X = .ok (.bool jump.isNone) (X.putObj (w.heap.size + 1) (.loop (lp (if jump.isNone then .ready else .done) jump))) ∧
            (X.putObj (w.heap.size + 1) (.loop (lp (if jump.isNone then .ready else .done) jump))).heap[w.heap.size + 1]? = some (.loop (lp (if jump.isNone then .ready else .done) jump)) ∧
            (X.putObj (w.heap.size + 1) (.loop (lp (if jump.isNone then .ready else .done) jump))).heap[w.heap.size]? = some (.deferred (some [])) ∧
            But (fun b => (S b ∨ b = w.heap.size + 1) ∨ c1 ≤ b) W (X.putObj (w.heap.size + 1) (.loop (lp (if jump.isNone then .ready else .done) jump))) ∧
            But (span w.heap.size c1) X (X.putObj (w.heap.size + 1) (.loop (lp (if jump.isNone then .ready else .done) jump))) := fun jump X hX => by
          have hl3 := (hX.block _ (Array.getElem?_eq_some_iff.1 hlU).1 (fun e => e.elim (fun e => by have := hS _ e; omega) (fun e => by omega))).trans hlU
          have hk3 := (hX.block _ (Array.getElem?_eq_some_iff.1 hkU).1 (fun e => e.elim (fun e => by have := hS _ e; omega) (fun e => by omega))).trans hkU
          have hr := run_endRound (P := P) jump hl3
          have hp : But (one (w.heap.size + 1)) X (X.putObj (w.heap.size + 1) (.loop (lp (if jump.isNone then .ready else .done) jump))) := But.putObj _
          refine ⟨?_, World.putObj_heap_same (Array.getElem?_eq_some_iff.1 hl3).1, (hp.block _ (Array.getElem?_eq_some_iff.1 hk3).1 (not_one (by omega))).trans hk3, (hbWU.trans (hX.mono fun _ e => e.imp .inl id)).trans (hp.mono fun _ e => .inl (.inr e)), hp.mono fun b e => ?_⟩
          · rw [hlp] at hr ⊢; exact hr
          · obtain rfl : b = w.heap.size + 1 := e
            exact ⟨by omega, by omega⟩
        rintro e a3 X hp
        cases e with
        | normal =>
          obtain ⟨hX, hiX⟩ := hp
          obtain ⟨hr, hl4, hk4, hbX, hbX2⟩ := over none X hX
          exact ⟨_, _, hr, hbX, .inl ⟨rfl, by omega, hIs _ _ _ _ hiX hbX2, hl4, hk4⟩⟩
        | ret =>
          obtain ⟨hX, hiX⟩ := hp
          obtain ⟨hr, hl4, hk4, hbX, hbX2⟩ := over (some .ret) X hX
          exact ⟨_, _, hr, hbX, .inr ⟨rfl, by omega, .ret, hIxs _ _ _ _ _ hiX hbX2, hl4, hk4⟩⟩
        | exit id =>
          obtain ⟨hX, hiX⟩ := hp
          obtain ⟨hr, hl4, hk4, hbX, hbX2⟩ := over (some (.exit id)) X hX
          exact ⟨_, _, hr, hbX, .inr ⟨rfl, by omega, .exit id, hIxs _ _ _ _ _ hiX hbX2, hl4, hk4⟩⟩
        | goto t =>
          obtain ⟨hX, hiX⟩ := hp
          obtain ⟨hr, hl4, hk4, hbX, hbX2⟩ := over (some (.goto t)) X hX
          exact ⟨_, _, hr, hbX, .inr ⟨rfl, by omega, .goto t, hIxs _ _ _ _ _ hiX hbX2, hl4, hk4⟩⟩
        | panic ch => exact hp.elim
        | outgrown => exact hp.elim
      | ret => exact he.elim
      | exit id => exact he.elim
      | goto t => exact he.elim
      | panic ch => exact he.elim
      | outgrown => exact he.elim
    · have fin : ∀ {c1 : Nat} {X : World} (o : Obj), w.heap.size + 1 < c1 → But (span w.heap.size c1) X (X.putObj (w.heap.size + 1) o) := fun o h => (But.putObj o).mono fun b e => by
        obtain rfl : b = w.heap.size + 1 := e
        exact ⟨by omega, h⟩
      rintro e X ⟨⟨v, rfl⟩, (⟨c1, hc, hi, hl, hk⟩ | ⟨c1, k, hc, c, hi, hl, hk⟩)⟩
      · refine ⟨none, _, by have := run_endLoop (P := P) hl (by rw [hlp]; simp); rw [hlp] at this; exact this, hdone c1 _ (hIs _ _ _ _ hi (fin _ hc)) ((World.putObj_heap_other (by omega)).trans hk)⟩
      · refine ⟨some c, _, by have := run_endLoop (P := P) hl (by rw [hlp]; simp); rw [hlp] at this; exact this, (wpIn_wide (n := 0)).2 (hstop c c1 k _ (hIxs _ _ _ _ _ hi (fin _ hc)) ((World.putObj_heap_other (by omega)).trans hk))⟩
end Go.WW
/- Regions in a round in which a load of one type acts. -/
namespace Go.WW.TI
open Go.RowKit
def looksT (T : TypeId) (o : Oper) : Bool := looksN o && (match o.op with | .load t _ => t != T | _ => true)
section
variable {F : Fence} {P : Program} {ops : Array Oper} {S : World → Prop} {T : TypeId} {Q : Act → World → Prop}
end
end Go.WW.TI
/- Slices that a call makes itself, row by row; what depends on some blocks alone. -/
namespace Go.WW
open Go.RowKit
/-! ### Rows of k cells, one behind the other -/
def flat (rows : List (Array Value)) : List Value := rows.flatMap (·.toList)
theorem flat_cons (r : Array Value) (rows : List (Array Value)) : flat (r :: rows) = r.toList ++ flat rows := rfl
theorem flat_append (a b : List (Array Value)) : flat (a ++ b) = flat a ++ flat b := by simp [flat]
theorem flat_length {k : Nat} : ∀ {rows : List (Array Value)}, (∀ r ∈ rows, r.size = k) → (flat rows).length = rows.length * k
  | [], _ => by simp [flat]
  | r :: rows, h => by
    rw [flat_cons, List.length_append, flat_length (fun x hx => h x (by simp [hx])), List.length_cons, Nat.succ_mul]
    have := h r (by simp)
    simp [this]; omega
theorem flat_get {k : Nat} : ∀ {rows : List (Array Value)} (_ : ∀ r ∈ rows, r.size = k) (i j : Nat) (hi : i < rows.length) (_ : j < k), (flat rows)[i * k + j]? = rows[i][j]?
  | [], _, i, j, hi, _ => by simp at hi
  | r :: rows, h, 0, j, _, hj => by
    have := h r (by simp)
    rw [flat_cons, Nat.zero_mul, Nat.zero_add, List.getElem?_append_left (by simp; omega)]
    simp
  | r :: rows, h, i + 1, j, hi, hj => by
    have hr := h r (by simp)
    rw [flat_cons, List.getElem?_append_right (by simp [Nat.succ_mul]; omega)]
    have e : (i + 1) * k + j - r.toList.length = i * k + j := by simp [Nat.succ_mul]; omega
    rw [e, flat_get (fun x hx => h x (by simp [hx])) i j (by simpa using hi) hj]
    simp
structure Own (w : World) (base : Nat) (e : TypeId) (k : Nat) (s : Sl) (rows : List (Array Value)) : Prop where
  own : w.ownsRow base e k (.slice s.a rows.length s.cap) rows.length (flat rows)
  size : ∀ r ∈ rows, r.size = k
def Sl.blk (s : Sl) : Option Nat := s.a.map (·.block)
theorem ownBlock_slice (s : Sl) (n : Nat) : Value.ownBlock (.slice s.a n s.cap) = s.blk := by
  unfold Sl.blk Value.ownBlock; cases s.a <;> rfl
theorem Own.nil (w : World) (base : Nat) (e : TypeId) (k : Nat) : Own w base e k ⟨none, 0⟩ [] := ⟨World.ownsRow_nil w base e k, by simp⟩
theorem Own.base {w : World} {base : Nat} {e : TypeId} {k : Nat} {s : Sl} {rows : List (Array Value)} (h : Own w base e k s rows) {g : Nat} (hg : s.blk = some g) : base ≤ g ∧ g < w.heap.size :=
  h.own.lt g (by rw [ownBlock_slice]; exact hg)
theorem Own.kept {w w' : World} {base : Nat} {e : TypeId} {k : Nat} {s : Sl} {rows : List (Array Value)} (h : Own w base e k s rows) (hb : ∀ g, s.blk = some g → w'.heap[g]? = w.heap[g]?) : Own w' base e k s rows := by
  refine ⟨⟨h.own.1, ?_⟩, h.size⟩
  rcases h.own.2 with hn | ⟨g, cap, cur, hv, h1, hg, rest⟩
  · exact .inl hn
  · refine .inr ⟨g, cap, cur, hv, h1, ?_, rest⟩
    have ha : s.a = some ⟨g, 0, none⟩ := by injection hv
    rw [hb g (by simp [Sl.blk, ha])]; exact hg
theorem Own.row {w : World} {base : Nat} {e : TypeId} {k : Nat} {s : Sl} {rows : List (Array Value)} (h : Own w base e k s rows) (i : Nat) (hi : i < rows.length) :
    ∃ g, s.a = some ⟨g, 0, none⟩ ∧ s.blk = some g ∧ row? w g (0 + i * k) k = some rows[i] := by
  rcases h.own.2 with ⟨_, hn⟩ | ⟨g, cap, cur, hv, h1, hg, hle, _, hsz, htake⟩
  · omega
  · have ha : s.a = some ⟨g, 0, none⟩ := by injection hv
    refine ⟨g, ha, by simp [Sl.blk, ha], ?_⟩
    unfold row?
    rw [hg, Nat.zero_add]
    have h2 : i * k + k ≤ rows.length * k := by rw [← Nat.succ_mul]; exact Nat.mul_le_mul_right _ hi
    have h3 : rows.length * k ≤ cur.size := by rw [hsz]; exact Nat.mul_le_mul_right _ hle
    show (if i * k + k ≤ cur.size then _ else _) = _
    rw [if_pos (by omega)]
    congr 1
    have hrs := h.size rows[i] (List.getElem_mem hi)
    apply Array.ext_getElem?
    intro j
    by_cases hj : j < k
    · rw [Array.getElem?_extract]
      have e1 : j < min (i * k + k) cur.size - i * k := by omega
      rw [if_pos e1, ← flat_get h.size i j hi hj, ← htake, List.getElem?_take, if_pos (by omega)]
      simp
    · rw [Array.getElem?_eq_none (by simp; omega), Array.getElem?_eq_none (by omega)]
/-! ### The source of an append -/
structure SrcRows (w : World) (k : Nat) (A : Option Addr) (rows : List (Array Value)) : Prop where
  size : ∀ r ∈ rows, r.size = k
  one : ∀ r ∈ rows, allOne r = true
  at_ : ∀ i (hi : i < rows.length), ∃ b o, A = some ⟨b, o, none⟩ ∧ row? w b (o + i * k) k = some rows[i]
theorem SrcRows.cells {w : World} {k : Nat} {A : Option Addr} {rows : List (Array Value)} (h : SrcRows w k A rows) (hk : 0 < k) (hn : 0 < rows.length) :
    ∃ b o, A = some ⟨b, o, none⟩ ∧ ∀ j u, (flat rows)[j]? = some u → w.cell? ((⟨b, o, none⟩ : Addr).add j) = some u := by
  obtain ⟨b, o, ha, _⟩ := h.at_ 0 hn
  refine ⟨b, o, ha, fun j u hu => ?_⟩
  have hj : j < rows.length * k := by have := (List.getElem?_eq_some_iff.1 hu).1; rwa [flat_length h.size] at this
  have hi : j / k < rows.length := by rw [Nat.div_lt_iff_lt_mul hk]; exact hj
  have hr : j % k < k := Nat.mod_lt _ hk
  have e : j / k * k + j % k = j := Nat.div_add_mod' j k
  obtain ⟨b', o', ha', hrow⟩ := h.at_ (j / k) hi
  rw [ha] at ha'; cases ha'
  have hg := flat_get h.size (j / k) (j % k) hi hr
  rw [e, hu] at hg
  have hc := row?_cell hrow (j % k) hr
  rw [Nat.add_assoc, e] at hc
  have hadd : (⟨b, o, none⟩ : Addr).add j = ⟨b, o + j, none⟩ := by unfold Addr.add; split <;> simp_all
  rw [hadd, hc, ← hg]
theorem SrcRows.vals {w : World} {k : Nat} {A : Option Addr} {rows : List (Array Value)} (h : SrcRows w k A rows) : ∀ u ∈ flat rows, u.oneCell' = true := by
  intro u hu
  obtain ⟨r, hr, hur⟩ := List.mem_flatMap.1 hu
  have := h.one r hr
  unfold allOne at this
  rw [Array.all_eq_true'] at this
  exact this u (by simpa using hur)
theorem SrcRows.new (w : World) (cs : Array Value) (t : TypeId) (k : Nat) (hs : cs.size = k) (h1 : allOne cs = true) : SrcRows (w.alloc (.cells cs t)) k (some ⟨w.heap.size, 0, none⟩) [cs] :=
  ⟨by simpa using hs, by simpa using h1, fun i hi => ⟨_, _, rfl, by
    obtain rfl : i = 0 := by simp at hi; exact hi
    rw [row?_alloc_at rfl, Nat.zero_add, Nat.zero_mul, subRow_whole hs]; rfl⟩⟩
structure ElemOk (P : Program) (t e : TypeId) (k bytes : Nat) : Prop where
  und : P.underlying t = some (.slice e)
  info : ∃ i z, P.info? e = some i ∧ i.zero = some z ∧ i.size = k ∧ i.bytes = bytes ∧ z.cells.size = k
  pos : 0 < k
def elemB (x : Option (Option Nat × Nat × Nat)) (k bytes : Nat) : Bool := match x with | some (some a, b, c) => a == k && b == k && c == bytes && decide (0 < k) | _ => false
theorem ElemOk.of {P : Program} {t e : TypeId} {k bytes : Nat} (hu : P.underlying t = some (.slice e)) (h : elemB ((P.info? e).map fun i => (i.zero.map (·.cells.size), i.size, i.bytes)) k bytes = true) : ElemOk P t e k bytes := by
  unfold elemB at h
  cases hi : P.info? e with
  | none => rw [hi] at h; cases h
  | some i =>
    rw [hi] at h
    simp only [Option.map_some] at h
    cases hz : i.zero with
    | none => rw [hz] at h; cases h
    | some z =>
      rw [hz] at h
      simp only [Option.map_some, Bool.and_eq_true, beq_iff_eq, decide_eq_true_eq] at h
      exact ⟨hu, ⟨i, z, hi, hz, h.1.1.2, h.1.2, h.1.1.1⟩, h.2⟩
theorem run_append_nil {P : Program} {t ty e : TypeId} {k bytes : Nat} (he : ElemOk P t e k bytes) (w : World) {base : Nat} {s : Sl} {rows : List (Array Value)} (h : Own w base e k s rows) (c : Nat) :
    (Builtin.append_ #[t, t] ty #[.slice s.a rows.length s.cap, .slice none 0 c]).run P w = .ok (.slice s.a rows.length s.cap) w := by
  obtain ⟨i, z, hi, hz, h1, h2, h3⟩ := he.info
  rcases h.own.2 with ⟨hv, hn⟩ | ⟨g, cap, cur, hv, _, _, hnc, _⟩
  · rw [hv]; simp [Builtin.append_, run_underlying he.und, sizeOf, typeInfo, hi, Builtin.lenOf, Builtin.firstCells]
  · rw [hv]; simp [Builtin.append_, run_underlying he.und, sizeOf, typeInfo, hi, Builtin.lenOf, Builtin.firstCells, hnc, storeCells]
theorem run_append_rows {P : Program} {t ty e : TypeId} {k bytes : Nat} (he : ElemOk P t e k bytes) (w : World) {base : Nat} {s : Sl} {rows : List (Array Value)} (h : Own w base e k s rows) {A : Option Addr} {news : List (Array Value)} (c : Nat)
    (hs : SrcRows w k A news) (hlen : (rows.length + news.length) * (bytes + 1) ≤ 140737488355328) (hbase : base ≤ w.heap.size) :
    ∃ s' w', (Builtin.append_ #[t, t] ty #[.slice s.a rows.length s.cap, .slice A news.length c]).run P w = .ok (.slice s'.a (rows.length + news.length) s'.cap) w' ∧ Own w' base e k s' (rows ++ news) ∧ w.grownBy w' s.blk ∧ (s'.blk = s.blk ∨ s'.blk = some w.heap.size) := by
  have hl1 : rows.length + news.length ≤ maxLen := by
    have : rows.length + news.length ≤ (rows.length + news.length) * (bytes + 1) := Nat.le_mul_of_pos_right _ (by omega)
    unfold maxLen; omega
  have hl2 : (rows.length + news.length) * bytes ≤ 140737488355328 := Nat.le_trans (Nat.mul_le_mul_left _ (by omega)) hlen
  have main : ∀ b o, A = some ⟨b, o, none⟩ → (∀ j u, (flat news)[j]? = some u → w.cell? ((⟨b, o, none⟩ : Addr).add j) = some u) →
      ∃ s' w', (Builtin.append_ #[t, t] ty #[.slice s.a rows.length s.cap, .slice A news.length c]).run P w = .ok (.slice s'.a (rows.length + news.length) s'.cap) w' ∧ Own w' base e k s' (rows ++ news) ∧ w.grownBy w' s.blk ∧ (s'.blk = s.blk ∨ s'.blk = some w.heap.size) := by
    intro b o hA hcells
    obtain ⟨i, z, hi, hz, h1, h2, h3⟩ := he.info
    obtain ⟨v', w', hrun, hown, hg, _, hb⟩ := run_append_own_at (P := P) w base t ty e i z k bytes he.und hi hz h1 h2 h3 he.pos (.slice s.a rows.length s.cap) rows.length (flat rows) h.own ⟨b, o, none⟩ news.length c (flat news) (flat_length hs.size) hcells hs.vals hl1 hl2 hbase
    rw [ownBlock_slice] at hg hb
    have hform : ∃ s' : Sl, v' = .slice s'.a (rows.length + news.length) s'.cap := by
      rcases hown.2 with ⟨hv, hn⟩ | ⟨g, cap, cur, hv, _⟩
      · exact ⟨⟨none, 0⟩, by rw [hv, hn]⟩
      · exact ⟨⟨some ⟨g, 0, none⟩, cap⟩, hv⟩
    obtain ⟨s', rfl⟩ := hform
    rw [ownBlock_slice] at hb
    refine ⟨s', w', by rw [hA]; exact hrun, ⟨by rw [List.length_append, flat_append]; exact hown, fun r hr => ?_⟩, hg, hb⟩
    rcases List.mem_append.1 hr with hr | hr
    · exact h.size r hr
    · exact hs.size r hr
  rcases Nat.eq_zero_or_pos news.length with hn | hn
  · obtain rfl : news = [] := List.eq_nil_of_length_eq_zero hn
    cases A with
    | none =>
      refine ⟨s, w, ?_, by simpa using h, World.grownBy.refl w _, .inl rfl⟩
      exact run_append_nil he w h c
    | some a =>
      obtain ⟨i, z, hi, hz, h1, h2, h3⟩ := he.info
      obtain ⟨v', w', hrun, hown, hg, _, hb⟩ := run_append_own_at (P := P) w base t ty e i z k bytes he.und hi hz h1 h2 h3 he.pos (.slice s.a rows.length s.cap) rows.length (flat rows) h.own a 0 c [] (by simp) (by simp) (by simp) hl1 hl2 hbase
      rw [ownBlock_slice] at hg hb
      have hform : ∃ s' : Sl, v' = .slice s'.a (rows.length + 0) s'.cap := by
        rcases hown.2 with ⟨hv, hn⟩ | ⟨g, cap, cur, hv, _⟩
        · exact ⟨⟨none, 0⟩, by rw [hv, hn]⟩
        · exact ⟨⟨some ⟨g, 0, none⟩, cap⟩, hv⟩
      obtain ⟨s', rfl⟩ := hform
      rw [ownBlock_slice] at hb
      exact ⟨s', w', hrun, ⟨by simpa using hown, by simpa using h.size⟩, hg, hb⟩
  · obtain ⟨b, o, hA, hc⟩ := hs.cells he.pos hn
    exact main b o hA hc
theorem wp_append_rows {P : Program} {o : Oper} {a : Act} {w : World} {K : Act → World → Prop} {Q : Exit → Act → World → Prop} (x y : Operand) (t : TypeId) (ho : o.op = .call { callee := .builtin .append, args := #[x, y], argTypes := #[t, t] })
    {e : TypeId} {k bytes : Nat} (he : ElemOk P t e k bytes) {base : Nat} {s : Sl} {rows : List (Array Value)} (hx : a.eval x = .slice s.a rows.length s.cap) (h : Own w base e k s rows) {A : Option Addr} {news : List (Array Value)} {m c : Nat}
    (hy : a.eval y = .slice A m c) (hm : m = news.length) (hs : SrcRows w k A news) (hlen : (rows.length + news.length) * (bytes + 1) ≤ 140737488355328) (hbase : base ≤ w.heap.size)
    (hK : ∀ (s' : Sl) w', Own w' base e k s' (rows ++ news) → w.grownBy w' s.blk → (s'.blk = s.blk ∨ s'.blk = some w.heap.size) → K (a.put o.dst (.slice s'.a (rows.length + news.length) s'.cap)) w') : o.wp P a w K Q := by
  subst hm
  obtain ⟨s', w', hrun, h2, h3, h4⟩ := run_append_rows (ty := o.type) he w h c hs hlen hbase
  unfold Oper.wp execOp
  simp only [ho, resolve, invoke, builtin, Sem.run_bind, Sem.run_pure, Result.andThen_ok, List.map_toArray, List.map_cons, List.map_nil, hx, hy, hrun]
  exact hK s' w' h2 h3 h4
theorem wpList_append_rows {P : Program} {ops : Array Oper} {rest : List Oper} {o : Oper} {a : Act} {w : World} {Q : Exit → Act → World → Prop} (hgd : o.guard = none) (x y : Operand) (t : TypeId) (ho : o.op = .call { callee := .builtin .append, args := #[x, y], argTypes := #[t, t] })
    {e : TypeId} {k bytes : Nat} (he : ElemOk P t e k bytes) {base : Nat} {s : Sl} {rows : List (Array Value)} (hx : a.eval x = .slice s.a rows.length s.cap) (h : Own w base e k s rows) {A : Option Addr} {news : List (Array Value)} {m c : Nat}
    (hy : a.eval y = .slice A m c) (hm : m = news.length) (hs : SrcRows w k A news) (hlen : (rows.length + news.length) * (bytes + 1) ≤ 140737488355328) (hbase : base ≤ w.heap.size)
    (hK : ∀ (s' : Sl) w', Own w' base e k s' (rows ++ news) → w.grownBy w' s.blk → (s'.blk = s.blk ∨ s'.blk = some w.heap.size) → wpList P ops Q rest (a.put o.dst (.slice s'.a (rows.length + news.length) s'.cap)) w') : wpList P ops Q (o :: rest) a w :=
  wpList_plain hgd fun _ hK' => wp_append_rows x y t ho he hx h hy hm hs hlen hbase fun s' w' h2 h3 h4 => hK' _ _ (hK s' w' h2 h3 h4)
/-! ### What depends on some blocks alone -/
def Dep (w : World) (S : Nat → Prop) (Φ : World → Prop) : Prop := ∀ w' : World, (∀ k, S k → w'.heap[k]? = w.heap[k]?) → Φ w'
theorem Dep.out {w : World} {S : Nat → Prop} {Φ : World → Prop} (h : Dep w S Φ) : Φ w := h w fun _ _ => rfl
theorem Dep.to {w w1 : World} {S S1 : Nat → Prop} {Φ : World → Prop} (h : Dep w S Φ) (hw : ∀ k, S k → w1.heap[k]? = w.heap[k]?) (hS : ∀ k, S k → S1 k) : Dep w1 S1 Φ :=
  fun w' hw' => h w' fun k hk => (hw' k (hS k hk)).trans (hw k hk)
def fresh (base : Nat) (w : World) : Nat → Prop := fun k => base ≤ k ∧ k < w.heap.size
def freshBut (base : Nat) (w : World) (g : Option Nat) : Nat → Prop := fun k => base ≤ k ∧ k < w.heap.size ∧ some k ≠ g
end Go.WW
/- Stores of whole structs into a world of which only some blocks are known. -/
namespace Go.WW
open Go.RowKit
theorem setCell_blk {w : World} {b o : Nat} {c : Array Value} {t : TypeId} (v : Value) (h : w.heap[b]? = some (.cells c t)) : (w.setCell ⟨b, o, none⟩ v).heap[b]? = some (.cells (c.setIfInBounds o v) t) := by
  simp [World.setCell, Array.getElem?_modify, h]
theorem setCells_blk {b : Nat} {t : TypeId} : ∀ (l : List Value) (o : Nat) (c : Array Value) (w : World), w.heap[b]? = some (.cells c t) →
    (w.setCells b o l).heap[b]? = some (.cells ((l.zipIdx o).foldl (fun c x => c.setIfInBounds x.2 x.1) c) t)
  | [], _, _, _, h => h
  | v :: l, o, c, w, h => by
    rw [World.setCells]
    exact setCells_blk l (o + 1) _ _ (setCell_blk v h)
theorem setCells_other {b k : Nat} (hk : k ≠ b) : ∀ (l : List Value) (o : Nat) (w : World), (w.setCells b o l).heap[k]? = w.heap[k]?
  | [], _, _ => rfl
  | v :: l, o, w => by
    rw [World.setCells, setCells_other hk l (o + 1)]
    exact Below.heap_setCell w _ v k hk
theorem setCells_below {b B : Nat} (hB : B ≤ b) : ∀ (l : List Value) (o : Nat) (w : World), Below B w (w.setCells b o l)
  | [], _, w => Below.refl _ _
  | v :: l, o, w => by
    rw [World.setCells]
    exact ((Below.refl B w).setCell (p := ⟨b, o, none⟩) hB v).trans (setCells_below hB l (o + 1) _)
theorem setCells_size {b : Nat} : ∀ (l : List Value) (o : Nat) (w : World), (w.setCells b o l).heap.size = w.heap.size
  | [], _, w => rfl
  | v :: l, o, w => by
    rw [World.setCells, setCells_size l (o + 1)]
    simp [World.setCell]
theorem foldl_set_mid (post : List Value) : ∀ (pre l m : List Value), l.length = m.length →
    ((m.zipIdx pre.length).foldl (fun (c : Array Value) x => c.setIfInBounds x.2 x.1) (pre ++ l ++ post).toArray) = (pre ++ m ++ post).toArray
  | _, [], [], _ => by simp
  | pre, x :: l, y :: m, h => by
    have ih := foldl_set_mid post (pre ++ [y]) l m (by simpa using h)
    simp only [List.zipIdx_cons, List.foldl_cons]
    have e : (pre ++ x :: l ++ post).toArray.setIfInBounds pre.length y = ((pre ++ [y]) ++ l ++ post).toArray := by simp
    rw [e]
    simpa using ih
def splice (c : Array Value) (o : Nat) (cs : Array Value) : Array Value := (c.toList.take o ++ cs.toList ++ c.toList.drop (o + cs.size)).toArray
theorem splice_whole {c cs : Array Value} (h : c.size = cs.size) : splice c 0 cs = cs := by
  have : c.toList.drop (0 + cs.size) = [] := by rw [List.drop_eq_nil_iff]; simp [h]
  unfold splice; rw [this]; simp
theorem splice_size {c : Array Value} {o : Nat} {cs : Array Value} (h : o + cs.size ≤ c.size) : (splice c o cs).size = c.size := by simp [splice]; omega
theorem putRow_blk {w : World} {b o : Nat} {c cs : Array Value} {t : TypeId} (h : w.heap[b]? = some (.cells c t)) (ho : o + cs.size ≤ c.size) : (putRow w b o cs).heap[b]? = some (.cells (splice c o cs) t) := by
  unfold putRow
  rw [setCells_blk cs.toList o c w h]
  have := foldl_set_mid (c.toList.drop (o + cs.size)) (c.toList.take o) ((c.toList.drop o).take cs.size) cs.toList (by simp; omega)
  have e : c.toList.take o ++ (c.toList.drop o).take cs.size ++ c.toList.drop (o + cs.size) = c.toList := by
    rw [List.append_assoc, ← List.drop_drop, List.take_append_drop, List.take_append_drop]
  have ho' : (c.toList.take o).length = o := by simp; omega
  rw [e, ho'] at this
  rw [show c.toList.toArray = c by simp] at this
  rw [this]
  rfl
theorem putRow_other {w : World} {b o k : Nat} {cs : Array Value} (h : k ≠ b) : (putRow w b o cs).heap[k]? = w.heap[k]? := setCells_other h _ _ _
theorem putRow_size (w : World) (b o : Nat) (cs : Array Value) : (putRow w b o cs).heap.size = w.heap.size := setCells_size _ _ _
theorem Below.putRow {B b o : Nat} {W w : World} {cs : Array Value} (h : Below B W w) (hB : B ≤ b) : Below B W (Go.WW.putRow w b o cs) := h.trans (setCells_below hB _ _ _)
theorem canPut_blk {w : World} {b o n : Nat} (h : canPut w b o n = true) : ∃ c t, w.heap[b]? = some (.cells c t) ∧ o + n ≤ c.size := by
  unfold canPut at h
  split at h
  · rename_i c t f hb
    simp only [Bool.and_eq_true, decide_eq_true_eq] at h
    obtain ⟨h1, rfl⟩ := h
    exact ⟨c, t, hb, h1⟩
  · cases h
theorem row?_putRow_whole {w : World} {b n : Nat} {cs : Array Value} (hn : cs.size = n) (hc : canPut w b 0 n = true) : row? (putRow w b 0 cs) b 0 n = some cs := by
  subst hn
  obtain ⟨c, t, hb, hs⟩ := canPut_blk hc
  unfold row?
  rw [putRow_blk hb hs]
  have hs' : 0 + cs.size ≤ (splice c 0 cs).size := by rw [splice_size hs]; exact hs
  show (if 0 + cs.size ≤ (splice c 0 cs).size then _ else _) = _
  rw [if_pos hs']
  simp [splice]
theorem run_storeCells_put {P : Program} {w : World} {b o : Nat} {cs : Array Value} (hc : canPut w b o cs.size = true) (h1 : allOne cs = true) : (storeCells ⟨b, o, none⟩ cs.toList).run P w = .ok () (putRow w b o cs) := by
  have ht := canPut_there hc
  have h0 := run_storeCells_cells (P := P) b o cs.toList 0 w (fun j hj => (ht j (by simpa using hj)).1) (fun j hj => (ht j (by simpa using hj)).2) (fun u hu => by unfold allOne at h1; rw [Array.all_eq_true'] at h1; exact h1 u (by simpa using hu))
  unfold putRow
  simpa using h0
theorem canPut_of_cells {w : World} {b o n : Nat} {c : Array Value} {t : TypeId} (h : w.heap[b]? = some (.cells c t)) (hn : o + n ≤ c.size) : canPut w b o n = true := by unfold canPut; rw [h]; simp [hn]
theorem row?_of_cells {w : World} {b o n : Nat} {c : Array Value} {t : TypeId} (h : w.heap[b]? = some (.cells c t)) : row? w b o n = subRow c o n := by unfold row? subRow; rw [h]
theorem canPut_drew (w : World) (b o n : Nat) : canPut w.drew b o n = canPut w b o n := rfl
attribute [go_sem] row?_putRow_whole run_storeCells_put canPut_drew
end Go.WW
/- string(bytes); append where the length is spelled otherwise. -/
namespace Go.WW
open Go.RowKit
theorem wpList_append_n {P : Program} {ops : Array Oper} {rest : List Oper} {o : Oper} {a : Act} {w : World} {Q : Exit → Act → World → Prop} (hgd : o.guard = none) (x y : Operand) (t : TypeId) (ho : o.op = .call { callee := .builtin .append, args := #[x, y], argTypes := #[t, t] })
    {e : TypeId} {k bytes : Nat} (he : ElemOk P t e k bytes) {base : Nat} {s : Sl} {n : Nat} {rows : List (Array Value)} (hx : a.eval x = .slice s.a n s.cap) (hn : n = rows.length) (h : Own w base e k s rows) {A : Option Addr} {news : List (Array Value)} {m c : Nat}
    (hy : a.eval y = .slice A m c) (hm : m = news.length) (hs : SrcRows w k A news) (hlen : (rows.length + news.length) * (bytes + 1) ≤ 140737488355328) (hbase : base ≤ w.heap.size)
    (hK : ∀ (s' : Sl) w', Own w' base e k s' (rows ++ news) → w.grownBy w' s.blk → (s'.blk = s.blk ∨ s'.blk = some w.heap.size) → wpList P ops Q rest (a.put o.dst (.slice s'.a (n + m) s'.cap)) w') : wpList P ops Q (o :: rest) a w := by
  subst hn hm
  exact wpList_append_rows hgd x y t ho he hx h hy rfl hs hlen hbase hK
end Go.WW
/- sha.padded$1: the blocks of the padded string, one by one. -/
namespace Go.WW
open Go.RowKit
abbrev OffS (S : Nat → Prop) (w : World) : Nat → Prop := fun k => S k ∨ w.heap.size ≤ k
def Raw (w : World) (b o : Nat) (l : List Int) : Prop := ∃ c u fz, w.heap[b]? = some (.cells c u fz) ∧ (∀ i (h : i < l.length), c[o + i]? = some (.int .u8 l[i])) ∧ (fz.1 = fz.2 ∨ c.size ≤ fz.1)
def lenByte (tot : Int) (k : Nat) : Int := tot * 8 / 2 ^ (8 * k) % 256
def endL (l : List Int) (size : Nat) (tot : Int) : Nat → List Int
  | 0 => (l ++ List.replicate (size - l.length) 0).set l.length 128
  | k + 1 => (endL l size tot k).set (size - 1 - k) (lenByte tot k)
def endSize (n : Nat) : Nat := if n + 9 > 64 then 128 else 64
theorem endL_length (l : List Int) (size : Nat) (tot : Int) (h : l.length ≤ size) : ∀ k, (endL l size tot k).length = size
  | 0 => by simp [endL]; omega
  | k + 1 => by rw [endL, List.length_set, endL_length l size tot h k]
def endBlocks (l : List Int) (tot : Int) : List (List Int) :=
  if l.length + 9 > 64 then [(endL l 128 tot 8).take 64, (endL l 128 tot 8).drop 64] else [endL l 64 tot 8]
def fullBlocks (l : List Int) : List (List Int) := (List.range (l.length / 64)).map fun k => (l.drop (64 * k)).take 64
def blocksOf (l : List Int) (tot : Int) : List (List Int) := fullBlocks l ++ endBlocks (l.drop (64 * (l.length / 64))) tot
def VBlk (S : Nat → Prop) (c1 : Nat) (x : List Int) (v : Array Value) (_ W : World) : Prop := ∃ b o, v = #[.slice (some ⟨b, o, none⟩) 64 64] ∧ x.length = 64 ∧ Raw W b o x ∧ ¬ S b ∧ b < c1
theorem Raw.part {w : World} {b o : Nat} {l : List Int} (h : Raw w b o l) (k n : Nat) : Raw w b (o + k) ((l.drop k).take n) := by
  obtain ⟨c, u, fz, h1, h2, h3⟩ := h
  refine ⟨c, u, fz, h1, fun i hi => ?_, h3⟩
  have hi' : k + i < l.length := by simp at hi; omega
  have := h2 (k + i) hi'
  rw [Nat.add_assoc, this]
  simp
theorem Raw.on {w w' : World} {b o : Nat} {l : List Int} (h : Raw w b o l) (he : w'.heap[b]? = w.heap[b]?) : Raw w' b o l := by
  obtain ⟨c, u, fz, h1, h2, h3⟩ := h
  exact ⟨c, u, fz, he.trans h1, h2, h3⟩
theorem Raw.lt {w : World} {b o : Nat} {l : List Int} (h : Raw w b o l) : b < w.heap.size := by
  obtain ⟨c, u, fz, h1, _⟩ := h
  exact (Array.getElem?_eq_some_iff.1 h1).1
theorem Raw.cell {w : World} {b o : Nat} {l : List Int} (h : Raw w b o l) (i : Nat) (hi : i < l.length) : w.cell? ⟨b, o + i, none⟩ = some (.int .u8 l[i]) := by
  obtain ⟨c, u, fz, h1, h2, h3⟩ := h
  rw [cell_of_row w b (o + i) c u _ h1]
  exact h2 i hi
theorem Raw.bytes {w : World} {b o : Nat} {l : List UInt8} (h : Raw w b o (l.map fun x => (x.toNat : Int))) (hn : l.length ≤ lim) : BytesAt w (some ⟨b, o, none⟩) l := by
  refine ⟨hn, fun i hi => ?_⟩
  have := h.cell i (by simpa using hi)
  exact ⟨b, o, _, rfl, this, l[i], List.getElem?_eq_getElem hi, by simp⟩
theorem boxF {w : World} {b : Nat} {c : Array Value} {t : TypeId} (h : w.heap[b]? = some (.cells c t)) : (∀ o, w.cell? ⟨b, o, none⟩ = c[o]?) ∧ (∀ o, w.frozen? ⟨b, o, none⟩ = false) ∧ b < w.heap.size :=
  ⟨fun o => cell_of_row w b o c t _ h, fun o => frozen_of_row w b o c t h, (Array.getElem?_eq_some_iff.1 h).1⟩
theorem full_get {l : List Int} {k : Nat} (h : 64 * k + 64 ≤ l.length) : (fullBlocks l)[k]? = some ((l.drop (64 * k)).take 64) := by
  have hk : k < l.length / 64 := by omega
  simp [fullBlocks, hk]
theorem blocks_full {l : List Int} {tot : Int} {k : Nat} (h : 64 * k + 64 ≤ l.length) : (blocksOf l tot)[k]? = some ((l.drop (64 * k)).take 64) := by
  rw [blocksOf, List.getElem?_append_left (by simp [fullBlocks]; omega), full_get h]
theorem blocks_end {l : List Int} {tot : Int} {k : Nat} (h1 : 64 * k ≤ l.length) (h2 : l.length < 64 * k + 64) (j : Nat) : (blocksOf l tot)[k + j]? = (endBlocks (l.drop (64 * k)) tot)[j]? := by
  have hk : l.length / 64 = k := by omega
  rw [blocksOf, List.getElem?_append_right (by simp [fullBlocks]; omega)]
  simp [fullBlocks, hk]
theorem blocks_len {l : List Int} {tot : Int} {k : Nat} (h1 : 64 * k ≤ l.length) (h2 : l.length < 64 * k + 64) : (blocksOf l tot).length = k + (endBlocks (l.drop (64 * k)) tot).length := by
  have hk : l.length / 64 = k := by omega
  simp [blocksOf, fullBlocks, hk]
end Go.WW
/- sha.padded$1: the walk. -/
namespace Go.Proofs.YtidadlcknkeodaaGreatDoor
open Go.RowKit Go.WW
def bytesA (L : List Int) : Array Value := (L.map (Value.int .u8)).toArray
theorem bytesA_size (L : List Int) : (bytesA L).size = L.length := by simp [bytesA]
theorem bytesA_get (L : List Int) (i : Nat) (h : i < L.length) : (bytesA L)[i]? = some (.int .u8 L[i]) := by simp [bytesA, h]
theorem bytesA_set (L : List Int) (i : Nat) (x : Int) : (bytesA L).setIfInBounds i (.int .u8 x) = bytesA (L.set i x) := by simp [bytesA, List.map_set]
theorem mkEnd (n : Nat) (hn : n = 64 ∨ n = 128) (w : World) : ∃ V, (Instr.makeSlice 56 (.int .i64 n) (.int .i64 n)).run Tryz.prog w = .ok (.slice (some ⟨w.heap.size, 0, none⟩) n n) V ∧ V.heap[w.heap.size]? = some (.cells (bytesA (List.replicate n 0)) 5) ∧ V.heap.size = w.heap.size + 1 ∧ Below w.heap.size w V := by
  refine ⟨w.alloc (.cells (bytesA (List.replicate n 0)) 5), ?_, World.alloc_heap_new _ _, by simp, below_new (Below.refl _ _) _⟩
  rcases hn with rfl | rfl <;> kernel_rfl
theorem setCell_one (w : World) (b o : Nat) (v : Value) : But (one b) w (w.setCell ⟨b, o, none⟩ v) := ⟨rfl, rfl, rfl, by simp [World.setCell], fun k _ hn => Below.heap_setCell _ _ _ _ (show k ≠ b from hn)⟩
theorem setRow_but (w : World) (e : Nat) (cs : Array Value) : But (one e) w (w.setRow e cs) := ⟨rfl, rfl, rfl, by simp [World.setRow], fun k _ hn => setRow_other w e k cs (fun h => hn h)⟩
theorem copyEnd (e b o cap n : Nat) (ad : Option Addr) (r : List Int) (V : World) (hV : V.heap[e]? = some (.cells (bytesA (List.replicate n 0)) 5)) (hr : Raw V b o r) (had : 0 < r.length → ad = some ⟨b, o, none⟩) (hn : r.length ≤ n) :
    ∃ V', (Builtin.copy_ #[56, 56] 3 #[.slice (some ⟨e, 0, none⟩) n n, .slice ad r.length cap]).run Tryz.prog V = .ok (goInt r.length) V' ∧ V'.heap[e]? = some (.cells (bytesA (r ++ List.replicate (n - r.length) 0)) 5) ∧ But (one e) V V' ∧ V'.heap.size = V.heap.size := by
  rcases Nat.eq_zero_or_pos r.length with h0 | h0
  · have hrun := run_copy_none (P := Tryz.prog) V 56 56 3 5 (some ⟨e, 0, none⟩) ad n n r.length cap Tryz.underlying56 (by kernel_rfl) (by rw [h0]; exact Nat.zero_min n)
    refine ⟨V, by rw [hrun, h0]; rfl, ?_, But.refl _ _, rfl⟩
    obtain rfl := List.eq_nil_of_length_eq_zero h0
    simpa using hV
  · rw [had h0]
    have hrun := run_copy_row (P := Tryz.prog) V 56 56 3 5 e 0 n n ⟨b, o, none⟩ r.length cap _ _ (r.map (Value.int .u8)) Tryz.underlying56 (by kernel_rfl) hV (by rw [List.length_map]; exact (Nat.min_eq_left hn).symm) (fun j v hj => by
      have hl : j < r.length := by have := (List.getElem?_eq_some_iff.1 hj).1; simpa using this
      rw [List.getElem?_map, List.getElem?_eq_getElem hl] at hj
      cases hj
      have := hr.cell j hl
      by_cases hj0 : j = 0
      · subst hj0; simpa [Addr.add] using this
      · simpa [Addr.add, hj0] using this) (by simp [bytesA]; omega) (fun v hv => by obtain ⟨x, _, rfl⟩ := List.mem_map.1 hv; rfl)
    rw [List.length_map] at hrun
    refine ⟨_, hrun, ?_, setRow_but _ _ _, by simp [World.setRow]⟩
    rw [setRow_heap V e _ _ _ _ hV]
    simp [bytesA]
theorem endMade (n : Nat) (hn : n = 64 ∨ n = 128) (b o cap : Nat) (ad : Option Addr) (r : List Int) (tot : Int) (w : World) (hr : Raw w b o r) (had : 0 < r.length → ad = some ⟨b, o, none⟩) (hrn : r.length < n) :
    ∃ V V2, (Instr.makeSlice 56 (.int .i64 n) (.int .i64 n)).run Tryz.prog w = .ok (.slice (some ⟨w.heap.size, 0, none⟩) n n) V ∧ (Builtin.copy_ #[56, 56] 3 #[.slice (some ⟨w.heap.size, 0, none⟩) n n, .slice ad r.length cap]).run Tryz.prog V = .ok (goInt r.length) V2 ∧
      V2.heap.size = w.heap.size + 1 ∧ Below w.heap.size w V2 ∧ V2.cell? ⟨w.heap.size, r.length, none⟩ = some (.int .u8 0) ∧ V2.frozen? ⟨w.heap.size, r.length, none⟩ = false ∧ (V2.setCell ⟨w.heap.size, r.length, none⟩ (.int .u8 128)).heap[w.heap.size]? = some (.cells (bytesA (endL r n tot 0)) 5) := by
  obtain ⟨V, h1, h2, h3, h4⟩ := mkEnd n hn w
  obtain ⟨V2, h5, h6, h7, hs⟩ := copyEnd w.heap.size b o cap n ad r V h2 (hr.on (h4.block _ hr.lt)) had (by omega)
  obtain ⟨f1, f2, -⟩ := boxF h6
  refine ⟨V, V2, h1, h5, by omega, h4.trans (h7.below (by omega) (fun k hk => by have hk' : k = w.heap.size := hk; omega)), ?_, f2 _, ?_⟩
  · rw [f1, bytesA_get _ _ (by simp; omega)]
    rw [List.getElem_append_right (Nat.le_refl _)]
    simp
  · rw [setCell_blk (.int .u8 128) h6, bytesA_set]
    rfl
attribute [local go_sem] Oper.semAt_some
theorem padded1_seq (bl bt b o cap : Nat) (l : List Int) (tot : Int) (S : Nat → Prop) (w : World) (hcl : w.cell? ⟨bl, 0, none⟩ = some (.slice (some ⟨b, o, none⟩) l.length cap)) (hct : w.cell? ⟨bt, 0, none⟩ = some (.int .i64 tot)) (hcap : l.length ≤ cap) (hn : l.length ≤ 1000000) (ht0 : 0 ≤ tot) (ht1 : tot ≤ 1000000) (hL : ∀ y, But (OffS S w) w y → Raw y b o l) (hS : ∀ k, S k → k < w.heap.size) (hSb : ¬ S b) (hSt : ¬ S bt) (_hSl : ¬ S bl) :
    SeqM Tryz.prog 128 #[.pointer (some ⟨bl, 0, none⟩), .pointer (some ⟨bt, 0, none⟩)] S (blocksOf l tot) (VBlk S) w := by
  intro y J Jx W hW hl1 hl2 h0 hJ hJm hJx hY
  have hbt := World.block_lt_of_cell? w _ hct
  have hbl := World.block_lt_of_cell? w _ hcl
  have hbW := (hL w (But.refl _ _)).lt
  have hclW : W.cell? ⟨bl, 0, none⟩ = some (.slice (some ⟨b, o, none⟩) l.length cap) := (hW.cell hbl).trans hcl
  have hWB : But (OffS S w) w W := But.of_below hW
  have hWs := hW.size
  have HJ := Lib.hid hJ
  have HJm := Lib.hid hJm
  have HJx := Lib.hid hJx
  have HY := Lib.hid hY
  have HL := Lib.hid hL
  have HSn := Lib.hid hS
  have H0 := Lib.hid (h0 W.heap.size W (Nat.le_refl _) (Nat.le_refl _) (Below.refl _ _))
  have HT := Lib.hid (show ∀ V, But (OffS S w) w V → V.cell? ⟨bt, 0, none⟩ = some (.int .i64 tot) from fun V hV => (hV.cell hbt (fun h => h.elim hSt (fun h => by omega))).trans hct)
  clear hJ hJm hJx hY hL h0 hct hcl hS
  refine (callsIn_wide (n := 0)).1 ?_
  refine callsIn_of_wp Tryz.func128 rfl trivial ?_ rfl
  simp only [Tryz.ntmps128, List.size_toArray, List.length_cons, List.length_nil, Nat.reduceAdd, Nat.reduceSub, Array.replicate_succ, Array.replicate_zero, List.push_toArray, List.append_toArray, List.nil_append, List.cons_append]
  gi_wp2
  gi_loopw [4] (fun sv wr => ∃ (k : Nat) (ad : Option Addr), 64 * k ≤ l.length ∧ sv = .slice ad (l.length - 64 * k) (cap - 64 * k) ∧ (64 * k < l.length → ad = some ⟨b, o + 64 * k, none⟩) ∧ Hid (J W.heap.size k wr) ∧ Hid (But (OffS S w) w wr) ∧ W.heap.size ≤ wr.heap.size) (fun sv _ => match sv with | .slice _ n _ => n | _ => 0)
  case atStart => exact ⟨0, some ⟨b, o, none⟩, by omega, by simp, fun _ => by simp, H0, hWB, Nat.le_refl _⟩
  case round =>
    obtain ⟨k, ad, hk, rfl, had, hj, hbu, hsz⟩ := hrel
    by_cases hlt : 64 * k + 64 ≤ l.length
    · have hki : ((l.length - 64 * k : Nat) : Int) ≥ 64 := by omega
      obtain rfl := had (by omega)
      have hx := blocks_full (tot := tot) hlt
      have hsub : (l.drop (64 * k)).take 64 = (l.drop (64 * k)).take 64 := rfl
      have hr := (HL.out wr hbu.out).part (64 * k) 64
      have hxl : ((l.drop (64 * k)).take 64).length = 64 := by simp; omega
      generalize (l.drop (64 * k)).take 64 = x at *
      obtain ⟨fn, tmps, assign, body, hy, hR⟩ := HY.out W.heap.size k x #[.slice (some ⟨b, o + 64 * k, none⟩) 64 64] wr wr hx hj.out (But.refl _ _) ⟨b, o + 64 * k, rfl, hxl, hr, hSb, by omega⟩ (Nat.le_refl _) hsz
      clear hsub
      gi_wp2
      refine ⟨rfl, hR.mono ?_⟩
      rintro e W3 ⟨hb3, h3⟩
      have HB3 := Lib.hid (show But (OffS S w) w W3 from hbu.out.trans (hb3.mono fun k hk => by
        rcases hk with (hk | rfl) | hk
        · exact .inl hk
        · exact .inr hl1
        · exact .inr (Nat.le_trans hW.size hk)))
      have HS3 : W.heap.size ≤ W3.heap.size := by have := hb3.size; omega
      clear hy hR hb3
      rcases h3 with ⟨rfl, hj3⟩ | ⟨rfl, hx3⟩
      · have HJ3 := Lib.hid hj3
        clear hj3
        gi_wp2
        go_roundw
        case rel => exact ⟨k + 1, _, by omega, by rw [show 64 * (k + 1) = 64 * k + 64 by omega, Nat.sub_add_eq, Nat.sub_add_eq], fun h => by rw [if_neg (by omega), show 64 * (k + 1) = 64 * k + 64 by omega, Nat.add_assoc], HJ3.out, HB3.out, HS3⟩
        case measure => simp; omega
      · have HJ3 := Lib.hid hx3
        clear hx3
        gi_wp2
        refine bodyPost_ret (results_none rfl _ _ _) rfl ?_
        exact ⟨⟨_, rfl⟩, .inr ⟨_, _, HJ3.out⟩⟩
    · have hki : ¬ ((l.length - 64 * k : Nat) : Int) ≥ 64 := by omega
      have hr := (HL.out wr hbu.out).part (64 * k) (l.length - 64 * k)
      rw [List.take_of_length_le (by simp)] at hr
      have HE := Lib.hid (fun j => blocks_end (tot := tot) hk (show l.length < 64 * k + 64 by omega) j)
      have HEn := Lib.hid (blocks_len (tot := tot) hk (show l.length < 64 * k + 64 by omega))
      have hdl : (l.drop (64 * k)).length = l.length - 64 * k := by simp
      have HTw := HT.out wr hbu.out
      generalize l.drop (64 * k) = r at *
      have hmc : l.length - 64 * k ≤ cap - 64 * k := by omega
      have hm64 : l.length - 64 * k < 64 := by omega
      have had' : 0 < l.length - 64 * k → ad = some ⟨b, o + 64 * k, none⟩ := fun h => had (by omega)
      clear had hk hlt
      generalize l.length - 64 * k = m at *
      by_cases h9 : (64 : Int) < (m : Int) + 9
      · obtain ⟨V, V2, e1, e2, e3, e4, e5, e6, e7⟩ := endMade 128 (.inr rfl) b (o + 64 * k) (cap - 64 * k) ad r tot wr hr (by rw [hdl]; exact had') (by omega)
        rw [hdl] at e2 e5 e6 e7
        have HJ3 := Lib.hid (HJ.out _ _ _ (V2.setCell ⟨wr.heap.size, m, none⟩ (.int .u8 128)) (HJm.out _ (wr.heap.size + 1) _ _ (HJ.out _ _ _ V2 hj.out (But.of_below e4)) (by omega) (by omega)) ((setCell_one V2 wr.heap.size m _).mono fun j hj' => by
          obtain rfl : j = _ := hj'
          exact ⟨by omega, by omega⟩))
        have HB3 := Lib.hid (hbu.out.trans ((But.of_below e4).trans ((setCell_one V2 wr.heap.size m (.int .u8 128)).mono fun j hj' => by
          obtain rfl : j = _ := hj'
          exact .inr (by omega))) : But (OffS S w) w _)
        have hVs : (V2.setCell ⟨wr.heap.size, m, none⟩ (.int .u8 128)).heap.size = wr.heap.size + 1 := by simp [World.setCell, e3]
        gi_wp2
        rw [show ((128 : Int)) = ((128 : Nat) : Int) from rfl, e1]
        gi_wp2
        clear e1 e2 e3 e4 e5 e6 hj hbu
        generalize V2.setCell ⟨wr.heap.size, m, none⟩ (.int .u8 128) = V3 at *
        have HE3 := Lib.hid e7
        clear e7 hr HTw
        generalize wr.heap.size = e at *
        gi_loopw [32] (fun kv wr => ∃ q : Nat, q ≤ 8 ∧ kv = .int .i64 q ∧ Hid (J (e + 1) k wr) ∧ Hid (But (OffS S w) w wr) ∧ Hid (wr.heap[e]? = some (.cells (bytesA (endL r 128 tot q)) 5)) ∧ e < wr.heap.size) (fun kv _ => 8 - (intOf kv).toNat)
        case atStart => exact ⟨0, by omega, rfl, HJ3, HB3, HE3, by omega⟩
        case round =>
          obtain ⟨q, hq, rfl, hj, hbu, he, hes⟩ := hrel
          by_cases hq8 : q < 8
          · have hqi : (q : Int) < 8 := by omega
            have hTt := HT.out _ hbu.out
            obtain ⟨f1, f2, -⟩ := boxF he.out
            have hlq : (endL r 128 tot q).length = 128 := endL_length _ _ _ (by omega) q
            have hget := (f1 (127 - q)).trans (bytesA_get _ (127 - q) (by omega))
            have hfr := f2 (127 - q)
            have hidx : (128 : Int) - 1 - (q : Int) = ((127 - q : Nat) : Int) := by omega
            clear f1 f2
            gi_wp2
            have hset := setCell_blk (o := 127 - q) (.int .u8 (tot * 8 / 2 ^ (8 * q) % 256)) he.out
            rw [bytesA_set] at hset
            have hone := setCell_one wr e (127 - q) (.int .u8 (tot * 8 / 2 ^ (8 * q) % 256))
            refine ⟨⟨q + 1, by omega, by simp, HJ.out _ _ _ _ hj.out (hone.mono fun j hj' => ?_), hbu.out.trans (hone.mono fun j hj' => ?_), hset, by simp [World.setCell]; omega⟩, by simp [intOf]; omega⟩
            · obtain rfl : j = _ := hj'
              exact ⟨by omega, by omega⟩
            · obtain rfl : j = _ := hj'
              exact .inr (by omega)
          · obtain rfl : q = 8 := by omega
            have hx : (blocksOf l tot)[k]? = some ((endL r 128 tot 8).take 64) ∧ (blocksOf l tot)[k + 1]? = some ((endL r 128 tot 8).drop 64) := by
              have h0 := HE.out 0
              have h1 := HE.out 1
              rw [endBlocks, if_pos (by omega)] at h0 h1
              exact ⟨by simpa using h0, by simpa using h1⟩
            have hlen : (blocksOf l tot).length = k + 1 + 1 := by
              have := HEn.out
              rw [endBlocks, if_pos (by omega)] at this
              simpa using this
            have hll : (endL r 128 tot 8).length = 128 := endL_length _ _ _ (by omega) 8
            have hr0 : ∀ y : World, y.heap[e]? = wr.heap[e]? → Raw y e 0 (endL r 128 tot 8) := fun y hy => ⟨_, _, (0, 0), hy.trans he.out, fun i hi => by rw [Nat.zero_add]; exact bytesA_get _ _ hi, .inl rfl⟩
            have hr1 : ∀ y : World, y.heap[e]? = wr.heap[e]? → Raw y e 0 ((endL r 128 tot 8).take 64) := fun y hy => by
              have := (hr0 y hy).part 0 64
              simpa using this
            have hr2 : ∀ y : World, y.heap[e]? = wr.heap[e]? → Raw y e 64 ((endL r 128 tot 8).drop 64) := fun y hy => by
              have := (hr0 y hy).part 64 64
              rw [List.take_of_length_le (by simp; omega)] at this
              simpa using this
            have HX := Lib.hid hx.2
            have HR2 := Lib.hid hr2
            have hx1 := hx.1
            have hl1 : ((endL r 128 tot 8).take 64).length = 64 := by simp; omega
            have hl2 : ((endL r 128 tot 8).drop 64).length = 64 := by simp; omega
            have hraw := hr1 wr rfl
            clear hx hr0 hr1 hr2 he hll
            generalize (endL r 128 tot 8).take 64 = x at *
            generalize (endL r 128 tot 8).drop 64 = x2 at *
            obtain ⟨fn, tmps, assign, body, hy, hR⟩ := HY.out (e + 1) k x #[.slice (some ⟨e, 0, none⟩) 64 64] wr wr hx1 hj.out (But.refl _ _) ⟨e, 0, rfl, hl1, hraw, fun h => by have := HSn.out e h; omega, by omega⟩ (by omega) (by omega)
            gi_wp2
            refine ⟨rfl, hR.mono ?_⟩
            rintro z W3 ⟨hb3, h3⟩
            have hes3 : e < W3.heap.size := by have := hb3.size; omega
            have hR3 := HR2.out W3 (hb3.block e hes (fun h => by
              rcases h with (h | h) | h
              · have := HSn.out e h; omega
              · omega
              · omega))
            clear hy hR hb3
            rcases h3 with ⟨rfl, hj3⟩ | ⟨rfl, hx3⟩
            · obtain ⟨fn, tmps, assign, body, hy, hR⟩ := HY.out (e + 1) (k + 1) x2 #[.slice (some ⟨e, 64, none⟩) 64 64] W3 W3 HX.out hj3 (But.refl _ _) ⟨e, 64, rfl, hl2, hR3, fun h => by have := HSn.out e h; omega, by omega⟩ (by omega) (by omega)
              clear hj3
              gi_wp2
              refine ⟨rfl, hR.mono ?_⟩
              rintro z W4 ⟨hb4, h4⟩
              clear hy hR hb4
              rcases h4 with ⟨rfl, hj4⟩ | ⟨rfl, hx4⟩
              · have HJ4 := Lib.hid hj4
                clear hj4
                gi_wp2
                go_end0
                exact ⟨⟨_, rfl⟩, .inl ⟨_, by rw [hlen]; exact HJ4.out⟩⟩
              · have HJ4 := Lib.hid hx4
                clear hx4
                gi_wp2
                go_end0
                exact ⟨⟨_, rfl⟩, .inr ⟨_, _, HJ4.out⟩⟩
            · have HJ4 := Lib.hid hx3
              clear hx3
              gi_wp2
              go_end0
              exact ⟨⟨_, rfl⟩, .inr ⟨_, _, HJ4.out⟩⟩
      · obtain ⟨V, V2, e1, e2, e3, e4, e5, e6, e7⟩ := endMade 64 (.inl rfl) b (o + 64 * k) (cap - 64 * k) ad r tot wr hr (by rw [hdl]; exact had') (by omega)
        rw [hdl] at e2 e5 e6 e7
        have HJ3 := Lib.hid (HJ.out _ _ _ (V2.setCell ⟨wr.heap.size, m, none⟩ (.int .u8 128)) (HJm.out _ (wr.heap.size + 1) _ _ (HJ.out _ _ _ V2 hj.out (But.of_below e4)) (by omega) (by omega)) ((setCell_one V2 wr.heap.size m _).mono fun j hj' => by
          obtain rfl : j = _ := hj'
          exact ⟨by omega, by omega⟩))
        have HB3 := Lib.hid (hbu.out.trans ((But.of_below e4).trans ((setCell_one V2 wr.heap.size m (.int .u8 128)).mono fun j hj' => by
          obtain rfl : j = _ := hj'
          exact .inr (by omega))) : But (OffS S w) w _)
        have hVs : (V2.setCell ⟨wr.heap.size, m, none⟩ (.int .u8 128)).heap.size = wr.heap.size + 1 := by simp [World.setCell, e3]
        gi_wp2
        rw [show ((64 : Int)) = ((64 : Nat) : Int) from rfl, e1]
        gi_wp2
        clear e1 e2 e3 e4 e5 e6 hj hbu
        generalize V2.setCell ⟨wr.heap.size, m, none⟩ (.int .u8 128) = V3 at *
        have HE3 := Lib.hid e7
        clear e7 hr HTw
        generalize wr.heap.size = e at *
        gi_loopw [32] (fun kv wr => ∃ q : Nat, q ≤ 8 ∧ kv = .int .i64 q ∧ Hid (J (e + 1) k wr) ∧ Hid (But (OffS S w) w wr) ∧ Hid (wr.heap[e]? = some (.cells (bytesA (endL r 64 tot q)) 5)) ∧ e < wr.heap.size) (fun kv _ => 8 - (intOf kv).toNat)
        case atStart => exact ⟨0, by omega, rfl, HJ3, HB3, HE3, by omega⟩
        case round =>
          obtain ⟨q, hq, rfl, hj, hbu, he, hes⟩ := hrel
          by_cases hq8 : q < 8
          · have hqi : (q : Int) < 8 := by omega
            have hTt := HT.out _ hbu.out
            obtain ⟨f1, f2, -⟩ := boxF he.out
            have hlq : (endL r 64 tot q).length = 64 := endL_length _ _ _ (by omega) q
            have hget := (f1 (63 - q)).trans (bytesA_get _ (63 - q) (by omega))
            have hfr := f2 (63 - q)
            have hidx : (64 : Int) - 1 - (q : Int) = ((63 - q : Nat) : Int) := by omega
            clear f1 f2
            gi_wp2
            have hset := setCell_blk (o := 63 - q) (.int .u8 (tot * 8 / 2 ^ (8 * q) % 256)) he.out
            rw [bytesA_set] at hset
            have hone := setCell_one wr e (63 - q) (.int .u8 (tot * 8 / 2 ^ (8 * q) % 256))
            refine ⟨⟨q + 1, by omega, by simp, HJ.out _ _ _ _ hj.out (hone.mono fun j hj' => ?_), hbu.out.trans (hone.mono fun j hj' => ?_), hset, by simp [World.setCell]; omega⟩, by simp [intOf]; omega⟩
            · obtain rfl : j = _ := hj'
              exact ⟨by omega, by omega⟩
            · obtain rfl : j = _ := hj'
              exact .inr (by omega)
          · obtain rfl : q = 8 := by omega
            have hx : (blocksOf l tot)[k]? = some (endL r 64 tot 8) := by
              have := HE.out 0
              rw [endBlocks, if_neg (by omega)] at this
              simpa using this
            have hlen : (blocksOf l tot).length = k + 1 := by
              have := HEn.out
              rw [endBlocks, if_neg (by omega)] at this
              simpa using this
            have hraw : Raw wr e 0 (endL r 64 tot 8) := ⟨_, _, (0, 0), he.out, fun i hi => by rw [Nat.zero_add]; exact bytesA_get _ _ hi, .inl rfl⟩
            have hll : (endL r 64 tot 8).length = 64 := endL_length _ _ _ (by omega) 8
            clear he
            generalize endL r 64 tot 8 = x at *
            obtain ⟨fn, tmps, assign, body, hy, hR⟩ := HY.out (e + 1) k x #[.slice (some ⟨e, 0, none⟩) 64 64] wr wr hx hj.out (But.refl _ _) ⟨e, 0, rfl, hll, hraw, fun h => by have := HSn.out e h; omega, by omega⟩ (by omega) (by omega)
            gi_wp2
            refine ⟨rfl, hR.mono ?_⟩
            rintro z W3 ⟨hb3, h3⟩
            clear hy hR hb3
            rcases h3 with ⟨rfl, hj3⟩ | ⟨rfl, hx3⟩
            · have HJ4 := Lib.hid hj3
              clear hj3
              gi_wp2
              go_end0
              exact ⟨⟨_, rfl⟩, .inl ⟨_, by rw [hlen]; exact HJ4.out⟩⟩
            · have HJ4 := Lib.hid hx3
              clear hx3
              gi_wp2
              go_end0
              exact ⟨⟨_, rfl⟩, .inr ⟨_, _, HJ4.out⟩⟩
end Go.Proofs.YtidadlcknkeodaaGreatDoor
/- From lists in memory to rows, and back. -/
namespace Go.WW
open Go.RowKit
theorem RowsAt.src {w : World} {k n : Nat} {a : Option Addr} {R : Nat → Array Value → Prop} (h : RowsAt w k a n R) (hR : ∀ i cs, R i cs → cs.size = k ∧ allOne cs = true) :
    ∃ rows, rows.length = n ∧ SrcRows w k a rows ∧ ∀ i (hi : i < rows.length), R i rows[i] := by
  rcases Nat.eq_zero_or_pos n with h0 | h0
  · subst h0; exact ⟨[], rfl, ⟨by simp, by simp, fun i hi => by simp at hi⟩, fun i hi => by simp at hi⟩
  · obtain ⟨b, o, _, ha, _⟩ := h.2 0 h0
    have key : ∀ i, i < n → ∃ cs, row? w b (o + i * k) k = some cs ∧ R i cs := fun i hi => by
      obtain ⟨b', o', cs, ha', hr, hc⟩ := h.2 i hi
      rw [ha] at ha'; cases ha'
      exact ⟨cs, hr, hc⟩
    have hg : ∀ i (hi : i < ((List.range n).map fun i => (row? w b (o + i * k) k).getD #[]).length), ∃ cs, ((List.range n).map fun i => (row? w b (o + i * k) k).getD #[])[i] = cs ∧ row? w b (o + i * k) k = some cs ∧ R i cs := fun i hi => by
      have hi' : i < n := by simpa using hi
      obtain ⟨cs, h1, h2⟩ := key i hi'
      exact ⟨cs, by simp [h1], h1, h2⟩
    refine ⟨(List.range n).map fun i => (row? w b (o + i * k) k).getD #[], by simp, ⟨fun r hr => ?_, fun r hr => ?_, fun i hi => ?_⟩, fun i hi => ?_⟩
    · obtain ⟨i, hi, rfl⟩ := List.mem_iff_getElem.1 hr
      obtain ⟨cs, e, _, h2⟩ := hg i hi
      rw [e]; exact (hR i cs h2).1
    · obtain ⟨i, hi, rfl⟩ := List.mem_iff_getElem.1 hr
      obtain ⟨cs, e, _, h2⟩ := hg i hi
      rw [e]; exact (hR i cs h2).2
    · obtain ⟨cs, e, h1, _⟩ := hg i hi
      exact ⟨b, o, ha, by rw [e]; exact h1⟩
    · obtain ⟨cs, e, _, h2⟩ := hg i hi
      rw [e]; exact h2
theorem RowsAt.of_own {w : World} {base k n : Nat} {e : TypeId} {s : Sl} {rows : List (Array Value)} {R : Nat → Array Value → Prop} (h : Own w base e k s rows) (hl : rows.length = n) (hn : n ≤ lim) (hR : ∀ i (hi : i < rows.length), R i rows[i]) : RowsAt w k s.a n R := by
  subst hl
  refine ⟨hn, fun i hi => ?_⟩
  obtain ⟨g, ha, _, hrow⟩ := h.row i hi
  exact ⟨g, 0, rows[i], ha, hrow, hR i hi⟩
theorem row?_one {w : World} {b o : Nat} {v : Value} (h : w.cell? ⟨b, o, none⟩ = some v) : row? w b o 1 = some #[v] := by
  have hlt := World.block_lt_of_cell? w _ h
  unfold row?
  cases hb : w.heap[b]? with
  | none => exfalso; simp [World.cell?, hb] at h
  | some ob =>
    cases ob with
    | cells c t f =>
      rw [cell_of_row w b o c t f hb] at h
      have ho := (Array.getElem?_eq_some_iff.1 h).1
      show (if o + 1 ≤ c.size then _ else _) = _
      rw [if_pos (by omega)]
      congr 1
      apply Array.ext_getElem?
      intro j
      rw [Array.getElem?_extract]
      by_cases hj : j = 0
      · subst hj; rw [if_pos (by omega)]; simpa using h
      · rw [if_neg (by omega)]; simp; omega
    | _ => exfalso; simp [World.cell?, hb] at h
theorem CellsAt.src {w : World} {n : Nat} {a : Option Addr} {R : Nat → Value → Prop} (h : CellsAt w a n R) (hR : ∀ i v, R i v → v.oneCell' = true) :
    ∃ rows, rows.length = n ∧ SrcRows w 1 a rows ∧ ∀ i (hi : i < rows.length), ∃ v, rows[i] = #[v] ∧ R i v := by
  have h' : RowsAt w 1 a n (fun i cs => ∃ v, cs = #[v] ∧ R i v) := ⟨h.1, fun i hi => by
    obtain ⟨b, o, v, ha, hc, hr⟩ := h.2 i hi
    exact ⟨b, o, #[v], ha, by rw [Nat.mul_one]; exact row?_one hc, v, rfl, hr⟩⟩
  obtain ⟨rows, h1, h2, h3⟩ := h'.src (fun i cs ⟨v, e, hr⟩ => by subst e; exact ⟨rfl, by simp [allOne, hR i v hr]⟩)
  exact ⟨rows, h1, h2, h3⟩
theorem CellsAt.of_own {w : World} {base n : Nat} {e : TypeId} {s : Sl} {rows : List (Array Value)} {R : Nat → Value → Prop} (h : Own w base e 1 s rows) (hl : rows.length = n) (hn : n ≤ lim) (hR : ∀ i (hi : i < rows.length), ∃ v, rows[i] = #[v] ∧ R i v) : CellsAt w s.a n R := by
  subst hl
  refine ⟨hn, fun i hi => ?_⟩
  obtain ⟨g, ha, _, hrow⟩ := h.row i hi
  obtain ⟨v, e, hr⟩ := hR i hi
  refine ⟨g, 0, v, ha, ?_, hr⟩
  have := row?_cell hrow 0 (by omega)
  rw [e, Nat.mul_one] at this
  simpa using this
theorem Own.one (w : World) (cs : Array Value) (t : TypeId) (k : Nat) (hs : cs.size = k) : Own (w.alloc (.cells cs t)) w.heap.size t k ⟨some ⟨w.heap.size, 0, none⟩, 1⟩ [cs] := by
  refine ⟨⟨by simp [flat, hs], .inr ⟨w.heap.size, 1, cs, rfl, Nat.le_refl _, World.alloc_heap_new w _, Nat.le_refl _, by unfold maxLen; omega, by simp [hs], ?_⟩⟩, by simpa using hs⟩
  simp only [flat, List.flatMap_cons, List.flatMap_nil, List.append_nil, List.length_singleton, Nat.one_mul]
  exact List.take_of_length_le (by simp [hs])
theorem prinR_ok {w : World} {l : List Prin} (i : Nat) (cs : Array Value) (h : ∃ p s, l[i]? = some p ∧ cs = prinC s p ∧ PrinAt w s p) : cs.size = 2 ∧ allOne cs = true := by
  obtain ⟨p, s, _, rfl, _⟩ := h; exact ⟨prinC_size s p, prinC_one s p⟩
end Go.WW
/- Contracts of the library: strings.Index at a substring of one byte (laid off the shelf's templates). -/
namespace Go.Proofs
theorem Tryz.stringslite_IndexByte (s : ByteArray) (c : Int) (w : World) :
    Calls Tryz.prog 281 #[.string s, .int .u8 c] w fun e w' => e = .returned (.int .i64 (Lib.indexByte s.data.toList c.toNat.toUInt8)) ∧ w' = w := by
  go_enter Tryz.func281, Tryz.ntmps281
  go_wp2
  rw [run_callFunc_extern Tryz.func350 (by kernel_rfl) (by kernel_rfl) (by kernel_rfl) (e := Extern.BytealgIndexByte.indexByte) (by kernel_rfl), Lib.run_indexByteString]
  simp only [Result.andThen]
  rw [Oper.upon_value]
  go_wp2
  go_ret
  exact ⟨rfl, rfl⟩
theorem Tryz.stringslite_Index_one (s : ByteArray) (c : UInt8) (w : World) :
    Calls Tryz.prog 233 #[.string s, .string ⟨#[c]⟩] w fun e w' => e = .returned (.int .i64 (Lib.indexByte s.data.toList c)) ∧ w' = w := by
  go_enter Tryz.func233, Tryz.ntmps233
  go_wp2_with (go_at_call 281; refine (Tryz.stringslite_IndexByte _ _ _).mono ?_; rintro e w' ⟨rfl, rfl⟩)
  · have h : ([c] == s.toList) = true := by assumption
    go_ret
    refine ⟨?_, rfl⟩
    have e : s.data.toList = [c] := by rw [← Lib.toList_data]; exact (beq_iff_eq.1 h).symm
    rw [e]
    simp [Lib.indexByte]
  · go_ret
    exact ⟨rfl, rfl⟩
theorem Tryz.strings_Index_one (s : ByteArray) (c : UInt8) (w : World) :
    Calls Tryz.prog 180 #[.string s, .string ⟨#[c]⟩] w fun e w' => e = .returned (.int .i64 (Lib.indexByte s.data.toList c)) ∧ w' = w := by
  go_enter Tryz.func180, Tryz.ntmps180
  go_wp2_with (go_at_call 233; refine (Tryz.stringslite_Index_one _ _ _).mono ?_; rintro e w' ⟨rfl, rfl⟩)
  go_ret
  exact ⟨rfl, rfl⟩
end Go.Proofs
/- A range over a function whose iterator keeps its state in one cell of its own (strings.SplitSeq). -/
namespace Go.WW
open Go.RowKit
def SeqCell {α : Type} (F : Fence) (n : Nat) (P : Program) (g : Nat) (lb : Array Value) (encs : α → Array Value) (bs B : Nat) (ok : α → Prop) (S Sp : List α → Prop) (w : World) : Prop :=
  ∀ (l : Nat) (J Jx : List α → World → Prop) (W : World), Below B w W →
    (∀ pre W1 v, J pre W1 → J pre (W1.setCell ⟨bs, 0, none⟩ v)) →
    (∀ pre x W1, ok x → J pre W1 → YieldAt F (n - 1) P l (encs x) W1 fun e W' =>
      (e = .returned (.bool true) ∧ J (pre ++ [x]) W' ∧ Below B W1 W') ∨ (e = .returned (.bool false) ∧ Jx (pre ++ [x]) W')) →
    J [] W →
    CallsIn F n P g (#[.func (.yield l) #[] #[]] ++ lb) W fun e W' => (∃ v, e = .returned v) ∧ ((∃ xs, S xs ∧ J xs W') ∨ (∃ pre, Sp pre ∧ Jx pre W'))
def cellPost {α : Type} (B : Nat) (I Ix : List α → World → Prop) (xs : List α) (W : World) : Exit → Act → World → Prop
  | .normal, _, W' => KeepsOthers W W' ∧ Below B W W' ∧ I xs W'
  | .ret, _, W' => KeepsOthers W W' ∧ Ix xs W'
  | _, _, _ => False
variable {F : Fence} {n : Nat} {P : Program}
theorem wpIn_range_cell {α : Type} {g : Operand} {ps : Array Tmp} {assign body : Code} {Q : Exit → Act → World → Prop} {a : Act} {w : World}
    (hro : F.round = none) (h1 : 1 ≤ n) {gf : Nat} {lb : Array Value} (hg : a.eval g = .func (.func gf) #[] lb) (hFg : F.fn gf) (eg : ∀ args w, (callFunc gf args).run P w = .ok (.enter gf args) w)
    {encs : α → Array Value} {bs : Nat} {ok : α → Prop} {S Sp : List α → Prop} (hseq : SeqCell F (n - 1) P gf lb encs bs w.heap.size ok S Sp w) (hbs : bs < w.heap.size) (hps : ∀ x, (encs x).size = ps.size)
    (I Ix : List α → World → Prop) (hI : OwnFrom w.heap.size I) (hIs : ∀ s W v, I s W → I s (W.setCell ⟨bs, 0, none⟩ v)) (hIx : OwnFrom w.heap.size Ix) (h0 : I [] w) (a₁ : α → Act)
    (hassign : ∀ (l : Nat) (x : α) (W : World) (K : Act → World → Prop), K (a₁ x) W →
      assign.wpIn (F.inRound l) (n - 1 - 1) P (Exit.then K (fun _ _ _ => False)) { tmps := (ps.zip (encs x)).foldl (fun t (p, v) => t.setIfInBounds p v) a.tmps, defers := [] } W)
    (hbody : ∀ (l : Nat) (pre : List α) (x : α) (W : World), ok x → I pre W → body.wpIn (F.inRound l) (n - 1 - 1) P (cellPost w.heap.size I Ix (pre ++ [x]) W) (a₁ x) W)
    (hdone : ∀ (D : Nat) (xs : List α) (W : World), w.heap.size ≤ D → S xs → I xs W → W.heap[D]? = some (.deferred (some [])) → Q .normal { a with defers := { target := .collected D, args := #[] } :: a.defers } W)
    (hstop : ∀ (D : Nat) (pre : List α) (W : World), w.heap.size ≤ D → Sp pre → Ix pre W → W.heap[D]? = some (.deferred (some [])) → Code.ret.wpIn F n P Q { a with defers := { target := .collected D, args := #[] } :: a.defers } W) :
    (Code.rangeFunc g ps assign body).wpIn F n P Q a w := by
  refine wpIn_rangeFunc ?_
  intro fn hfn
  rw [hro]
  obtain ⟨lp, hlp⟩ : ∃ lp : LoopState → Option Code → Loop, lp = fun st pe => { state := st, pending := pe, fn, tmps := a.tmps, params := ps, assign, body, defers := w.heap.size } := ⟨_, rfl⟩
  obtain ⟨V, hV⟩ : ∃ V, (w.alloc (.deferred (some []))).alloc (.loop (lp .ready none)) = V := ⟨_, rfl⟩
  have hL : V.heap[w.heap.size + 1]? = some (.loop (lp .ready none)) := by
    have := World.alloc_heap_new (w.alloc (.deferred (some []))) (.loop (lp .ready none))
    rw [World.size_alloc, hV] at this; exact this
  have hD : V.heap[w.heap.size]? = some (.deferred (some [])) := by
    rw [← hV]; exact (Below.heap_alloc _ _ _ (by simp)).trans (World.alloc_heap_new w _)
  have hB : Below w.heap.size w V := by
    rw [← hV]; exact ((Below.refl _ w).alloc (Nat.le_refl _) _).alloc (by simp) _
  refine ⟨w.heap.size + 1, [{ target := .collected w.heap.size, args := #[] }], V, { target := .fn (.func gf) lb, args := #[.func (.yield (w.heap.size + 1)) #[] #[]] }, V, gf,
    #[.func (.yield (w.heap.size + 1)) #[] #[]] ++ lb, V, ?_, ?_, ?_, ?_, fun _ => h1, ?_⟩
  · rw [← hV, hlp]; exact run_enterLoop_outer _ _ _ _ _
  · simp only [resolve, hg]; simp [go_sem]
  · intro f' hf'; simp [Target.leads] at hf'; subst hf'; exact hFg
  · simp [invoke, go_sem, eg]
  · refine (hseq (w.heap.size + 1)
      (fun pre W => I pre W ∧ W.heap[w.heap.size + 1]? = some (.loop (lp .ready none)) ∧ W.heap[w.heap.size]? = some (.deferred (some [])))
      (fun pre W => Ix pre W ∧ W.heap[w.heap.size + 1]? = some (.loop (lp .done (some .ret))) ∧ W.heap[w.heap.size]? = some (.deferred (some [])))
      V hB
      (fun pre W1 v hs => ⟨hIs _ _ _ hs.1, (Below.heap_setCell _ _ _ _ (by simp; omega)).trans hs.2.1, (Below.heap_setCell _ _ _ _ (by simp; omega)).trans hs.2.2⟩)
      ?_ ⟨by rw [← hV]; exact hI.alloc _ (hI.alloc _ h0), hL, hD⟩).mono ?_
    · rintro pre x W hx ⟨hi, hl, hk⟩
      have hlt : w.heap.size + 1 < W.heap.size := (Array.getElem?_eq_some_iff.1 hl).1
      have hy := run_yield (P := P) (args := encs x) hl (by rw [hlp]; exact hps x)
      rw [hlp] at hy
      refine ⟨fn, _, assign, body, hy, roundIn_of_wpIn hfn (hassign _ x W _ ⟨_, run_beginRound hl (by rw [hlp]), ?_⟩)⟩
      obtain ⟨U, hU⟩ : ∃ U, W.putObj (w.heap.size + 1) (.loop { lp .ready none with state := .busy }) = U := ⟨_, rfl⟩
      have hl2 : U.heap[w.heap.size + 1]? = some (.loop { lp .ready none with state := .busy }) := by rw [← hU]; exact World.putObj_heap_same hlt
      have hk2 : U.heap[w.heap.size]? = some (.deferred (some [])) := by rw [← hU]; exact (World.putObj_heap_other (by omega)).trans hk
      have hw2 : Below w.heap.size W U := by rw [← hU]; exact belowK_b (w := w) (Nat.le_refl _) _ _ _ _ (by omega) hl rfl rfl
      have hi2 : I pre U := by rw [← hU]; exact hI.putObj _ hi (by omega) hl rfl
      rw [hU]
      refine wpIn_mono (hbody _ pre x _ hx hi2) ?_
      have over : ∀ (jump : Option Code) (X : World), KeepsOthers U X →
          (Instr.endRound (w.heap.size + 1) jump).run P X = .ok (.bool jump.isNone) (X.putObj (w.heap.size + 1) (.loop (lp (if jump.isNone then .ready else .done) jump))) ∧
          X.heap[w.heap.size + 1]? = some (.loop { lp .ready none with state := .busy }) ∧
          (X.putObj (w.heap.size + 1) (.loop (lp (if jump.isNone then .ready else .done) jump))).heap[w.heap.size + 1]? = some (.loop (lp (if jump.isNone then .ready else .done) jump)) ∧
          (X.putObj (w.heap.size + 1) (.loop (lp (if jump.isNone then .ready else .done) jump))).heap[w.heap.size]? = some (.deferred (some [])) := fun jump X hX => by
        have hl3 := hX.same _ _ hl2 rfl
        have hr := run_endRound (P := P) jump hl3
        rw [hlp] at hr ⊢
        exact ⟨hr, by rw [hlp] at hl3; exact hl3, World.putObj_heap_same (Array.getElem?_eq_some_iff.1 hl3).1, (World.putObj_heap_other (by omega)).trans (hX.same _ _ hk2 rfl)⟩
      rintro e a3 X hp
      cases e with
      | normal =>
        obtain ⟨hX, hbX, hiX⟩ := hp
        obtain ⟨hr, hl3, hl4, hk4⟩ := over none X hX
        exact ⟨_, _, hr, .inl ⟨rfl, ⟨hI.putObj _ hiX (by omega) hl3 rfl, hl4, hk4⟩, (hw2.trans hbX).trans (belowK_b (w := w) (Nat.le_refl _) _ _ _ _ (by omega) hl3 rfl rfl)⟩⟩
      | ret =>
        obtain ⟨hX, hiX⟩ := hp
        obtain ⟨hr, hl3, hl4, hk4⟩ := over (some .ret) X hX
        exact ⟨_, _, hr, .inr ⟨rfl, hIx.putObj _ hiX (by omega) hl3 rfl, hl4, hk4⟩⟩
      | exit id => exact hp.elim
      | goto t => exact hp.elim
      | panic ch => exact hp.elim
      | outgrown => exact hp.elim
    · rintro e X ⟨⟨v, rfl⟩, (⟨xs, hS, hi, hl, hk⟩ | ⟨pre, hSp, hi, hl, hk⟩)⟩
      · exact ⟨none, _, by have := run_endLoop (P := P) hl (by rw [hlp]; simp); rw [hlp] at this; exact this, hdone _ xs _ (Nat.le_refl _) hS (hI.putObj _ hi (by omega) hl rfl) ((World.putObj_heap_other (by omega)).trans hk)⟩
      · exact ⟨some .ret, _, by have := run_endLoop (P := P) hl (by rw [hlp]; simp); rw [hlp] at this; exact this, hstop _ pre _ (Nat.le_refl _) hSp (hIx.putObj _ hi (by omega) hl rfl) ((World.putObj_heap_other (by omega)).trans hk)⟩
end Go.WW
/- Contracts of the small functions on numbers. -/
namespace Go.WW
def btw (v lo hi : Int) : Bool := decide (lo ≤ v) && decide (v ≤ hi)
def isTime (t : Int) : Bool := btw t 0 1099511627776
end Go.WW
namespace Go.Proofs.YtidadlcknkeodaaGreatDoor
open Go.RowKit Go.WW
end Go.Proofs.YtidadlcknkeodaaGreatDoor
/- Contracts of the functions that look at the bytes of a string. -/
namespace Go.WW
def visB (c : UInt8) : Bool := decide (33 ≤ (c.toNat : Int)) && decide ((c.toNat : Int) ≤ 126)
def visible (s : ByteArray) : Bool := s.data.toList.all visB
def sized (s : ByteArray) : Bool := decide (1 ≤ (s.size : Int)) && decide ((s.size : Int) ≤ 32)
def isPart (s : ByteArray) : Bool := visible s && sized s
theorem bget (s : ByteArray) (k : Nat) (h : k < s.size) : s.data.toList[k]? = some s[k] := by
  have h' : k < s.data.size := h
  rw [Array.getElem?_toList, Array.getElem?_eq_getElem h']; rfl
theorem all_step {p : UInt8 → Bool} (s : ByteArray) (k : Nat) (h : k < s.size) (h1 : (s.data.toList.take k).all p = true) (h2 : p s[k] = true) : (s.data.toList.take (k + 1)).all p = true := by
  rw [List.take_succ_eq_append_getElem (by simpa using h), List.all_append, h1]
  have : s.data.toList[k] = s[k] := rfl
  simp [this, h2]
theorem all_no {p : UInt8 → Bool} (s : ByteArray) (k : Nat) (h : k < s.size) (h2 : p s[k] = false) : s.data.toList.all p = false := by
  rw [List.all_eq_false]
  exact ⟨s[k], List.mem_of_getElem? (bget s k h), by simp [h2]⟩
theorem all_end {p : UInt8 → Bool} (s : ByteArray) (k : Nat) (h : s.size ≤ k) (h1 : (s.data.toList.take k).all p = true) : s.data.toList.all p = true := by
  rwa [List.take_of_length_le (by simpa using h)] at h1
end Go.WW
namespace Go.Proofs.YtidadlcknkeodaaGreatDoor
open Go.RowKit Go.WW
theorem sized_c (s : ByteArray) (w : World) (hs : s.size ≤ maxLen) : Calls Tryz.prog 64 #[.string s] w fun e w' => e = .returned (.bool (sized s)) ∧ w = w' := by
  unfold maxLen at hs
  go_enter Tryz.func64, Tryz.ntmps64
  go_wp2
  all_goals go_ret
  all_goals exact ⟨by first | (simp [sized, *]; done) | (simp [sized]; omega), rfl⟩
end Go.Proofs.YtidadlcknkeodaaGreatDoor
/- Contracts of the reference's functions on principals. -/
namespace Go.WW
def realmB (c : UInt8) : Bool := (c.toNat : Int) == 46 || (c.toNat : Int) == 45 || (decide (65 ≤ (c.toNat : Int)) && decide ((c.toNat : Int) ≤ 90)) || (decide (48 ≤ (c.toNat : Int)) && decide ((c.toNat : Int) ≤ 57))
def dotB (c : UInt8) : Bool := (c.toNat : Int) == 46
def realmAt (s : ByteArray) (i : Nat) : Bool :=
  match s.data.toList[i]? with
  | none => true
  | some c => realmB c && !(dotB c && (i == 0 || i + 1 == s.size || (s.data.toList[i - 1]?).any dotB))
def realmOk (s : ByteArray) : Bool := (List.range s.size).all (realmAt s) && sized s
def prinOk (p : Prin) : Bool := p.parts.all isPart && decide (1 ≤ (p.parts.length : Int)) && decide ((p.parts.length : Int) ≤ 4) && realmOk p.realm
def samePrin (p q : Prin) : Bool := decide (p.realm = q.realm) && decide (p.parts = q.parts)
theorem le_max {n : Nat} (h : n ≤ lim) : n ≤ maxLen := by unfold lim at h; unfold maxLen; omega
theorem realmAt_at (s : ByteArray) (k : Nat) (h : k < s.size) : realmAt s k = (realmB s[k] && !(dotB s[k] && (k == 0 || k + 1 == s.size || (s.data.toList[k - 1]?).any dotB))) := by
  unfold realmAt; rw [bget s k h]
theorem realm_no (s : ByteArray) (k : Nat) (h : k < s.size) (hn : realmAt s k = false) : realmOk s = false := by
  have : (List.range s.size).all (realmAt s) = false := by rw [List.all_eq_false]; exact ⟨k, List.mem_range.2 h, by simp [hn]⟩
  rw [realmOk, this]; rfl
theorem realm_step (s : ByteArray) (k : Nat) (h : (List.range k).all (realmAt s) = true) (hn : realmAt s k = true) : (List.range (k + 1)).all (realmAt s) = true := by
  rw [List.range_succ, List.all_append, h]; simp [hn]
theorem realm_end (s : ByteArray) (k : Nat) (hk : k = s.size) (h : (List.range k).all (realmAt s) = true) : realmOk s = sized s := by
  subst hk; rw [realmOk, h]; rfl
theorem byte_ways (c : Int) : c = 46 ∨ c = 45 ∨ (65 ≤ c ∧ c ≤ 90) ∨ (48 ≤ c ∧ c ≤ 57) ∨ c < 45 ∨ c = 47 ∨ (57 < c ∧ c < 65) ∨ 90 < c := by omega
theorem realmB_yes {c : UInt8} (h : (c.toNat : Int) = 46 ∨ (c.toNat : Int) = 45 ∨ (65 ≤ (c.toNat : Int) ∧ (c.toNat : Int) ≤ 90) ∨ (48 ≤ (c.toNat : Int) ∧ (c.toNat : Int) ≤ 57)) : realmB c = true := by
  unfold realmB; simp; omega
theorem realmB_no {c : UInt8} (h : (c.toNat : Int) < 45 ∨ (c.toNat : Int) = 47 ∨ (57 < (c.toNat : Int) ∧ (c.toNat : Int) < 65) ∨ 90 < (c.toNat : Int)) : realmB c = false := by
  unfold realmB; simp; omega
theorem dotB_no {c : UInt8} (h : ¬ (c.toNat : Int) = 46) : dotB c = false := by unfold dotB; simpa using h
theorem dotB_yes {c : UInt8} (h : (c.toNat : Int) = 46) : dotB c = true := by unfold dotB; simpa using h
theorem realmAt_no {s : ByteArray} {k : Nat} (hk : k < s.size) (h : realmB s[k] = false) : realmAt s k = false := by rw [realmAt_at s k hk, h]; rfl
theorem realmAt_plain {s : ByteArray} {k : Nat} (hk : k < s.size) (h : realmB s[k] = true) (h' : dotB s[k] = false) : realmAt s k = true := by rw [realmAt_at s k hk, h, h']; rfl
theorem realmAt_dot {s : ByteArray} {k : Nat} (hk : k < s.size) (h' : dotB s[k] = true) : realmAt s k = !(k == 0 || k + 1 == s.size || (s.data.toList[k - 1]?).any dotB) := by
  have : realmB s[k] = true := realmB_yes (.inl (by unfold dotB at h'; simpa using h'))
  rw [realmAt_at s k hk, this, h']; rfl
end Go.WW
namespace Go.Proofs.YtidadlcknkeodaaGreatDoor
open Go.RowKit Go.WW
theorem realm15_c (s : ByteArray) (w : World) (hs : s.size ≤ lim) : Calls Tryz.prog 61 #[.string s] w fun e w' => e = .returned (.bool (realmOk s)) ∧ w = w' := by
  have hs' : s.size ≤ 4294967000 := hs
  go_enter Tryz.func61, Tryz.ntmps61
  go_wp2
  go_loop [3] (fun i => ∃ k : Nat, k ≤ s.size ∧ i = .int .i64 k ∧ Hid ((List.range k).all (realmAt s) = true)) (fun i => s.size - (intOf i).toNat)
  case atStart => exact ⟨0, Nat.zero_le _, rfl, by simp [Hid]⟩
  case round =>
    obtain ⟨k, hk, rfl, hall⟩ := hrel
    by_cases hlt : k < s.size
    · have hall' := hall; clear hall
      rcases byte_ways (s[k].toNat : Int) with hc | hc | ⟨hc1, hc2⟩ | ⟨hc1, hc2⟩ | hc | hc | ⟨hc1, hc2⟩ | hc
      · have HD := dotB_yes hc
        have HA := Lib.hid (realmAt_dot hlt HD)
        clear HD
        have hb : ((s[k].toNat : Int) == 46) = true := by simp [hc]
        have hb' : ((s[k].toNat : Int) != 46) = false := by simp [hc]
        clear hc
        by_cases h0 : k = 0
        · subst h0
          go_wp2
          go_ret
          exact ⟨by rw [realm_no s 0 hlt (by rw [HA.out]; rfl)]; rfl, rfl⟩
        · have h0' : ((k : Int) == 0) = false := by simp; omega
          by_cases h1 : k + 1 = s.size
          · have h1' : ((k : Int) == (s.size : Int) - 1) = true := by simp; omega
            have H1 := Lib.hid h1
            clear h1
            go_wp2
            go_ret
            exact ⟨by rw [realm_no s k hlt (by rw [HA.out, H1.out]; simp)]; rfl, rfl⟩
          · obtain ⟨j, rfl⟩ : ∃ j, k = j + 1 := ⟨k - 1, by omega⟩
            have hj : j < s.size := by omega
            have h0'' : ((j : Int) + 1 == 0) = false := by simp; omega
            have h1' : ((j : Int) + 1 == (s.size : Int) - 1) = false := by simp; omega
            have H1 := Lib.hid h1
            clear h1 h0 h0'
            by_cases h2 : (s[j].toNat : Int) = 46
            · have h2' : ((s[j].toNat : Int) == 46) = true := by simp [h2]
              have HJ := Lib.hid (dotB_yes h2)
              clear h2
              go_wp2
              go_ret
              exact ⟨by rw [realm_no s (j + 1) hlt (by rw [HA.out]; simp [bget s j hj, HJ.out])]; rfl, rfl⟩
            · have h2' : ((s[j].toNat : Int) == 46) = false := by simp [h2]
              have HJ := Lib.hid (dotB_no h2)
              clear h2
              have HS := Lib.hid (realm_step s (j + 1) hall'.out (by rw [HA.out]; simp [bget s j hj, HJ.out, H1.out]))
              go_wp2
              go_round
              case rel => exact ⟨j + 1 + 1, by omega, by go_num, HS.out⟩
              case measure => simp [intOf]; omega
      · have HA := Lib.hid (realmAt_plain hlt (realmB_yes (.inr (.inl hc))) (dotB_no (by omega)))
        go_wp2
        go_round
        case rel => exact ⟨k + 1, by omega, by go_num, realm_step s k hall'.out HA.out⟩
        case measure => simp [intOf]; omega
      · have HA := Lib.hid (realmAt_plain hlt (realmB_yes (.inr (.inr (.inl ⟨hc1, hc2⟩)))) (dotB_no (by omega)))
        go_wp2
        go_round
        case rel => exact ⟨k + 1, by omega, by go_num, realm_step s k hall'.out HA.out⟩
        case measure => simp [intOf]; omega
      · have HA := Lib.hid (realmAt_plain hlt (realmB_yes (.inr (.inr (.inr ⟨hc1, hc2⟩)))) (dotB_no (by omega)))
        go_wp2
        go_round
        case rel => exact ⟨k + 1, by omega, by go_num, realm_step s k hall'.out HA.out⟩
        case measure => simp [intOf]; omega
      all_goals
        have HA := Lib.hid (realm_no s k hlt (realmAt_no hlt (realmB_no (by omega))))
        have b1 : ((s[k].toNat : Int) == 46) = false := by simp; omega
        have b2 : ((s[k].toNat : Int) != 46) = true := by simp; omega
        have b3 : ((s[k].toNat : Int) != 45) = true := by simp; omega
        first | (have b4 : decide ((s[k].toNat : Int) ≤ 57) = false := (by simp; omega)) | skip
        first | (have b5 : decide ((s[k].toNat : Int) ≤ 90) = false := (by simp; omega)) | skip
        go_wp2
        go_ret
        exact ⟨by rw [HA.out]; rfl, rfl⟩
    · have HE := Lib.hid (realm_end s k (by omega) hall.out)
      go_wp2
      all_goals go_ret
      all_goals exact ⟨by rw [HE.out]; first | rfl | (simp [sized, *]; done) | (simp [sized]; omega), rfl⟩
end Go.Proofs.YtidadlcknkeodaaGreatDoor
/- Contracts: equality of principals. -/
namespace Go.WW
theorem str_ne (a b : ByteArray) (h : ¬ a = b) : (a.toList == b.toList) = false := by
  rw [ByteArray.toList_eq, ByteArray.toList_eq, beq_eq_false_iff_ne]
  exact fun e => h (WideShapes.bytes_inj e)
end Go.WW
namespace Go.Proofs.YtidadlcknkeodaaGreatDoor
open Go.RowKit Go.WW
end Go.Proofs.YtidadlcknkeodaaGreatDoor
/- Contracts: the reference's key lengths, valid keys, valid sets. -/
namespace Go.WW
def keyLen (p : Int) : Int := if p == 1 then 16 else if p == 2 then 32 else 0
def keyOk (k : Key) : Bool := decide (0 < keyLen k.profile) && ((k.bytes.length : Int) == keyLen k.profile) && btw k.version 0 65535
def keyFits (master ver : Int) (k : Key) : Bool := !(keyLen k.profile == 0) && !(k.version != ver) && (if master == 0 then keyOk k else btw k.bytes.length 1 256)
def ordAt {α : Type} (r : α → α → Bool) (l : List α) (i : Nat) : Bool := i == 0 || (match l[i - 1]?, l[i]? with | some a, some b => r a b | _, _ => true)
def ordered {α : Type} (r : α → α → Bool) (l : List α) : Bool := (List.range l.length).all (ordAt r l)
def profLt (a b : Key) : Bool := decide (a.profile < b.profile)
def setEnd (s : KeySet) : Bool := btw s.version 1 65535 && btw s.keys.length 1 4 && decide ((s.salt.size : Int) ≤ 256) && btw s.iterations 0 65536 && (decide (0 < s.iterations) || s.salt.toList.isEmpty) && btw s.created 0 1099511627776
def setOk (master : Int) (s : KeySet) : Bool := s.keys.all (keyFits master s.version) && ordered profLt s.keys && setEnd s
end Go.WW
namespace Go.Proofs.YtidadlcknkeodaaGreatDoor
open Go.RowKit Go.WW
end Go.Proofs.YtidadlcknkeodaaGreatDoor
/- Contracts: policies. -/
namespace Go.WW
def letterC (c : Int) : Int := if 97 ≤ c ∧ c ≤ 122 then 1 else if 65 ≤ c ∧ c ≤ 90 then 2 else if 48 ≤ c ∧ c ≤ 57 then 3 else 0
def classC (c : Int) : Int := if 97 ≤ c ∧ c ≤ 122 then 1 else if 65 ≤ c ∧ c ≤ 90 then 2 else if 48 ≤ c ∧ c ≤ 57 then 3 else if 32 ≤ c ∧ c ≤ 126 then 4 else 5
def polB (c : UInt8) : Bool := !(letterC c.toNat == 0) || (c.toNat : Int) == 45 || (c.toNat : Int) == 95 || (c.toNat : Int) == 46
def polName (s : ByteArray) : Bool := s.data.toList.all polB && btw s.size 1 32
def polOk (p : Policy) : Bool := polName p.name && btw p.length 1 64 && btw p.classes 1 5 && btw p.distinct 0 p.length && btw p.history 0 16 && btw p.minAge 0 1099511627776 && btw p.maxAge 0 1099511627776 && (p.maxAge == 0 || decide (p.minAge ≤ p.maxAge)) && btw p.fails 0 1000 && btw p.window 0 1099511627776 && btw p.lock 0 1099511627776
end Go.WW
namespace Go.Proofs.YtidadlcknkeodaaGreatDoor
open Go.RowKit Go.WW
end Go.Proofs.YtidadlcknkeodaaGreatDoor
/- Contract of policy.Valid. -/
namespace Go.Proofs.YtidadlcknkeodaaGreatDoor
open Go.RowKit Go.WW
end Go.Proofs.YtidadlcknkeodaaGreatDoor
/- strings.splitSeq$1: the parts of a string at the dots. -/
namespace Go.WW
open Go.RowKit
inductive Split : ByteArray → List ByteArray → Prop
  | last (s : ByteArray) (h : Lib.indexByte s.data.toList 46 < 0) : Split s [s]
  | more (s : ByteArray) (k : Nat) (ys : List ByteArray) (h : Lib.indexByte s.data.toList 46 = (k : Int)) (hk : k < s.size) (t : Split (s.extract (k + 1) s.size) ys) : Split s (s.extract 0 k :: ys)
def strIn (w : World) (b : Nat) : Nat := match w.cell? ⟨b, 0, none⟩ with | some (.string s) => s.size | _ => 0
theorem strIn_eq {w : World} {b : Nat} {s : ByteArray} (h : w.cell? ⟨b, 0, none⟩ = some (.string s)) : strIn w b = s.size := by unfold strIn; rw [h]
theorem index_ways (s : ByteArray) : Lib.indexByte s.data.toList 46 = -1 ∨ ∃ k : Nat, Lib.indexByte s.data.toList 46 = (k : Int) ∧ k < s.size := by
  have : ∀ l : List UInt8, Lib.indexByte l 46 = -1 ∨ ∃ k : Nat, Lib.indexByte l 46 = (k : Int) ∧ k < l.length := by
    intro l
    induction l with
    | nil => left; rfl
    | cons b l ih =>
      unfold Lib.indexByte
      by_cases hb : (b == 46) = true
      · right; exact ⟨0, by simp [hb], by simp⟩
      · rcases ih with h | ⟨k, h, hk⟩
        · left; simp [hb, h]
        · right; refine ⟨k + 1, ?_, by simp; omega⟩
          have : ¬ ((k : Int) = -1) := by omega
          simp [hb, h, this]
  simpa using this s.data.toList
theorem split_total (n : Nat) : ∀ s : ByteArray, s.size ≤ n → ∃ ys, Split s ys := by
  induction n with
  | zero =>
    intro s h
    rcases index_ways s with hi | ⟨k, hi, hk⟩
    · exact ⟨_, .last s (by rw [hi]; decide)⟩
    · omega
  | succ n ih =>
    intro s h
    rcases index_ways s with hi | ⟨k, hi, hk⟩
    · exact ⟨_, .last s (by rw [hi]; decide)⟩
    · obtain ⟨ys, hys⟩ := ih (s.extract (k + 1) s.size) (by simp; omega)
      exact ⟨_, .more s k ys hi hk hys⟩
end Go.WW
namespace Go.Proofs.YtidadlcknkeodaaGreatDoor
open Go.RowKit Go.WW
attribute [local go_sem] Oper.semAt_some
theorem splitSeq1_c (n : Nat) (hn : 1 ≤ n) (m B : Nat) (s : ByteArray) (hs : s.size ≤ lim) (w : World) (hB : m + 2 < B)
  (hc0 : w.cell? ⟨m, 0, none⟩ = some (.string s)) (hc1 : w.cell? ⟨m + 1, 0, none⟩ = some (.string ⟨#[46]⟩)) (hc2 : w.cell? ⟨m + 2, 0, none⟩ = some (.int .i64 0)) (hf : w.frozen? ⟨m, 0, none⟩ = false) :
  SeqCell Fence.wide n Tryz.prog 178 #[.pointer (some ⟨m + 1, 0, none⟩), .pointer (some ⟨m, 0, none⟩), .pointer (some ⟨m + 2, 0, none⟩)] (fun x : ByteArray => #[.string x]) m B (fun x => x.size ≤ lim) (Split s) (fun pre => ∃ ys, Split s (pre ++ ys)) w := by
  intro l J Jx W hW hJs hY h0
  have hs' : s.size ≤ 4294967000 := hs
  refine callsIn_of_wp Tryz.func178 rfl trivial ?_ rfl
  simp only [Tryz.ntmps178, List.size_toArray, List.length_cons, List.length_nil, Nat.reduceAdd, Nat.reduceSub, Array.replicate_succ, Array.replicate_zero, List.push_toArray, List.append_toArray, List.nil_append, List.cons_append]
  have hd1 : W.cell? ⟨m + 1, 0, none⟩ = some (.string ⟨#[46]⟩) := (hW.cell (p := ⟨m + 1, 0, none⟩) (by simp; omega)).trans hc1
  gi_wp2
  have hfW : W.frozen? ⟨m, 0, none⟩ = false := (hW.frozen (p := ⟨m, 0, none⟩) (by simp; omega)).trans hf
  gi_loopw [] (fun wr => ∃ (pre : List ByteArray) (r : ByteArray), wr.cell? ⟨m, 0, none⟩ = some (.string r) ∧ wr.frozen? ⟨m, 0, none⟩ = false ∧ wr.cell? ⟨m + 1, 0, none⟩ = some (.string ⟨#[46]⟩) ∧ wr.cell? ⟨m + 2, 0, none⟩ = some (.int .i64 0) ∧ J pre wr ∧ r.size ≤ s.size ∧ ∀ ys, Split r ys → Split s (pre ++ ys)) (fun wr => strIn wr m)
  case atStart => exact ⟨[], s, (hW.cell (p := ⟨m, 0, none⟩) (by simp; omega)).trans hc0, hfW, hd1, (hW.cell (p := ⟨m + 2, 0, none⟩) (by simp; omega)).trans hc2, h0, Nat.le_refl _, fun ys h => h⟩
  case round =>
    obtain ⟨pre, r, h1, hf1, h2, h3, hJ, hrs, hsp⟩ := hrel
    rcases index_ways r with hi | ⟨k, hi, hk⟩
    · obtain ⟨fn, tmps, assign, body, hy, hR⟩ := hY pre r wr (by unfold lim; omega) hJ
      gi_wp2_with (refine ⟨trivial, ?_⟩; gi_at_call 180; refine (callsIn_wide.2 (Tryz.strings_Index_one _ _ _)).mono ?_; rintro e w' ⟨rfl, rfl⟩; rw [hi])
      refine hR.mono ?_
      have hS : Split s (pre ++ [r]) := hsp _ (.last r (by rw [hi]; decide))
      rintro e W3 (⟨rfl, hJ3, hk3⟩ | ⟨rfl, hJx3⟩)
      · gi_wp2
        go_end0
        exact ⟨⟨_, rfl⟩, .inl ⟨_, hS, hJ3⟩⟩
      · gi_wp2
        go_end0
        exact ⟨⟨_, rfl⟩, .inr ⟨_, ⟨[], by simpa using hS⟩, hJx3⟩⟩
    · have hk' : k ≤ r.size := by omega
      have hr' : r.size ≤ 4294967000 := by omega
      obtain ⟨fn, tmps, assign, body, hy, hR⟩ := hY pre (r.extract 0 k) wr (by unfold lim; simp; omega) hJ
      gi_wp2_with (refine ⟨trivial, ?_⟩; gi_at_call 180; refine (callsIn_wide.2 (Tryz.strings_Index_one _ _ _)).mono ?_; rintro e w' ⟨rfl, rfl⟩; rw [hi])
      refine hR.mono ?_
      rintro e W3 (⟨rfl, hJ3, hk3⟩ | ⟨rfl, hJx3⟩)
      · have g1 := (hk3.cell (p := ⟨m, 0, none⟩) (by simp; omega)).trans h1
        have g2 := (hk3.cell (p := ⟨m + 1, 0, none⟩) (by simp; omega)).trans h2
        have g3 := (hk3.cell (p := ⟨m + 2, 0, none⟩) (by simp; omega)).trans h3
        have gf := (hk3.frozen (p := ⟨m, 0, none⟩) (by simp; omega)).trans hf1
        gi_wp2
        go_roundw
        case rel =>
          refine ⟨pre ++ [r.extract 0 k], r.extract (k + 1) r.size, World.cell?_setCell_same' _ _ _ (by rw [g1]; rfl), by rw [World.frozen?_setCell]; exact gf, ?_, ?_, hJs _ _ _ hJ3, ?_, ?_⟩
          · rw [World.cell?_setCell_other _ _ _ _ (by simp)]; exact g2
          · rw [World.cell?_setCell_other _ _ _ _ (by simp)]; exact g3
          · simp; omega
          · intro ys hy; rw [List.append_assoc]; exact hsp _ (.more r k ys hi hk hy)
        case measure =>
          rw [strIn_eq (World.cell?_setCell_same' _ _ _ (by rw [g1]; rfl)), strIn_eq h1]
          simp; omega
      · gi_wp2
        refine bodyPost_ret (results_none rfl _ _ _) rfl ?_
        obtain ⟨ys, hys⟩ := split_total (r.extract (k + 1) r.size).size _ (Nat.le_refl _)
        exact ⟨⟨_, rfl⟩, .inr ⟨_, ⟨ys, by rw [List.append_assoc]; exact hsp _ (.more r k ys hi hk hys)⟩, hJx3⟩⟩
end Go.Proofs.YtidadlcknkeodaaGreatDoor
