/- Part 5 of the proof about watchword's lockout: texts F5 F6. -/
import Derived.Test.YtnpddjmjdpgohaaGreatDoorG4
import Derived.Test.YtnpddjmjdpgohaaGreatDoorGE
import Derived.Test.YtnpddjmjdpgohaaGreatDoorGR

namespace Go.WW
open Go.RowKit
def leT (a b : ByteArray) : Bool := Op.bytesLess a.toList b.toList || (a.toList == b.toList)
def putPol (p : Policy) (at_ : Int) : Nat → Bool → List Policy → List Policy
 | _, dn, [] => if dn then [] else [p]
 | k, dn, q :: l => (if !dn && leT p.name q.name then [p] else []) ++ ((if (k : Int) != at_ then [q] else []) ++ putPol p at_ (k + 1) (dn || leT p.name q.name) l)
def PolAt (p : Policy) (at_ : Int) (L R : List Policy) (k : Nat) (dn : Bool) : Prop := putPol p at_ 0 false L = R ++ putPol p at_ k dn (L.drop k)
theorem polAt_start (p : Policy) (at_ : Int) (L : List Policy) : PolAt p at_ L [] 0 false := rfl
theorem polAt_step {p : Policy} {at_ : Int} {L R : List Policy} {k : Nat} {dn : Bool} (h : PolAt p at_ L R k dn) (hk : k < L.length) :
  PolAt p at_ L (R ++ (if !dn && leT p.name L[k].name then [p] else []) ++ (if (k : Int) != at_ then [L[k]] else [])) (k + 1) (dn || leT p.name L[k].name) := by
 unfold PolAt at *
 rw [h, List.drop_eq_getElem_cons hk]
 simp [putPol, List.append_assoc]
theorem polAt_end {p : Policy} {at_ : Int} {L R : List Policy} {k : Nat} {dn : Bool} (h : PolAt p at_ L R k dn) (hk : L.length ≤ k) : putPol p at_ 0 false L = R ++ (if dn then [] else [p]) := by
 unfold PolAt at h; rw [h, List.drop_of_length_le hk]; rfl
theorem putPol_done (p : Policy) (at_ : Int) : ∀ (l : List Policy) (k : Nat), (putPol p at_ k true l).length ≤ l.length
 | [], _ => by simp [putPol]
 | q :: l, k => by
  have ih := putPol_done p at_ l (k + 1)
  unfold putPol
  simp only [Bool.not_true, Bool.false_and, Bool.true_or, Bool.false_eq_true, if_false, List.nil_append, List.length_append, List.length_cons]
  split <;> simp <;> omega
theorem putPol_len (p : Policy) (at_ : Int) : ∀ (l : List Policy) (k : Nat) (dn : Bool), (putPol p at_ k dn l).length ≤ l.length + 1
 | [], _, dn => by unfold putPol; split <;> simp
 | q :: l, k, dn => by
  have ih := putPol_len p at_ l (k + 1)
  unfold putPol
  simp only [List.length_append, List.length_cons]
  cases dn
  ·cases h : leT p.name q.name
   ·have := ih false
    simp only [Bool.not_false, Bool.true_and, Bool.false_or, Bool.false_eq_true, if_false, List.length_nil]
    split <;> simp <;> omega
   ·have h1 : (putPol p at_ (k + 1) true l).length ≤ l.length := putPol_done p at_ l (k + 1)
    simp only [Bool.not_false, Bool.true_and, Bool.false_or, if_true, List.length_cons, List.length_nil]
    split <;> simp <;> omega
  ·have h1 : (putPol p at_ (k + 1) true l).length ≤ l.length := putPol_done p at_ l (k + 1)
   simp only [Bool.not_true, Bool.false_and, Bool.true_or, Bool.false_eq_true, if_false, List.length_nil]
   split <;> simp <;> omega
end Go.WW

namespace Go.WW
open Go.RowKit
theorem PolsAt.of_own {w : World} {base : Nat} {e : TypeId} {s : Sl} {L : List Policy} (h : Own w base e 10 s (L.map polC)) (hn : L.length ≤ lim) (hs : ∀ p ∈ L, p.name.size ≤ lim) : PolsAt w s.a L :=
 RowsAt.of_own h (by simp) hn (fun i hi => by simp at hi; exact ⟨L[i], List.getElem?_eq_getElem hi, by simp, hs _ (List.getElem_mem hi)⟩)
theorem putPol_mem (p : Policy) (at_ : Int) : ∀ (l : List Policy) (k : Nat) (dn : Bool) (x : Policy), x ∈ putPol p at_ k dn l → x = p ∨ x ∈ l
 | [], _, dn, x, h => by unfold putPol at h; split at h <;> simp at h; exact .inl h
 | q :: l, k, dn, x, h => by
  unfold putPol at h
  simp only [List.mem_append] at h
  rcases h with h | h | h
  ·split at h <;> simp at h; exact .inl h
  ·split at h <;> simp at h; exact .inr (by simp [h])
  ·rcases putPol_mem p at_ l _ _ x h with h | h
   ·exact .inl h
   ·exact .inr (by simp [h])
def OutP (e : Sl) (D : Db) (no : Int) (w : World) (x : Ending) (w' : World) : Prop := ∃ s : Sl, x = .returned (.tuple #[.agg (rdbC e s D), .int .i64 no]) ∧ Below w.heap.size w w' ∧ Dep w' (fresh w.heap.size w') (fun y => PolsAt y s.a D.policies)
end Go.WW
namespace Go.Proofs.YtnpddjmjdpgohaaGreatDoor
open Go.RowKit Go.WW
theorem elemPol : ElemOk Tryz.prog 45 33 10 88 := ElemOk.of Tryz.underlying45 (by kernel_rfl)
set_option maxRecDepth 100000 in
set_option maxHeartbeats 1000000 in
theorem putPolicy26_bad (e q : Sl) (D : Db) (p : Policy) (w : World) (hs : p.name.size ≤ lim) (hv : polOk p = false) : Calls Tryz.prog 36 #[.agg (rdbC e q D), .agg (polC p)] w fun x w' => x = .returned (.tuple #[.agg (rdbC e q D), .int .i64 2]) ∧ Below w.heap.size w w' := by
 have hB : Below w.heap.size w (((w.alloc (.cells (rdbC e q D) 50)).alloc (.cells (polC p) 33)).alloc (.cells #[.string ⟨#[]⟩, .int .i64 0, .slice none 0 0, .slice none 0 0] 50)) := (((Below.refl _ _).alloc (Nat.le_refl _) _).alloc (by simp) _).alloc (by simp; omega) _
 have hx2 : (((w.alloc (.cells (rdbC e q D) 50)).alloc (.cells (polC p) 33)).alloc (.cells #[.string ⟨#[]⟩, .int .i64 0, .slice none 0 0, .slice none 0 0] 50)).heap[w.heap.size]? = some (.cells (rdbC e q D) 50) := by rw [Below.heap_alloc _ _ _ (by simp; omega)]; exact second_blk w _ _
 have hx3 : (((w.alloc (.cells (rdbC e q D) 50)).alloc (.cells (polC p) 33)).alloc (.cells #[.string ⟨#[]⟩, .int .i64 0, .slice none 0 0, .slice none 0 0] 50)).heap[w.heap.size + 1]? = some (.cells (polC p) 33) := by rw [Below.heap_alloc _ _ _ (by simp)]; have := World.alloc_heap_new (w.alloc (.cells (rdbC e q D) 50)) (.cells (polC p) 33); simpa using this
 have hz : canPut (((w.alloc (.cells (rdbC e q D) 50)).alloc (.cells (polC p) 33)).alloc (.cells #[.string ⟨#[]⟩, .int .i64 0, .slice none 0 0, .slice none 0 0] 50)) (w.heap.size + 1 + 1) 0 4 = true := by simp [go_sem]
 have hW : (((w.alloc (.cells (rdbC e q D) 50)).alloc (.cells (polC p) 33)).alloc (.cells #[.string ⟨#[]⟩, .int .i64 0, .slice none 0 0, .slice none 0 0] 50)).heap.size = w.heap.size + 1 + 1 + 1 := by simp
 go_enter Tryz.func36, Tryz.ntmps36
 go_wp2_with fail
 generalize (((w.alloc (.cells (rdbC e q D) 50)).alloc (.cells (polC p) 33)).alloc (.cells #[.string ⟨#[]⟩, .int .i64 0, .slice none 0 0, .slice none 0 0] 50)) = W at *
 refine (valid23_c _ _ hs).mono ?_
 rintro x w1 ⟨rfl, hb1⟩
 have hy2 := still_blk hb1 hx2
 have hy3 := still_blk hb1 hx3
 have hz1 := (bput hb1 (w.heap.size + 1 + 1) 0 4 (by omega)).trans hz
 have hs1 := hb1.size
 obtain ⟨hc, hf, hr, hlt⟩ := box_facts hy2
 obtain ⟨hc3, hf3, hr3, hlt3⟩ := box_facts hy3
 have hne : w.heap.size + 1 + 1 ≠ w.heap.size := by omega
 rw [hv]
 have hlt4 : w.heap.size + 1 + 1 < w1.heap.size := by omega
 go_wp2_with fail
 have hrow := row?_putRow_whole (w := w1) (rdbC_size e q D) hz1
 exact bodyPost_ret (results_row2 (by rfl) Tryz.underlying50 rfl (by kernel_rfl) rfl hrow) rfl ⟨rfl, Go.WW.Below.putRow (below_step hB hb1) (by omega)⟩
set_option maxRecDepth 100000 in
set_option maxHeartbeats 2000000 in
theorem putPolicy26_nil (e q : Sl) (D : Db) (p : Policy) (w : World) (hs : p.name.size ≤ lim) (hv : polOk p = true) (hp : PolsAt w q.a D.policies) (hn : D.policies.length = 0) (hs0 : 0 ≤ D.serial) (hs1 : D.serial < 1000000) (hi : idxOf (fun z => decide (z.name = p.name)) D.policies = -1) : Calls Tryz.prog 36 #[.agg (rdbC e q D), .agg (polC p)] w (OutP e { D with policies := putPol p (-1) 0 false D.policies, serial := D.serial + 1 } 0 w) := by
 have hB : Below w.heap.size w (((w.alloc (.cells (rdbC e q D) 50)).alloc (.cells (polC p) 33)).alloc (.cells #[.string ⟨#[]⟩, .int .i64 0, .slice none 0 0, .slice none 0 0] 50)) := (((Below.refl _ _).alloc (Nat.le_refl _) _).alloc (by simp) _).alloc (by simp; omega) _
 have hx2 : (((w.alloc (.cells (rdbC e q D) 50)).alloc (.cells (polC p) 33)).alloc (.cells #[.string ⟨#[]⟩, .int .i64 0, .slice none 0 0, .slice none 0 0] 50)).heap[w.heap.size]? = some (.cells (rdbC e q D) 50) := by rw [Below.heap_alloc _ _ _ (by simp; omega)]; exact second_blk w _ _
 have hx3 : (((w.alloc (.cells (rdbC e q D) 50)).alloc (.cells (polC p) 33)).alloc (.cells #[.string ⟨#[]⟩, .int .i64 0, .slice none 0 0, .slice none 0 0] 50)).heap[w.heap.size + 1]? = some (.cells (polC p) 33) := by rw [Below.heap_alloc _ _ _ (by simp)]; have := World.alloc_heap_new (w.alloc (.cells (rdbC e q D) 50)) (.cells (polC p) 33); simpa using this
 have hz : canPut (((w.alloc (.cells (rdbC e q D) 50)).alloc (.cells (polC p) 33)).alloc (.cells #[.string ⟨#[]⟩, .int .i64 0, .slice none 0 0, .slice none 0 0] 50)) (w.heap.size + 1 + 1) 0 4 = true := by simp [go_sem]
 have hW : (((w.alloc (.cells (rdbC e q D) 50)).alloc (.cells (polC p) 33)).alloc (.cells #[.string ⟨#[]⟩, .int .i64 0, .slice none 0 0, .slice none 0 0] 50)).heap.size = w.heap.size + 1 + 1 + 1 := by simp
 have hrem : (D.serial + 1).tmod 4611686018427387904 = D.serial + 1 := Int.tmod_eq_of_lt (by omega) (by omega)
 go_enter Tryz.func36, Tryz.ntmps36
 go_wp2_with fail
 generalize (((w.alloc (.cells (rdbC e q D) 50)).alloc (.cells (polC p) 33)).alloc (.cells #[.string ⟨#[]⟩, .int .i64 0, .slice none 0 0, .slice none 0 0] 50)) = W at *
 refine (valid23_c _ _ hs).mono ?_
 rintro x w1 ⟨rfl, hb1⟩
 have hy2 := still_blk hb1 hx2
 have hy3 := still_blk hb1 hx3
 have hz1 := (bput hb1 (w.heap.size + 1 + 1) 0 4 (by omega)).trans hz
 have hs1 := hb1.size
 obtain ⟨hc, hf, hr, hlt⟩ := box_facts hy2
 obtain ⟨hc3, hf3, hr3, hlt3⟩ := box_facts hy3
 have hne : w.heap.size + 1 + 1 ≠ w.heap.size := by omega
 rw [hv]
 go_wp2_with fail
 refine (policy26_c _ _ _ _ _ (hp.later (below_step hB hb1))).mono ?_
 rintro x w2 ⟨rfl, hb2⟩
 rw [hi]
 have hb12 := below_step hb1 hb2
 clear hc hf hr hlt hc3 hf3 hr3 hlt3 hz1 hy2 hy3 hs1
 have hy2 := still_blk hb12 hx2
 have hy3 := still_blk hb12 hx3
 obtain ⟨hc, hf, hr, hlt⟩ := box_facts hy2
 obtain ⟨hc3, hf3, hr3, hlt3⟩ := box_facts hy3
 have hl64 : ¬ (64 : Int) ≤ (D.policies.length : Int) := by omega
 go_wp2_with fail
 go_loopw [7, 8, 9] (fun ov dv iv wr => ∃ (k m : Nat) (dn : Bool) (so : Sl) (R : List Policy), k ≤ D.policies.length ∧ m ≤ 2 * k ∧ iv = .int .i64 k ∧ dv = .bool dn ∧ ov = .slice so.a m so.cap ∧ Hid (R.length = m) ∧ Hid (PolAt p (-1) D.policies R k dn) ∧ Below W.heap.size W wr ∧ Go.WW.Own wr W.heap.size 33 10 so (R.map polC)) (fun _ _ iv _ => D.policies.length - (intOf iv).toNat)
 case atStart => exact ⟨0, 0, false, ⟨none, 0⟩, [], Nat.zero_le _, by omega, rfl, rfl, rfl, rfl, polAt_start _ _ _, hb12, Go.WW.Own.nil _ _ _ _⟩
 case round =>
  obtain ⟨k, m, dn, so, R, hk, hmk, rfl, rfl, rfl, hlr, hI, hbr, hO⟩ := hrel
  clear hc hf hr hlt hc3 hf3 hr3 hlt3 hy2 hy3
  have hy2 := still_blk hbr hx2
  have hy3 := still_blk hbr hx3
  obtain ⟨hc, hf, hr, hlt⟩ := box_facts hy2
  obtain ⟨hc3, hf3, hr3, hlt3⟩ := box_facts hy3
  have hBr := below_step hB hbr
  by_cases hkl : k < D.policies.length
  ·omega
  ·have HE := polAt_end hI.out (show D.policies.length ≤ k by omega)
   have hlim : ∀ z ∈ putPol p (-1) 0 false D.policies, z.name.size ≤ lim := fun z hz => by
    rcases putPol_mem _ _ _ _ _ z hz with rfl | h
    ·exact hs
    ·obtain ⟨i', hi', rfl⟩ := List.mem_iff_getElem.1 h; obtain ⟨_, _, _, _, h9⟩ := hp.get i' hi'; exact h9
   have hll := putPol_len p (-1) D.policies 0 false
   cases dn
   ·have HE' : putPol p (-1) 0 false D.policies = R ++ [p] := by simpa using HE
    clear HE
    have hO1 : Go.WW.Own (wr.alloc (.cells (polC p) 33)) W.heap.size 33 10 so (R.map polC) := hO.kept fun g hg => Below.heap_alloc _ _ _ (hO.base hg).2
    go_wp2_with (at_builtin; refine wpList_append_n rfl (.tmp 64) (.tmp 66) _ rfl elemPol (n := m) (s := so) rfl (by have := hlr.out; simp [this]) hO1 rfl rfl (SrcRows.new _ (polC p) _ _ (by simp [go_sem]) (by simp [go_sem])) (by have := hlr.out; simp [this]; omega) (by have h9 := hbr.size; simp; omega) ?_; intro s1 u1 hown1 hg1 hat1; have hbw1 := own_on hO1 (below_new hbr _) hg1; clear hc hf hr hlt hc3 hf3 hr3 hlt3; obtain ⟨hc, hf, hr, hlt⟩ := box_facts (still_blk hbw1 hx2); clear hr; have HL := Lib.hid (show (R ++ [p]).length = m + 1 by have := hlr.out; simp [this]); have HO : Go.WW.Own u1 W.heap.size 33 10 s1 ((R ++ [p]).map polC) := (by simpa using hown1); have hyz := still_blk hbw1 hx2; have hset := setCell_blk (o := 1) (.int .i64 (D.serial + 1)) (setCell_blk (o := 3) (.slice s1.a (m + 1) s1.cap) hyz); have hrw0 : row? ((u1.setCell ⟨w.heap.size, 3, none⟩ (.slice s1.a (m + 1) s1.cap)).setCell ⟨w.heap.size, 1, none⟩ (.int .i64 (D.serial + 1))) w.heap.size 0 4 = some (rdbC e s1 { D with policies := R ++ [p], serial := D.serial + 1 }) := (row?_of_cells hset).trans (by rw [← HL.out]; kernel_rfl); have hne2 : w.heap.size + 1 + 1 ≠ w.heap.size := (by omega); have hcp : canPut ((u1.setCell ⟨w.heap.size, 3, none⟩ (.slice s1.a (m + 1) s1.cap)).setCell ⟨w.heap.size, 1, none⟩ (.int .i64 (D.serial + 1))) (w.heap.size + 1 + 1) 0 4 = true := (canPut_setCell_other hne2).trans ((canPut_setCell_other hne2).trans ((bput hbw1 (w.heap.size + 1 + 1) 0 4 (by omega)).trans hz)))
    have hrow := row?_putRow_whole (rdbC_size e s1 { D with policies := R ++ [p], serial := D.serial + 1 }) hcp
    refine bodyPost_ret (results_row2 (by rfl) Tryz.underlying50 rfl (by kernel_rfl) rfl hrow) rfl ⟨s1, by rw [HE']; rfl, Go.WW.Below.putRow (((below_step hB hbw1).setCell (by simp) _).setCell (by simp) _) (by omega), ?_⟩
    rw [HE']
    refine fun y hy => PolsAt.of_own (HO.kept fun g hg => ?_) (by have h9 := hll; rw [HE'] at h9; show (R ++ [p]).length ≤ lim; unfold lim; omega) (by rw [← HE']; exact hlim)
    have hg1 := HO.base hg
    rw [hy g ⟨by omega, by rw [putRow_size]; simp only [World.setCell, Array.size_modify]; omega⟩, putRow_other (by omega), Below.heap_setCell _ _ _ _ (show g ≠ w.heap.size by omega), Below.heap_setCell _ _ _ _ (show g ≠ w.heap.size by omega)]
   ·have HE' : putPol p (-1) 0 false D.policies = R := by simpa using HE
    clear HE
    have HL := Lib.hid (show (R).length = m by have := hlr.out; simp [this])
    have HO : Go.WW.Own wr W.heap.size 33 10 so ((R).map polC) := (by simpa using hO)
    have hyz := still_blk hbr hx2
    have hset := setCell_blk (o := 1) (.int .i64 (D.serial + 1)) (setCell_blk (o := 3) (.slice so.a (m) so.cap) hyz)
    have hrw0 : row? ((wr.setCell ⟨w.heap.size, 3, none⟩ (.slice so.a (m) so.cap)).setCell ⟨w.heap.size, 1, none⟩ (.int .i64 (D.serial + 1))) w.heap.size 0 4 = some (rdbC e so { D with policies := R, serial := D.serial + 1 }) := (row?_of_cells hset).trans (by rw [← HL.out]; kernel_rfl)
    have hne2 : w.heap.size + 1 + 1 ≠ w.heap.size := (by omega)
    have hcp : canPut ((wr.setCell ⟨w.heap.size, 3, none⟩ (.slice so.a (m) so.cap)).setCell ⟨w.heap.size, 1, none⟩ (.int .i64 (D.serial + 1))) (w.heap.size + 1 + 1) 0 4 = true := (canPut_setCell_other hne2).trans ((canPut_setCell_other hne2).trans ((bput hbr (w.heap.size + 1 + 1) 0 4 (by omega)).trans hz))
    clear hr
    go_wp2_with fail
    have hrow := row?_putRow_whole (rdbC_size e so { D with policies := R, serial := D.serial + 1 }) hcp
    refine bodyPost_ret (results_row2 (by rfl) Tryz.underlying50 rfl (by kernel_rfl) rfl hrow) rfl ⟨so, by rw [HE']; rfl, Go.WW.Below.putRow (((below_step hB hbr).setCell (by simp) _).setCell (by simp) _) (by omega), ?_⟩
    rw [HE']
    refine fun y hy => PolsAt.of_own (HO.kept fun g hg => ?_) (by have h9 := hll; rw [HE'] at h9; show (R).length ≤ lim; unfold lim; omega) (by rw [← HE']; exact hlim)
    have hg1 := HO.base hg
    rw [hy g ⟨by omega, by rw [putRow_size]; simp only [World.setCell, Array.size_modify]; omega⟩, putRow_other (by omega), Below.heap_setCell _ _ _ _ (show g ≠ w.heap.size by omega), Below.heap_setCell _ _ _ _ (show g ≠ w.heap.size by omega)]
set_option maxRecDepth 100000 in
set_option maxHeartbeats 2000000 in
theorem putPolicy26_new (e : Sl) (b o qc : Nat) (D : Db) (p : Policy) (w : World) (hs : p.name.size ≤ lim) (hv : polOk p = true) (hp : PolsAt w (some ⟨b, o, none⟩) D.policies) (hn : D.policies.length < 64) (hb : b < w.heap.size) (hs0 : 0 ≤ D.serial) (hs1 : D.serial < 1000000) (hi : idxOf (fun z => decide (z.name = p.name)) D.policies = -1) : Calls Tryz.prog 36 #[.agg (rdbC e ⟨some ⟨b, o, none⟩, qc⟩ D), .agg (polC p)] w (OutP e { D with policies := putPol p (-1) 0 false D.policies, serial := D.serial + 1 } 0 w) := by
 have hB : Below w.heap.size w (((w.alloc (.cells (rdbC e ⟨some ⟨b, o, none⟩, qc⟩ D) 50)).alloc (.cells (polC p) 33)).alloc (.cells #[.string ⟨#[]⟩, .int .i64 0, .slice none 0 0, .slice none 0 0] 50)) := (((Below.refl _ _).alloc (Nat.le_refl _) _).alloc (by simp) _).alloc (by simp; omega) _
 have hx2 : (((w.alloc (.cells (rdbC e ⟨some ⟨b, o, none⟩, qc⟩ D) 50)).alloc (.cells (polC p) 33)).alloc (.cells #[.string ⟨#[]⟩, .int .i64 0, .slice none 0 0, .slice none 0 0] 50)).heap[w.heap.size]? = some (.cells (rdbC e ⟨some ⟨b, o, none⟩, qc⟩ D) 50) := by rw [Below.heap_alloc _ _ _ (by simp; omega)]; exact second_blk w _ _
 have hx3 : (((w.alloc (.cells (rdbC e ⟨some ⟨b, o, none⟩, qc⟩ D) 50)).alloc (.cells (polC p) 33)).alloc (.cells #[.string ⟨#[]⟩, .int .i64 0, .slice none 0 0, .slice none 0 0] 50)).heap[w.heap.size + 1]? = some (.cells (polC p) 33) := by rw [Below.heap_alloc _ _ _ (by simp)]; have := World.alloc_heap_new (w.alloc (.cells (rdbC e ⟨some ⟨b, o, none⟩, qc⟩ D) 50)) (.cells (polC p) 33); simpa using this
 have hz : canPut (((w.alloc (.cells (rdbC e ⟨some ⟨b, o, none⟩, qc⟩ D) 50)).alloc (.cells (polC p) 33)).alloc (.cells #[.string ⟨#[]⟩, .int .i64 0, .slice none 0 0, .slice none 0 0] 50)) (w.heap.size + 1 + 1) 0 4 = true := by simp [go_sem]
 have hW : (((w.alloc (.cells (rdbC e ⟨some ⟨b, o, none⟩, qc⟩ D) 50)).alloc (.cells (polC p) 33)).alloc (.cells #[.string ⟨#[]⟩, .int .i64 0, .slice none 0 0, .slice none 0 0] 50)).heap.size = w.heap.size + 1 + 1 + 1 := by simp
 have hrem : (D.serial + 1).tmod 4611686018427387904 = D.serial + 1 := Int.tmod_eq_of_lt (by omega) (by omega)
 go_enter Tryz.func36, Tryz.ntmps36
 go_wp2_with fail
 generalize (((w.alloc (.cells (rdbC e ⟨some ⟨b, o, none⟩, qc⟩ D) 50)).alloc (.cells (polC p) 33)).alloc (.cells #[.string ⟨#[]⟩, .int .i64 0, .slice none 0 0, .slice none 0 0] 50)) = W at *
 refine (valid23_c _ _ hs).mono ?_
 rintro x w1 ⟨rfl, hb1⟩
 have hy2 := still_blk hb1 hx2
 have hy3 := still_blk hb1 hx3
 have hz1 := (bput hb1 (w.heap.size + 1 + 1) 0 4 (by omega)).trans hz
 have hs1 := hb1.size
 obtain ⟨hc, hf, hr, hlt⟩ := box_facts hy2
 obtain ⟨hc3, hf3, hr3, hlt3⟩ := box_facts hy3
 have hne : w.heap.size + 1 + 1 ≠ w.heap.size := by omega
 rw [hv]
 go_wp2_with fail
 refine (policy26_c _ _ _ _ _ (hp.later (below_step hB hb1))).mono ?_
 rintro x w2 ⟨rfl, hb2⟩
 rw [hi]
 have hb12 := below_step hb1 hb2
 clear hc hf hr hlt hc3 hf3 hr3 hlt3 hz1 hy2 hy3 hs1
 have hy2 := still_blk hb12 hx2
 have hy3 := still_blk hb12 hx3
 obtain ⟨hc, hf, hr, hlt⟩ := box_facts hy2
 obtain ⟨hc3, hf3, hr3, hlt3⟩ := box_facts hy3
 have hl64 : ¬ (64 : Int) ≤ (D.policies.length : Int) := by omega
 go_wp2_with fail
 go_loopw [7, 8, 9] (fun ov dv iv wr => ∃ (k m : Nat) (dn : Bool) (so : Sl) (R : List Policy), k ≤ D.policies.length ∧ m ≤ 2 * k ∧ iv = .int .i64 k ∧ dv = .bool dn ∧ ov = .slice so.a m so.cap ∧ Hid (R.length = m) ∧ Hid (PolAt p (-1) D.policies R k dn) ∧ Below W.heap.size W wr ∧ Go.WW.Own wr W.heap.size 33 10 so (R.map polC)) (fun _ _ iv _ => D.policies.length - (intOf iv).toNat)
 case atStart => exact ⟨0, 0, false, ⟨none, 0⟩, [], Nat.zero_le _, by omega, rfl, rfl, rfl, rfl, polAt_start _ _ _, hb12, Go.WW.Own.nil _ _ _ _⟩
 case round =>
  obtain ⟨k, m, dn, so, R, hk, hmk, rfl, rfl, rfl, hlr, hI, hbr, hO⟩ := hrel
  clear hc hf hr hlt hc3 hf3 hr3 hlt3 hy2 hy3
  have hy2 := still_blk hbr hx2
  have hy3 := still_blk hbr hx3
  obtain ⟨hc, hf, hr, hlt⟩ := box_facts hy2
  obtain ⟨hc3, hf3, hr3, hlt3⟩ := box_facts hy3
  have hBr := below_step hB hbr
  by_cases hkl : k < D.policies.length
  ·have hki : (k : Int) < (D.policies.length : Int) := by omega
   have hrow0 := (hp.at k hkl).1
   have hbw : b < wr.heap.size := Nat.lt_of_lt_of_le hb hBr.size
   have hcell : wr.cell? ⟨b, o + k * 10, none⟩ = some (.string D.policies[k].name) := by rw [hBr.cell (p := ⟨b, o + k * 10, none⟩) hb]; have := row?_cell hrow0 0 (by omega); simpa [go_sem] using this
   have HS := polAt_step hI.out hkl
   generalize hxk : D.policies[k] = x at *
   cases dn
   ·have hdn0 : true = true := rfl
    have hkq : ((k : Int) != (-1 : Int)) = true := by first | (simp; done) | (simp; omega)
    cases h1 : Op.bytesLess p.name.toList x.name.toList
    ·cases h2 : (p.name.toList == x.name.toList)
     ·have h3 : leT p.name x.name = false := by rw [leT, h1, h2]; rfl
      have HI := Lib.hid (show PolAt p (-1) D.policies (R ++ [x]) (k + 1) false by simpa [hkq, h3] using HS)
      clear HS
      go_wp2_with fail
      refine wp_region_later (Below.refl _ wr) (by kernel_rfl) (by kernel_rfl) ?_
      repeat (go_big_quiet_step (fail))
      refine wpQuiet_nil ?_
      intro w5 hb5
      have hb5' := below_step hbr hb5
      clear hc hf hr hlt hc3 hf3 hr3 hlt3 hcell
      obtain ⟨hc, hf, hr, hlt⟩ := box_facts (still_blk hb5' hx2)
      obtain ⟨hc3, hf3, hr3, hlt3⟩ := box_facts (still_blk hb5' hx3)
      have hrow5 := (row?_of_block ((below_step hB hb5').block b hb) (o + k * 10) 10).trans hrow0
      have hbx5 := Nat.lt_of_lt_of_le hb (below_step hB hb5').size
      go_wp2_with (first
       | (have hO1 : Go.WW.Own (w5.alloc (.cells (polC x) 33)) W.heap.size 33 10 so (R.map polC) := hO.kept (fun g hg => (Below.heap_alloc _ _ _ (Nat.lt_of_lt_of_le (hO.base hg).2 hb5.size)).trans (hb5.block g (hO.base hg).2)); at_builtin; refine wpList_append_n rfl (.tmp 54) (.tmp 60) _ rfl elemPol (n := m) (s := so) rfl (by have := hlr.out; simp [this]) hO1 rfl rfl (SrcRows.new _ (polC x) _ _ (by simp [go_sem]) (by simp [go_sem])) (by have := hlr.out; simp [this]; omega) (by have h9 := hb5'.size; simp; omega) ?_; intro s1 u1 hown1 hg1 hat1; have hbw1 := own_on hO1 (below_new hb5' _) hg1; obtain ⟨gc, gf, gr, gl⟩ := box_facts (still_blk hbw1 hx2); have hrow1 := (row?_of_block ((below_step hB hbw1).block b hb) (o + k * 10) 10).trans hrow0; have hbx1 := Nat.lt_of_lt_of_le hb (below_step hB hbw1).size))
      have HL := Lib.hid (show (R ++ [x]).length = m + 1 by have := hlr.out; simp [this])
      have HO : Go.WW.Own u1 W.heap.size 33 10 s1 ((R ++ [x]).map polC) := by simpa using hown1
      go_roundw
      case rel => first | exact ⟨k + 1, m + 1, false, s1, _, by omega, by omega, by go_num, rfl, rfl, HL.out, HI.out, hbw1, HO⟩ | ((repeat apply Exists.intro); exact ⟨⟨k + 1, m + 1, false, s1, _, by omega, by omega, by go_num, rfl, rfl, HL.out, HI.out, hbw1, HO⟩, rfl⟩)
      case measure => simp [intOf]; omega
     ·have h3 : leT p.name x.name = true := by rw [leT, h1, h2]; rfl
      have HI := Lib.hid (show PolAt p (-1) D.policies (R ++ [p] ++ [x]) (k + 1) true by simpa [hkq, h3] using HS)
      clear HS
      go_wp2_with fail
      refine wp_region_later (Below.refl _ wr) (by kernel_rfl) (by kernel_rfl) ?_
      repeat (go_big_quiet_step (fail))
      refine wpQuiet_nil ?_
      intro w5 hb5
      have hb5' := below_step hbr hb5
      clear hc hf hr hlt hc3 hf3 hr3 hlt3 hcell
      obtain ⟨hc, hf, hr, hlt⟩ := box_facts (still_blk hb5' hx2)
      obtain ⟨hc3, hf3, hr3, hlt3⟩ := box_facts (still_blk hb5' hx3)
      have hrow5 := (row?_of_block ((below_step hB hb5').block b hb) (o + k * 10) 10).trans hrow0
      have hbx5 := Nat.lt_of_lt_of_le hb (below_step hB hb5').size
      go_wp2_with (first
       | (have hO1 : Go.WW.Own (w5.alloc (.cells (polC p) 33)) W.heap.size 33 10 so (R.map polC) := hO.kept (fun g hg => (Below.heap_alloc _ _ _ (Nat.lt_of_lt_of_le (hO.base hg).2 hb5.size)).trans (hb5.block g (hO.base hg).2)); at_builtin; refine wpList_append_n rfl (.tmp 47) (.tmp 49) _ rfl elemPol (n := m) (s := so) rfl (by have := hlr.out; simp [this]) hO1 rfl rfl (SrcRows.new _ (polC p) _ _ (by simp [go_sem]) (by simp [go_sem])) (by have := hlr.out; simp [this]; omega) (by have h9 := hb5'.size; simp; omega) ?_; intro s1 u1 hown1 hg1 hat1; have hbw1 := own_on hO1 (below_new hb5' _) hg1; obtain ⟨gc, gf, gr, gl⟩ := box_facts (still_blk hbw1 hx2); have hrow1 := (row?_of_block ((below_step hB hbw1).block b hb) (o + k * 10) 10).trans hrow0; have hbx1 := Nat.lt_of_lt_of_le hb (below_step hB hbw1).size)
       | (have hO2 : Go.WW.Own (u1.alloc (.cells (polC x) 33)) W.heap.size 33 10 s1 (R.map polC ++ [polC p]) := hown1.kept (fun g hg => Below.heap_alloc _ _ _ (hown1.base hg).2); at_builtin; refine wpList_append_n rfl (.tmp 54) (.tmp 60) _ rfl elemPol (n := m + 1) (s := s1) rfl (by have := hlr.out; simp [this]) hO2 rfl rfl (SrcRows.new _ (polC x) _ _ (by simp [go_sem]) (by simp [go_sem])) (by have := hlr.out; simp [this]; omega) (by have h9 := hbw1.size; simp; omega) ?_; intro s2 u2 hown2 hg2 hat2; have hbw2 := own_on hO2 (below_new hbw1 _) hg2; obtain ⟨gc, gf, gr, gl⟩ := box_facts (still_blk hbw2 hx2); have hrow2 := (row?_of_block ((below_step hB hbw2).block b hb) (o + k * 10) 10).trans hrow0; have hbx2 := Nat.lt_of_lt_of_le hb (below_step hB hbw2).size))
      have HL := Lib.hid (show (R ++ [p] ++ [x]).length = m + 1 + 1 by have := hlr.out; simp [this])
      have HO : Go.WW.Own u2 W.heap.size 33 10 s2 ((R ++ [p] ++ [x]).map polC) := by simpa using hown2
      go_roundw
      case rel => first | exact ⟨k + 1, m + 1 + 1, true, s2, _, by omega, by omega, by go_num, rfl, rfl, HL.out, HI.out, hbw2, HO⟩ | ((repeat apply Exists.intro); exact ⟨⟨k + 1, m + 1 + 1, true, s2, _, by omega, by omega, by go_num, rfl, rfl, HL.out, HI.out, hbw2, HO⟩, rfl⟩)
      case measure => simp [intOf]; omega
    ·have h3 : leT p.name x.name = true := by rw [leT, h1]; rfl
     have HI := Lib.hid (show PolAt p (-1) D.policies (R ++ [p] ++ [x]) (k + 1) true by simpa [hkq, h3] using HS)
     clear HS
     go_wp2_with fail
     refine wp_region_later (Below.refl _ wr) (by kernel_rfl) (by kernel_rfl) ?_
     repeat (go_big_quiet_step (fail))
     refine wpQuiet_nil ?_
     intro w5 hb5
     have hb5' := below_step hbr hb5
     clear hc hf hr hlt hc3 hf3 hr3 hlt3 hcell
     obtain ⟨hc, hf, hr, hlt⟩ := box_facts (still_blk hb5' hx2)
     obtain ⟨hc3, hf3, hr3, hlt3⟩ := box_facts (still_blk hb5' hx3)
     have hrow5 := (row?_of_block ((below_step hB hb5').block b hb) (o + k * 10) 10).trans hrow0
     have hbx5 := Nat.lt_of_lt_of_le hb (below_step hB hb5').size
     go_wp2_with (first
      | (have hO1 : Go.WW.Own (w5.alloc (.cells (polC p) 33)) W.heap.size 33 10 so (R.map polC) := hO.kept (fun g hg => (Below.heap_alloc _ _ _ (Nat.lt_of_lt_of_le (hO.base hg).2 hb5.size)).trans (hb5.block g (hO.base hg).2)); at_builtin; refine wpList_append_n rfl (.tmp 47) (.tmp 49) _ rfl elemPol (n := m) (s := so) rfl (by have := hlr.out; simp [this]) hO1 rfl rfl (SrcRows.new _ (polC p) _ _ (by simp [go_sem]) (by simp [go_sem])) (by have := hlr.out; simp [this]; omega) (by have h9 := hb5'.size; simp; omega) ?_; intro s1 u1 hown1 hg1 hat1; have hbw1 := own_on hO1 (below_new hb5' _) hg1; obtain ⟨gc, gf, gr, gl⟩ := box_facts (still_blk hbw1 hx2); have hrow1 := (row?_of_block ((below_step hB hbw1).block b hb) (o + k * 10) 10).trans hrow0; have hbx1 := Nat.lt_of_lt_of_le hb (below_step hB hbw1).size)
      | (have hO2 : Go.WW.Own (u1.alloc (.cells (polC x) 33)) W.heap.size 33 10 s1 (R.map polC ++ [polC p]) := hown1.kept (fun g hg => Below.heap_alloc _ _ _ (hown1.base hg).2); at_builtin; refine wpList_append_n rfl (.tmp 54) (.tmp 60) _ rfl elemPol (n := m + 1) (s := s1) rfl (by have := hlr.out; simp [this]) hO2 rfl rfl (SrcRows.new _ (polC x) _ _ (by simp [go_sem]) (by simp [go_sem])) (by have := hlr.out; simp [this]; omega) (by have h9 := hbw1.size; simp; omega) ?_; intro s2 u2 hown2 hg2 hat2; have hbw2 := own_on hO2 (below_new hbw1 _) hg2; obtain ⟨gc, gf, gr, gl⟩ := box_facts (still_blk hbw2 hx2); have hrow2 := (row?_of_block ((below_step hB hbw2).block b hb) (o + k * 10) 10).trans hrow0; have hbx2 := Nat.lt_of_lt_of_le hb (below_step hB hbw2).size))
     have HL := Lib.hid (show (R ++ [p] ++ [x]).length = m + 1 + 1 by have := hlr.out; simp [this])
     have HO : Go.WW.Own u2 W.heap.size 33 10 s2 ((R ++ [p] ++ [x]).map polC) := by simpa using hown2
     go_roundw
     case rel => first | exact ⟨k + 1, m + 1 + 1, true, s2, _, by omega, by omega, by go_num, rfl, rfl, HL.out, HI.out, hbw2, HO⟩ | ((repeat apply Exists.intro); exact ⟨⟨k + 1, m + 1 + 1, true, s2, _, by omega, by omega, by go_num, rfl, rfl, HL.out, HI.out, hbw2, HO⟩, rfl⟩)
     case measure => simp [intOf]; omega
   ·have hdn0 : true = true := rfl
    have hkq : ((k : Int) != (-1 : Int)) = true := by first | (simp; done) | (simp; omega)
    have HI := Lib.hid (show PolAt p (-1) D.policies (R ++ [x]) (k + 1) true by simpa [hkq] using HS)
    clear HS
    go_wp2_with fail
    refine wp_region_later (Below.refl _ wr) (by kernel_rfl) (by kernel_rfl) ?_
    repeat (go_big_quiet_step (fail))
    refine wpQuiet_nil ?_
    intro w5 hb5
    have hb5' := below_step hbr hb5
    clear hc hf hr hlt hc3 hf3 hr3 hlt3 hcell
    obtain ⟨hc, hf, hr, hlt⟩ := box_facts (still_blk hb5' hx2)
    obtain ⟨hc3, hf3, hr3, hlt3⟩ := box_facts (still_blk hb5' hx3)
    have hrow5 := (row?_of_block ((below_step hB hb5').block b hb) (o + k * 10) 10).trans hrow0
    have hbx5 := Nat.lt_of_lt_of_le hb (below_step hB hb5').size
    go_wp2_with (first
     | (have hO1 : Go.WW.Own (w5.alloc (.cells (polC x) 33)) W.heap.size 33 10 so (R.map polC) := hO.kept (fun g hg => (Below.heap_alloc _ _ _ (Nat.lt_of_lt_of_le (hO.base hg).2 hb5.size)).trans (hb5.block g (hO.base hg).2)); at_builtin; refine wpList_append_n rfl (.tmp 54) (.tmp 60) _ rfl elemPol (n := m) (s := so) rfl (by have := hlr.out; simp [this]) hO1 rfl rfl (SrcRows.new _ (polC x) _ _ (by simp [go_sem]) (by simp [go_sem])) (by have := hlr.out; simp [this]; omega) (by have h9 := hb5'.size; simp; omega) ?_; intro s1 u1 hown1 hg1 hat1; have hbw1 := own_on hO1 (below_new hb5' _) hg1; obtain ⟨gc, gf, gr, gl⟩ := box_facts (still_blk hbw1 hx2); have hrow1 := (row?_of_block ((below_step hB hbw1).block b hb) (o + k * 10) 10).trans hrow0; have hbx1 := Nat.lt_of_lt_of_le hb (below_step hB hbw1).size))
    have HL := Lib.hid (show (R ++ [x]).length = m + 1 by have := hlr.out; simp [this])
    have HO : Go.WW.Own u1 W.heap.size 33 10 s1 ((R ++ [x]).map polC) := by simpa using hown1
    go_roundw
    case rel => first | exact ⟨k + 1, m + 1, true, s1, _, by omega, by omega, by go_num, rfl, rfl, HL.out, HI.out, hbw1, HO⟩ | ((repeat apply Exists.intro); exact ⟨⟨k + 1, m + 1, true, s1, _, by omega, by omega, by go_num, rfl, rfl, HL.out, HI.out, hbw1, HO⟩, rfl⟩)
    case measure => simp [intOf]; omega
  ·have HE := polAt_end hI.out (show D.policies.length ≤ k by omega)
   have hlim : ∀ z ∈ putPol p (-1) 0 false D.policies, z.name.size ≤ lim := fun z hz => by
    rcases putPol_mem _ _ _ _ _ z hz with rfl | h
    ·exact hs
    ·obtain ⟨i', hi', rfl⟩ := List.mem_iff_getElem.1 h; obtain ⟨_, _, _, _, h9⟩ := hp.get i' hi'; exact h9
   have hll := putPol_len p (-1) D.policies 0 false
   cases dn
   ·have HE' : putPol p (-1) 0 false D.policies = R ++ [p] := by simpa using HE
    clear HE
    have hO1 : Go.WW.Own (wr.alloc (.cells (polC p) 33)) W.heap.size 33 10 so (R.map polC) := hO.kept fun g hg => Below.heap_alloc _ _ _ (hO.base hg).2
    go_wp2_with (at_builtin; refine wpList_append_n rfl (.tmp 64) (.tmp 66) _ rfl elemPol (n := m) (s := so) rfl (by have := hlr.out; simp [this]) hO1 rfl rfl (SrcRows.new _ (polC p) _ _ (by simp [go_sem]) (by simp [go_sem])) (by have := hlr.out; simp [this]; omega) (by have h9 := hbr.size; simp; omega) ?_; intro s1 u1 hown1 hg1 hat1; have hbw1 := own_on hO1 (below_new hbr _) hg1; clear hc hf hr hlt hc3 hf3 hr3 hlt3; obtain ⟨hc, hf, hr, hlt⟩ := box_facts (still_blk hbw1 hx2); clear hr; have HL := Lib.hid (show (R ++ [p]).length = m + 1 by have := hlr.out; simp [this]); have HO : Go.WW.Own u1 W.heap.size 33 10 s1 ((R ++ [p]).map polC) := (by simpa using hown1); have hyz := still_blk hbw1 hx2; have hset := setCell_blk (o := 1) (.int .i64 (D.serial + 1)) (setCell_blk (o := 3) (.slice s1.a (m + 1) s1.cap) hyz); have hrw0 : row? ((u1.setCell ⟨w.heap.size, 3, none⟩ (.slice s1.a (m + 1) s1.cap)).setCell ⟨w.heap.size, 1, none⟩ (.int .i64 (D.serial + 1))) w.heap.size 0 4 = some (rdbC e s1 { D with policies := R ++ [p], serial := D.serial + 1 }) := (row?_of_cells hset).trans (by rw [← HL.out]; kernel_rfl); have hne2 : w.heap.size + 1 + 1 ≠ w.heap.size := (by omega); have hcp : canPut ((u1.setCell ⟨w.heap.size, 3, none⟩ (.slice s1.a (m + 1) s1.cap)).setCell ⟨w.heap.size, 1, none⟩ (.int .i64 (D.serial + 1))) (w.heap.size + 1 + 1) 0 4 = true := (canPut_setCell_other hne2).trans ((canPut_setCell_other hne2).trans ((bput hbw1 (w.heap.size + 1 + 1) 0 4 (by omega)).trans hz)))
    have hrow := row?_putRow_whole (rdbC_size e s1 { D with policies := R ++ [p], serial := D.serial + 1 }) hcp
    refine bodyPost_ret (results_row2 (by rfl) Tryz.underlying50 rfl (by kernel_rfl) rfl hrow) rfl ⟨s1, by rw [HE']; rfl, Go.WW.Below.putRow (((below_step hB hbw1).setCell (by simp) _).setCell (by simp) _) (by omega), ?_⟩
    rw [HE']
    refine fun y hy => PolsAt.of_own (HO.kept fun g hg => ?_) (by have h9 := hll; rw [HE'] at h9; show (R ++ [p]).length ≤ lim; unfold lim; omega) (by rw [← HE']; exact hlim)
    have hg1 := HO.base hg
    rw [hy g ⟨by omega, by rw [putRow_size]; simp only [World.setCell, Array.size_modify]; omega⟩, putRow_other (by omega), Below.heap_setCell _ _ _ _ (show g ≠ w.heap.size by omega), Below.heap_setCell _ _ _ _ (show g ≠ w.heap.size by omega)]
   ·have HE' : putPol p (-1) 0 false D.policies = R := by simpa using HE
    clear HE
    have HL := Lib.hid (show (R).length = m by have := hlr.out; simp [this])
    have HO : Go.WW.Own wr W.heap.size 33 10 so ((R).map polC) := (by simpa using hO)
    have hyz := still_blk hbr hx2
    have hset := setCell_blk (o := 1) (.int .i64 (D.serial + 1)) (setCell_blk (o := 3) (.slice so.a (m) so.cap) hyz)
    have hrw0 : row? ((wr.setCell ⟨w.heap.size, 3, none⟩ (.slice so.a (m) so.cap)).setCell ⟨w.heap.size, 1, none⟩ (.int .i64 (D.serial + 1))) w.heap.size 0 4 = some (rdbC e so { D with policies := R, serial := D.serial + 1 }) := (row?_of_cells hset).trans (by rw [← HL.out]; kernel_rfl)
    have hne2 : w.heap.size + 1 + 1 ≠ w.heap.size := (by omega)
    have hcp : canPut ((wr.setCell ⟨w.heap.size, 3, none⟩ (.slice so.a (m) so.cap)).setCell ⟨w.heap.size, 1, none⟩ (.int .i64 (D.serial + 1))) (w.heap.size + 1 + 1) 0 4 = true := (canPut_setCell_other hne2).trans ((canPut_setCell_other hne2).trans ((bput hbr (w.heap.size + 1 + 1) 0 4 (by omega)).trans hz))
    clear hr
    go_wp2_with fail
    have hrow := row?_putRow_whole (rdbC_size e so { D with policies := R, serial := D.serial + 1 }) hcp
    refine bodyPost_ret (results_row2 (by rfl) Tryz.underlying50 rfl (by kernel_rfl) rfl hrow) rfl ⟨so, by rw [HE']; rfl, Go.WW.Below.putRow (((below_step hB hbr).setCell (by simp) _).setCell (by simp) _) (by omega), ?_⟩
    rw [HE']
    refine fun y hy => PolsAt.of_own (HO.kept fun g hg => ?_) (by have h9 := hll; rw [HE'] at h9; show (R).length ≤ lim; unfold lim; omega) (by rw [← HE']; exact hlim)
    have hg1 := HO.base hg
    rw [hy g ⟨by omega, by rw [putRow_size]; simp only [World.setCell, Array.size_modify]; omega⟩, putRow_other (by omega), Below.heap_setCell _ _ _ _ (show g ≠ w.heap.size by omega), Below.heap_setCell _ _ _ _ (show g ≠ w.heap.size by omega)]
set_option maxRecDepth 100000 in
set_option maxHeartbeats 2000000 in
theorem putPolicy26_old (e : Sl) (b o qc : Nat) (D : Db) (p : Policy) (w : World) (hs : p.name.size ≤ lim) (hv : polOk p = true) (hp : PolsAt w (some ⟨b, o, none⟩) D.policies) (hn : D.policies.length < 64) (hb : b < w.heap.size) (hs0 : 0 ≤ D.serial) (hs1 : D.serial < 1000000) (i : Nat) (hi : idxOf (fun z => decide (z.name = p.name)) D.policies = (i : Int)) : Calls Tryz.prog 36 #[.agg (rdbC e ⟨some ⟨b, o, none⟩, qc⟩ D), .agg (polC p)] w (OutP e { D with policies := putPol p ((i : Int)) 0 false D.policies, serial := D.serial + 1 } 0 w) := by
 have hB : Below w.heap.size w (((w.alloc (.cells (rdbC e ⟨some ⟨b, o, none⟩, qc⟩ D) 50)).alloc (.cells (polC p) 33)).alloc (.cells #[.string ⟨#[]⟩, .int .i64 0, .slice none 0 0, .slice none 0 0] 50)) := (((Below.refl _ _).alloc (Nat.le_refl _) _).alloc (by simp) _).alloc (by simp; omega) _
 have hx2 : (((w.alloc (.cells (rdbC e ⟨some ⟨b, o, none⟩, qc⟩ D) 50)).alloc (.cells (polC p) 33)).alloc (.cells #[.string ⟨#[]⟩, .int .i64 0, .slice none 0 0, .slice none 0 0] 50)).heap[w.heap.size]? = some (.cells (rdbC e ⟨some ⟨b, o, none⟩, qc⟩ D) 50) := by rw [Below.heap_alloc _ _ _ (by simp; omega)]; exact second_blk w _ _
 have hx3 : (((w.alloc (.cells (rdbC e ⟨some ⟨b, o, none⟩, qc⟩ D) 50)).alloc (.cells (polC p) 33)).alloc (.cells #[.string ⟨#[]⟩, .int .i64 0, .slice none 0 0, .slice none 0 0] 50)).heap[w.heap.size + 1]? = some (.cells (polC p) 33) := by rw [Below.heap_alloc _ _ _ (by simp)]; have := World.alloc_heap_new (w.alloc (.cells (rdbC e ⟨some ⟨b, o, none⟩, qc⟩ D) 50)) (.cells (polC p) 33); simpa using this
 have hz : canPut (((w.alloc (.cells (rdbC e ⟨some ⟨b, o, none⟩, qc⟩ D) 50)).alloc (.cells (polC p) 33)).alloc (.cells #[.string ⟨#[]⟩, .int .i64 0, .slice none 0 0, .slice none 0 0] 50)) (w.heap.size + 1 + 1) 0 4 = true := by simp [go_sem]
 have hW : (((w.alloc (.cells (rdbC e ⟨some ⟨b, o, none⟩, qc⟩ D) 50)).alloc (.cells (polC p) 33)).alloc (.cells #[.string ⟨#[]⟩, .int .i64 0, .slice none 0 0, .slice none 0 0] 50)).heap.size = w.heap.size + 1 + 1 + 1 := by simp
 have hrem : (D.serial + 1).tmod 4611686018427387904 = D.serial + 1 := Int.tmod_eq_of_lt (by omega) (by omega)
 go_enter Tryz.func36, Tryz.ntmps36
 go_wp2_with fail
 generalize (((w.alloc (.cells (rdbC e ⟨some ⟨b, o, none⟩, qc⟩ D) 50)).alloc (.cells (polC p) 33)).alloc (.cells #[.string ⟨#[]⟩, .int .i64 0, .slice none 0 0, .slice none 0 0] 50)) = W at *
 refine (valid23_c _ _ hs).mono ?_
 rintro x w1 ⟨rfl, hb1⟩
 have hy2 := still_blk hb1 hx2
 have hy3 := still_blk hb1 hx3
 have hz1 := (bput hb1 (w.heap.size + 1 + 1) 0 4 (by omega)).trans hz
 have hs1 := hb1.size
 obtain ⟨hc, hf, hr, hlt⟩ := box_facts hy2
 obtain ⟨hc3, hf3, hr3, hlt3⟩ := box_facts hy3
 have hne : w.heap.size + 1 + 1 ≠ w.heap.size := by omega
 rw [hv]
 go_wp2_with fail
 refine (policy26_c _ _ _ _ _ (hp.later (below_step hB hb1))).mono ?_
 rintro x w2 ⟨rfl, hb2⟩
 rw [hi]
 have hb12 := below_step hb1 hb2
 clear hc hf hr hlt hc3 hf3 hr3 hlt3 hz1 hy2 hy3 hs1
 have hy2 := still_blk hb12 hx2
 have hy3 := still_blk hb12 hx3
 obtain ⟨hc, hf, hr, hlt⟩ := box_facts hy2
 obtain ⟨hc3, hf3, hr3, hlt3⟩ := box_facts hy3
 have hl64 : ¬ (64 : Int) ≤ (D.policies.length : Int) := by omega
 go_wp2_with fail
 go_loopw [7, 8, 9] (fun ov dv iv wr => ∃ (k m : Nat) (dn : Bool) (so : Sl) (R : List Policy), k ≤ D.policies.length ∧ m ≤ 2 * k ∧ iv = .int .i64 k ∧ dv = .bool dn ∧ ov = .slice so.a m so.cap ∧ Hid (R.length = m) ∧ Hid (PolAt p ((i : Int)) D.policies R k dn) ∧ Below W.heap.size W wr ∧ Go.WW.Own wr W.heap.size 33 10 so (R.map polC)) (fun _ _ iv _ => D.policies.length - (intOf iv).toNat)
 case atStart => exact ⟨0, 0, false, ⟨none, 0⟩, [], Nat.zero_le _, by omega, rfl, rfl, rfl, rfl, polAt_start _ _ _, hb12, Go.WW.Own.nil _ _ _ _⟩
 case round =>
  obtain ⟨k, m, dn, so, R, hk, hmk, rfl, rfl, rfl, hlr, hI, hbr, hO⟩ := hrel
  clear hc hf hr hlt hc3 hf3 hr3 hlt3 hy2 hy3
  have hy2 := still_blk hbr hx2
  have hy3 := still_blk hbr hx3
  obtain ⟨hc, hf, hr, hlt⟩ := box_facts hy2
  obtain ⟨hc3, hf3, hr3, hlt3⟩ := box_facts hy3
  have hBr := below_step hB hbr
  by_cases hkl : k < D.policies.length
  ·have hki : (k : Int) < (D.policies.length : Int) := by omega
   have hrow0 := (hp.at k hkl).1
   have hbw : b < wr.heap.size := Nat.lt_of_lt_of_le hb hBr.size
   have hcell : wr.cell? ⟨b, o + k * 10, none⟩ = some (.string D.policies[k].name) := by rw [hBr.cell (p := ⟨b, o + k * 10, none⟩) hb]; have := row?_cell hrow0 0 (by omega); simpa [go_sem] using this
   have HS := polAt_step hI.out hkl
   generalize hxk : D.policies[k] = x at *
   cases dn
   ·have hdn0 : true = true := rfl
    by_cases hki2 : k = i
    ·have hkq : ((k : Int) != (i : Int)) = false := by simp [hki2]
     clear hki2
     cases h1 : Op.bytesLess p.name.toList x.name.toList
     ·cases h2 : (p.name.toList == x.name.toList)
      ·have h3 : leT p.name x.name = false := by rw [leT, h1, h2]; rfl
       have HI := Lib.hid (show PolAt p ((i : Int)) D.policies (R) (k + 1) false by simpa [hkq, h3] using HS)
       clear HS
       go_wp2_with fail
       refine wp_region_later (Below.refl _ wr) (by kernel_rfl) (by kernel_rfl) ?_
       repeat (go_big_quiet_step (fail))
       refine wpQuiet_nil ?_
       intro w5 hb5
       have hb5' := below_step hbr hb5
       clear hc hf hr hlt hc3 hf3 hr3 hlt3 hcell
       obtain ⟨hc, hf, hr, hlt⟩ := box_facts (still_blk hb5' hx2)
       obtain ⟨hc3, hf3, hr3, hlt3⟩ := box_facts (still_blk hb5' hx3)
       have hrow5 := (row?_of_block ((below_step hB hb5').block b hb) (o + k * 10) 10).trans hrow0
       have hbx5 := Nat.lt_of_lt_of_le hb (below_step hB hb5').size
       go_wp2_with fail
       have HL := Lib.hid (show (R).length = m by have := hlr.out; simp [this])
       have HO : Go.WW.Own w5 W.heap.size 33 10 so (R.map polC) := hO.kept fun g hg => hb5.block g (hO.base hg).2
       go_roundw
       case rel => first | exact ⟨k + 1, m, false, so, _, by omega, by omega, by go_num, rfl, rfl, HL.out, HI.out, hb5', HO⟩ | ((repeat apply Exists.intro); exact ⟨⟨k + 1, m, false, so, _, by omega, by omega, by go_num, rfl, rfl, HL.out, HI.out, hb5', HO⟩, rfl⟩)
       case measure => simp [intOf]; omega
      ·have h3 : leT p.name x.name = true := by rw [leT, h1, h2]; rfl
       have HI := Lib.hid (show PolAt p ((i : Int)) D.policies (R ++ [p]) (k + 1) true by simpa [hkq, h3] using HS)
       clear HS
       go_wp2_with fail
       refine wp_region_later (Below.refl _ wr) (by kernel_rfl) (by kernel_rfl) ?_
       repeat (go_big_quiet_step (fail))
       refine wpQuiet_nil ?_
       intro w5 hb5
       have hb5' := below_step hbr hb5
       clear hc hf hr hlt hc3 hf3 hr3 hlt3 hcell
       obtain ⟨hc, hf, hr, hlt⟩ := box_facts (still_blk hb5' hx2)
       obtain ⟨hc3, hf3, hr3, hlt3⟩ := box_facts (still_blk hb5' hx3)
       have hrow5 := (row?_of_block ((below_step hB hb5').block b hb) (o + k * 10) 10).trans hrow0
       have hbx5 := Nat.lt_of_lt_of_le hb (below_step hB hb5').size
       go_wp2_with (first
        | (have hO1 : Go.WW.Own (w5.alloc (.cells (polC p) 33)) W.heap.size 33 10 so (R.map polC) := hO.kept (fun g hg => (Below.heap_alloc _ _ _ (Nat.lt_of_lt_of_le (hO.base hg).2 hb5.size)).trans (hb5.block g (hO.base hg).2)); at_builtin; refine wpList_append_n rfl (.tmp 47) (.tmp 49) _ rfl elemPol (n := m) (s := so) rfl (by have := hlr.out; simp [this]) hO1 rfl rfl (SrcRows.new _ (polC p) _ _ (by simp [go_sem]) (by simp [go_sem])) (by have := hlr.out; simp [this]; omega) (by have h9 := hb5'.size; simp; omega) ?_; intro s1 u1 hown1 hg1 hat1; have hbw1 := own_on hO1 (below_new hb5' _) hg1; obtain ⟨gc, gf, gr, gl⟩ := box_facts (still_blk hbw1 hx2); have hrow1 := (row?_of_block ((below_step hB hbw1).block b hb) (o + k * 10) 10).trans hrow0; have hbx1 := Nat.lt_of_lt_of_le hb (below_step hB hbw1).size))
       have HL := Lib.hid (show (R ++ [p]).length = m + 1 by have := hlr.out; simp [this])
       have HO : Go.WW.Own u1 W.heap.size 33 10 s1 ((R ++ [p]).map polC) := by simpa using hown1
       go_roundw
       case rel => first | exact ⟨k + 1, m + 1, true, s1, _, by omega, by omega, by go_num, rfl, rfl, HL.out, HI.out, hbw1, HO⟩ | ((repeat apply Exists.intro); exact ⟨⟨k + 1, m + 1, true, s1, _, by omega, by omega, by go_num, rfl, rfl, HL.out, HI.out, hbw1, HO⟩, rfl⟩)
       case measure => simp [intOf]; omega
     ·have h3 : leT p.name x.name = true := by rw [leT, h1]; rfl
      have HI := Lib.hid (show PolAt p ((i : Int)) D.policies (R ++ [p]) (k + 1) true by simpa [hkq, h3] using HS)
      clear HS
      go_wp2_with fail
      refine wp_region_later (Below.refl _ wr) (by kernel_rfl) (by kernel_rfl) ?_
      repeat (go_big_quiet_step (fail))
      refine wpQuiet_nil ?_
      intro w5 hb5
      have hb5' := below_step hbr hb5
      clear hc hf hr hlt hc3 hf3 hr3 hlt3 hcell
      obtain ⟨hc, hf, hr, hlt⟩ := box_facts (still_blk hb5' hx2)
      obtain ⟨hc3, hf3, hr3, hlt3⟩ := box_facts (still_blk hb5' hx3)
      have hrow5 := (row?_of_block ((below_step hB hb5').block b hb) (o + k * 10) 10).trans hrow0
      have hbx5 := Nat.lt_of_lt_of_le hb (below_step hB hb5').size
      go_wp2_with (first
       | (have hO1 : Go.WW.Own (w5.alloc (.cells (polC p) 33)) W.heap.size 33 10 so (R.map polC) := hO.kept (fun g hg => (Below.heap_alloc _ _ _ (Nat.lt_of_lt_of_le (hO.base hg).2 hb5.size)).trans (hb5.block g (hO.base hg).2)); at_builtin; refine wpList_append_n rfl (.tmp 47) (.tmp 49) _ rfl elemPol (n := m) (s := so) rfl (by have := hlr.out; simp [this]) hO1 rfl rfl (SrcRows.new _ (polC p) _ _ (by simp [go_sem]) (by simp [go_sem])) (by have := hlr.out; simp [this]; omega) (by have h9 := hb5'.size; simp; omega) ?_; intro s1 u1 hown1 hg1 hat1; have hbw1 := own_on hO1 (below_new hb5' _) hg1; obtain ⟨gc, gf, gr, gl⟩ := box_facts (still_blk hbw1 hx2); have hrow1 := (row?_of_block ((below_step hB hbw1).block b hb) (o + k * 10) 10).trans hrow0; have hbx1 := Nat.lt_of_lt_of_le hb (below_step hB hbw1).size))
      have HL := Lib.hid (show (R ++ [p]).length = m + 1 by have := hlr.out; simp [this])
      have HO : Go.WW.Own u1 W.heap.size 33 10 s1 ((R ++ [p]).map polC) := by simpa using hown1
      go_roundw
      case rel => first | exact ⟨k + 1, m + 1, true, s1, _, by omega, by omega, by go_num, rfl, rfl, HL.out, HI.out, hbw1, HO⟩ | ((repeat apply Exists.intro); exact ⟨⟨k + 1, m + 1, true, s1, _, by omega, by omega, by go_num, rfl, rfl, HL.out, HI.out, hbw1, HO⟩, rfl⟩)
      case measure => simp [intOf]; omega
    ·have hkq : ((k : Int) != (i : Int)) = true := by simp; omega
     clear hki2
     cases h1 : Op.bytesLess p.name.toList x.name.toList
     ·cases h2 : (p.name.toList == x.name.toList)
      ·have h3 : leT p.name x.name = false := by rw [leT, h1, h2]; rfl
       have HI := Lib.hid (show PolAt p ((i : Int)) D.policies (R ++ [x]) (k + 1) false by simpa [hkq, h3] using HS)
       clear HS
       go_wp2_with fail
       refine wp_region_later (Below.refl _ wr) (by kernel_rfl) (by kernel_rfl) ?_
       repeat (go_big_quiet_step (fail))
       refine wpQuiet_nil ?_
       intro w5 hb5
       have hb5' := below_step hbr hb5
       clear hc hf hr hlt hc3 hf3 hr3 hlt3 hcell
       obtain ⟨hc, hf, hr, hlt⟩ := box_facts (still_blk hb5' hx2)
       obtain ⟨hc3, hf3, hr3, hlt3⟩ := box_facts (still_blk hb5' hx3)
       have hrow5 := (row?_of_block ((below_step hB hb5').block b hb) (o + k * 10) 10).trans hrow0
       have hbx5 := Nat.lt_of_lt_of_le hb (below_step hB hb5').size
       go_wp2_with (first
        | (have hO1 : Go.WW.Own (w5.alloc (.cells (polC x) 33)) W.heap.size 33 10 so (R.map polC) := hO.kept (fun g hg => (Below.heap_alloc _ _ _ (Nat.lt_of_lt_of_le (hO.base hg).2 hb5.size)).trans (hb5.block g (hO.base hg).2)); at_builtin; refine wpList_append_n rfl (.tmp 54) (.tmp 60) _ rfl elemPol (n := m) (s := so) rfl (by have := hlr.out; simp [this]) hO1 rfl rfl (SrcRows.new _ (polC x) _ _ (by simp [go_sem]) (by simp [go_sem])) (by have := hlr.out; simp [this]; omega) (by have h9 := hb5'.size; simp; omega) ?_; intro s1 u1 hown1 hg1 hat1; have hbw1 := own_on hO1 (below_new hb5' _) hg1; obtain ⟨gc, gf, gr, gl⟩ := box_facts (still_blk hbw1 hx2); have hrow1 := (row?_of_block ((below_step hB hbw1).block b hb) (o + k * 10) 10).trans hrow0; have hbx1 := Nat.lt_of_lt_of_le hb (below_step hB hbw1).size))
       have HL := Lib.hid (show (R ++ [x]).length = m + 1 by have := hlr.out; simp [this])
       have HO : Go.WW.Own u1 W.heap.size 33 10 s1 ((R ++ [x]).map polC) := by simpa using hown1
       go_roundw
       case rel => first | exact ⟨k + 1, m + 1, false, s1, _, by omega, by omega, by go_num, rfl, rfl, HL.out, HI.out, hbw1, HO⟩ | ((repeat apply Exists.intro); exact ⟨⟨k + 1, m + 1, false, s1, _, by omega, by omega, by go_num, rfl, rfl, HL.out, HI.out, hbw1, HO⟩, rfl⟩)
       case measure => simp [intOf]; omega
      ·have h3 : leT p.name x.name = true := by rw [leT, h1, h2]; rfl
       have HI := Lib.hid (show PolAt p ((i : Int)) D.policies (R ++ [p] ++ [x]) (k + 1) true by simpa [hkq, h3] using HS)
       clear HS
       go_wp2_with fail
       refine wp_region_later (Below.refl _ wr) (by kernel_rfl) (by kernel_rfl) ?_
       repeat (go_big_quiet_step (fail))
       refine wpQuiet_nil ?_
       intro w5 hb5
       have hb5' := below_step hbr hb5
       clear hc hf hr hlt hc3 hf3 hr3 hlt3 hcell
       obtain ⟨hc, hf, hr, hlt⟩ := box_facts (still_blk hb5' hx2)
       obtain ⟨hc3, hf3, hr3, hlt3⟩ := box_facts (still_blk hb5' hx3)
       have hrow5 := (row?_of_block ((below_step hB hb5').block b hb) (o + k * 10) 10).trans hrow0
       have hbx5 := Nat.lt_of_lt_of_le hb (below_step hB hb5').size
       go_wp2_with (first
        | (have hO1 : Go.WW.Own (w5.alloc (.cells (polC p) 33)) W.heap.size 33 10 so (R.map polC) := hO.kept (fun g hg => (Below.heap_alloc _ _ _ (Nat.lt_of_lt_of_le (hO.base hg).2 hb5.size)).trans (hb5.block g (hO.base hg).2)); at_builtin; refine wpList_append_n rfl (.tmp 47) (.tmp 49) _ rfl elemPol (n := m) (s := so) rfl (by have := hlr.out; simp [this]) hO1 rfl rfl (SrcRows.new _ (polC p) _ _ (by simp [go_sem]) (by simp [go_sem])) (by have := hlr.out; simp [this]; omega) (by have h9 := hb5'.size; simp; omega) ?_; intro s1 u1 hown1 hg1 hat1; have hbw1 := own_on hO1 (below_new hb5' _) hg1; obtain ⟨gc, gf, gr, gl⟩ := box_facts (still_blk hbw1 hx2); have hrow1 := (row?_of_block ((below_step hB hbw1).block b hb) (o + k * 10) 10).trans hrow0; have hbx1 := Nat.lt_of_lt_of_le hb (below_step hB hbw1).size)
        | (have hO2 : Go.WW.Own (u1.alloc (.cells (polC x) 33)) W.heap.size 33 10 s1 (R.map polC ++ [polC p]) := hown1.kept (fun g hg => Below.heap_alloc _ _ _ (hown1.base hg).2); at_builtin; refine wpList_append_n rfl (.tmp 54) (.tmp 60) _ rfl elemPol (n := m + 1) (s := s1) rfl (by have := hlr.out; simp [this]) hO2 rfl rfl (SrcRows.new _ (polC x) _ _ (by simp [go_sem]) (by simp [go_sem])) (by have := hlr.out; simp [this]; omega) (by have h9 := hbw1.size; simp; omega) ?_; intro s2 u2 hown2 hg2 hat2; have hbw2 := own_on hO2 (below_new hbw1 _) hg2; obtain ⟨gc, gf, gr, gl⟩ := box_facts (still_blk hbw2 hx2); have hrow2 := (row?_of_block ((below_step hB hbw2).block b hb) (o + k * 10) 10).trans hrow0; have hbx2 := Nat.lt_of_lt_of_le hb (below_step hB hbw2).size))
       have HL := Lib.hid (show (R ++ [p] ++ [x]).length = m + 1 + 1 by have := hlr.out; simp [this])
       have HO : Go.WW.Own u2 W.heap.size 33 10 s2 ((R ++ [p] ++ [x]).map polC) := by simpa using hown2
       go_roundw
       case rel => first | exact ⟨k + 1, m + 1 + 1, true, s2, _, by omega, by omega, by go_num, rfl, rfl, HL.out, HI.out, hbw2, HO⟩ | ((repeat apply Exists.intro); exact ⟨⟨k + 1, m + 1 + 1, true, s2, _, by omega, by omega, by go_num, rfl, rfl, HL.out, HI.out, hbw2, HO⟩, rfl⟩)
       case measure => simp [intOf]; omega
     ·have h3 : leT p.name x.name = true := by rw [leT, h1]; rfl
      have HI := Lib.hid (show PolAt p ((i : Int)) D.policies (R ++ [p] ++ [x]) (k + 1) true by simpa [hkq, h3] using HS)
      clear HS
      go_wp2_with fail
      refine wp_region_later (Below.refl _ wr) (by kernel_rfl) (by kernel_rfl) ?_
      repeat (go_big_quiet_step (fail))
      refine wpQuiet_nil ?_
      intro w5 hb5
      have hb5' := below_step hbr hb5
      clear hc hf hr hlt hc3 hf3 hr3 hlt3 hcell
      obtain ⟨hc, hf, hr, hlt⟩ := box_facts (still_blk hb5' hx2)
      obtain ⟨hc3, hf3, hr3, hlt3⟩ := box_facts (still_blk hb5' hx3)
      have hrow5 := (row?_of_block ((below_step hB hb5').block b hb) (o + k * 10) 10).trans hrow0
      have hbx5 := Nat.lt_of_lt_of_le hb (below_step hB hb5').size
      go_wp2_with (first
       | (have hO1 : Go.WW.Own (w5.alloc (.cells (polC p) 33)) W.heap.size 33 10 so (R.map polC) := hO.kept (fun g hg => (Below.heap_alloc _ _ _ (Nat.lt_of_lt_of_le (hO.base hg).2 hb5.size)).trans (hb5.block g (hO.base hg).2)); at_builtin; refine wpList_append_n rfl (.tmp 47) (.tmp 49) _ rfl elemPol (n := m) (s := so) rfl (by have := hlr.out; simp [this]) hO1 rfl rfl (SrcRows.new _ (polC p) _ _ (by simp [go_sem]) (by simp [go_sem])) (by have := hlr.out; simp [this]; omega) (by have h9 := hb5'.size; simp; omega) ?_; intro s1 u1 hown1 hg1 hat1; have hbw1 := own_on hO1 (below_new hb5' _) hg1; obtain ⟨gc, gf, gr, gl⟩ := box_facts (still_blk hbw1 hx2); have hrow1 := (row?_of_block ((below_step hB hbw1).block b hb) (o + k * 10) 10).trans hrow0; have hbx1 := Nat.lt_of_lt_of_le hb (below_step hB hbw1).size)
       | (have hO2 : Go.WW.Own (u1.alloc (.cells (polC x) 33)) W.heap.size 33 10 s1 (R.map polC ++ [polC p]) := hown1.kept (fun g hg => Below.heap_alloc _ _ _ (hown1.base hg).2); at_builtin; refine wpList_append_n rfl (.tmp 54) (.tmp 60) _ rfl elemPol (n := m + 1) (s := s1) rfl (by have := hlr.out; simp [this]) hO2 rfl rfl (SrcRows.new _ (polC x) _ _ (by simp [go_sem]) (by simp [go_sem])) (by have := hlr.out; simp [this]; omega) (by have h9 := hbw1.size; simp; omega) ?_; intro s2 u2 hown2 hg2 hat2; have hbw2 := own_on hO2 (below_new hbw1 _) hg2; obtain ⟨gc, gf, gr, gl⟩ := box_facts (still_blk hbw2 hx2); have hrow2 := (row?_of_block ((below_step hB hbw2).block b hb) (o + k * 10) 10).trans hrow0; have hbx2 := Nat.lt_of_lt_of_le hb (below_step hB hbw2).size))
      have HL := Lib.hid (show (R ++ [p] ++ [x]).length = m + 1 + 1 by have := hlr.out; simp [this])
      have HO : Go.WW.Own u2 W.heap.size 33 10 s2 ((R ++ [p] ++ [x]).map polC) := by simpa using hown2
      go_roundw
      case rel => first | exact ⟨k + 1, m + 1 + 1, true, s2, _, by omega, by omega, by go_num, rfl, rfl, HL.out, HI.out, hbw2, HO⟩ | ((repeat apply Exists.intro); exact ⟨⟨k + 1, m + 1 + 1, true, s2, _, by omega, by omega, by go_num, rfl, rfl, HL.out, HI.out, hbw2, HO⟩, rfl⟩)
      case measure => simp [intOf]; omega
   ·have hdn0 : true = true := rfl
    by_cases hki2 : k = i
    ·have hkq : ((k : Int) != (i : Int)) = false := by simp [hki2]
     clear hki2
     have HI := Lib.hid (show PolAt p ((i : Int)) D.policies (R) (k + 1) true by simpa [hkq] using HS)
     clear HS
     go_wp2_with fail
     refine wp_region_later (Below.refl _ wr) (by kernel_rfl) (by kernel_rfl) ?_
     repeat (go_big_quiet_step (fail))
     refine wpQuiet_nil ?_
     intro w5 hb5
     have hb5' := below_step hbr hb5
     clear hc hf hr hlt hc3 hf3 hr3 hlt3 hcell
     obtain ⟨hc, hf, hr, hlt⟩ := box_facts (still_blk hb5' hx2)
     obtain ⟨hc3, hf3, hr3, hlt3⟩ := box_facts (still_blk hb5' hx3)
     have hrow5 := (row?_of_block ((below_step hB hb5').block b hb) (o + k * 10) 10).trans hrow0
     have hbx5 := Nat.lt_of_lt_of_le hb (below_step hB hb5').size
     go_wp2_with fail
     have HL := Lib.hid (show (R).length = m by have := hlr.out; simp [this])
     have HO : Go.WW.Own w5 W.heap.size 33 10 so (R.map polC) := hO.kept fun g hg => hb5.block g (hO.base hg).2
     go_roundw
     case rel => first | exact ⟨k + 1, m, true, so, _, by omega, by omega, by go_num, rfl, rfl, HL.out, HI.out, hb5', HO⟩ | ((repeat apply Exists.intro); exact ⟨⟨k + 1, m, true, so, _, by omega, by omega, by go_num, rfl, rfl, HL.out, HI.out, hb5', HO⟩, rfl⟩)
     case measure => simp [intOf]; omega
    ·have hkq : ((k : Int) != (i : Int)) = true := by simp; omega
     clear hki2
     have HI := Lib.hid (show PolAt p ((i : Int)) D.policies (R ++ [x]) (k + 1) true by simpa [hkq] using HS)
     clear HS
     go_wp2_with fail
     refine wp_region_later (Below.refl _ wr) (by kernel_rfl) (by kernel_rfl) ?_
     repeat (go_big_quiet_step (fail))
     refine wpQuiet_nil ?_
     intro w5 hb5
     have hb5' := below_step hbr hb5
     clear hc hf hr hlt hc3 hf3 hr3 hlt3 hcell
     obtain ⟨hc, hf, hr, hlt⟩ := box_facts (still_blk hb5' hx2)
     obtain ⟨hc3, hf3, hr3, hlt3⟩ := box_facts (still_blk hb5' hx3)
     have hrow5 := (row?_of_block ((below_step hB hb5').block b hb) (o + k * 10) 10).trans hrow0
     have hbx5 := Nat.lt_of_lt_of_le hb (below_step hB hb5').size
     go_wp2_with (first
      | (have hO1 : Go.WW.Own (w5.alloc (.cells (polC x) 33)) W.heap.size 33 10 so (R.map polC) := hO.kept (fun g hg => (Below.heap_alloc _ _ _ (Nat.lt_of_lt_of_le (hO.base hg).2 hb5.size)).trans (hb5.block g (hO.base hg).2)); at_builtin; refine wpList_append_n rfl (.tmp 54) (.tmp 60) _ rfl elemPol (n := m) (s := so) rfl (by have := hlr.out; simp [this]) hO1 rfl rfl (SrcRows.new _ (polC x) _ _ (by simp [go_sem]) (by simp [go_sem])) (by have := hlr.out; simp [this]; omega) (by have h9 := hb5'.size; simp; omega) ?_; intro s1 u1 hown1 hg1 hat1; have hbw1 := own_on hO1 (below_new hb5' _) hg1; obtain ⟨gc, gf, gr, gl⟩ := box_facts (still_blk hbw1 hx2); have hrow1 := (row?_of_block ((below_step hB hbw1).block b hb) (o + k * 10) 10).trans hrow0; have hbx1 := Nat.lt_of_lt_of_le hb (below_step hB hbw1).size))
     have HL := Lib.hid (show (R ++ [x]).length = m + 1 by have := hlr.out; simp [this])
     have HO : Go.WW.Own u1 W.heap.size 33 10 s1 ((R ++ [x]).map polC) := by simpa using hown1
     go_roundw
     case rel => first | exact ⟨k + 1, m + 1, true, s1, _, by omega, by omega, by go_num, rfl, rfl, HL.out, HI.out, hbw1, HO⟩ | ((repeat apply Exists.intro); exact ⟨⟨k + 1, m + 1, true, s1, _, by omega, by omega, by go_num, rfl, rfl, HL.out, HI.out, hbw1, HO⟩, rfl⟩)
     case measure => simp [intOf]; omega
  ·have HE := polAt_end hI.out (show D.policies.length ≤ k by omega)
   have hlim : ∀ z ∈ putPol p ((i : Int)) 0 false D.policies, z.name.size ≤ lim := fun z hz => by
    rcases putPol_mem _ _ _ _ _ z hz with rfl | h
    ·exact hs
    ·obtain ⟨i', hi', rfl⟩ := List.mem_iff_getElem.1 h; obtain ⟨_, _, _, _, h9⟩ := hp.get i' hi'; exact h9
   have hll := putPol_len p ((i : Int)) D.policies 0 false
   cases dn
   ·have HE' : putPol p ((i : Int)) 0 false D.policies = R ++ [p] := by simpa using HE
    clear HE
    have hO1 : Go.WW.Own (wr.alloc (.cells (polC p) 33)) W.heap.size 33 10 so (R.map polC) := hO.kept fun g hg => Below.heap_alloc _ _ _ (hO.base hg).2
    go_wp2_with (at_builtin; refine wpList_append_n rfl (.tmp 64) (.tmp 66) _ rfl elemPol (n := m) (s := so) rfl (by have := hlr.out; simp [this]) hO1 rfl rfl (SrcRows.new _ (polC p) _ _ (by simp [go_sem]) (by simp [go_sem])) (by have := hlr.out; simp [this]; omega) (by have h9 := hbr.size; simp; omega) ?_; intro s1 u1 hown1 hg1 hat1; have hbw1 := own_on hO1 (below_new hbr _) hg1; clear hc hf hr hlt hc3 hf3 hr3 hlt3; obtain ⟨hc, hf, hr, hlt⟩ := box_facts (still_blk hbw1 hx2); clear hr; have HL := Lib.hid (show (R ++ [p]).length = m + 1 by have := hlr.out; simp [this]); have HO : Go.WW.Own u1 W.heap.size 33 10 s1 ((R ++ [p]).map polC) := (by simpa using hown1); have hyz := still_blk hbw1 hx2; have hset := setCell_blk (o := 1) (.int .i64 (D.serial + 1)) (setCell_blk (o := 3) (.slice s1.a (m + 1) s1.cap) hyz); have hrw0 : row? ((u1.setCell ⟨w.heap.size, 3, none⟩ (.slice s1.a (m + 1) s1.cap)).setCell ⟨w.heap.size, 1, none⟩ (.int .i64 (D.serial + 1))) w.heap.size 0 4 = some (rdbC e s1 { D with policies := R ++ [p], serial := D.serial + 1 }) := (row?_of_cells hset).trans (by rw [← HL.out]; kernel_rfl); have hne2 : w.heap.size + 1 + 1 ≠ w.heap.size := (by omega); have hcp : canPut ((u1.setCell ⟨w.heap.size, 3, none⟩ (.slice s1.a (m + 1) s1.cap)).setCell ⟨w.heap.size, 1, none⟩ (.int .i64 (D.serial + 1))) (w.heap.size + 1 + 1) 0 4 = true := (canPut_setCell_other hne2).trans ((canPut_setCell_other hne2).trans ((bput hbw1 (w.heap.size + 1 + 1) 0 4 (by omega)).trans hz)))
    have hrow := row?_putRow_whole (rdbC_size e s1 { D with policies := R ++ [p], serial := D.serial + 1 }) hcp
    refine bodyPost_ret (results_row2 (by rfl) Tryz.underlying50 rfl (by kernel_rfl) rfl hrow) rfl ⟨s1, by rw [HE']; rfl, Go.WW.Below.putRow (((below_step hB hbw1).setCell (by simp) _).setCell (by simp) _) (by omega), ?_⟩
    rw [HE']
    refine fun y hy => PolsAt.of_own (HO.kept fun g hg => ?_) (by have h9 := hll; rw [HE'] at h9; show (R ++ [p]).length ≤ lim; unfold lim; omega) (by rw [← HE']; exact hlim)
    have hg1 := HO.base hg
    rw [hy g ⟨by omega, by rw [putRow_size]; simp only [World.setCell, Array.size_modify]; omega⟩, putRow_other (by omega), Below.heap_setCell _ _ _ _ (show g ≠ w.heap.size by omega), Below.heap_setCell _ _ _ _ (show g ≠ w.heap.size by omega)]
   ·have HE' : putPol p ((i : Int)) 0 false D.policies = R := by simpa using HE
    clear HE
    have HL := Lib.hid (show (R).length = m by have := hlr.out; simp [this])
    have HO : Go.WW.Own wr W.heap.size 33 10 so ((R).map polC) := (by simpa using hO)
    have hyz := still_blk hbr hx2
    have hset := setCell_blk (o := 1) (.int .i64 (D.serial + 1)) (setCell_blk (o := 3) (.slice so.a (m) so.cap) hyz)
    have hrw0 : row? ((wr.setCell ⟨w.heap.size, 3, none⟩ (.slice so.a (m) so.cap)).setCell ⟨w.heap.size, 1, none⟩ (.int .i64 (D.serial + 1))) w.heap.size 0 4 = some (rdbC e so { D with policies := R, serial := D.serial + 1 }) := (row?_of_cells hset).trans (by rw [← HL.out]; kernel_rfl)
    have hne2 : w.heap.size + 1 + 1 ≠ w.heap.size := (by omega)
    have hcp : canPut ((wr.setCell ⟨w.heap.size, 3, none⟩ (.slice so.a (m) so.cap)).setCell ⟨w.heap.size, 1, none⟩ (.int .i64 (D.serial + 1))) (w.heap.size + 1 + 1) 0 4 = true := (canPut_setCell_other hne2).trans ((canPut_setCell_other hne2).trans ((bput hbr (w.heap.size + 1 + 1) 0 4 (by omega)).trans hz))
    clear hr
    go_wp2_with fail
    have hrow := row?_putRow_whole (rdbC_size e so { D with policies := R, serial := D.serial + 1 }) hcp
    refine bodyPost_ret (results_row2 (by rfl) Tryz.underlying50 rfl (by kernel_rfl) rfl hrow) rfl ⟨so, by rw [HE']; rfl, Go.WW.Below.putRow (((below_step hB hbr).setCell (by simp) _).setCell (by simp) _) (by omega), ?_⟩
    rw [HE']
    refine fun y hy => PolsAt.of_own (HO.kept fun g hg => ?_) (by have h9 := hll; rw [HE'] at h9; show (R).length ≤ lim; unfold lim; omega) (by rw [← HE']; exact hlim)
    have hg1 := HO.base hg
    rw [hy g ⟨by omega, by rw [putRow_size]; simp only [World.setCell, Array.size_modify]; omega⟩, putRow_other (by omega), Below.heap_setCell _ _ _ _ (show g ≠ w.heap.size by omega), Below.heap_setCell _ _ _ _ (show g ≠ w.heap.size by omega)]
end Go.Proofs.YtnpddjmjdpgohaaGreatDoor
