/- Part 7 of the proof about watchword's lockout: texts TB J1 J2 J3 J4. -/
import Derived.Test.YtnpddjmjdpgohaaGreatDoorG3
import Derived.Test.YtnpddjmjdpgohaaGreatDoorG4
import Derived.Test.YtnpddjmjdpgohaaGreatDoorGK
import Derived.Test.YtnpddjmjdpgohaaGreatDoorGG
import Derived.Test.YtnpddjmjdpgohaaGreatDoorGR
import Derived.Test.YtnpddjmjdpgohaaGreatDoorGF

namespace Go.WW
open Go.RowKit
theorem But.drew {S : Nat → Prop} {a w : World} (h : But S a w) : But S a w.drew := ⟨h.os, h.tape, h.output, h.size, h.block⟩
theorem But.cell {S : Nat → Prop} {w w' : World} (h : But S w w') {b o : Nat} (hb : b < w.heap.size) (hn : ¬ S b) : w'.cell? ⟨b, o, none⟩ = w.cell? ⟨b, o, none⟩ := World.cell?_of_block (a := ⟨b, o, none⟩) (h.block b hb hn)
section
variable {P : Program} {ops : Array Oper} {S : World → Prop} {Q : Act → World → Prop}
def looksN (o : Oper) : Bool := looks o || (match o.op with | .nilCheck _ => true | _ => false)
theorem looksN_value {o : Oper} (h : looksN o = true) (ρ : Operand → Value) (w : World) : (∃ v w', (execOp ρ o).run P w = .ok (.value v) w') ∨ ∃ h w', (execOp ρ o).run P w = .halt h w' := by
  cases hl : looks o
  · obtain ⟨dst, op, type, pos, after, guard⟩ := o
    unfold looksN at h
    rw [hl] at h
    cases op <;> simp at h
    case nilCheck x =>
      simp only [execOp]
      split
      · exact .inr ⟨_, _, rfl⟩
      · exact .inr ⟨_, _, rfl⟩
      · exact .inr ⟨_, _, rfl⟩
      · split
        · exact .inr ⟨_, _, rfl⟩
        · simp only [Sem.run_bind]
          cases (program).run P w with
          | halt h w' => exact .inr ⟨h, w', by simp⟩
          | ok p w1 =>
            dsimp only [Result.andThen]
            cases (nilAhead (p.types.size + Made.depth) _ _ _).run P w1 with
            | halt h w' => exact .inr ⟨h, w', by simp⟩
            | ok c w2 =>
              dsimp only [Result.andThen]
              split
              · exact .inr ⟨_, _, rfl⟩
              · exact .inl ⟨_, _, rfl⟩
        · exact .inl ⟨_, _, rfl⟩
      · exact .inl ⟨_, _, rfl⟩
  · exact looks_value hl ρ w
theorem textN_look {o : Oper} {rest : List Oper} {a : Act} {w : World} (hw : Region.wanted o (yielded ops a.tmps) = true) (hs : looksN o = true)
    (h : ∀ K : Act → Prop, (∀ a', wpText P ops looksN S Q rest a' w → K a') → o.quiet P a S K) : wpText P ops looksN S Q (o :: rest) a w := by
  rw [text_cons, if_pos hw, if_pos hs]
  obtain ⟨v, hv, hh⟩ := h _ (fun _ x => x)
  refine ⟨v, fun w' hw' => ?_, hh⟩
  have := hv w' hw'
  unfold Oper.quietAt at this
  rcases looksN_value (P := P) hs a.eval w' with ⟨u, w'', e⟩ | ⟨x, w'', e⟩
  · rw [e] at this ⊢
    obtain ⟨rfl, rfl⟩ := this
    rfl
  · rw [e] at this
    exact this.elim
theorem textN_act {o : Oper} {rest : List Oper} {a : Act} {w : World} (hw : Region.wanted o (yielded ops a.tmps) = true) (hs : looksN o = false)
    (h : ∀ K : Act → World → Prop, (∀ a' w', S w' → wpText P ops looksN S Q rest a' w' → K a' w') → o.wp P a w K never) : wpText P ops looksN S Q (o :: rest) a w := by
  rw [text_cons, if_pos hw, if_neg (by simp [hs])]
  exact h _ (fun _ _ x y => ⟨x, y⟩)
end
structure LaterB (S : Nat → Prop) (W : World) where
  w : World
  b : But S W w
instance {S : Nat → Prop} {W : World} : Nonempty (LaterB S W) := ⟨⟨W, But.refl _ _⟩⟩
section
variable {S : Nat → Prop} {W : World} (x : LaterB S W) (b o : Nat) (h : b < W.heap.size) (hn : ¬ S b)
include h hn
theorem LaterB.cell : x.w.cell? ⟨b, o, none⟩ = W.cell? ⟨b, o, none⟩ := x.b.cell h hn
theorem LaterB.frozen : x.w.frozen? ⟨b, o, none⟩ = W.frozen? ⟨b, o, none⟩ := by
  have := x.b.block b h hn
  simp [World.frozen?, this]
theorem LaterB.row (n : Nat) : row? x.w b o n = row? W b o n := row?_of_block (x.b.block b h hn) o n
end
attribute [go_sem] LaterB.cell LaterB.frozen LaterB.row
abbrev sinceB (S : Nat → Prop) (w : World) : World → Prop := fun w' => ∃ x : LaterB S w, w' = x.w
theorem wp_region_sinceB {P : Program} {id : Nat} {Q' : Exit → Act → World → Prop} {a : Act} {W w : World} {l : List Oper} (S : Nat → Prop) (hW : But S W w) (hm : P.follows .mixedOrders = true) (hB : textB looksN l.toArray = true)
    (h : wpText P l.toArray looksN (sinceB S W) (fun a' w' => Q' .normal a' w') l a w.drew) : (Code.region id l.toArray true).wp P Q' a w :=
  wp_region_text (sinceB S W) looksN hm hB ⟨⟨w.drew, hW.drew⟩, rfl⟩ h
theorem sinceB_of {S : Nat → Prop} {W w : World} (h : But S W w) : sinceB S W w := ⟨⟨w, h⟩, rfl⟩
theorem wp_region_sinceN {P : Program} {id : Nat} {Q' : Exit → Act → World → Prop} {a : Act} {W w : World} {l : List Oper} (hW : Below W.heap.size W w) (hm : P.follows .mixedOrders = true) (hB : textB looksN l.toArray = true)
    (h : ∀ w1, Below W.heap.size W w1 → wpText P l.toArray looksN (since W) (fun a' w' => Q' .normal a' w') l a w1) : (Code.region id l.toArray true).wp P Q' a w :=
  wp_region_text (since W) looksN hm hB ⟨⟨w.drew, hW.drew⟩, rfl⟩ (h _ hW.drew)
def one (p : Nat) : Nat → Prop := fun k => k = p
theorem not_one {p k : Nat} (h : k ≠ p) : ¬ one p k := h
end Go.WW

namespace Go.WW
open Go.RowKit
def dbC (re : ByteArray) (s : Int) (n e p : Nat) : Array Value := #[.string re, .int .i64 s, .map (some n), .map (some e), .map (some p)]
theorem dbC_set (re : ByteArray) (s s' : Int) (n e p : Nat) : (dbC re s n e p).setIfInBounds 1 (.int .i64 s') = dbC re s' n e p := by kernel_rfl
theorem dbC_0 (re : ByteArray) (s : Int) (n e p : Nat) : (dbC re s n e p)[0]? = some (.string re) := rfl
theorem dbC_1 (re : ByteArray) (s : Int) (n e p : Nat) : (dbC re s n e p)[1]? = some (.int .i64 s) := rfl
theorem dbC_2 (re : ByteArray) (s : Int) (n e p : Nat) : (dbC re s n e p)[2]? = some (.map (some n)) := rfl
theorem dbC_3 (re : ByteArray) (s : Int) (n e p : Nat) : (dbC re s n e p)[3]? = some (.map (some e)) := rfl
theorem dbC_4 (re : ByteArray) (s : Int) (n e p : Nat) : (dbC re s n e p)[4]? = some (.map (some p)) := rfl
attribute [go_sem] dbC_0 dbC_1 dbC_2 dbC_3 dbC_4
end Go.WW
namespace Go.Proofs.YtnpddjmjdpgohaaGreatDoor
open Go.RowKit Go.WW
theorem dnone_no (b : Nat) (re : ByteArray) (w : World) (hc : w.cell? ⟨b, 0, none⟩ = some (.string re)) (hre : ¬ re = ⟨#[]⟩) : Calls Tryz.prog 46 #[.pointer (some ⟨b, 0, none⟩)] w fun e w' => e = .returned (.bool false) ∧ w = w' := by
  have h0 := str_ne _ _ hre
  have h1 : ¬ re.toList = [] := fun h => hre (toList_inj (b := ⟨#[]⟩) (by rw [h, ByteArray.toList_eq]))
  have h2 : re.toList.isEmpty = false := by cases h : re.toList <;> simp_all
  clear hre
  go_enter Tryz.func46, Tryz.ntmps46
  go_wp2
  go_ret
  exact ⟨rfl, rfl⟩
theorem key_c (s : Sl) (p : Prin) (w : World) (hp : PrinAt w s p) (hok : prinOk p = true) : Calls Tryz.prog 47 #[.agg (prinC s p)] w fun e w' => e = .returned (.string (textOf p)) ∧ Below w.heap.size w w' := by
  have hB : Below w.heap.size w (w.alloc (.cells (prinC s p) 24)) := (Below.refl _ _).alloc (Nat.le_refl _) _
  go_enter Tryz.func47, Tryz.ntmps47
  go_wp2_with fail
  refine (nameText_c _ _ _ (hp.later hB) hok).mono ?_
  rintro e w2 ⟨rfl, hb2⟩
  dsimp only
  go_wp2_with fail
  go_ret
  exact ⟨rfl, below_step hB hb2⟩
theorem advance_c (b : Nat) (s : Int) (w : World) (hc : w.cell? ⟨b, 1, none⟩ = some (.int .i64 s)) (hf : w.frozen? ⟨b, 1, none⟩ = false) (h0 : 0 ≤ s) (h1 : s < 1000000) : Calls Tryz.prog 49 #[.pointer (some ⟨b, 0, none⟩)] w fun e w' => e = .returned (.tuple #[]) ∧ w' = w.setCell ⟨b, 1, none⟩ (.int .i64 (s + 1)) := by
  have h2 : (s == 4611686018427387903) = false := by simp; omega
  have hb : b < w.heap.size := World.block_lt_of_cell? w _ hc
  go_enter Tryz.func49, Tryz.ntmps49
  go_wp2
  go_end0
  exact ⟨rfl, rfl⟩
end Go.Proofs.YtnpddjmjdpgohaaGreatDoor

namespace Go.Proofs.YtnpddjmjdpgohaaGreatDoor
open Go.RowKit Go.WW
structure DbAt (w : World) (b n e p : Nat) (re : ByteArray) (s : Int) (N : List (ByteArray × Value)) (E : List EE) (P : List Policy) : Prop where
  box : w.heap[b]? = some (.cells (dbC re s n e p) 99)
  nm : MapOf w n N
  em : MapOf w e (E.map fun x => (textOf x.2.name, Value.agg (encX x)))
  pm : MapOf w p (P.map fun q => (q.name, Value.agg (polC q)))
  ne : n ≠ e ∧ n ≠ p ∧ e ≠ p
theorem cells_ne_map {w : World} {b n : Nat} {c : Array Value} {t : TypeId} {m : List (ByteArray × Value)} (h : w.heap[b]? = some (.cells c t)) (hm : MapOf w n m) : b ≠ n := by
  rintro rfl
  obtain ⟨es, clock, h1, _⟩ := hm
  rw [h] at h1; cases h1
theorem DbAt.later {w w' : World} {b n e p : Nat} {re : ByteArray} {s : Int} {N : List (ByteArray × Value)} {E : List EE} {P : List Policy} (h : DbAt w b n e p re s N E P) (hb : Below w.heap.size w w') : DbAt w' b n e p re s N E P :=
  ⟨still_blk hb h.box, h.nm.at (hb.block n h.nm.lt), h.em.at (hb.block e h.em.lt), h.pm.at (hb.block p h.pm.lt), h.ne⟩
theorem map_new (w : World) (b : Nat) (clock : Nat) (h : w.heap[b]? = some (.map #[] clock)) : MapOf w b [] := ⟨#[], clock, h, by simp, by simp, by simp, by simp⟩
set_option maxRecDepth 100000 in
set_option maxHeartbeats 1000000 in
theorem dbNew_c (re : ByteArray) (w : World) (hs : re.size ≤ lim) (hok : realmOk re = true) : Calls Tryz.prog 34 #[.string re] w fun x w' => ∃ b n e p, x = .returned (.tuple #[.pointer (some ⟨b, 0, none⟩), .int .i64 0]) ∧ Below w.heap.size w w' ∧ DbAt w' b n e p re 0 [] [] [] ∧ w.heap.size ≤ b ∧ w.heap.size ≤ n ∧ w.heap.size ≤ e ∧ w.heap.size ≤ p := by
  have hR := nameRealm_c re w hs
  rw [hok] at hR
  have HR := Lib.hid hR
  clear hR
  have hmm := @run_makeMap Tryz.prog
  go_enter Tryz.func34, Tryz.ntmps34
  go_wp2_with fail
  refine HR.out.mono ?_
  rintro x w1 ⟨rfl, hb1⟩
  dsimp only
  go_wp2_with fail
  have hs1 := hb1.size
  refine bodyPost_ret (results_tmp2 (by rfl) _ _ _) rfl ⟨w1.heap.size + 1 + 1 + 1, w1.heap.size, w1.heap.size + 1, w1.heap.size + 1 + 1, rfl, ?_, ⟨?_, ?_, ?_, ?_, by omega⟩, by omega, by omega, by omega, by omega⟩
  · exact below_step hb1 (((((Below.refl _ w1).alloc (Nat.le_refl _) _).alloc (by simp) _).alloc (by simp; omega) _).alloc (by simp; omega) _)
  · have := World.alloc_heap_new (((w1.alloc (.map #[] 0)).alloc (.map #[] 0)).alloc (.map #[] 0)) (.cells (dbC re 0 w1.heap.size (w1.heap.size + 1) (w1.heap.size + 1 + 1)) 99)
    rw [show (((w1.alloc (.map #[] 0)).alloc (.map #[] 0)).alloc (.map #[] 0)).heap.size = w1.heap.size + 1 + 1 + 1 by simp] at this
    exact this
  · refine map_new _ _ 0 ?_
    rw [Below.heap_alloc _ _ _ (by simp; omega), Below.heap_alloc _ _ _ (by simp; omega), Below.heap_alloc _ _ _ (by simp)]; exact World.alloc_heap_new _ _
  · refine map_new _ _ 0 ?_
    rw [Below.heap_alloc _ _ _ (by first | (simp; done) | (simp; omega)), Below.heap_alloc _ _ _ (by first | (simp; done) | (simp; omega))]
    have := World.alloc_heap_new (w1.alloc (.map #[] 0)) (.map #[] 0); simpa using this
  · refine map_new _ _ 0 ?_
    rw [Below.heap_alloc _ _ _ (by simp)]
    have := World.alloc_heap_new ((w1.alloc (.map #[] 0)).alloc (.map #[] 0)) (.map #[] 0); simpa using this
end Go.Proofs.YtnpddjmjdpgohaaGreatDoor

namespace Go.Proofs.YtnpddjmjdpgohaaGreatDoor
open Go.RowKit Go.WW
theorem box5 {w : World} {b n e p : Nat} {re : ByteArray} {s : Int} (h : w.heap[b]? = some (.cells (dbC re s n e p) 99)) : w.cell? ⟨b, 0, none⟩ = some (.string re) ∧ w.cell? ⟨b, 1, none⟩ = some (.int .i64 s) ∧ w.cell? ⟨b, 2, none⟩ = some (.map (some n)) ∧ w.cell? ⟨b, 3, none⟩ = some (.map (some e)) ∧ w.cell? ⟨b, 4, none⟩ = some (.map (some p)) ∧ w.frozen? ⟨b, 1, none⟩ = false ∧ b < w.heap.size := by
  obtain ⟨hc, hf, _, hl⟩ := box_facts h
  exact ⟨hc 0, hc 1, hc 2, hc 3, hc 4, hf 1, hl⟩
theorem look_pol {w : World} {p : Nat} {P : List Policy} (h : MapOf w p (P.map fun q => (q.name, Value.agg (polC q)))) (q : Policy) (hq : q ∈ P) : (Instr.lookup 95 (.map (some p)) (.string q.name) true).run Tryz.prog w = .ok (.tuple #[.agg (polC q), .bool true]) w := by
  have := look_yes (P := Tryz.prog) true Tryz.underlying95 Tryz.underlying9 h (List.mem_map.2 ⟨q, hq, rfl⟩)
  simpa using this
set_option maxRecDepth 100000 in
set_option maxHeartbeats 1000000 in
theorem dbPolicy_c (b n e p : Nat) (re : ByteArray) (s : Int) (N : List (ByteArray × Value)) (E : List EE) (P : List Policy) (q : Policy) (w : World) (h : DbAt w b n e p re s N E P) (hre : ¬ re = ⟨#[]⟩) (hq : q ∈ P) : Calls Tryz.prog 77 #[.pointer (some ⟨b, 0, none⟩), .string q.name] w fun x w' => x = .returned (.tuple #[.agg (polC q), .int .i64 0]) ∧ Below w.heap.size w w' := by
  have hB : Below w.heap.size w (w.alloc (.cells #[.string ⟨#[]⟩, .int .i64 0, .int .i64 0, .int .i64 0, .int .i64 0, .int .i64 0, .int .i64 0, .int .i64 0, .int .i64 0, .int .i64 0] 33)) := (Below.refl _ _).alloc (Nat.le_refl _) _
  have h' := h.later hB
  have hz : canPut (w.alloc (.cells #[.string ⟨#[]⟩, .int .i64 0, .int .i64 0, .int .i64 0, .int .i64 0, .int .i64 0, .int .i64 0, .int .i64 0, .int .i64 0, .int .i64 0] 33)) w.heap.size 0 10 = true := by simp [go_sem]
  have hW : w.heap.size < (w.alloc (.cells #[.string ⟨#[]⟩, .int .i64 0, .int .i64 0, .int .i64 0, .int .i64 0, .int .i64 0, .int .i64 0, .int .i64 0, .int .i64 0, .int .i64 0] 33)).heap.size := by simp
  go_enter Tryz.func77, Tryz.ntmps77
  go_wp2_with fail
  generalize (w.alloc (.cells #[.string ⟨#[]⟩, .int .i64 0, .int .i64 0, .int .i64 0, .int .i64 0, .int .i64 0, .int .i64 0, .int .i64 0, .int .i64 0, .int .i64 0] 33)) = W at *
  obtain ⟨c0, c1, c2, c3, c4, f1, hl⟩ := box5 h'.box
  have hlk := look_pol h'.pm q hq
  refine (dnone_no _ _ _ c0 hre).mono ?_
  rintro x w' ⟨rfl, rfl⟩
  have hne : W.heap.size ≠ w.heap.size := by omega
  dsimp only
  go_wp2_with fail
  have hrow := row?_putRow_whole (w := W.alloc (.cells (polC q) 33)) (polC_size q) ((canPut_alloc_past hW).trans hz)
  exact bodyPost_ret (results_row2 (by rfl) Tryz.underlying33 rfl (by kernel_rfl) rfl hrow) rfl ⟨rfl, Go.WW.Below.putRow (hB.alloc hB.size _) (by omega)⟩
end Go.Proofs.YtnpddjmjdpgohaaGreatDoor

namespace Go.WW
open Go.RowKit
def zeroP : Policy := ⟨⟨#[]⟩, 0, 0, 0, 0, 0, 0, 0, 0, 0⟩
theorem len_map {P : Program} {w : World} {b : Nat} {m : List (ByteArray × Value)} {mty kt et ty : TypeId} {tys : Array TypeId} (ht : tys[0]? = some mty) (hm : P.underlying mty = some (.map kt et)) (h : MapOf w b m) : (Builtin.len_ tys ty #[.map (some b)]).run P w = .ok (.int .i64 (m.length : Int)) w := by
  obtain ⟨es, clock, hb, hes⟩ := h.len
  simp [Builtin.len_, ht, run_underlying hm, MapKept.run_getObj_map hb, Result.andThen, goInt, hes]
def setP (P : List Policy) (q : Policy) : List Policy := if P.any (fun x => decide (x.name = q.name)) = true then P.map (fun x => if x.name = q.name then q else x) else P ++ [q]
theorem setP_map (P : List Policy) (q : Policy) : setM (P.map fun x => (x.name, Value.agg (polC x))) q.name (.agg (polC q)) = (setP P q).map fun x => (x.name, Value.agg (polC x)) := by
  have h : hasK (P.map fun x => (x.name, Value.agg (polC x))) q.name = P.any (fun x => decide (x.name = q.name)) := by
    unfold hasK; rw [List.any_map]; rfl
  unfold setM setP
  rw [h]
  split
  · rw [List.map_map, List.map_map]
    refine List.map_congr_left fun x _ => ?_
    simp only [Function.comp]
    split <;> rfl
  · simp
end Go.WW
namespace Go.Proofs.YtnpddjmjdpgohaaGreatDoor
open Go.RowKit Go.WW
theorem look_nopol {w : World} {p : Nat} {P : List Policy} (h : MapOf w p (P.map fun q => (q.name, Value.agg (polC q)))) (k : ByteArray) (hq : P.any (fun x => decide (x.name = k)) = false) : (Instr.lookup 95 (.map (some p)) (.string k) true).run Tryz.prog w = .ok (.tuple #[.agg (polC zeroP), .bool false]) w := by
  have hn : k ∉ (P.map fun q => (q.name, Value.agg (polC q))).map (·.1) := by
    intro hk
    rw [List.map_map] at hk
    obtain ⟨x, hx, e⟩ := List.mem_map.1 hk
    have := List.any_eq_false.1 hq x hx
    simp only [Function.comp] at e
    simp [e] at this
  have := look_no (P := Tryz.prog) (z := .agg (polC zeroP)) true Tryz.underlying95 Tryz.underlying9 h (by kernel_rfl) hn
  simpa using this
def ofDb (b n e p : Nat) : Nat → Prop := fun k => k = b ∨ k = n ∨ k = e ∨ k = p
set_option maxRecDepth 100000 in
set_option maxHeartbeats 1000000 in
theorem dbPutPolicy_bad (b n e p : Nat) (re : ByteArray) (s : Int) (N : List (ByteArray × Value)) (E : List EE) (P : List Policy) (q : Policy) (w : World) (h : DbAt w b n e p re s N E P) (hre : ¬ re = ⟨#[]⟩) (hs : q.name.size ≤ lim) (hv : polOk q = false) : Calls Tryz.prog 37 #[.pointer (some ⟨b, 0, none⟩), .agg (polC q)] w fun x w' => x = .returned (.int .i64 2) ∧ Below w.heap.size w w' := by
  have hB : Below w.heap.size w (w.alloc (.cells (polC q) 33)) := (Below.refl _ _).alloc (Nat.le_refl _) _
  have h' := h.later hB
  have hx3 : (w.alloc (.cells (polC q) 33)).heap[w.heap.size]? = some (.cells (polC q) 33) := World.alloc_heap_new _ _
  go_enter Tryz.func37, Tryz.ntmps37
  go_wp2_with fail
  generalize (w.alloc (.cells (polC q) 33)) = W at *
  obtain ⟨c0, c1, c2, c3, c4, f1, hl⟩ := box5 h'.box
  obtain ⟨hc, hf, hr, hlt⟩ := box_facts hx3
  refine (dnone_no _ _ _ c0 hre).mono ?_
  rintro x w' ⟨rfl, rfl⟩
  dsimp only
  go_wp2_with fail
  refine (pvalid_c _ _ hs).mono ?_
  rintro x w2 ⟨rfl, hb2⟩
  rw [hv]
  dsimp only
  go_wp2_with fail
  go_ret
  exact ⟨rfl, below_step hB hb2⟩
set_option maxRecDepth 100000 in
set_option maxHeartbeats 2000000 in
theorem dbPutPolicy_new (b n e p : Nat) (re : ByteArray) (s : Int) (N : List (ByteArray × Value)) (E : List EE) (P : List Policy) (q : Policy) (w : World) (h : DbAt w b n e p re s N E P) (hre : ¬ re = ⟨#[]⟩) (hs : q.name.size ≤ lim) (hv : polOk q = true) (hP : P.any (fun x => decide (x.name = q.name)) = false) (hn : P.length < 64) (hs0 : 0 ≤ s) (hs1 : s < 1000000) : Calls Tryz.prog 37 #[.pointer (some ⟨b, 0, none⟩), .agg (polC q)] w fun x w' => x = .returned (.int .i64 0) ∧ But (ofDb b n e p) w w' ∧ DbAt w' b n e p re (s + 1) N E (setP P q) := by
  have hB : Below w.heap.size w (w.alloc (.cells (polC q) 33)) := (Below.refl _ _).alloc (Nat.le_refl _) _
  have h' := h.later hB
  have hx3 : (w.alloc (.cells (polC q) 33)).heap[w.heap.size]? = some (.cells (polC q) 33) := World.alloc_heap_new _ _
  go_enter Tryz.func37, Tryz.ntmps37
  go_wp2_with fail
  generalize (w.alloc (.cells (polC q) 33)) = W at *
  obtain ⟨c0, c1, c2, c3, c4, f1, hl⟩ := box5 h'.box
  obtain ⟨hc, hf, hr, hlt⟩ := box_facts hx3
  refine (dnone_no _ _ _ c0 hre).mono ?_
  rintro x w' ⟨rfl, rfl⟩
  dsimp only
  go_wp2_with fail
  refine (pvalid_c _ _ hs).mono ?_
  rintro x w2 ⟨rfl, hb2⟩
  rw [hv]
  have h2 := h'.later hb2
  have hx32 := still_blk hb2 hx3
  clear c0 c1 c2 c3 c4 f1 hl hc hf hr hlt
  obtain ⟨c0, c1, c2, c3, c4, f1, hl⟩ := box5 h2.box
  obtain ⟨hc, hf, hr, hlt⟩ := box_facts hx32
  have hlk : ∀ x : Later w2, (Instr.lookup 95 (.map (some p)) (.string q.name) true).run Tryz.prog x.w = .ok (.tuple #[.agg (polC zeroP), .bool false]) x.w := fun x => look_nopol (h2.pm.at (x.b.block p h2.pm.lt)) _ hP
  dsimp only
  go_wp2_with fail
  refine wp_region_sinceN (Below.refl _ w2) (by kernel_rfl) (by kernel_rfl) ?_
  intro w3 hb3
  repeat (first | (refine text_skip (by rfl) ?_) | (refine textN_look (by rfl) (by rfl) (fun K hK => ?_); go_big_quiet_op; refine hK _ ?_; clear hK K))
  refine textN_act (by rfl) (by rfl) (fun K hK => ?_)
  go_wp2_with fail
  refine hK _ _ (since_of (below_new hb3 _)) ?_
  clear hK K
  repeat (first | (refine text_skip (by rfl) ?_) | (refine textN_look (by rfl) (by rfl) (fun K hK => ?_); go_big_quiet_op; refine hK _ ?_; clear hK K))
  refine textN_act (by rfl) (by rfl) (fun K hK => ?_)
  go_wp2_with fail
  refine hK _ _ (since_of (below_new hb3 (.cells (polC zeroP) 33))) ?_
  clear hK K
  repeat (first | (refine text_skip (by rfl) ?_) | (refine textN_look (by rfl) (by rfl) (fun K hK => ?_); go_big_quiet_op; refine hK _ ?_; clear hK K))
  refine text_nil ?_
  have hb4 := below_new hb3 (.cells (polC zeroP) 33)
  clear hb3 hlk
  generalize (w3.alloc (.cells (polC zeroP) 33)) = V at *
  have h4 := h2.later hb4
  have hx34 := still_blk hb4 hx32
  clear c0 c1 c2 c3 c4 f1 hl hc hf hr hlt
  obtain ⟨c0, c1, c2, c3, c4, f1, hl⟩ := box5 h4.box
  obtain ⟨hc, hf, hr, hlt⟩ := box_facts hx34
  have hln := len_map (P := Tryz.prog) (ty := 3) (tys := #[95]) rfl Tryz.underlying95 h4.pm
  rw [List.length_map] at hln
  have h64 : ¬ (64 : Int) ≤ (P.length : Int) := by omega
  have hbp : b ≠ p := cells_ne_map h4.box h4.pm
  have hwp : w.heap.size ≠ p := cells_ne_map hx34 h4.pm
  have nb := not_one hbp
  have nw := not_one hwp
  obtain ⟨U, hrun, hmU, hbU, hsU⟩ := upd_map (P := Tryz.prog) (k := q.name) (v := .agg (polC q)) (w := V.drew) Tryz.underlying95 Tryz.underlying9 (h4.pm.at rfl)
  rw [setP_map] at hmU
  have hbU' : But (one p) V U := ⟨hbU.os, hbU.tape, hbU.output, hbU.size, hbU.block⟩
  go_wp2_with fail
  refine wp_region_sinceB (one p) (But.refl _ V) (by kernel_rfl) (by kernel_rfl) ?_
  repeat (first | (refine text_skip (by rfl) ?_) | (refine textN_look (by rfl) (by rfl) (fun K hK => ?_); go_big_quiet_op; refine hK _ ?_; clear hK K))
  refine textN_act (by rfl) (by rfl) (fun K hK => ?_)
  go_wp2_with fail
  refine hK _ _ (sinceB_of hbU') ?_
  clear hK K
  repeat (first | (refine text_skip (by rfl) ?_) | (refine textN_look (by rfl) (by rfl) (fun K hK => ?_); go_big_quiet_op; refine hK _ ?_; clear hK K))
  refine text_nil ?_
  have hUb : U.heap[b]? = some (.cells (dbC re s n e p) 99) := (hbU'.block b hl nb).trans h4.box
  obtain ⟨hc9, hf9, hr9, hl9⟩ := box_facts hUb
  have hc91 := hc9 1
  have hf91 := hf9 1
  go_wp2_with fail
  refine (advance_c b s U hc91 hf91 hs0 hs1).mono ?_
  rintro x w' ⟨rfl, rfl⟩
  dsimp only
  go_wp2_with fail
  go_ret
  have hnb : n ≠ b := fun e' => cells_ne_map h4.box h4.nm e'.symm
  have heb : e ≠ b := fun e' => cells_ne_map h4.box h4.em e'.symm
  refine ⟨rfl, ?_, ⟨?_, ?_, ?_, ?_, h.ne⟩⟩
  · have hBV := below_step (below_step hB hb2) hb4
    refine ⟨hbU.os.trans hBV.os, hbU.tape.trans hBV.tape, hbU.output.trans hBV.output, ?_, fun k hk hn' => ?_⟩
    · show w.heap.size ≤ (U.setCell ⟨b, 1, none⟩ (.int .i64 (s + 1))).heap.size
      have := hBV.size
      have := hbU.size
      simp only [World.setCell, Array.size_modify]
      exact Nat.le_trans ‹w.heap.size ≤ V.heap.size› ‹_›
    · rw [Below.heap_setCell _ _ _ _ (show k ≠ b from fun e' => hn' (.inl e')), hbU'.block k (Nat.lt_of_lt_of_le hk hBV.size) (not_one (fun e' => hn' (.inr (.inr (.inr e'))))), hBV.block k hk]
  · rw [setCell_blk _ hUb, dbC_set]
  · exact h4.nm.at ((Below.heap_setCell _ _ _ _ hnb).trans (hbU'.block n h4.nm.lt (not_one h.ne.2.1)))
  · exact h4.em.at ((Below.heap_setCell _ _ _ _ heb).trans (hbU'.block e h4.em.lt (not_one h.ne.2.2)))
  · exact hmU.at (Below.heap_setCell _ _ _ _ (Ne.symm hbp))
set_option maxRecDepth 100000 in
set_option maxHeartbeats 2000000 in
theorem dbPutPolicy_old (b n e p : Nat) (re : ByteArray) (s : Int) (N : List (ByteArray × Value)) (E : List EE) (P : List Policy) (q : Policy) (w : World) (h : DbAt w b n e p re s N E P) (hre : ¬ re = ⟨#[]⟩) (hs : q.name.size ≤ lim) (hv : polOk q = true) (q0 : Policy) (hq0 : q0 ∈ P) (hnm : q0.name = q.name) (hs0 : 0 ≤ s) (hs1 : s < 1000000) : Calls Tryz.prog 37 #[.pointer (some ⟨b, 0, none⟩), .agg (polC q)] w fun x w' => x = .returned (.int .i64 0) ∧ But (ofDb b n e p) w w' ∧ DbAt w' b n e p re (s + 1) N E (setP P q) := by
  have hB : Below w.heap.size w (w.alloc (.cells (polC q) 33)) := (Below.refl _ _).alloc (Nat.le_refl _) _
  have h' := h.later hB
  have hx3 : (w.alloc (.cells (polC q) 33)).heap[w.heap.size]? = some (.cells (polC q) 33) := World.alloc_heap_new _ _
  go_enter Tryz.func37, Tryz.ntmps37
  go_wp2_with fail
  generalize (w.alloc (.cells (polC q) 33)) = W at *
  obtain ⟨c0, c1, c2, c3, c4, f1, hl⟩ := box5 h'.box
  obtain ⟨hc, hf, hr, hlt⟩ := box_facts hx3
  refine (dnone_no _ _ _ c0 hre).mono ?_
  rintro x w' ⟨rfl, rfl⟩
  dsimp only
  go_wp2_with fail
  refine (pvalid_c _ _ hs).mono ?_
  rintro x w2 ⟨rfl, hb2⟩
  rw [hv]
  have h2 := h'.later hb2
  have hx32 := still_blk hb2 hx3
  clear c0 c1 c2 c3 c4 f1 hl hc hf hr hlt
  obtain ⟨c0, c1, c2, c3, c4, f1, hl⟩ := box5 h2.box
  obtain ⟨hc, hf, hr, hlt⟩ := box_facts hx32
  have hlk : ∀ x : Later w2, (Instr.lookup 95 (.map (some p)) (.string q.name) true).run Tryz.prog x.w = .ok (.tuple #[.agg (polC q0), .bool true]) x.w := fun x => hnm ▸ look_pol (h2.pm.at (x.b.block p h2.pm.lt)) q0 hq0
  dsimp only
  go_wp2_with fail
  refine wp_region_sinceN (Below.refl _ w2) (by kernel_rfl) (by kernel_rfl) ?_
  intro w3 hb3
  repeat (first | (refine text_skip (by rfl) ?_) | (refine textN_look (by rfl) (by rfl) (fun K hK => ?_); go_big_quiet_op; refine hK _ ?_; clear hK K))
  refine textN_act (by rfl) (by rfl) (fun K hK => ?_)
  go_wp2_with fail
  refine hK _ _ (since_of (below_new hb3 _)) ?_
  clear hK K
  repeat (first | (refine text_skip (by rfl) ?_) | (refine textN_look (by rfl) (by rfl) (fun K hK => ?_); go_big_quiet_op; refine hK _ ?_; clear hK K))
  refine textN_act (by rfl) (by rfl) (fun K hK => ?_)
  go_wp2_with fail
  refine hK _ _ (since_of (below_new hb3 (.cells (polC q0) 33))) ?_
  clear hK K
  repeat (first | (refine text_skip (by rfl) ?_) | (refine textN_look (by rfl) (by rfl) (fun K hK => ?_); go_big_quiet_op; refine hK _ ?_; clear hK K))
  refine text_nil ?_
  have hb4 := below_new hb3 (.cells (polC q0) 33)
  clear hb3 hlk
  generalize (w3.alloc (.cells (polC q0) 33)) = V at *
  have h4 := h2.later hb4
  have hx34 := still_blk hb4 hx32
  clear c0 c1 c2 c3 c4 f1 hl hc hf hr hlt
  obtain ⟨c0, c1, c2, c3, c4, f1, hl⟩ := box5 h4.box
  obtain ⟨hc, hf, hr, hlt⟩ := box_facts hx34
  have hbp : b ≠ p := cells_ne_map h4.box h4.pm
  have hwp : w.heap.size ≠ p := cells_ne_map hx34 h4.pm
  have nb := not_one hbp
  have nw := not_one hwp
  obtain ⟨U, hrun, hmU, hbU, hsU⟩ := upd_map (P := Tryz.prog) (k := q.name) (v := .agg (polC q)) (w := V.drew) Tryz.underlying95 Tryz.underlying9 (h4.pm.at rfl)
  rw [setP_map] at hmU
  have hbU' : But (one p) V U := ⟨hbU.os, hbU.tape, hbU.output, hbU.size, hbU.block⟩
  go_wp2_with fail
  refine wp_region_sinceB (one p) (But.refl _ V) (by kernel_rfl) (by kernel_rfl) ?_
  repeat (first | (refine text_skip (by rfl) ?_) | (refine textN_look (by rfl) (by rfl) (fun K hK => ?_); go_big_quiet_op; refine hK _ ?_; clear hK K))
  refine textN_act (by rfl) (by rfl) (fun K hK => ?_)
  go_wp2_with fail
  refine hK _ _ (sinceB_of hbU') ?_
  clear hK K
  repeat (first | (refine text_skip (by rfl) ?_) | (refine textN_look (by rfl) (by rfl) (fun K hK => ?_); go_big_quiet_op; refine hK _ ?_; clear hK K))
  refine text_nil ?_
  have hUb : U.heap[b]? = some (.cells (dbC re s n e p) 99) := (hbU'.block b hl nb).trans h4.box
  obtain ⟨hc9, hf9, hr9, hl9⟩ := box_facts hUb
  have hc91 := hc9 1
  have hf91 := hf9 1
  go_wp2_with fail
  refine (advance_c b s U hc91 hf91 hs0 hs1).mono ?_
  rintro x w' ⟨rfl, rfl⟩
  dsimp only
  go_wp2_with fail
  go_ret
  have hnb : n ≠ b := fun e' => cells_ne_map h4.box h4.nm e'.symm
  have heb : e ≠ b := fun e' => cells_ne_map h4.box h4.em e'.symm
  refine ⟨rfl, ?_, ⟨?_, ?_, ?_, ?_, h.ne⟩⟩
  · have hBV := below_step (below_step hB hb2) hb4
    refine ⟨hbU.os.trans hBV.os, hbU.tape.trans hBV.tape, hbU.output.trans hBV.output, ?_, fun k hk hn' => ?_⟩
    · show w.heap.size ≤ (U.setCell ⟨b, 1, none⟩ (.int .i64 (s + 1))).heap.size
      have := hBV.size
      have := hbU.size
      simp only [World.setCell, Array.size_modify]
      exact Nat.le_trans ‹w.heap.size ≤ V.heap.size› ‹_›
    · rw [Below.heap_setCell _ _ _ _ (show k ≠ b from fun e' => hn' (.inl e')), hbU'.block k (Nat.lt_of_lt_of_le hk hBV.size) (not_one (fun e' => hn' (.inr (.inr (.inr e'))))), hBV.block k hk]
  · rw [setCell_blk _ hUb, dbC_set]
  · exact h4.nm.at ((Below.heap_setCell _ _ _ _ hnb).trans (hbU'.block n h4.nm.lt (not_one h.ne.2.1)))
  · exact h4.em.at ((Below.heap_setCell _ _ _ _ heb).trans (hbU'.block e h4.em.lt (not_one h.ne.2.2)))
  · exact hmU.at (Below.heap_setCell _ _ _ _ (Ne.symm hbp))
end Go.Proofs.YtnpddjmjdpgohaaGreatDoor
