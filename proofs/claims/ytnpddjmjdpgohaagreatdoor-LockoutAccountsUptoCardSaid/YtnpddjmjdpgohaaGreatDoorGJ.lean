/- Part J of the proof about watchword's lockout: texts K6 K7 K8. -/
import Derived.Test.YtnpddjmjdpgohaaGreatDoorGI
import Derived.Deep.RegionWith
import Derived.BigRegion

namespace Go.WW
open Go.RowKit
def lookOut (commaOk : Bool) (z : Value) : Option (Nat × Value) → Value
  | some (_, v) => if commaOk then .tuple #[v, .bool true] else v
  | none => if commaOk then .tuple #[z, .bool false] else z
theorem run_mapGet {P : Program} {w : World} {mty kt et : TypeId} {d : TypeDesc} {r clock : Nat} {es : Array MapEntry} {k z : Value} {found : Option (Nat × Value)} (commaOk : Bool) (hm : P.underlying mty = some (.map kt et)) (hd : P.underlying kt = some d) (hk : MapKept.IsKey d k)
    (hf : Instr.findNow d k es.toList 0 = some found) (hz : (zeroValue et).run P w = .ok z w) (hb : w.heap[r]? = some (.map es clock)) :
    (Instr.lookup mty (.map (some r)) k commaOk).run P w = .ok (lookOut commaOk z found) w := by
  have hc : (Instr.checkKey es.isEmpty 10000 kt k).run P w = .ok () w := MapKept.run_checkKey hd hk _ 9999
  cases found with
  | none => simp [Instr.lookup, run_underlying hm, MapKept.run_getObj_map hb, hc, MapKept.run_findKey hd hf, Result.andThen, hz, lookOut]
  | some x => obtain ⟨i, v⟩ := x; simp [Instr.lookup, run_underlying hm, MapKept.run_getObj_map hb, hc, MapKept.run_findKey hd hf, Result.andThen, lookOut]
end Go.WW
namespace Go.Proofs.YtnpddjmjdpgohaaGreatDoor
open Go.RowKit Go.WW
def kind1C : Array Value := #[.string ⟨#[97, 101, 115, 49, 50, 56, 45, 99, 116, 115, 45, 104, 109, 97, 99, 45, 115, 104, 97, 50, 53, 54, 45, 49, 50, 56]⟩, .int .i64 16, .int .i64 16, .int .i64 16, .int .i64 16, .func (.func 161) #[] #[], .func (.func 162) #[] #[], .func (.func 163) #[] #[]]
def kind2C : Array Value := #[.string ⟨#[115, 116, 114, 101, 97, 109, 45, 104, 109, 97, 99, 45, 115, 104, 97, 50, 53, 54, 45, 50, 53, 54]⟩, .int .i64 32, .int .i64 16, .int .i64 32, .int .i64 32, .func (.func 164) #[] #[], .func (.func 165) #[] #[], .func (.func 166) #[] #[]]
def kindsE : Array MapEntry := #[{ key := .int .i64 1, val := .agg kind1C, born := 0 }, { key := .int .i64 2, val := .agg kind2C, born := 1 }]
theorem kindBuild1 (w : World) : (structBuild 183 #[(0, .string ⟨#[97, 101, 115, 49, 50, 56, 45, 99, 116, 115, 45, 104, 109, 97, 99, 45, 115, 104, 97, 50, 53, 54, 45, 49, 50, 56]⟩), (1, .agg #[.int .i64 16, .int .i64 16, .int .i64 16, .int .i64 16]), (2, .func (.func 161) #[] #[]), (3, .func (.func 162) #[] #[]), (4, .func (.func 163) #[] #[])]).run Tryz.prog w = .ok (.value (.agg kind1C)) w := by kernel_rfl
theorem kindBuild2 (w : World) : (structBuild 183 #[(0, .string ⟨#[115, 116, 114, 101, 97, 109, 45, 104, 109, 97, 99, 45, 115, 104, 97, 50, 53, 54, 45, 50, 53, 54]⟩), (1, .agg #[.int .i64 32, .int .i64 16, .int .i64 32, .int .i64 32]), (2, .func (.func 164) #[] #[]), (3, .func (.func 165) #[] #[]), (4, .func (.func 166) #[] #[])]).run Tryz.prog w = .ok (.value (.agg kind2C)) w := by kernel_rfl
theorem execOp_buildKind (ρ : Operand → Value) (dst : Option Tmp) (a b c d e : Nat × Operand) (ty : TypeId) (pos : String) (after : Array Edge) (guard : Option (Nat × Bool)) : execOp ρ { dst, op := .build 183 #[a, b, c, d, e], type := ty, pos, after, guard } = structBuild 183 #[(a.1, ρ a.2), (b.1, ρ b.2), (c.1, ρ c.2), (d.1, ρ d.2), (e.1, ρ e.2)] := by simp [execOp, structBuild]
attribute [go_sem] kindBuild1 kindBuild2
attribute [go_sem ↓] execOp_buildKind

set_option maxRecDepth 100000 in
set_option maxHeartbeats 1000000 in
theorem kinds_c (w : World) : Calls Tryz.prog 146 #[] w fun e w' => e = .returned (.map (some w.heap.size)) ∧ w'.heap[w.heap.size]? = some (.map kindsE 2) ∧ Below w.heap.size w w' := by
  have hm1 : (w.alloc (.map #[] 0)).heap[w.heap.size]? = some (.map #[] 0) := World.alloc_heap_new w (.map #[] 0)
  have hi1 := run_mapAdd (P := Tryz.prog) (.agg kind1C) Tryz.underlying184 Tryz.underlying3 (k := .int .i64 1) rfl (by rfl) hm1
  have hm2 : ((w.alloc (.map #[] 0)).putObj w.heap.size (.map #[{ key := .int .i64 1, val := .agg kind1C, born := 0 }] 1)).heap[w.heap.size]? = some (.map #[{ key := .int .i64 1, val := .agg kind1C, born := 0 }] 1) := World.putObj_heap_same (by simp)
  have hi2 := run_mapAdd (P := Tryz.prog) (.agg kind2C) Tryz.underlying184 Tryz.underlying3 (k := .int .i64 2) rfl (by rfl) hm2
  obtain ⟨W3, hW3⟩ : ∃ W, ((w.alloc (.map #[] 0)).putObj w.heap.size (.map #[{ key := .int .i64 1, val := .agg kind1C, born := 0 }] 1)).putObj w.heap.size (.map #[{ key := .int .i64 1, val := .agg kind1C, born := 0 }, { key := .int .i64 2, val := .agg kind2C, born := 1 }] 2) = W := ⟨_, rfl⟩
  have hm3 : W3.heap[w.heap.size]? = some (.map kindsE 2) := by rw [← hW3]; exact World.putObj_heap_same (by simp)
  simp only [List.push_toArray, List.nil_append, List.cons_append, Nat.zero_add, Nat.reduceAdd] at hi1 hi2
  rw [hW3] at hi2
  have hB3 : Below w.heap.size w W3 := by
    rw [← hW3]
    exact ((Below.refl _ _).alloc (Nat.le_refl _) _).grown (grownBy_putObj' _ _ _) (by simp) (fun k e => by cases e; omega) |>.grown (grownBy_putObj' _ _ _) (by simp) (fun k e => by cases e; omega)
  have hmm := @run_makeMap Tryz.prog
  have HM := Lib.hid hm3
  clear hm3 hm1 hm2 hW3
  go_enter Tryz.func146, Tryz.ntmps146
  go_wp2_with fail
  go_ret
  exact ⟨rfl, HM.out, hB3⟩
end Go.Proofs.YtnpddjmjdpgohaaGreatDoor

namespace Go.Proofs.YtnpddjmjdpgohaaGreatDoor
open Go.RowKit Go.WW
def kind0C : Array Value := #[.string ⟨#[]⟩, .int .i64 0, .int .i64 0, .int .i64 0, .int .i64 0, .nilFunc, .nilFunc, .nilFunc]
def hasKind (n : Int) : Bool := n == 1 || n == 2
def kindC (n : Int) : Array Value := if n == 1 then kind1C else if n == 2 then kind2C else kind0C
theorem kindZero (w : World) : (zeroValue 183).run Tryz.prog w = .ok (.agg kind0C) w := by kernel_rfl
def kindFound (n : Int) : Option (Nat × Value) := if n == 1 then some (0, .agg kind1C) else if n == 2 then some (1, .agg kind2C) else none
theorem kinds_find (n : Int) : Instr.findNow (.int .i64) (.int .i64 n) kindsE.toList 0 = some (kindFound n) := by
  unfold kindFound
  by_cases h1 : n = 1
  · subst h1; rfl
  · by_cases h2 : n = 2
    · subst h2; rfl
    · have e1 : (n == 1) = false := by simpa using h1
      have e2 : (n == 2) = false := by simpa using h2
      simp [Instr.findNow, Instr.sameNow, kindsE, e1, e2]
theorem kind_look (b : Bool) (n : Int) : lookOut b (.agg kind0C) (kindFound n) = if b then .tuple #[.agg (kindC n), .bool (hasKind n)] else .agg (kindC n) := by
  unfold kindFound kindC hasKind
  by_cases h1 : n = 1
  · subst h1; rfl
  · by_cases h2 : n = 2
    · subst h2; rfl
    · have e1 : (n == 1) = false := by simpa using h1
      have e2 : (n == 2) = false := by simpa using h2
      simp [e1, e2, lookOut]
theorem kinds_get (b : Bool) (n : Int) {w : World} {r : Nat} (hb : w.heap[r]? = some (.map kindsE 2)) : (Instr.lookup 184 (.map (some r)) (.int .i64 n) b).run Tryz.prog w = .ok (if b then .tuple #[.agg (kindC n), .bool (hasKind n)] else .agg (kindC n)) w := by
  rw [← kind_look]
  exact run_mapGet b Tryz.underlying184 Tryz.underlying3 rfl (kinds_find n) (kindZero w) hb
def conf (n : Int) : Int := if n == 1 then 16 else if n == 2 then 16 else 0
theorem kindC_lit (n : Int) : ∃ a b c d : Value, kindC n = #[a, .int .i64 (keyLen n), .int .i64 (conf n), .int .i64 (keyLen n), .int .i64 (keyLen n), b, c, d] ∧ allOne #[a, b, c, d] = true := by
  unfold kindC keyLen conf
  by_cases h1 : n = 1
  · subst h1; exact ⟨_, _, _, _, rfl, by simp [allOne, Value.oneCell']⟩
  · by_cases h2 : n = 2
    · subst h2; exact ⟨_, _, _, _, rfl, by simp [allOne, Value.oneCell']⟩
    · have e1 : (n == 1) = false := by simpa using h1
      have e2 : (n == 2) = false := by simpa using h2
      rw [e1, e2]; exact ⟨_, _, _, _, rfl, by simp [allOne, Value.oneCell']⟩
theorem kindField (w : World) (n : Int) : (Instr.field 183 (.agg (kindC n)) 1).run Tryz.prog w = .ok (.agg #[.int .i64 (keyLen n), .int .i64 (conf n), .int .i64 (keyLen n), .int .i64 (keyLen n)]) w := by
  obtain ⟨a, b, c, d, h, _⟩ := kindC_lit n
  rw [h]; kernel_rfl
theorem lenField (w : World) (a b c d : Int) : (Instr.field 179 (.agg #[.int .i64 a, .int .i64 b, .int .i64 c, .int .i64 d]) 0).run Tryz.prog w = .ok (.int .i64 a) w := by kernel_rfl
set_option maxRecDepth 100000 in
set_option maxHeartbeats 1000000 in
theorem pKeyLen_c (n : Int) (w : World) : Calls Tryz.prog 134 #[.int .i64 n] w fun e w' => e = .returned (.int .i64 (keyLen n)) ∧ Below w.heap.size w w' := by
  have hkf := fun w => kindField w n
  have hlf := fun w => lenField w (keyLen n) (conf n) (keyLen n) (keyLen n)
  go_enter Tryz.func134, Tryz.ntmps134
  go_wp2_with fail
  refine (kinds_c _).mono ?_
  rintro e w1 ⟨rfl, hm, hb⟩
  have hlk : (Instr.lookup 184 (.map (some w.heap.size)) (.int .i64 n) false).run Tryz.prog w1 = .ok (.agg (kindC n)) w1 := kinds_get false n hm
  have HN := Lib.hid hb
  clear hm hb
  go_wp2_with fail
  go_ret
  exact ⟨rfl, HN.out⟩
end Go.Proofs.YtnpddjmjdpgohaaGreatDoor

namespace Go.Proofs.YtnpddjmjdpgohaaGreatDoor
open Go.RowKit Go.WW
theorem kindC_size (n : Int) : (kindC n).size = 8 := by obtain ⟨a, b, c, d, h, _⟩ := kindC_lit n; rw [h]; rfl
theorem kindC_one (n : Int) : allOne (kindC n) = true := by
  obtain ⟨a, b, c, d, h, h1⟩ := kindC_lit n
  rw [h]
  simp [allOne, Value.oneCell'] at h1 ⊢
  exact ⟨h1.1, h1.2.1, h1.2.2.1, h1.2.2.2⟩
theorem kindC_1 (n : Int) : (kindC n)[1]? = some (.int .i64 (keyLen n)) := by obtain ⟨a, b, c, d, h, _⟩ := kindC_lit n; rw [h]; rfl
theorem kindC_g1 (n : Int) (h : 1 < (kindC n).size) : (kindC n)[1]'h = .int .i64 (keyLen n) := by
  have := kindC_1 n; rw [Array.getElem?_eq_getElem h] at this; exact Option.some.inj this
attribute [go_sem] kindC_size kindC_one kindC_1 kindC_g1
theorem loadKind (w : World) (b o : Nat) : (structLoad 183 (.pointer (some ⟨b, o, none⟩))).run Tryz.prog w = rowOut Tryz.prog 183 w b o (row? w b o 8) := run_structLoad Tryz.underlying183 rfl (by kernel_rfl) w b o
theorem execOp_loadKind (ρ : Operand → Value) (dst : Option Tmp) (x : Operand) (ty : TypeId) (pos : String) (after : Array Edge) (guard : Option (Nat × Bool)) : execOp ρ { dst, op := .load 183 x, type := ty, pos, after, guard } = structLoad 183 (ρ x) := rfl
attribute [go_sem] loadKind
attribute [go_sem ↓] execOp_loadKind
theorem storeKind (w : World) (b o : Nat) (cs : Array Value) (hn : cs.size = 8) (h1 : allOne cs = true) : (structStore 183 (.pointer (some ⟨b, o, none⟩)) (.agg cs)).run Tryz.prog w = storeOut Tryz.prog 183 w b o cs (canPut w b o 8) := run_structStore (by kernel_rfl) w b o cs hn h1
theorem execOp_storeKind (ρ : Operand → Value) (dst : Option Tmp) (x y : Operand) (ty : TypeId) (pos : String) (after : Array Edge) (guard : Option (Nat × Bool)) : execOp ρ { dst, op := .store 183 x y, type := ty, pos, after, guard } = structStore 183 (ρ x) (ρ y) := rfl
attribute [go_sem] storeKind
attribute [go_sem ↓] execOp_storeKind
theorem kinds_any (w : World) : Calls Tryz.prog 146 #[] w fun e w' => ∃ r, e = .returned (.map (some r)) ∧ w'.heap[r]? = some (.map kindsE 2) ∧ Below w.heap.size w w' := (kinds_c w).mono fun _ _ ⟨h1, h2, h3⟩ => ⟨_, h1, h2, h3⟩
theorem kinds_ok (n : Int) {w : World} {r : Nat} (hb : w.heap[r]? = some (.map kindsE 2)) : (Instr.lookup 184 (.map (some r)) (.int .i64 n) true).run Tryz.prog w = .ok (.tuple #[.agg (kindC n), .bool (hasKind n)]) w := kinds_get true n hb
theorem below2 (w : World) (a b : Obj) : Below w.heap.size w ((w.alloc a).alloc b).drew := (((Below.refl _ w).alloc (Nat.le_refl _) _).alloc (by simp) _).drew
theorem below3 (w : World) (a b c : Obj) : Below w.heap.size w (((w.alloc a).alloc b).alloc c).drew := ((((Below.refl _ w).alloc (Nat.le_refl _) _).alloc (by simp) _).alloc (by simp; omega) _).drew
theorem arr8 (c : Array Value) (h : c.size = 8) (x : Value) (h1 : c[1]? = some x) : #[c[0]'(by omega), x, c[2]'(by omega), c[3]'(by omega), c[4]'(by omega), c[5]'(by omega), c[6]'(by omega), c[7]'(by omega)] = c := by
  obtain ⟨l⟩ := c
  match l, h with
  | [a0, a1, a2, a3, a4, a5, a6, a7], _ => simp at h1 ⊢; exact h1.symm
theorem keyCases (k : Key) : hasKind k.profile = false ∨ (hasKind k.profile = true ∧ ((k.bytes.length : Int) == keyLen k.profile) = false) ∨ (hasKind k.profile = true ∧ ((k.bytes.length : Int) == keyLen k.profile) = true ∧ decide (0 ≤ k.version) = false) ∨
    (hasKind k.profile = true ∧ ((k.bytes.length : Int) == keyLen k.profile) = true ∧ decide (0 ≤ k.version) = true) := by
  cases hasKind k.profile <;> cases ((k.bytes.length : Int) == keyLen k.profile) <;> cases decide (0 ≤ k.version) <;> simp
theorem keyOk_eq (k : Key) : keyOk k = (hasKind k.profile && ((k.bytes.length : Int) == keyLen k.profile) && decide (0 ≤ k.version) && decide (k.version ≤ 65535)) := by
  have : decide (0 < keyLen k.profile) = hasKind k.profile := by
    unfold keyLen hasKind
    by_cases h1 : k.profile = 1
    · rw [h1]; rfl
    · by_cases h2 : k.profile = 2
      · rw [h2]; rfl
      · have e1 : (k.profile == 1) = false := by simpa using h1
        have e2 : (k.profile == 2) = false := by simpa using h2
        rw [e1, e2]; rfl
  rw [keyOk, this, btw, Bool.and_assoc, Bool.and_assoc, Bool.and_assoc]
set_option maxRecDepth 100000 in
set_option maxHeartbeats 2000000 in
theorem find_c (s : Sl) (k : Key) (w : World) : Calls Tryz.prog 147 #[.agg (keyC s k)] w fun e w' => e = .returned (.tuple #[.agg (kindC k.profile), .bool (keyOk k)]) ∧ Below w.heap.size w w' := by
  rw [keyOk_eq]
  go_enter Tryz.func147, Tryz.ntmps147
  go_wp2_with fail
  have hne : w.heap.size ≠ w.heap.size + 1 + 1 := by omega
  have hne1 : w.heap.size + 1 ≠ w.heap.size + 1 + 1 := by omega
  go_region_with (go_at_call 146; refine (kinds_any _).mono ?_; rintro e w1 ⟨r, rfl, hm, hb⟩; have hsz : w.heap.size + 1 < w1.heap.size := (by have := hb.size; simp at this; omega); have hsz0 : w.heap.size < w1.heap.size := Nat.lt_of_succ_lt hsz; have hsz1 : r < w1.heap.size := (Array.getElem?_eq_some_iff.1 hm).1; obtain ⟨hcc, hff, hrr⟩ := bcell hb; have hB : Below w.heap.size w w1 := (by first | exact below_step (below2 w _ _) hb | exact below_step (below3 w _ _ _) hb); have hpp := bput hb; have hlk := kinds_ok k.profile hm; have hlk' := fun o => kinds_ok (w := w1.alloc o) k.profile ((Below.heap_alloc w1 o _ (Array.getElem?_eq_some_iff.1 hm).1).trans hm))
  all_goals rcases keyCases k with c1 | ⟨c1, c2⟩ | ⟨c1, c2, c3⟩ | ⟨c1, c2, c3⟩
  all_goals go_wp2_with fail
  all_goals refine bodyPost_ret (v := .tuple #[.agg (kindC k.profile), .bool (hasKind k.profile && ((k.bytes.length : Int) == keyLen k.profile) && decide (0 ≤ k.version) && decide (k.version ≤ 65535))]) (by simp [results, Tryz.results147, go_sem, *]; exact arr8 _ (kindC_size _) _ (kindC_1 _)) rfl ⟨rfl, ?_⟩
  all_goals first
    | exact Go.WW.Below.putRow (hB.alloc hB.size _) (by omega)
    | exact Go.WW.Below.putRow (Go.WW.Below.putRow hB (by omega)) (by omega)
end Go.Proofs.YtnpddjmjdpgohaaGreatDoor
