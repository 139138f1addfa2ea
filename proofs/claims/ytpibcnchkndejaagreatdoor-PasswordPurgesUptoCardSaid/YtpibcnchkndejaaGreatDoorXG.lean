/- profile.kinds, KeyLen, find, Valid. -/
import Derived.Test.YtpibcnchkndejaaGreatDoorXF
import Derived.Test.YtpibcnchkndejaaGreatDoorXE
import Derived.Deep.RegionWith
import Derived.BigRegion
namespace Go.WW
open Go.RowKit
/-- A look-up in a map. -/
def lookOut (commaOk : Bool) (z : Value) : Option (Nat × Value) → Value
  | some (_, v) => if commaOk then .tuple #[v, .bool true] else v
  | none => if commaOk then .tuple #[z, .bool false] else z
theorem run_mapGet {P : Program} {w : World} {mty kt et : TypeId} {d : TypeDesc} {r clock : Nat} {es : Array MapEntry} {k z : Value} {found : Option (Nat × Value)} (commaOk : Bool) (hm : P.underlying mty = some (.map kt et)) (hd : P.underlying kt = some d) (hk : MapKept.IsKey d k)
    (hf : Instr.findNow d k es.toList 0 = some found) (hz : (zeroValue et).run P w = .ok z w) (hb : w.heap[r]? = some (.map es clock)) :
    (Instr.lookup mty (.map (some r)) k commaOk).run P w = .ok (lookOut commaOk z found) w := by
  have hc : (Instr.checkKey es.isEmpty 10000 kt k).run P w = .ok () w := MapKept.run_checkKey hd hk _ 9999
  cases found with
  | none => simp [Instr.lookup, run_underlying hm, MapKept.run_getObj_map hb, hc, MapKept.run_findKey hd hf, Result.andThen, hz, lookOut]
  | some x => obtain ⟨i, v⟩ := x; simp [Instr.lookup, run_underlying hm, MapKept.run_getObj_map hb, hc, MapKept.run_findKey hd hf, Result.andThen, lookOut]
end Go.WW
namespace Go.Proofs.YtpibcnchkndejaaGreatDoor
open Go.RowKit Go.WW
def kind1C : Array Value := #[.string ⟨#[97, 101, 115, 49, 50, 56, 45, 99, 116, 115, 45, 104, 109, 97, 99, 45, 115, 104, 97, 50, 53, 54, 45, 49, 50, 56]⟩, .int .i64 16, .int .i64 16, .int .i64 16, .int .i64 16, .func (.func 162) #[] #[], .func (.func 163) #[] #[], .func (.func 164) #[] #[]]
def kind2C : Array Value := #[.string ⟨#[115, 116, 114, 101, 97, 109, 45, 104, 109, 97, 99, 45, 115, 104, 97, 50, 53, 54, 45, 50, 53, 54]⟩, .int .i64 32, .int .i64 16, .int .i64 32, .int .i64 32, .func (.func 165) #[] #[], .func (.func 166) #[] #[], .func (.func 167) #[] #[]]
def kindsE : Array MapEntry := #[{ key := .int .i64 1, val := .agg kind1C, born := 0 }, { key := .int .i64 2, val := .agg kind2C, born := 1 }]
theorem kindBuild1 (w : World) : (structBuild 182 #[(0, .string ⟨#[97, 101, 115, 49, 50, 56, 45, 99, 116, 115, 45, 104, 109, 97, 99, 45, 115, 104, 97, 50, 53, 54, 45, 49, 50, 56]⟩), (1, .agg #[.int .i64 16, .int .i64 16, .int .i64 16, .int .i64 16]), (2, .func (.func 162) #[] #[]), (3, .func (.func 163) #[] #[]), (4, .func (.func 164) #[] #[])]).run Tryz.prog w = .ok (.value (.agg kind1C)) w := by kernel_rfl
theorem kindBuild2 (w : World) : (structBuild 182 #[(0, .string ⟨#[115, 116, 114, 101, 97, 109, 45, 104, 109, 97, 99, 45, 115, 104, 97, 50, 53, 54, 45, 50, 53, 54]⟩), (1, .agg #[.int .i64 32, .int .i64 16, .int .i64 32, .int .i64 32]), (2, .func (.func 165) #[] #[]), (3, .func (.func 166) #[] #[]), (4, .func (.func 167) #[] #[])]).run Tryz.prog w = .ok (.value (.agg kind2C)) w := by kernel_rfl
theorem execOp_buildKind (ρ : Operand → Value) (dst : Option Tmp) (a b c d e : Nat × Operand) (ty : TypeId) (pos : String) (after : Array Edge) (guard : Option (Nat × Bool)) : execOp ρ { dst, op := .build 182 #[a, b, c, d, e], type := ty, pos, after, guard } = structBuild 182 #[(a.1, ρ a.2), (b.1, ρ b.2), (c.1, ρ c.2), (d.1, ρ d.2), (e.1, ρ e.2)] := by simp [execOp, structBuild]
attribute [go_sem] kindBuild1 kindBuild2
attribute [go_sem ↓] execOp_buildKind

set_option maxRecDepth 100000 in
set_option maxHeartbeats 1000000 in
theorem kinds_c (w : World) : Calls Tryz.prog 141 #[] w fun e w' => e = .returned (.map (some w.heap.size)) ∧ w'.heap[w.heap.size]? = some (.map kindsE 2) ∧ Below w.heap.size w w' := by
  have hm1 : (w.alloc (.map #[] 0)).heap[w.heap.size]? = some (.map #[] 0) := World.alloc_heap_new w (.map #[] 0)
  have hi1 := run_mapAdd (P := Tryz.prog) (.agg kind1C) Tryz.underlying184 Tryz.underlying3 (k := .int .i64 1) rfl (by rfl) hm1
  have hm2 : ((w.alloc (.map #[] 0)).putObj w.heap.size (.map #[{ key := .int .i64 1, val := .agg kind1C, born := 0 }] 1)).heap[w.heap.size]? = some (.map #[{ key := .int .i64 1, val := .agg kind1C, born := 0 }] 1) := World.putObj_heap_same (by simp)
  have hi2 := run_mapAdd (P := Tryz.prog) (.agg kind2C) Tryz.underlying184 Tryz.underlying3 (k := .int .i64 2) rfl (by rfl) hm2
  obtain ⟨W3, hW3⟩ : ∃ W, ((w.alloc (.map #[] 0)).putObj w.heap.size (.map #[{ key := .int .i64 1, val := .agg kind1C, born := 0 }] 1)).putObj w.heap.size (.map #[{ key := .int .i64 1, val := .agg kind1C, born := 0 }, { key := .int .i64 2, val := .agg kind2C, born := 1 }] 2) = W := ⟨_, rfl⟩
  have hm3 : W3.heap[w.heap.size]? = some (.map kindsE 2) := by rw [← hW3]; exact World.putObj_heap_same (by simp)
  simp only [List.push_toArray, List.nil_append, List.cons_append, Nat.zero_add, Nat.reduceAdd] at hi1 hi2
  rw [hW3] at hi2
  have hB3 : Below w.heap.size w W3 := by
    rw [← hW3]
    exact ((Below.refl _ _).alloc (Nat.le_refl _) _).grown (grownBy_putObj' _ _ _) (by simp) (fun k e => by cases e; omega) |>.grown (grownBy_putObj' _ _ _) (by simp) (fun k e => by cases e; omega)
  have hmm := @run_makeMap Tryz.prog
  have HM := Lib.hid hm3
  clear hm3 hm1 hm2 hW3
  go_enter Tryz.func141, Tryz.ntmps141
  go_wp2_with fail
  go_ret
  exact ⟨rfl, HM.out, hB3⟩
end Go.Proofs.YtpibcnchkndejaaGreatDoor
/- profile.KeyLen. -/
namespace Go.Proofs.YtpibcnchkndejaaGreatDoor
open Go.RowKit Go.WW
def kind0C : Array Value := #[.string ⟨#[]⟩, .int .i64 0, .int .i64 0, .int .i64 0, .int .i64 0, .nilFunc, .nilFunc, .nilFunc]
def hasKind (n : Int) : Bool := n == 1 || n == 2
def kindC (n : Int) : Array Value := if n == 1 then kind1C else if n == 2 then kind2C else kind0C
theorem kindZero (w : World) : (zeroValue 182).run Tryz.prog w = .ok (.agg kind0C) w := by kernel_rfl
def kindFound (n : Int) : Option (Nat × Value) := if n == 1 then some (0, .agg kind1C) else if n == 2 then some (1, .agg kind2C) else none
theorem kinds_find (n : Int) : Instr.findNow (.int .i64) (.int .i64 n) kindsE.toList 0 = some (kindFound n) := by
  unfold kindFound
  by_cases h1 : n = 1
  · subst h1; rfl
  · by_cases h2 : n = 2
    · subst h2; rfl
    · have e1 : (n == 1) = false := by simpa using h1
      have e2 : (n == 2) = false := by simpa using h2
      simp [Instr.findNow, Instr.sameNow, kindsE, e1, e2]
theorem kind_look (b : Bool) (n : Int) : lookOut b (.agg kind0C) (kindFound n) = if b then .tuple #[.agg (kindC n), .bool (hasKind n)] else .agg (kindC n) := by
  unfold kindFound kindC hasKind
  by_cases h1 : n = 1
  · subst h1; rfl
  · by_cases h2 : n = 2
    · subst h2; rfl
    · have e1 : (n == 1) = false := by simpa using h1
      have e2 : (n == 2) = false := by simpa using h2
      simp [e1, e2, lookOut]
theorem kinds_get (b : Bool) (n : Int) {w : World} {r : Nat} (hb : w.heap[r]? = some (.map kindsE 2)) : (Instr.lookup 184 (.map (some r)) (.int .i64 n) b).run Tryz.prog w = .ok (if b then .tuple #[.agg (kindC n), .bool (hasKind n)] else .agg (kindC n)) w := by
  rw [← kind_look]
  exact run_mapGet b Tryz.underlying184 Tryz.underlying3 rfl (kinds_find n) (kindZero w) hb
def conf (n : Int) : Int := if n == 1 then 16 else if n == 2 then 16 else 0
theorem kindC_lit (n : Int) : ∃ a b c d : Value, kindC n = #[a, .int .i64 (keyLen n), .int .i64 (conf n), .int .i64 (keyLen n), .int .i64 (keyLen n), b, c, d] ∧ allOne #[a, b, c, d] = true := by
  unfold kindC keyLen conf
  by_cases h1 : n = 1
  · subst h1; exact ⟨_, _, _, _, rfl, by simp [allOne, Value.oneCell']⟩
  · by_cases h2 : n = 2
    · subst h2; exact ⟨_, _, _, _, rfl, by simp [allOne, Value.oneCell']⟩
    · have e1 : (n == 1) = false := by simpa using h1
      have e2 : (n == 2) = false := by simpa using h2
      rw [e1, e2]; exact ⟨_, _, _, _, rfl, by simp [allOne, Value.oneCell']⟩
theorem kindField (w : World) (n : Int) : (Instr.field 182 (.agg (kindC n)) 1).run Tryz.prog w = .ok (.agg #[.int .i64 (keyLen n), .int .i64 (conf n), .int .i64 (keyLen n), .int .i64 (keyLen n)]) w := by
  obtain ⟨a, b, c, d, h, _⟩ := kindC_lit n
  rw [h]; kernel_rfl
theorem lenField (w : World) (a b c d : Int) : (Instr.field 178 (.agg #[.int .i64 a, .int .i64 b, .int .i64 c, .int .i64 d]) 0).run Tryz.prog w = .ok (.int .i64 a) w := by kernel_rfl
set_option maxRecDepth 100000 in
set_option maxHeartbeats 1000000 in
theorem pKeyLen_c (n : Int) (w : World) : Calls Tryz.prog 139 #[.int .i64 n] w fun e w' => e = .returned (.int .i64 (keyLen n)) ∧ Below w.heap.size w w' := by
  have hkf := fun w => kindField w n
  have hlf := fun w => lenField w (keyLen n) (conf n) (keyLen n) (keyLen n)
  go_enter Tryz.func139, Tryz.ntmps139
  go_wp2_with fail
  refine (kinds_c _).mono ?_
  rintro e w1 ⟨rfl, hm, hb⟩
  have hlk : (Instr.lookup 184 (.map (some w.heap.size)) (.int .i64 n) false).run Tryz.prog w1 = .ok (.agg (kindC n)) w1 := kinds_get false n hm
  have HN := Lib.hid hb
  clear hm hb
  go_wp2_with fail
  go_ret
  exact ⟨rfl, HN.out⟩
end Go.Proofs.YtpibcnchkndejaaGreatDoor
/- Stores of whole structs into a world of which only some blocks are known. -/
namespace Go.WW
open Go.RowKit

theorem setCell_blk {w : World} {b o : Nat} {c : Array Value} {t : TypeId} (v : Value) (h : w.heap[b]? = some (.cells c t)) : (w.setCell ⟨b, o, none⟩ v).heap[b]? = some (.cells (c.setIfInBounds o v) t) := by
  simp [World.setCell, Array.getElem?_modify, h]

theorem setCells_blk {b : Nat} {t : TypeId} : ∀ (l : List Value) (o : Nat) (c : Array Value) (w : World), w.heap[b]? = some (.cells c t) →
    (w.setCells b o l).heap[b]? = some (.cells ((l.zipIdx o).foldl (fun c x => c.setIfInBounds x.2 x.1) c) t)
  | [], _, _, _, h => h
  | v :: l, o, c, w, h => by
    rw [World.setCells]
    exact setCells_blk l (o + 1) _ _ (setCell_blk v h)

theorem setCells_other {b k : Nat} (hk : k ≠ b) : ∀ (l : List Value) (o : Nat) (w : World), (w.setCells b o l).heap[k]? = w.heap[k]?
  | [], _, _ => rfl
  | v :: l, o, w => by
    rw [World.setCells, setCells_other hk l (o + 1)]
    exact Below.heap_setCell w _ v k hk

theorem setCells_below {b B : Nat} (hB : B ≤ b) : ∀ (l : List Value) (o : Nat) (w : World), Below B w (w.setCells b o l)
  | [], _, w => Below.refl _ _
  | v :: l, o, w => by
    rw [World.setCells]
    exact ((Below.refl B w).setCell (p := ⟨b, o, none⟩) hB v).trans (setCells_below hB l (o + 1) _)

theorem setCells_size {b : Nat} : ∀ (l : List Value) (o : Nat) (w : World), (w.setCells b o l).heap.size = w.heap.size
  | [], _, w => rfl
  | v :: l, o, w => by
    rw [World.setCells, setCells_size l (o + 1)]
    simp [World.setCell]

theorem foldl_set_mid (post : List Value) : ∀ (pre l m : List Value), l.length = m.length →
    ((m.zipIdx pre.length).foldl (fun (c : Array Value) x => c.setIfInBounds x.2 x.1) (pre ++ l ++ post).toArray) = (pre ++ m ++ post).toArray
  | _, [], [], _ => by simp
  | pre, x :: l, y :: m, h => by
    have ih := foldl_set_mid post (pre ++ [y]) l m (by simpa using h)
    simp only [List.zipIdx_cons, List.foldl_cons]
    have e : (pre ++ x :: l ++ post).toArray.setIfInBounds pre.length y = ((pre ++ [y]) ++ l ++ post).toArray := by simp
    rw [e]
    simpa using ih

/-- The cells cs laid over c from o on. -/
def splice (c : Array Value) (o : Nat) (cs : Array Value) : Array Value := (c.toList.take o ++ cs.toList ++ c.toList.drop (o + cs.size)).toArray
theorem splice_whole {c cs : Array Value} (h : c.size = cs.size) : splice c 0 cs = cs := by
  have : c.toList.drop (0 + cs.size) = [] := by rw [List.drop_eq_nil_iff]; simp [h]
  unfold splice; rw [this]; simp
theorem splice_size {c : Array Value} {o : Nat} {cs : Array Value} (h : o + cs.size ≤ c.size) : (splice c o cs).size = c.size := by simp [splice]; omega

theorem putRow_blk {w : World} {b o : Nat} {c cs : Array Value} {t : TypeId} (h : w.heap[b]? = some (.cells c t)) (ho : o + cs.size ≤ c.size) : (putRow w b o cs).heap[b]? = some (.cells (splice c o cs) t) := by
  unfold putRow
  rw [setCells_blk cs.toList o c w h]
  have := foldl_set_mid (c.toList.drop (o + cs.size)) (c.toList.take o) ((c.toList.drop o).take cs.size) cs.toList (by simp; omega)
  have e : c.toList.take o ++ (c.toList.drop o).take cs.size ++ c.toList.drop (o + cs.size) = c.toList := by
    rw [List.append_assoc, ← List.drop_drop, List.take_append_drop, List.take_append_drop]
  have ho' : (c.toList.take o).length = o := by simp; omega
  rw [e, ho'] at this
  rw [show c.toList.toArray = c by simp] at this
  rw [this]
  rfl
theorem putRow_other {w : World} {b o k : Nat} {cs : Array Value} (h : k ≠ b) : (putRow w b o cs).heap[k]? = w.heap[k]? := setCells_other h _ _ _
theorem putRow_size (w : World) (b o : Nat) (cs : Array Value) : (putRow w b o cs).heap.size = w.heap.size := setCells_size _ _ _
theorem Below.putRow {B b o : Nat} {W w : World} {cs : Array Value} (h : Below B W w) (hB : B ≤ b) : Below B W (Go.WW.putRow w b o cs) := h.trans (setCells_below hB _ _ _)

theorem canPut_blk {w : World} {b o n : Nat} (h : canPut w b o n = true) : ∃ c t, w.heap[b]? = some (.cells c t) ∧ o + n ≤ c.size := by
  unfold canPut at h
  split at h
  · rename_i c t f hb
    simp only [Bool.and_eq_true, decide_eq_true_eq] at h
    obtain ⟨h1, rfl⟩ := h
    exact ⟨c, t, hb, h1⟩
  · cases h

theorem row?_putRow_whole {w : World} {b n : Nat} {cs : Array Value} (hn : cs.size = n) (hc : canPut w b 0 n = true) : row? (putRow w b 0 cs) b 0 n = some cs := by
  subst hn
  obtain ⟨c, t, hb, hs⟩ := canPut_blk hc
  unfold row?
  rw [putRow_blk hb hs]
  have hs' : 0 + cs.size ≤ (splice c 0 cs).size := by rw [splice_size hs]; exact hs
  show (if 0 + cs.size ≤ (splice c 0 cs).size then _ else _) = _
  rw [if_pos hs']
  simp [splice]
theorem cell?_putRow_whole {w : World} {b j : Nat} {cs : Array Value} (hc : canPut w b 0 cs.size = true) (hj : j < cs.size) : (putRow w b 0 cs).cell? ⟨b, j, none⟩ = cs[j]? := by
  have := row?_cell (row?_putRow_whole rfl hc) j hj
  simpa using this
theorem frozen?_putRow_whole {w : World} {b j : Nat} {cs : Array Value} (hc : canPut w b 0 cs.size = true) : (putRow w b 0 cs).frozen? ⟨b, j, none⟩ = false := by
  obtain ⟨c, t, hb, hs⟩ := canPut_blk hc
  exact frozen_of_row _ b j _ t (putRow_blk hb hs)
theorem row?_putRow_other {w : World} {b o k o' n : Nat} {cs : Array Value} (h : k ≠ b) : row? (putRow w b o cs) k o' n = row? w k o' n := row?_of_block (putRow_other h) o' n
theorem cell?_putRow_other {w : World} {b o k o' : Nat} {cs : Array Value} (h : k ≠ b) : (putRow w b o cs).cell? ⟨k, o', none⟩ = w.cell? ⟨k, o', none⟩ := World.cell?_of_block (a := ⟨k, o', none⟩) (putRow_other h)
theorem frozen?_putRow_other {w : World} {b o k o' : Nat} {cs : Array Value} (h : k ≠ b) : (putRow w b o cs).frozen? ⟨k, o', none⟩ = w.frozen? ⟨k, o', none⟩ := World.frozen?_of_block (a := ⟨k, o', none⟩) (putRow_other h)
theorem canPut_putRow_other {w : World} {b o k o' n : Nat} {cs : Array Value} (h : k ≠ b) : canPut (putRow w b o cs) k o' n = canPut w k o' n := canPut_of_block (putRow_other h) o' n
theorem run_storeCells_put {P : Program} {w : World} {b o : Nat} {cs : Array Value} (hc : canPut w b o cs.size = true) (h1 : allOne cs = true) : (storeCells ⟨b, o, none⟩ cs.toList).run P w = .ok () (putRow w b o cs) := by
  have ht := canPut_there hc
  have h0 := run_storeCells_cells (P := P) b o cs.toList 0 w (fun j hj => (ht j (by simpa using hj)).1) (fun j hj => (ht j (by simpa using hj)).2) (fun u hu => by unfold allOne at h1; rw [Array.all_eq_true'] at h1; exact h1 u (by simpa using hu))
  unfold putRow
  simpa using h0
theorem canPut_of_cells {w : World} {b o n : Nat} {c : Array Value} {t : TypeId} (h : w.heap[b]? = some (.cells c t)) (hn : o + n ≤ c.size) : canPut w b o n = true := by unfold canPut; rw [h]; simp [hn]
theorem row?_of_cells {w : World} {b o n : Nat} {c : Array Value} {t : TypeId} (h : w.heap[b]? = some (.cells c t)) : row? w b o n = subRow c o n := by unfold row? subRow; rw [h]
theorem bput {W w1 : World} (hb : Below W.heap.size W w1) : ∀ b o n, b < W.heap.size → canPut w1 b o n = canPut W b o n := fun b o n h => canPut_of_block (hb.block b h) o n
theorem canPut_drew (w : World) (b o n : Nat) : canPut w.drew b o n = canPut w b o n := rfl
theorem putRow_size' (w : World) (b o : Nat) (cs : Array Value) : (putRow w b o cs).heap.size = w.heap.size := putRow_size w b o cs
attribute [go_sem] row?_putRow_whole cell?_putRow_whole frozen?_putRow_whole row?_putRow_other cell?_putRow_other frozen?_putRow_other canPut_putRow_other run_storeCells_put canPut_drew putRow_size'
end Go.WW
/- profile.find. -/
namespace Go.Proofs.YtpibcnchkndejaaGreatDoor
open Go.RowKit Go.WW
theorem kindC_size (n : Int) : (kindC n).size = 8 := by obtain ⟨a, b, c, d, h, _⟩ := kindC_lit n; rw [h]; rfl
theorem kindC_one (n : Int) : allOne (kindC n) = true := by
  obtain ⟨a, b, c, d, h, h1⟩ := kindC_lit n
  rw [h]
  simp [allOne, Value.oneCell'] at h1 ⊢
  exact ⟨h1.1, h1.2.1, h1.2.2.1, h1.2.2.2⟩
theorem kindC_1 (n : Int) : (kindC n)[1]? = some (.int .i64 (keyLen n)) := by obtain ⟨a, b, c, d, h, _⟩ := kindC_lit n; rw [h]; rfl
theorem kindC_g1 (n : Int) (h : 1 < (kindC n).size) : (kindC n)[1]'h = .int .i64 (keyLen n) := by
  have := kindC_1 n; rw [Array.getElem?_eq_getElem h] at this; exact Option.some.inj this
attribute [go_sem] kindC_size kindC_one kindC_1 kindC_g1
theorem loadKind (w : World) (b o : Nat) : (structLoad 182 (.pointer (some ⟨b, o, none⟩))).run Tryz.prog w = rowOut Tryz.prog 182 w b o (row? w b o 8) := run_structLoad Tryz.underlying182 rfl (by kernel_rfl) w b o
theorem execOp_loadKind (ρ : Operand → Value) (dst : Option Tmp) (x : Operand) (ty : TypeId) (pos : String) (after : Array Edge) (guard : Option (Nat × Bool)) : execOp ρ { dst, op := .load 182 x, type := ty, pos, after, guard } = structLoad 182 (ρ x) := rfl
attribute [go_sem] loadKind
attribute [go_sem ↓] execOp_loadKind
theorem storeKind (w : World) (b o : Nat) (cs : Array Value) (hn : cs.size = 8) (h1 : allOne cs = true) : (structStore 182 (.pointer (some ⟨b, o, none⟩)) (.agg cs)).run Tryz.prog w = storeOut Tryz.prog 182 w b o cs (canPut w b o 8) := run_structStore (by kernel_rfl) w b o cs hn h1
theorem execOp_storeKind (ρ : Operand → Value) (dst : Option Tmp) (x y : Operand) (ty : TypeId) (pos : String) (after : Array Edge) (guard : Option (Nat × Bool)) : execOp ρ { dst, op := .store 182 x y, type := ty, pos, after, guard } = structStore 182 (ρ x) (ρ y) := rfl
attribute [go_sem] storeKind
attribute [go_sem ↓] execOp_storeKind
theorem kinds_any (w : World) : Calls Tryz.prog 141 #[] w fun e w' => ∃ r, e = .returned (.map (some r)) ∧ w'.heap[r]? = some (.map kindsE 2) ∧ Below w.heap.size w w' := (kinds_c w).mono fun _ _ ⟨h1, h2, h3⟩ => ⟨_, h1, h2, h3⟩
theorem kinds_ok (n : Int) {w : World} {r : Nat} (hb : w.heap[r]? = some (.map kindsE 2)) : (Instr.lookup 184 (.map (some r)) (.int .i64 n) true).run Tryz.prog w = .ok (.tuple #[.agg (kindC n), .bool (hasKind n)]) w := kinds_get true n hb
theorem below2 (w : World) (a b : Obj) : Below w.heap.size w ((w.alloc a).alloc b).drew := (((Below.refl _ w).alloc (Nat.le_refl _) _).alloc (by simp) _).drew
theorem below3 (w : World) (a b c : Obj) : Below w.heap.size w (((w.alloc a).alloc b).alloc c).drew := ((((Below.refl _ w).alloc (Nat.le_refl _) _).alloc (by simp) _).alloc (by simp; omega) _).drew
theorem arr8 (c : Array Value) (h : c.size = 8) (x : Value) (h1 : c[1]? = some x) : #[c[0]'(by omega), x, c[2]'(by omega), c[3]'(by omega), c[4]'(by omega), c[5]'(by omega), c[6]'(by omega), c[7]'(by omega)] = c := by
  obtain ⟨l⟩ := c
  match l, h with
  | [a0, a1, a2, a3, a4, a5, a6, a7], _ => simp at h1 ⊢; exact h1.symm
theorem keyCases (k : Key) : hasKind k.profile = false ∨ (hasKind k.profile = true ∧ ((k.bytes.length : Int) == keyLen k.profile) = false) ∨ (hasKind k.profile = true ∧ ((k.bytes.length : Int) == keyLen k.profile) = true ∧ decide (0 ≤ k.version) = false) ∨
    (hasKind k.profile = true ∧ ((k.bytes.length : Int) == keyLen k.profile) = true ∧ decide (0 ≤ k.version) = true) := by
  cases hasKind k.profile <;> cases ((k.bytes.length : Int) == keyLen k.profile) <;> cases decide (0 ≤ k.version) <;> simp
theorem keyOk_eq (k : Key) : keyOk k = (hasKind k.profile && ((k.bytes.length : Int) == keyLen k.profile) && decide (0 ≤ k.version) && decide (k.version ≤ 65535)) := by
  have : decide (0 < keyLen k.profile) = hasKind k.profile := by
    unfold keyLen hasKind
    by_cases h1 : k.profile = 1
    · rw [h1]; rfl
    · by_cases h2 : k.profile = 2
      · rw [h2]; rfl
      · have e1 : (k.profile == 1) = false := by simpa using h1
        have e2 : (k.profile == 2) = false := by simpa using h2
        rw [e1, e2]; rfl
  rw [keyOk, this, btw, Bool.and_assoc, Bool.and_assoc, Bool.and_assoc]
set_option maxRecDepth 100000 in
set_option maxHeartbeats 2000000 in
theorem find_c (s : Sl) (k : Key) (w : World) : Calls Tryz.prog 148 #[.agg (keyC s k)] w fun e w' => e = .returned (.tuple #[.agg (kindC k.profile), .bool (keyOk k)]) ∧ Below w.heap.size w w' := by
  rw [keyOk_eq]
  go_enter Tryz.func148, Tryz.ntmps148
  go_wp2_with fail
  have hne : w.heap.size ≠ w.heap.size + 1 + 1 := by omega
  have hne1 : w.heap.size + 1 ≠ w.heap.size + 1 + 1 := by omega
  go_region_with (go_at_call 141; refine (kinds_any _).mono ?_; rintro e w1 ⟨r, rfl, hm, hb⟩; have hsz : w.heap.size + 1 < w1.heap.size := (by have := hb.size; simp at this; omega); have hsz0 : w.heap.size < w1.heap.size := Nat.lt_of_succ_lt hsz; have hsz1 : r < w1.heap.size := (Array.getElem?_eq_some_iff.1 hm).1; obtain ⟨hcc, hff, hrr⟩ := bcell hb; have hB : Below w.heap.size w w1 := (by first | exact below_step (below2 w _ _) hb | exact below_step (below3 w _ _ _) hb); have hpp := bput hb; have hlk := kinds_ok k.profile hm; have hlk' := fun o => kinds_ok (w := w1.alloc o) k.profile ((Below.heap_alloc w1 o _ (Array.getElem?_eq_some_iff.1 hm).1).trans hm))
  all_goals rcases keyCases k with c1 | ⟨c1, c2⟩ | ⟨c1, c2, c3⟩ | ⟨c1, c2, c3⟩
  all_goals go_wp2_with fail
  all_goals refine bodyPost_ret (v := .tuple #[.agg (kindC k.profile), .bool (hasKind k.profile && ((k.bytes.length : Int) == keyLen k.profile) && decide (0 ≤ k.version) && decide (k.version ≤ 65535))]) (by simp [results, Tryz.results148, go_sem, *]; exact arr8 _ (kindC_size _) _ (kindC_1 _)) rfl ⟨rfl, ?_⟩
  all_goals first
    | exact Go.WW.Below.putRow (hB.alloc hB.size _) (by omega)
    | exact Go.WW.Below.putRow (Go.WW.Below.putRow hB (by omega)) (by omega)
end Go.Proofs.YtpibcnchkndejaaGreatDoor
/- profile.Valid, entry.validSet. -/
namespace Go.WW
theorem keyFits_1 {m v : Int} {k : Key} (h : (k.version != v) = true) : keyFits m v k = false := by rw [keyFits, h]; simp
theorem keyFits_2 {m v : Int} {k : Key} (h : (keyLen k.profile == 0) = true) : keyFits m v k = false := by rw [keyFits, h]; simp
theorem keyFits_3 {m v : Int} {k : Key} (h : (k.version != v) = false) (h2 : (keyLen k.profile == 0) = false) (h3 : (m == 0) = true) : keyFits m v k = keyOk k := by rw [keyFits, h, h2, h3]; simp
theorem keyFits_4 {m v : Int} {k : Key} (h : (k.version != v) = false) (h2 : (keyLen k.profile == 0) = false) (h3 : (m == 0) = false) : keyFits m v k = btw k.bytes.length 1 256 := by rw [keyFits, h, h2, h3]; simp
theorem set_no1 {m : Int} {x : KeySet} (h : btw x.version 1 65535 = false) : setOk m x = false := by rw [setOk, setEnd, h]; simp
theorem set_no2 {m : Int} {x : KeySet} (h : decide (1 ≤ (x.keys.length : Int)) = false) : setOk m x = false := by
  have e : btw x.keys.length 1 4 = false := by rw [btw, h]; rfl
  rw [setOk, setEnd, e]; simp
theorem set_no3 {m : Int} {x : KeySet} (h : (decide ((x.keys.length : Int) ≤ 4) && x.keys.all (keyFits m x.version)) = false) : setOk m x = false := by
  rw [Bool.and_eq_false_iff] at h
  rcases h with h | h
  · rw [setOk, setEnd, show btw x.keys.length 1 4 = false by rw [btw, h]; simp]; simp
  · rw [setOk, h]; simp
theorem set_no4 {m : Int} {x : KeySet} (h : ordered profLt x.keys = false) : setOk m x = false := by rw [setOk, h]; simp
theorem set_yes {m : Int} {x : KeySet} (h2 : decide (1 ≤ (x.keys.length : Int)) = true) (h3 : (decide ((x.keys.length : Int) ≤ 4) && x.keys.all (keyFits m x.version)) = true) (h4 : ordered profLt x.keys = true) : setOk m x = setEnd x ∧ btw x.keys.length 1 4 = true := by
  rw [Bool.and_eq_true] at h3
  exact ⟨by rw [setOk, h3.2, h4]; rfl, by rw [btw, h2, h3.1]; rfl⟩
end Go.WW
namespace Go.Proofs.YtpibcnchkndejaaGreatDoor
open Go.RowKit Go.WW
set_option maxRecDepth 100000 in
theorem pValid_c (s : Sl) (k : Key) (w : World) : Calls Tryz.prog 107 #[.agg (keyC s k)] w fun e w' => e = .returned (.bool (keyOk k)) ∧ Below w.heap.size w w' := by
  go_enter Tryz.func107, Tryz.ntmps107
  go_wp2_with fail
  refine (find_c _ _ _).mono ?_
  rintro e w1 ⟨rfl, hb⟩
  have hB : Below w.heap.size w w1 := below_step ((Below.refl _ w).alloc (Nat.le_refl _) _) hb
  go_wp2_with fail
  go_ret
  exact ⟨rfl, hB.alloc hB.size _⟩
set_option maxRecDepth 100000 in
set_option maxHeartbeats 1000000 in
theorem keyFn_c (s : Sl) (k : Key) (B0 B1 : Nat) (m v : Int) (w : World) (hl : k.bytes.length ≤ lim) (h0 : w.cell? ⟨B0, 0, none⟩ = some (.int .i64 v)) (h1 : w.cell? ⟨B1, 0, none⟩ = some (.int .i64 m)) :
    Calls Tryz.prog 157 #[.agg (keyC s k), .pointer (some ⟨B0, 0, none⟩), .pointer (some ⟨B1, 0, none⟩)] w fun e w' => e = .returned (.bool (keyFits m v k)) ∧ Below w.heap.size w w' := by
  have hb0 : B0 < w.heap.size := World.block_lt_of_cell? w _ h0
  have hb1 : B1 < w.heap.size := World.block_lt_of_cell? w _ h1
  have hl' : k.bytes.length ≤ 4294967000 := hl
  have hB : Below w.heap.size w (w.alloc (.cells (keyC s k) 69)) := (Below.refl _ w).alloc (Nat.le_refl _) _
  go_enter Tryz.func157, Tryz.ntmps157
  cases c1 : (k.version != v)
  · go_wp2_with fail
    refine (pKeyLen_c _ _).mono ?_
    rintro e w1 ⟨rfl, hb⟩
    have hB1 := below_step hB hb
    obtain ⟨hcc, hff, hrr⟩ := bcell hb
    have hsz : w.heap.size < w1.heap.size := by have := hb.size; simp at this; omega
    cases c2 : (keyLen k.profile == 0)
    · cases c3 : (m == 0)
      · have HN := Lib.hid (keyFits_4 c1 c2 c3)
        go_wp2_with (go_at_call 80; refine (between_c _ _ _ _).mono ?_; rintro e w' ⟨rfl, rfl⟩)
        go_ret
        exact ⟨by rw [HN.out]; rfl, hB1⟩
      · have HN := Lib.hid (keyFits_3 c1 c2 c3)
        go_wp2_with fail
        refine (pValid_c _ _ _).mono ?_
        rintro e w2 ⟨rfl, hb2⟩
        go_wp2_with fail
        go_ret
        exact ⟨by rw [HN.out]; rfl, below_step hB1 hb2⟩
    · have HN := Lib.hid (keyFits_2 (m := m) (v := v) c2)
      go_wp2_with fail
      go_ret
      exact ⟨by rw [HN.out]; rfl, hB1⟩
  · have HN := Lib.hid (keyFits_1 (m := m) c1)
    go_wp2_with fail
    go_ret
    exact ⟨by rw [HN.out]; rfl, hB⟩
theorem keyFn_enters : Enters 157 := ⟨fun args w => by kernel_rfl⟩
end Go.Proofs.YtpibcnchkndejaaGreatDoor
