/- A part of the proof. -/
import Derived.Test.YtidadlcknkeodaaGreatDoorA08
import Derived.Test.YtidadlcknkeodaaGreatDoorA06
import Derived.Laws.IdiomStrings
import Derived.Laws.AppendOwn
import Derived.Shelf.SlMaps.Clone
import Derived.Laws.Externs
import Derived.Test.YtidadlcknkeodaaGreatDoorA07
import Derived.Lib.AppendStr
import Derived.Lib.SlBytesConst
import Derived.Defers
import Derived.Recover
set_option maxRecDepth 100000
set_option maxHeartbeats 8000000
/- slices.Clone, bytes.Clone, name.Copy, profile.Copy: what is made may be written. Printed by wip/src/genbw.py. -/
namespace Go.WW
open Go.RowKit
def ClonedStrsW (w : World) (l : List ByteArray) (e : Ending) (w' : World) : Prop :=
  ∃ s : Sl, e = .returned (.slice s.a l.length s.cap) ∧ Below w.heap.size w w' ∧ Dep w' (fresh w.heap.size w') (fun x => StrsW w.heap.size x s.a l)
def ClonedBytesW (w : World) (l : List UInt8) (e : Ending) (w' : World) : Prop :=
  ∃ s : Sl, e = .returned (.slice s.a l.length s.cap) ∧ Below w.heap.size w w' ∧ Dep w' (fresh w.heap.size w') (fun x => BytesW w.heap.size x s.a l)
theorem cloned_bytesW {w w' : World} {e : TypeId} {s : Sl} {rows : List (Array Value)} {l : List UInt8} (h : Own w' w.heap.size e 1 s rows) (hl : rows.length = l.length) (hn : l.length ≤ lim) (hb : Below w.heap.size w w')
    (hR : ∀ i (hi : i < rows.length), ∃ v, rows[i] = #[v] ∧ ∃ c, l[i]? = some c ∧ v = .int .u8 c.toNat) : ClonedBytesW w l (.returned (.slice s.a l.length s.cap)) w' :=
  ⟨s, rfl, hb, fun _ hx => ⟨CellsAt.of_own (h.fresh hx) hl hn hR, WrAt.of_own (h.fresh hx) hl⟩⟩
def CopiedPrinW (w : World) (p : Prin) (e : Ending) (w' : World) : Prop :=
  ∃ s : Sl, e = .returned (.agg (prinC s p)) ∧ Below w.heap.size w w' ∧ Dep w' (fresh w.heap.size w') (fun x => PrinW w.heap.size x s p)
def CopiedKeyW (w : World) (k : Key) (e : Ending) (w' : World) : Prop :=
  ∃ s : Sl, e = .returned (.agg (keyC s k)) ∧ Below w.heap.size w w' ∧ Dep w' (fresh w.heap.size w') (fun x => KeyW w.heap.size x s k)
end Go.WW
namespace Go.Proofs.YtidadlcknkeodaaGreatDoor
open Go.RowKit Go.WW
theorem cloneBytesW_c (a : Option Addr) (cap : Nat) (l : List UInt8) (w : World) (hl : BytesAt w a l) : Calls Tryz.prog 41 #[.slice a l.length cap] w (ClonedBytesW w l) := by
  have hn : l.length ≤ 4294967000 := hl.1
  cases a with
  | none =>
    obtain rfl : l = [] := List.eq_nil_of_length_eq_zero (CellsAt.none hl)
    go_enter Tryz.func41, Tryz.ntmps41
    go_wp2_with fail
    go_ret
    exact ⟨⟨none, 0⟩, rfl, Below.refl _ _, fun x _ => ⟨⟨by simp [lim], fun i hi => by simp at hi⟩, WrAt.zero⟩⟩
  | some ad =>
    obtain ⟨rows, hlr, hsr, hrR⟩ := CellsAt.src hl byteR_one
    have hown := Own.empty w 5 1
    have HS := hsr.later ((Below.refl _ w).alloc (Nat.le_refl _) (.cells #[] 5))
    have HLR := Lib.hid hlr
    have HRR := Lib.hid hrR
    have hln : l.length ≤ lim := hl.1
    have HLN := Lib.hid hln
    clear hlr hrR hl hsr hln
    go_enter Tryz.func41, Tryz.ntmps41
    go_wp2_with (at_builtin; refine wpList_append_n rfl (.tmp 5) (.tmp 6) _ rfl elemByte (n := 0) (s := ⟨some ⟨w.heap.size, 0, none⟩, 0⟩) rfl rfl hown rfl HLR.out.symm HS (by rw [HLR.out]; simp; omega) (by simp) ?_; intro s3 w3 hown3 hg3 hat3)
    go_ret
    have hb3 : Below w.heap.size w w3 := ((Below.refl _ w).alloc (Nat.le_refl _) _).grown hg3 (by simp) (fun k e => by cases e; exact Nat.le_refl _)
    have := cloned_bytesW (l := l) hown3 (by simpa using HLR.out) HLN.out hb3 (fun i hi => by simpa using HRR.out i (by simpa using hi))
    simpa using this
end Go.Proofs.YtidadlcknkeodaaGreatDoor
/- entry.copies[T], entry.copySet: what is made may be written. Printed by wip/src/genbw.py. -/
namespace Go.WW
open Go.RowKit
theorem KeyW.lt {m : Nat} {w : World} {s : Sl} {k : Key} (h : KeyW m w s k) : KeyAt w s k := h.1
end Go.WW
namespace Go.Proofs.YtidadlcknkeodaaGreatDoor
open Go.RowKit Go.WW
def RPrinW (_ : Nat) (l : List Prin) (x : World) (i : Nat) (cs : Array Value) : Prop := ∃ p s, l[i]? = some p ∧ cs = prinC s p ∧ PrinAt x s p
def RKeyW (m : Nat) (l : List Key) (x : World) (i : Nat) (cs : Array Value) : Prop := ∃ p s, l[i]? = some p ∧ cs = keyC s p ∧ KeyW m x s p
def CopiedSetW (w : World) (k : KeySet) (e : Ending) (w' : World) : Prop :=
  ∃ s : Sl, e = .returned (.agg (setC s k)) ∧ Below w.heap.size w w' ∧ Dep w' (fresh w.heap.size w') (fun x => SetW w.heap.size x s k)
def RSetW (m : Nat) (l : List KeySet) (x : World) (i : Nat) (cs : Array Value) : Prop := ∃ p s, l[i]? = some p ∧ cs = setC s p ∧ SetW m x s p
end Go.Proofs.YtidadlcknkeodaaGreatDoor
/- name.Copy, copies of principals: the weaker contracts. Printed by wip/src/cutb.py. -/
namespace Go.Proofs.YtidadlcknkeodaaGreatDoor
open Go.RowKit Go.WW
end Go.Proofs.YtidadlcknkeodaaGreatDoor
/- entry.Copy: the copy may be written. Printed by wip/src/genbw.py. -/
namespace Go.WW
open Go.RowKit
def CopiedEntW (w : World) (d : Entry) (e : Ending) (w' : World) : Prop := ∃ r : ERaw, e = .returned (.agg (entC r d)) ∧ Below w.heap.size w w' ∧ Dep w' (fresh w.heap.size w') (fun x => EntW w.heap.size x r d)
theorem SetsW.le {m m' : Nat} {w : World} {a : Option Addr} {l : List KeySet} (h : SetsW m w a l) (hm : m' ≤ m) : SetsW m' w a l := ⟨RowsAt.imp h.1 fun _ _ ⟨p, s, h1, h2, h3⟩ => ⟨p, s, h1, h2, h3.le hm⟩, h.2.le hm⟩
end Go.WW
namespace Go.Proofs.YtidadlcknkeodaaGreatDoor
open Go.RowKit Go.WW
end Go.Proofs.YtidadlcknkeodaaGreatDoor
/- entry.Copy: the weaker contract. Printed by wip/src/cutb.py. -/
namespace Go.Proofs.YtidadlcknkeodaaGreatDoor
open Go.RowKit Go.WW
end Go.Proofs.YtidadlcknkeodaaGreatDoor
/- account.attempt, lockout.Unlock. -/
namespace Go.WW
open Go.RowKit
def failsOf (d : Entry) (p : Policy) (s : Bool) (now : Int) : Int := if s then 0 else min (countOf d p now + 1) 65535
def lastFailOf (d : Entry) (s : Bool) (now : Int) : Int := if s then d.lastFail else now
def lastOkOf (d : Entry) (s : Bool) (now : Int) : Int := if s then now else d.lastSuccess
def attempted (d : Entry) (p : Policy) (s : Bool) (now : Int) : Entry := { d with fails := failsOf d p s now, lastFail := lastFailOf d s now, lastSuccess := lastOkOf d s now }
def zeroSl : Sl := ⟨none, 0⟩
def zeroR : ERaw := ⟨zeroSl, zeroSl, zeroSl, zeroSl, zeroSl, zeroSl⟩
def zeroD : Entry := ⟨⟨[], ⟨#[]⟩⟩, [], 0, 0, [], ⟨#[]⟩, 0, 0, 0, 0, 0, 0, 0, [], [], []⟩
def EntOut (w : World) (d : Entry) (no : Int) (e : Ending) (w' : World) : Prop := ∃ r, e = .returned (.tuple #[.agg (entC r d), .int .i64 no]) ∧ Below w.heap.size w w' ∧ Dep w' (fresh w.heap.size w') (fun x => EntAt x r d)
end Go.WW
namespace Go.Proofs.YtidadlcknkeodaaGreatDoor
open Go.RowKit Go.WW
theorem buildE0 (w : World) : (structBuild 32 #[]).run Tryz.prog w = .ok (.value (.agg (entC zeroR zeroD))) w := by kernel_rfl
attribute [go_sem] buildE0
end Go.Proofs.YtidadlcknkeodaaGreatDoor
/- A region that draws its order, in which one operation (an alloc) may come ahead of one other (a call) or behind it: two walks in the order of the text. -/
namespace Go.WW
open Go.RowKit
section
variable {P : Program} {ops : Array Oper} {S : World → Prop} {st : Oper → Bool} {Q : Act → World → Prop}
structure TextOk2 (st : Oper → Bool) (ops : Array Oper) (m : Array (List Nat)) (x c : Nat) : Prop where
  sel : Region.noSelect ops = true
  back : ∀ j oj, ops[j]? = some oj → ∀ e ∈ oj.after, Region.binds .any e = true → e.on < j
  pred : ∀ j oj, ops[j]? = some oj → ∀ i ∈ m.getD j [], ∃ e ∈ oj.after, Region.binds .any e = true ∧ (e.on = i ∨ i ∈ m.getD e.on [])
  pair : ∀ j oj, ops[j]? = some oj → ∀ i, i < j → ∀ oi, ops[i]? = some oi → (∃ e ∈ oj.after, Region.binds .any e = true ∧ e.on = i) ∨ (oi.apart ops oj = true ∧ (st oi = true ∨ st oj = true ∨ i ∈ m.getD j [] ∨ (i = c ∧ j = x)))
  past : ∀ i oi ox, ops[i]? = some oi → ops[x]? = some ox → c < i → i < x → ox.apart ops oi = true ∧ st oi = true
  look : ∀ i oi, ops[i]? = some oi → i ≠ x → i ≠ c → st oi = true ∨ c ∈ m.getD i []
  lt : c < x
def mv (x c : Nat) (L : List Nat) : List Nat := L.filter (fun k => decide (k < c)) ++ x :: L.filter (fun k => decide (c ≤ k) && decide (k ≠ x))
def textB2 (st : Oper → Bool) (ops : Array Oper) (x c : Nat) : Bool :=
  let m := effPreds st ops
  Region.noSelect ops && decide (c < x) && (List.range ops.size).all fun j => match ops[j]? with
    | none => true
    | some oj =>
      oj.after.toList.all (fun e => !Region.binds .any e || decide (e.on < j)) &&
      (m.getD j []).all (fun i => oj.after.toList.any fun e => Region.binds .any e && (e.on == i || (m.getD e.on []).contains i)) &&
      ((List.range j).all fun i => match ops[i]? with
        | none => true
        | some oi => oj.after.toList.any (fun e => Region.binds .any e && e.on == i) || (oi.apart ops oj && (st oi || st oj || (m.getD j []).contains i || (i == c && j == x)))) &&
      (j == x || j == c || st oj || (m.getD j []).contains c) &&
      (match ops[x]? with
        | none => true
        | some ox => !(decide (c < j) && decide (j < x)) || (ox.apart ops oj && st oj))
def pick (l : List Oper) : List Nat → List Oper
  | [] => []
  | i :: is => match l[i]? with | some o => o :: pick l is | none => pick l is
end
end Go.WW
/- lockout.Attempt. Printed by wip/src/genattempt.py. -/
namespace Go.WW
open Go.RowKit
theorem still_blk {X w3 : World} {k : Nat} {o : Obj} (hb3 : Below X.heap.size X w3) (hX : X.heap[k]? = some o) : w3.heap[k]? = some o := (hb3.block k (Array.getElem?_eq_some_iff.1 hX).1).trans hX
end Go.WW
namespace Go.Proofs.YtidadlcknkeodaaGreatDoor
open Go.RowKit Go.WW
end Go.Proofs.YtidadlcknkeodaaGreatDoor
/- law28.locked, law28.given. -/
namespace Go.WW
open Go.RowKit
def entK (fails last : Int) : Entry := { zeroD with name := ⟨[⟨#[97]⟩], ⟨#[82]⟩⟩, fails := fails, lastFail := last }
def pol3 (fails : Int) : Policy := ⟨⟨#[112]⟩, 1, 1, 0, 0, 0, 0, fails, 100, 50⟩
def GivenOut (w : World) (e : Ending) (w' : World) : Prop := ∃ r, e = .returned (.tuple #[.agg (entC r (entK 0 0)), .agg (polC (pol3 3))]) ∧ Below w.heap.size w w' ∧ Dep w' (fresh w.heap.size w') (fun x => EntAt x r (entK 0 0))
end Go.WW
namespace Go.Proofs.YtidadlcknkeodaaGreatDoor
open Go.RowKit Go.WW
theorem buildE1 (w : World) (g cap : Nat) : (structBuild 32 #[(0, .agg #[.slice (some ⟨g, 0, none⟩) 1 cap, .string ⟨#[82]⟩])]).run Tryz.prog w = .ok (.value (.agg (entC { zeroR with parts := ⟨some ⟨g, 0, none⟩, cap⟩ } (entK 0 0)))) w := by kernel_rfl
theorem buildP (w : World) : (structBuild 34 #[(0, .string ⟨#[112]⟩), (1, .int .i64 1), (2, .int .i64 1), (7, .int .i64 3), (8, .int .i64 100), (9, .int .i64 50)]).run Tryz.prog w = .ok (.value (.agg (polC (pol3 3)))) w := by kernel_rfl
attribute [go_sem] buildE1 buildP
end Go.Proofs.YtidadlcknkeodaaGreatDoor
/- The program's database in memory; New, Policy. -/
namespace Go.Proofs.YtidadlcknkeodaaGreatDoor
open Go.RowKit Go.WW
structure DbAt (w : World) (b n e p : Nat) (re : ByteArray) (s : Int) (N : List (ByteArray × Value)) (E : List EE) (P : List Policy) : Prop where
  box : w.heap[b]? = some (.cells (dbC re s n e p) 142)
  nm : MapOf w n N
  em : MapOf w e (E.map fun x => (textOf x.2.name, Value.agg (encX x)))
  pm : MapOf w p (P.map fun q => (q.name, Value.agg (polC q)))
  ne : n ≠ e ∧ n ≠ p ∧ e ≠ p
theorem DbAt.later {w w' : World} {b n e p : Nat} {re : ByteArray} {s : Int} {N : List (ByteArray × Value)} {E : List EE} {P : List Policy} (h : DbAt w b n e p re s N E P) (hb : Below w.heap.size w w') : DbAt w' b n e p re s N E P :=
  ⟨still_blk hb h.box, h.nm.at (hb.block n h.nm.lt), h.em.at (hb.block e h.em.lt), h.pm.at (hb.block p h.pm.lt), h.ne⟩
theorem map_new (w : World) (b : Nat) (clock : Nat) (h : w.heap[b]? = some (.map #[] clock)) : MapOf w b [] := ⟨#[], clock, h, by simp, by simp, by simp, by simp⟩
theorem dbNew_c (re : ByteArray) (w : World) (hs : re.size ≤ lim) (hok : realmOk re = true) : Calls Tryz.prog 48 #[.string re] w fun x w' => ∃ b n e p, x = .returned (.tuple #[.pointer (some ⟨b, 0, none⟩), .int .i64 0]) ∧ Below w.heap.size w w' ∧ DbAt w' b n e p re 0 [] [] [] ∧ w.heap.size ≤ b ∧ w.heap.size ≤ n ∧ w.heap.size ≤ e ∧ w.heap.size ≤ p := by
  have hR := nameRealm_c re w hs
  rw [hok] at hR
  have HR := Lib.hid hR
  clear hR
  have hmm := @run_makeMap Tryz.prog
  go_enter Tryz.func48, Tryz.ntmps48
  go_wp2_with fail
  refine HR.out.mono ?_
  rintro x w1 ⟨rfl, hb1⟩
  dsimp only
  go_wp2_with fail
  have hs1 := hb1.size
  refine bodyPost_ret (results_tmp2 (by rfl) _ _ _) rfl ⟨w1.heap.size + 1 + 1 + 1, w1.heap.size, w1.heap.size + 1, w1.heap.size + 1 + 1, rfl, ?_, ⟨?_, ?_, ?_, ?_, by omega⟩, by omega, by omega, by omega, by omega⟩
  · exact below_step hb1 (((((Below.refl _ w1).alloc (Nat.le_refl _) _).alloc (by simp) _).alloc (by simp; omega) _).alloc (by simp; omega) _)
  · have := World.alloc_heap_new (((w1.alloc (.map #[] 0)).alloc (.map #[] 0)).alloc (.map #[] 0)) (.cells (dbC re 0 w1.heap.size (w1.heap.size + 1) (w1.heap.size + 1 + 1)) 142)
    rw [show (((w1.alloc (.map #[] 0)).alloc (.map #[] 0)).alloc (.map #[] 0)).heap.size = w1.heap.size + 1 + 1 + 1 by simp] at this
    exact this
  · refine map_new _ _ 0 ?_
    rw [Below.heap_alloc _ _ _ (by simp; omega), Below.heap_alloc _ _ _ (by simp; omega), Below.heap_alloc _ _ _ (by simp)]; exact World.alloc_heap_new _ _
  · refine map_new _ _ 0 ?_
    rw [Below.heap_alloc _ _ _ (by first | (simp; done) | (simp; omega)), Below.heap_alloc _ _ _ (by first | (simp; done) | (simp; omega))]
    have := World.alloc_heap_new (w1.alloc (.map #[] 0)) (.map #[] 0); simpa using this
  · refine map_new _ _ 0 ?_
    rw [Below.heap_alloc _ _ _ (by simp)]
    have := World.alloc_heap_new ((w1.alloc (.map #[] 0)).alloc (.map #[] 0)) (.map #[] 0); simpa using this
end Go.Proofs.YtidadlcknkeodaaGreatDoor
/- update.New: a log without updates. -/
namespace Go.Proofs.YtidadlcknkeodaaGreatDoor
open Go.RowKit Go.WW Go.Mini Go.MiniT
def strL (s : ByteArray) : List Int := s.data.toList.map fun b => (b.toNat : Int)
theorem strL_length (s : ByteArray) : (strL s).length = s.size := by
  show (s.data.toList.map _).length = s.data.size
  rw [List.length_map, Array.length_toList]
theorem convBytes (w : World) (s : ByteArray) : ∃ cap w', (convert 9 56 (.string s)).run Tryz.prog w = .ok (.slice (some ⟨w.heap.size, 0, none⟩) s.size cap) w' ∧ Below w.heap.size w w' ∧ Raw w' w.heap.size 0 (strL s) ∧ s.size ≤ cap := by
  refine ⟨_, _, run_bytes_of_string w 9 56 5 s Tryz.underlying9 Tryz.underlying56 Tryz.underlying5, below_new (Below.refl _ _).drew _, ?_, ?_⟩
  · refine ⟨_, _, _, World.alloc_heap_new w.drew _, fun i hi => ?_, .inr (Nat.le_refl _)⟩
    rw [strL_length] at hi
    rw [Nat.zero_add, bytesRow_at s _ i hi]
    simp [strL]
  · exact grownCap_ge _ _ _ _
theorem outL_range (st : List Int) : ∀ k, ∀ v ∈ outL st k, 0 ≤ v ∧ v < 256
  | 0, v, h => by
    have := List.eq_of_mem_replicate h
    omega
  | k + 1, v, h => by
    have ih := outL_range st k v
    have hm : ∀ (x n : Int), n = 256 → 0 ≤ x % n ∧ x % n < 256 := fun x n hn => by subst hn; omega
    rcases List.mem_or_eq_of_mem_set h with h | h
    · rcases List.mem_or_eq_of_mem_set h with h | h
      · rcases List.mem_or_eq_of_mem_set h with h | h
        · rcases List.mem_or_eq_of_mem_set h with h | h
          · exact ih h
          · rw [h]; exact hm _ _ rfl
        · rw [h]; exact hm _ _ rfl
      · rw [h]; exact hm _ _ rfl
    · rw [h]; exact hm _ _ rfl
theorem toU8 (d : List Int) (h : ∀ v ∈ d, 0 ≤ v ∧ v < 256) : ∃ l : List UInt8, l.length = d.length ∧ d = l.map fun c => (c.toNat : Int) := by
  refine ⟨d.map fun v => UInt8.ofNat v.toNat, by simp, ?_⟩
  rw [List.map_map]
  refine (List.map_id' d).symm.trans (List.map_congr_left fun v hv => ?_)
  obtain ⟨h0, h1⟩ := h v hv
  simp only [Function.comp]
  rw [UInt8.toNat_ofNat_of_lt' (by simp [UInt8.size]; omega)]
  omega
theorem dbNew_no (re : ByteArray) (w : World) (hs : re.size ≤ lim) (hok : realmOk re = false) : Calls Tryz.prog 48 #[.string re] w fun x w' => x = .returned (.tuple #[.pointer none, .int .i64 2]) ∧ Below w.heap.size w w' := by
  have hR := nameRealm_c re w hs
  rw [hok] at hR
  have HR := Lib.hid hR
  clear hR
  go_enter Tryz.func48, Tryz.ntmps48
  go_wp2_with fail
  refine HR.out.mono ?_
  rintro x w1 ⟨rfl, hb1⟩
  dsimp only
  go_wp2_with fail
  exact bodyPost_ret (results_tmp2 (by rfl) _ _ _) rfl ⟨rfl, hb1⟩
theorem updNew_no (re : ByteArray) (w : World) (hs : re.size ≤ lim) (hok : realmOk re = false) : Calls Tryz.prog 18 #[.string re] w fun x w' => x = .returned (.tuple #[.pointer none, .int .i64 2]) ∧ Below w.heap.size w w' := by
  go_enter Tryz.func18, Tryz.ntmps18
  go_wp2_with fail
  refine (dbNew_no re w hs hok).mono ?_
  rintro x w1 ⟨rfl, hb⟩
  dsimp only
  go_wp2_with fail
  exact bodyPost_ret (results_tmp2 (by rfl) _ _ _) rfl ⟨rfl, hb⟩
theorem execOp_bsHash (ρ : Operand → Value) (dst : Option Tmp) (x : Operand) (ty : TypeId) (pos : String) (after : Array Edge) (guard : Option (Nat × Bool)) : execOp ρ { dst, op := .buildSlice 45 1 #[(0, x)], type := ty, pos, after, guard } = sliceBuild 45 1 #[(0, ρ x)] := by simp [execOp, sliceBuild]
theorem list32 (d : List Int) (h : d.length = 32) : ∃ x0 x1 x2 x3 x4 x5 x6 x7 x8 x9 x10 x11 x12 x13 x14 x15 x16 x17 x18 x19 x20 x21 x22 x23 x24 x25 x26 x27 x28 x29 x30 x31, d = [x0, x1, x2, x3, x4, x5, x6, x7, x8, x9, x10, x11, x12, x13, x14, x15, x16, x17, x18, x19, x20, x21, x22, x23, x24, x25, x26, x27, x28, x29, x30, x31] := by
  match d, h with
  | [x0, x1, x2, x3, x4, x5, x6, x7, x8, x9, x10, x11, x12, x13, x14, x15, x16, x17, x18, x19, x20, x21, x22, x23, x24, x25, x26, x27, x28, x29, x30, x31], _ => exact ⟨_, _, _, _, _, _, _, _, _, _, _, _, _, _, _, _, _, _, _, _, _, _, _, _, _, _, _, _, _, _, _, _, rfl⟩
theorem bsHash (w : World) (d : List Int) (h : d.length = 32) : (sliceBuild 45 1 #[(0, .agg (bytesA d))]).run Tryz.prog w = .ok (.value (.slice (some ⟨w.heap.size, 0, none⟩) 1 1)) (w.alloc (.cells (bytesA d) 75)) := by
  obtain ⟨x0, x1, x2, x3, x4, x5, x6, x7, x8, x9, x10, x11, x12, x13, x14, x15, x16, x17, x18, x19, x20, x21, x22, x23, x24, x25, x26, x27, x28, x29, x30, x31, rfl⟩ := list32 d h
  kernel_rfl
attribute [go_sem] bsHash
attribute [go_sem ↓] execOp_bsHash
theorem updNew_ok (hT : TurnC) (hC : ChoiceC) (re : ByteArray) (w : World) (hs : re.size ≤ 1000) (hok : realmOk re = true) (hv : ShaVars w) : Calls Tryz.prog 18 #[.string re] w fun x w' => ∃ lb b n e p db, ∃ dl : List UInt8, x = .returned (.tuple #[.pointer (some ⟨lb, 0, none⟩), .int .i64 0]) ∧ Below w.heap.size w w' ∧ w'.heap[lb]? = some (.cells #[.slice none 0 0, .slice (some ⟨db, 0, none⟩) 1 1, .pointer (some ⟨b, 0, none⟩)] 48) ∧ dl.length = 32 ∧ w'.heap[db]? = some (.cells (bytesA (dl.map fun c => (c.toNat : Int))) 75) ∧ DbAt w' b n e p re 0 [] [] [] := by
  go_enter Tryz.func18, Tryz.ntmps18
  go_wp2_with fail
  refine (dbNew_c re w (Nat.le_trans hs (by decide)) hok).mono ?_
  rintro x w1 ⟨b, n, e, p, rfl, hb, hdb, hx⟩
  obtain ⟨cap, w2, hcv, hb2, hraw, hcap⟩ := convBytes w1 (⟨#[119, 97, 116, 99, 104, 119, 111, 114, 100, 32, 108, 111, 103, 0]⟩ ++ re)
  dsimp only
  go_wp2_with fail
  have hsz : (⟨#[119, 97, 116, 99, 104, 119, 111, 114, 100, 32, 108, 111, 103, 0]⟩ ++ re : ByteArray).size = 14 + re.size := by rw [ByteArray.size_append]; rfl
  have hll := strL_length (⟨#[119, 97, 116, 99, 104, 119, 111, 114, 100, 32, 108, 111, 103, 0]⟩ ++ re)
  rw [hsz] at hll hcap
  generalize strL (⟨#[119, 97, 116, 99, 104, 119, 111, 114, 100, 32, 108, 111, 103, 0]⟩ ++ re) = l at *
  have hb12 := below_step hb hb2
  have hv2 : ShaVars w2 := hv.on (hb12.block _ (Array.getElem?_eq_some_iff.1 hv.s0).1) (hb12.block _ (Array.getElem?_eq_some_iff.1 hv.s1).1)
  rw [← hll]
  rw [← hll] at hcap
  refine (shaSum_c hT hC _ _ cap l w2 hv2 hraw hcap (by omega)).mono ?_
  rintro x w3 ⟨rfl, hb3⟩
  have hol : (shaF l).length = 32 := outL_length _ _
  obtain ⟨dl, hdl, hde⟩ := toU8 (shaF l) (outL_range _ 8)
  have HDE := Lib.hid hde
  clear hde
  generalize shaF l = d at *
  have hsz32 : (bytesA d).size = 32 := by rw [bytesA_size, hol]
  have hone := bytesA_one d
  have hsub : subRow (bytesA d) 0 32 = some (bytesA d) := subRow_whole hsz32
  dsimp only
  go_wp2_with fail
  have hB3 := below_step hb12 hb3
  have hdb3 := hdb.later (below_step hb2 hb3)
  have hq1 := below_new (Below.refl _ w3) (.cells (bytesA d) 75)
  have hq2 := below_new hq1 (.cells (bytesA d) 75)
  refine bodyPost_ret (results_tmp2 (by rfl) _ _ _) rfl ⟨w3.heap.size + 1 + 1, b, n, e, p, w3.heap.size + 1, dl, rfl, ?_, ?_, by omega, ?_, ?_⟩
  · exact below_new (below_step hB3 hq2) _
  · have := World.alloc_heap_new ((w3.alloc (.cells (bytesA d) 75)).alloc (.cells (bytesA d) 75)) (.cells #[.slice none 0 0, .slice (some ⟨w3.heap.size + 1, 0, none⟩) 1 1, .pointer (some ⟨b, 0, none⟩)] 48); simpa using this
  · rw [← HDE.out, Below.heap_alloc _ _ _ (by simp)]
    have := World.alloc_heap_new (w3.alloc (.cells (bytesA d) 75)) (.cells (bytesA d) 75); simpa using this
  · exact hdb3.later (below_new hq2 _)
end Go.Proofs.YtidadlcknkeodaaGreatDoor
/- The program's database: Policy. -/
namespace Go.Proofs.YtidadlcknkeodaaGreatDoor
open Go.RowKit Go.WW
theorem box5 {w : World} {b n e p : Nat} {re : ByteArray} {s : Int} (h : w.heap[b]? = some (.cells (dbC re s n e p) 142)) : w.cell? ⟨b, 0, none⟩ = some (.string re) ∧ w.cell? ⟨b, 1, none⟩ = some (.int .i64 s) ∧ w.cell? ⟨b, 2, none⟩ = some (.map (some n)) ∧ w.cell? ⟨b, 3, none⟩ = some (.map (some e)) ∧ w.cell? ⟨b, 4, none⟩ = some (.map (some p)) ∧ w.frozen? ⟨b, 1, none⟩ = false ∧ b < w.heap.size := by
  obtain ⟨hc, hf, _, hl⟩ := box_facts h
  exact ⟨hc 0, hc 1, hc 2, hc 3, hc 4, hf 1, hl⟩
end Go.Proofs.YtidadlcknkeodaaGreatDoor
/- maps.Clone at the three maps of a database. -/
namespace Go.Proofs
open Go.RowKit
theorem Tryz.cloneS (b : Nat) (es : Array MapEntry) (clock : Nat) (w : World) (hb : w.heap[b]? = some (.map es clock)) :
    Calls Tryz.prog 77 #[.map (some b)] w fun e w' => e = .returned (.map (some w.heap.size)) ∧ w' = w.alloc (.map es clock) := by
  have hq := fun w => run_eql_map_nil_sl (P := Tryz.prog) w 136 _ _ (some b) Tryz.underlying136
  go_enter Tryz.func77, Tryz.ntmps77
  go_wp2
  rw [run_callFunc_extern Tryz.func127 (by kernel_rfl) (by kernel_rfl) (by kernel_rfl) (e := Extern.MapsClone.clone) (by kernel_rfl), run_maps_clone_sl w 136 hb]
  simp only [Result.andThen]
  rw [Oper.upon_value]
  go_wp2
  rw [run_typeAssert_map_sl _ 136 20 _ _ _ Tryz.underlying136]
  simp only [Result.andThen]
  rw [Oper.upon_value]
  go_wp2
  go_ret
  exact ⟨rfl, rfl⟩
theorem Tryz.cloneE (b : Nat) (es : Array MapEntry) (clock : Nat) (w : World) (hb : w.heap[b]? = some (.map es clock)) :
    Calls Tryz.prog 78 #[.map (some b)] w fun e w' => e = .returned (.map (some w.heap.size)) ∧ w' = w.alloc (.map es clock) := by
  have hq := fun w => run_eql_map_nil_sl (P := Tryz.prog) w 137 _ _ (some b) Tryz.underlying137
  go_enter Tryz.func78, Tryz.ntmps78
  go_wp2
  rw [run_callFunc_extern Tryz.func127 (by kernel_rfl) (by kernel_rfl) (by kernel_rfl) (e := Extern.MapsClone.clone) (by kernel_rfl), run_maps_clone_sl w 137 hb]
  simp only [Result.andThen]
  rw [Oper.upon_value]
  go_wp2
  rw [run_typeAssert_map_sl _ 137 20 _ _ _ Tryz.underlying137]
  simp only [Result.andThen]
  rw [Oper.upon_value]
  go_wp2
  go_ret
  exact ⟨rfl, rfl⟩
theorem Tryz.cloneP (b : Nat) (es : Array MapEntry) (clock : Nat) (w : World) (hb : w.heap[b]? = some (.map es clock)) :
    Calls Tryz.prog 79 #[.map (some b)] w fun e w' => e = .returned (.map (some w.heap.size)) ∧ w' = w.alloc (.map es clock) := by
  have hq := fun w => run_eql_map_nil_sl (P := Tryz.prog) w 138 _ _ (some b) Tryz.underlying138
  go_enter Tryz.func79, Tryz.ntmps79
  go_wp2
  rw [run_callFunc_extern Tryz.func127 (by kernel_rfl) (by kernel_rfl) (by kernel_rfl) (e := Extern.MapsClone.clone) (by kernel_rfl), run_maps_clone_sl w 138 hb]
  simp only [Result.andThen]
  rw [Oper.upon_value]
  go_wp2
  rw [run_typeAssert_map_sl _ 138 20 _ _ _ Tryz.underlying138]
  simp only [Result.andThen]
  rw [Oper.upon_value]
  go_wp2
  go_ret
  exact ⟨rfl, rfl⟩
end Go.Proofs
/- (*database.Database).Copy of an empty database, (*update.Log).Database, (*update.Log).Digest, replica.NewReplica. -/
namespace Go.Proofs.YtidadlcknkeodaaGreatDoor
open Go.RowKit Go.WW Go.Mini Go.MiniT
theorem dbCopy_c (b n e p : Nat) (re : ByteArray) (w : World) (h : DbAt w b n e p re 0 [] [] []) (hre : ¬ re = ⟨#[]⟩) : Calls Tryz.prog 47 #[.pointer (some ⟨b, 0, none⟩)] w fun x w' => ∃ c, x = .returned (.pointer (some ⟨c, 0, none⟩)) ∧ Below w.heap.size w w' := by
  obtain ⟨c0, c1, c2, c3, c4, f1, hl⟩ := box5 h.box
  go_enter Tryz.func47, Tryz.ntmps47
  go_wp2_with fail
  refine (dnone_no b re w c0 hre).mono ?_
  rintro x w' ⟨rfl, rfl⟩
  dsimp only
  go_wp2_with fail
  refine wp_region_sinceB (fun _ => False) (But.refl _ w) (by kernel_rfl) (by kernel_rfl) ?_
  repeat (first | (refine text_skip (by rfl) ?_) | (refine textN_look (by rfl) (by rfl) (fun K hK => ?_); go_big_quiet_op; refine hK _ ?_; clear hK K))
  obtain ⟨es1, k1, hm1, -⟩ := h.nm
  obtain ⟨es2, k2, hm2, -⟩ := h.em
  obtain ⟨es3, k3, hm3, -⟩ := h.pm
  refine textN_act (by rfl) (by rfl) (fun K hK => ?_)
  go_wp2_with fail
  refine (Tryz.cloneS n es1 k1 w.drew hm1).mono ?_
  rintro z w1 ⟨rfl, rfl⟩
  have hb1 : Below w.heap.size w (w.drew.alloc (.map es1 k1)) := below_new (Below.refl _ w).drew _
  dsimp only
  refine hK _ _ (sinceB_of (But.of_below hb1)) ?_
  clear hK K
  generalize w.drew.alloc (.map es1 k1) = w1 at *
  repeat (first | (refine text_skip (by rfl) ?_) | (refine textN_look (by rfl) (by rfl) (fun K hK => ?_); go_big_quiet_op; refine hK _ ?_; clear hK K))
  refine textN_act (by rfl) (by rfl) (fun K hK => ?_)
  go_wp2_with fail
  refine (Tryz.cloneE e es2 k2 w1 ((hb1.block _ (Array.getElem?_eq_some_iff.1 hm2).1).trans hm2)).mono ?_
  rintro z w2 ⟨rfl, rfl⟩
  have hb2 : Below w.heap.size w (w1.alloc (.map es2 k2)) := below_new hb1 _
  dsimp only
  refine hK _ _ (sinceB_of (But.of_below hb2)) ?_
  clear hK K
  generalize w1.alloc (.map es2 k2) = w2 at *
  repeat (first | (refine text_skip (by rfl) ?_) | (refine textN_look (by rfl) (by rfl) (fun K hK => ?_); go_big_quiet_op; refine hK _ ?_; clear hK K))
  refine textN_act (by rfl) (by rfl) (fun K hK => ?_)
  go_wp2_with fail
  refine (Tryz.cloneP p es3 k3 w2 ((hb2.block _ (Array.getElem?_eq_some_iff.1 hm3).1).trans hm3)).mono ?_
  rintro z w3 ⟨rfl, rfl⟩
  have hb3 : Below w.heap.size w (w2.alloc (.map es3 k3)) := below_new hb2 _
  dsimp only
  refine hK _ _ (sinceB_of (But.of_below hb3)) ?_
  clear hK K
  generalize w2.alloc (.map es3 k3) = w3 at *
  repeat (first | (refine text_skip (by rfl) ?_) | (refine textN_look (by rfl) (by rfl) (fun K hK => ?_); go_big_quiet_op; refine hK _ ?_; clear hK K))
  refine textN_act (by rfl) (by rfl) (fun K hK => ?_)
  go_wp2_with fail
  refine hK _ _ (sinceB_of (But.of_below (below_new hb3 _))) ?_
  clear hK K
  repeat (first | (refine text_skip (by rfl) ?_) | (refine textN_look (by rfl) (by rfl) (fun K hK => ?_); go_big_quiet_op; refine hK _ ?_; clear hK K))
  refine text_nil ?_
  go_wp2_with fail
  go_ret
  exact ⟨_, rfl, below_new hb3 _⟩
theorem logNone_c (lb b db : Nat) (w : World) (h : w.heap[lb]? = some (.cells #[.slice none 0 0, .slice (some ⟨db, 0, none⟩) 1 1, .pointer (some ⟨b, 0, none⟩)] 48)) : Calls Tryz.prog 50 #[.pointer (some ⟨lb, 0, none⟩)] w fun e w' => e = .returned (.bool false) ∧ w = w' := by
  obtain ⟨f, -, hl⟩ := boxF h
  have c2 : w.cell? ⟨lb, 2, none⟩ = some (.pointer (some ⟨b, 0, none⟩)) := f 2
  clear f
  go_enter Tryz.func50, Tryz.ntmps50
  go_wp2
  go_ret
  exact ⟨rfl, rfl⟩
theorem logDatabase_c (lb b db n e p : Nat) (re : ByteArray) (w : World) (h : w.heap[lb]? = some (.cells #[.slice none 0 0, .slice (some ⟨db, 0, none⟩) 1 1, .pointer (some ⟨b, 0, none⟩)] 48)) (hd : DbAt w b n e p re 0 [] [] []) (hre : ¬ re = ⟨#[]⟩) : Calls Tryz.prog 25 #[.pointer (some ⟨lb, 0, none⟩)] w fun x w' => ∃ c, x = .returned (.pointer (some ⟨c, 0, none⟩)) ∧ Below w.heap.size w w' := by
  obtain ⟨f, -, hl⟩ := boxF h
  have c2 : w.cell? ⟨lb, 2, none⟩ = some (.pointer (some ⟨b, 0, none⟩)) := f 2
  clear f
  go_enter Tryz.func25, Tryz.ntmps25
  go_wp2_with fail
  refine (logNone_c lb b db w h).mono ?_
  rintro x w' ⟨rfl, rfl⟩
  dsimp only
  go_wp2_with fail
  refine (dbCopy_c b n e p re w hd hre).mono ?_
  rintro x w' ⟨c, rfl, hb⟩
  dsimp only
  go_wp2_with fail
  go_ret
  exact ⟨c, rfl, hb⟩
theorem between29_c (w : World) : Calls Tryz.prog 60 #[.int .i64 0, .int .i64 0, .int .i64 0] w fun e w' => e = .returned (.bool true) ∧ w = w' := by
  go_enter Tryz.func60, Tryz.ntmps60
  go_wp2
  go_ret
  exact ⟨rfl, rfl⟩
theorem logDigest_c (lb b db : Nat) (dl : List UInt8) (hdl : dl.length = 32) (w : World) (h : w.heap[lb]? = some (.cells #[.slice none 0 0, .slice (some ⟨db, 0, none⟩) 1 1, .pointer (some ⟨b, 0, none⟩)] 48)) (hd : w.heap[db]? = some (.cells (bytesA (dl.map fun c => (c.toNat : Int))) 75)) : Calls Tryz.prog 24 #[.pointer (some ⟨lb, 0, none⟩), .int .i64 0] w fun x w' => ∃ s : Sl, x = .returned (.tuple #[.slice s.a 32 s.cap, .int .i64 0]) ∧ Below w.heap.size w w' ∧ BytesAt w' s.a dl := by
  obtain ⟨f, -, hl⟩ := boxF h
  have c0 : w.cell? ⟨lb, 0, none⟩ = some (.slice none 0 0) := f 0
  have c1 : w.cell? ⟨lb, 1, none⟩ = some (.slice (some ⟨db, 0, none⟩) 1 1) := f 1
  clear f
  have hraw : Raw w db 0 (dl.map fun c => (c.toNat : Int)) := ⟨_, _, (0, 0), hd, fun i hi => by rw [Nat.zero_add]; exact bytesA_get _ i hi, .inl rfl⟩
  have hby := hraw.bytes (by unfold lim; omega)
  go_enter Tryz.func24, Tryz.ntmps24
  go_wp2_with fail
  refine (logNone_c lb b db w h).mono ?_
  rintro x w' ⟨rfl, rfl⟩
  dsimp only
  go_wp2_with fail
  refine (between29_c w).mono ?_
  rintro x w' ⟨rfl, rfl⟩
  dsimp only
  go_wp2_with fail
  have hcl := cloneBytesW_c (some ⟨db, 0, none⟩) 32 dl w hby
  rw [hdl] at hcl
  refine hcl.mono ?_
  rintro x w2 ⟨s, rfl, hb2, hd2⟩
  dsimp only
  go_wp2_with fail
  refine bodyPost_ret (results_tmp2 (by rfl) _ _ _) rfl ⟨s, by rw [hdl]; rfl, hb2, (hd2.out).1⟩
end Go.Proofs.YtidadlcknkeodaaGreatDoor
/- ref04.Padded: a padded string, a multiple of 64 bytes long. -/
namespace Go.WW
open Go.RowKit
def byteRow (x : Int) : Array Value := #[.int .u8 x]
theorem pad_to (n : Nat) : ∃ T, T % 64 = 56 ∧ n + 1 ≤ T ∧ T ≤ n + 64 := by
  refine ⟨n + 1 + (119 - n % 64) % 64, by omega, by omega, by omega⟩
end Go.WW
namespace Go.Proofs.YtidadlcknkeodaaGreatDoor
open Go.RowKit Go.WW
theorem padded04_c (a : Option Addr) (cap : Nat) (l : List UInt8) (w : World) (hl : BytesAt w a l) (hn : l.length ≤ 1000000) :
    Calls Tryz.prog 101 #[.slice a l.length cap] w fun e w' => ∃ (s : Sl) (L : List Int), e = .returned (.slice s.a L.length s.cap) ∧ L.length % 64 = 0 ∧ L.length ≤ l.length + 72 ∧ Below w.heap.size w w' ∧ Go.WW.Own w' w.heap.size 5 1 s (L.map byteRow) := by
  obtain ⟨rows, hlr, hsr, hrR⟩ := CellsAt.src hl byteR_one
  have hrows : ∃ L0 : List Int, L0.length = l.length ∧ rows = L0.map byteRow := by
    refine ⟨rows.map (fun c => match c[0]? with | some (Value.int _ x) => x | _ => 0), by simp [hlr], ?_⟩
    apply List.ext_getElem (by simp)
    intro i h1 h2
    obtain ⟨v, hv, c, hc, rfl⟩ := hrR i h1
    simp [hv, byteRow]
  obtain ⟨L0, hL0, rfl⟩ := hrows
  obtain ⟨T, hT, hT1, hT2⟩ := pad_to l.length
  have HLR := Lib.hid hL0
  have HSR := Lib.hid hsr
  have hbE : Below w.heap.size w (w.alloc (.cells #[] 5)) := below_new (Below.refl _ _) _
  have hown0 := Go.WW.Own.empty w 5 1
  clear hlr hrR hl hL0 hsr
  go_enter Tryz.func101, Tryz.ntmps101
  go_wp2_with (first
    | (at_builtin; refine wpList_append_n rfl (.tmp 6) (.tmp 7) _ rfl elemByte (n := 0) (s := ⟨some ⟨w.heap.size, 0, none⟩, 0⟩) rfl rfl hown0 rfl (by rw [List.length_map]; exact HLR.out.symm) (HSR.out.later hbE) (by have := HLR.out; simp [this]; omega) (by simp) ?_; intro s1 w1 hown1 hg1 hat1; have hb1 := hbE.grown hg1 (by simp) (fun k e => by cases e; simp))
    | (have hO := hown1.kept (w' := w1.alloc (.cells (byteRow 128) 5)) (fun g hg => Below.heap_alloc _ _ _ (hown1.base hg).2); at_builtin; refine wpList_append_n rfl (.tmp 8) (.tmp 9) _ rfl elemByte (n := l.length) (s := s1) rfl (by have := HLR.out; simp [this]) hO rfl rfl (SrcRows.new _ (byteRow 128) _ _ (by simp [byteRow]) (by simp [byteRow, allOne, Value.oneCell'])) (by have := HLR.out; simp [this]; omega) (by have h9 := hb1.size; simp; omega) ?_; intro s2 w2 hown2 hg2 hat2; have hb2 : Below w.heap.size w w2 := (below_new hb1 _).grown hg2 (by have h9 := hb1.size; simp; omega) (fun k e => (hO.base e).1)))
  have hn1 : (L0.map byteRow ++ [byteRow 128]).length = l.length + 1 := by have := HLR.out; simp [this]
  have hown : Go.WW.Own w2 w.heap.size 5 1 s2 ((L0 ++ [128]).map byteRow) := by simpa using hown2
  have hl1 : (L0 ++ [128]).length = l.length + 1 := by have := HLR.out; simp [this]
  clear hown2 hn1
  go_loopw [3] (fun sv wr => ∃ (s : Sl) (n : Nat) (L : List Int), sv = .slice s.a n s.cap ∧ Hid (L.length = n) ∧ l.length + 1 ≤ n ∧ n ≤ T ∧ Below w.heap.size w wr ∧ Go.WW.Own wr w.heap.size 5 1 s (L.map byteRow)) (fun sv _ => match sv with | .slice _ n _ => T - n | _ => 0)
  case atStart => exact ⟨s2, l.length + 1, L0 ++ [128], rfl, hl1, by omega, hT1, hb2, hown⟩
  case round =>
    obtain ⟨s, n, L, rfl, hLn, hn1, hn2, hb, hO⟩ := hrel
    by_cases h56 : n % 64 = 56
    · have hq : ((n : Int) % 64 != 56) = false := by simp; omega
      have hl8 : (8 : Int) * (l.length : Int) ≥ 0 := by omega
      go_wp2_with fail
      go_loopw [3, 5] (fun sv iv wr => ∃ (s : Sl) (k : Nat) (L : List Int), k ≤ 8 ∧ sv = .slice s.a (n + k) s.cap ∧ iv = .int .i64 (7 - (k : Int)) ∧ Hid (L.length = n + k) ∧ Below w.heap.size w wr ∧ Go.WW.Own wr w.heap.size 5 1 s (L.map byteRow)) (fun _ iv _ => (intOf iv + 1).toNat)
      case atStart => exact ⟨s, 0, L, by omega, rfl, rfl, hLn, hb, hO⟩
      case round =>
        obtain ⟨s, k, L, hk, rfl, rfl, hLn, hb, hO⟩ := hrel
        by_cases hk8 : k < 8
        · have hki : (7 - (k : Int)) ≥ 0 := by omega
          have hO1 := hO.kept (w' := wr.alloc (.cells (byteRow ((8 * (l.length : Int) / 2 ^ (8 * (7 - k))).tmod 256 % 256)) 5)) (fun g hg => Below.heap_alloc _ _ _ (hO.base hg).2)
          go_wp2_with (at_builtin; refine wpList_append_n rfl (.tmp 25) (.tmp 32) _ rfl elemByte (n := n + k) (s := s) rfl (by have := hLn.out; simp [this]) hO1 rfl rfl (SrcRows.new _ (byteRow ((8 * (l.length : Int) / 2 ^ (8 * (7 - k))).tmod 256 % 256)) _ _ (by simp [byteRow]) (by simp [byteRow, allOne, Value.oneCell'])) (by have := hLn.out; simp [this]; omega) (by have h9 := hb.size; simp; omega) ?_; intro s3 w3 hown3 hg3 hat3; have hb3 : Below w.heap.size w w3 := (below_new hb _).grown hg3 (by have h9 := hb.size; simp; omega) (fun k e => (hO1.base e).1))
          go_roundw
          case rel => exact ⟨s3, k + 1, L ++ [((8 * (l.length : Int) / 2 ^ (8 * (7 - k))).tmod 256 % 256)], by omega, rfl, by congr 1; omega, Lib.hid (by have := hLn.out; simp [this]; omega), hb3, by simpa using hown3⟩
          case measure => simp [intOf]; omega
        · have hki : ¬ (7 - (k : Int)) ≥ 0 := by omega
          obtain rfl : k = 8 := by omega
          go_wp2_with fail
          go_ret
          refine ⟨s, L, by rw [hLn.out]; rfl, by have := hLn.out; omega, by have := hLn.out; omega, hb, hO⟩
    · have hq : ((n : Int) % 64 != 56) = true := by simp; omega
      have hnT : n < T := by omega
      have hO1 := hO.kept (w' := wr.alloc (.cells (byteRow 0) 5)) (fun g hg => Below.heap_alloc _ _ _ (hO.base hg).2)
      go_wp2_with (at_builtin; refine wpList_append_n rfl (.tmp 15) (.tmp 16) _ rfl elemByte (n := n) (s := s) rfl (by have := hLn.out; simp [this]) hO1 rfl rfl (SrcRows.new _ (byteRow 0) _ _ (by simp [byteRow]) (by simp [byteRow, allOne, Value.oneCell'])) (by have := hLn.out; simp [this]; omega) (by have h9 := hb.size; simp; omega) ?_; intro s3 w3 hown3 hg3 hat3; have hb3 : Below w.heap.size w w3 := (below_new hb _).grown hg3 (by have h9 := hb.size; simp; omega) (fun k e => (hO1.base e).1))
      go_roundw
      case rel => exact ⟨s3, n + 1, L ++ [0], rfl, Lib.hid (by have := hLn.out; simp [this]), by omega, by omega, hb3, by simpa using hown3⟩
      case measure => simp; omega
end Go.Proofs.YtidadlcknkeodaaGreatDoor
/- ref04.right, pick, most: what they return. -/
namespace Go.WW
open Go.RowKit
def rightF (x n : Int) : Int := wrap64 (x / 2 ^ n.toNat + (wrap64 (x * 2 ^ (32 - n).toNat)).tmod 4294967296)
def pickF (x y z : Int) : Int := bits .xor .i64 (bits .and .i64 x y) (bits .and .i64 (wrap64 (4294967295 - x)) z)
def mostF (x y z : Int) : Int := bits .xor .i64 (bits .xor .i64 (bits .and .i64 x y) (bits .and .i64 x z)) (bits .and .i64 y z)
def intsA (L : List Int) : Array Value := (L.map (Value.int .i64)).toArray
theorem intsA_size (L : List Int) : (intsA L).size = L.length := by simp [intsA]
theorem intsA_get (L : List Int) (i : Nat) (h : i < L.length) : (intsA L)[i]? = some (.int .i64 L[i]) := by simp [intsA, h]
theorem intsA_set (L : List Int) (i : Nat) (x : Int) : (intsA L).setIfInBounds i (.int .i64 x) = intsA (L.set i x) := by simp [intsA, List.map_set]
theorem intsA_one (L : List Int) : allOne (intsA L) = true := by simp [allOne, intsA, Value.oneCell']
end Go.WW
namespace Go.Proofs.YtidadlcknkeodaaGreatDoor
open Go.RowKit Go.WW
theorem right04_c (x n : Int) (h0 : 1 ≤ n) (h1 : n ≤ 31) (w : World) : Calls Tryz.prog 166 #[.int .i64 x, .int .i64 n] w fun e w' => e = .returned (.int .i64 (rightF x n)) ∧ Below w.heap.size w w' := by
  go_enter Tryz.func166, Tryz.ntmps166
  go_wp2_with fail
  refine wp_region_later (Below.refl _ w) (by kernel_rfl) (by kernel_rfl) ?_
  repeat (go_big_quiet_step (fail))
  refine wpQuiet_nil ?_
  intro w5 hb5
  go_wp2
  go_ret
  exact ⟨rfl, hb5⟩
theorem pick04_c (x y z : Int) (w : World) : Calls Tryz.prog 167 #[.int .i64 x, .int .i64 y, .int .i64 z] w fun e w' => e = .returned (.int .i64 (pickF x y z)) ∧ Below w.heap.size w w' := by
  go_enter Tryz.func167, Tryz.ntmps167
  go_wp2
  go_ret
  exact ⟨rfl, Below.refl _ _⟩
theorem most04_c (x y z : Int) (w : World) : Calls Tryz.prog 168 #[.int .i64 x, .int .i64 y, .int .i64 z] w fun e w' => e = .returned (.int .i64 (mostF x y z)) ∧ Below w.heap.size w w' := by
  go_enter Tryz.func168, Tryz.ntmps168
  go_wp2
  go_ret
  exact ⟨rfl, Below.refl _ _⟩
theorem loadInts8 (w : World) (b o : Nat) : (structLoad 177 (.pointer (some ⟨b, o, none⟩))).run Tryz.prog w = rowOut Tryz.prog 177 w b o (row? w b o 8) := run_structLoad Tryz.underlying177 rfl (by kernel_rfl) w b o
theorem execOp_loadInts8 (ρ : Operand → Value) (dst : Option Tmp) (x : Operand) (ty : TypeId) (pos : String) (after : Array Edge) (guard : Option (Nat × Bool)) : execOp ρ { dst, op := .load 177 x, type := ty, pos, after, guard } = structLoad 177 (ρ x) := rfl
attribute [go_sem] loadInts8
attribute [go_sem ↓] execOp_loadInts8
theorem storeInts8 (w : World) (b o : Nat) (cs : Array Value) (hn : cs.size = 8) (h1 : allOne cs = true) : (structStore 177 (.pointer (some ⟨b, o, none⟩)) (.agg cs)).run Tryz.prog w = storeOut Tryz.prog 177 w b o cs (canPut w b o 8) := run_structStore (by kernel_rfl) w b o cs hn h1
theorem execOp_storeInts8 (ρ : Operand → Value) (dst : Option Tmp) (x y : Operand) (ty : TypeId) (pos : String) (after : Array Edge) (guard : Option (Nat × Bool)) : execOp ρ { dst, op := .store 177 x y, type := ty, pos, after, guard } = structStore 177 (ρ x) (ρ y) := rfl
attribute [go_sem] storeInts8
attribute [go_sem ↓] execOp_storeInts8
theorem zeros8 (w : World) : w.alloc (.cells #[.int .i64 0, .int .i64 0, .int .i64 0, .int .i64 0, .int .i64 0, .int .i64 0, .int .i64 0, .int .i64 0] 177) = w.alloc (.cells (intsA (List.replicate 8 0)) 177) := by kernel_rfl
theorem zeros64 (w : World) : w.alloc (.cells #[.int .i64 0, .int .i64 0, .int .i64 0, .int .i64 0, .int .i64 0, .int .i64 0, .int .i64 0, .int .i64 0, .int .i64 0, .int .i64 0, .int .i64 0, .int .i64 0, .int .i64 0, .int .i64 0, .int .i64 0, .int .i64 0, .int .i64 0, .int .i64 0, .int .i64 0, .int .i64 0, .int .i64 0, .int .i64 0, .int .i64 0, .int .i64 0, .int .i64 0, .int .i64 0, .int .i64 0, .int .i64 0, .int .i64 0, .int .i64 0, .int .i64 0, .int .i64 0, .int .i64 0, .int .i64 0, .int .i64 0, .int .i64 0, .int .i64 0, .int .i64 0, .int .i64 0, .int .i64 0, .int .i64 0, .int .i64 0, .int .i64 0, .int .i64 0, .int .i64 0, .int .i64 0, .int .i64 0, .int .i64 0, .int .i64 0, .int .i64 0, .int .i64 0, .int .i64 0, .int .i64 0, .int .i64 0, .int .i64 0, .int .i64 0, .int .i64 0, .int .i64 0, .int .i64 0, .int .i64 0, .int .i64 0, .int .i64 0, .int .i64 0, .int .i64 0] 234) = w.alloc (.cells (intsA (List.replicate 64 0)) 234) := by kernel_rfl
end Go.Proofs.YtidadlcknkeodaaGreatDoor
/- A region that draws its order, whose last operation comes behind all others: the others are walked once in the order of the text; the last one may write what they look at. -/
namespace Go.WW
open Go.RowKit
section
variable {P : Program} {ops : Array Oper} {S : World → Prop} {st : Oper → Bool} {Q : Act → World → Prop}
end
def lastB (ops : List Oper) : Bool :=
  match ops.getLast? with
  | some z => z.guard.isNone && (List.range (ops.length - 1)).all fun i => z.after.toList.any fun e => Region.binds .any e && e.on == i
  | none => false
def lastK (P : Program) (ops : List Oper) (Q : Act → World → Prop) (a : Act) (w : World) : Prop :=
  match ops.getLast? with
  | some z => z.wp P a w Q never
  | none => False
end Go.WW
/- As TZ; the last operation may come behind another one through a third: the others are walked once in the order of the text; the last one may write what they look at. -/
namespace Go.WW
open Go.RowKit
section
variable {P : Program} {ops : Array Oper} {S : World → Prop} {st : Oper → Bool} {Q : Act → World → Prop}
theorem text_anyZ2 {m : Array (List Nat)} (hok : TextOk st ops m) {Q' : Exit → Act → World → Prop} {z : Oper} {N : Nat} (hN : ops.size = N + 1) (hz : ops[N]? = some z) (hzg : z.guard = none) (hzall : ∀ i, i < N → (∃ e ∈ z.after, Region.binds .any e = true ∧ e.on = i) ∨ ∃ e ∈ z.after, Region.binds .any e = true ∧ ∃ o', ops[e.on]? = some o' ∧ ∃ e' ∈ o'.after, Region.binds .any e' = true ∧ e'.on = i)
    (hQ : ∀ a w, Q a w → z.wp P a w (fun a' w' => Q' .normal a' w') never) :
    ∀ (n : Nat) (L : List Nat) (listed : Array Bool) (a : Act) (w : World), L.length = n → L.Pairwise (· < ·) → listed.size = ops.size → listed.getD N true = false → (∀ j, j ∈ L ↔ j < N ∧ listed.getD j true = false) →
      (∀ k o, ops[k]? = some o → listed.getD k false = true → ∀ e ∈ o.after, Region.binds .any e = true → listed.getD e.on false = true) →
      S w → wpText P ops st S Q (L.filterMap (ops[·]?)) a w → wpAny P .any ops Q' (n + 1) listed a w := by
  intro n
  induction n with
  | zero =>
    intro L listed a w hn _ hsz hlN hL hdown _ h
    have : L = [] := List.eq_nil_of_length_eq_zero hn
    subst this
    have hls : ∀ i, i < N → listed.getD i false = true := fun i hi => by
      have h2 : listed.getD i true ≠ false := fun hf => by have := (hL i).2 ⟨hi, hf⟩; cases this
      have hes : i < listed.size := by omega
      simp [hes] at h2 ⊢; exact h2
    refine ⟨fun hr => ?_, fun i hi => ?_⟩
    · have : N ∈ Region.ready .any ops listed := mem_ready.2 ⟨hlN, z, hz, fun e he hb => hls _ (by have := hok.back N z hz e he hb; exact this)⟩
      rw [hr] at this; cases this
    · obtain ⟨h0, o, ho, _⟩ := mem_ready.1 hi
      have his : i < ops.size := (Array.getElem?_eq_some_iff.1 ho).1
      have hiN : i = N := Classical.byContradiction fun hne => by
        have := (hL i).2 ⟨by omega, h0⟩; cases this
      subst hiN
      rw [hz] at ho; cases ho
      have hend : ∀ a' w', Q' .normal a' w' → wpAny P .any ops Q' 0 (listed.setIfInBounds i true) a' w' := fun a' w' hq => by
        refine ⟨?_, hq⟩
        cases hr : Region.ready .any ops (listed.setIfInBounds i true) with
        | nil => rfl
        | cons k r =>
          have hk : k ∈ Region.ready .any ops (listed.setIfInBounds i true) := by rw [hr]; simp
          obtain ⟨h1, o', ho', _⟩ := mem_ready.1 hk
          have hks : k < ops.size := (Array.getElem?_eq_some_iff.1 ho').1
          exfalso
          by_cases hki : k = i
          · subst hki
            have : k < listed.size := by omega
            simp [this] at h1
          · rw [getD_set_ne true (Ne.symm hki)] at h1
            have := (hL k).2 ⟨by omega, h1⟩; cases this
      unfold wpOp
      simp only [hz, Region.wanted, hzg, if_true]
      exact .inl (wp_mono_Q (Oper.wp_mono (fun a' w' hh => hend a' w' hh) (hQ _ _ h)))
  | succ n ih =>
    intro L listed a w hn hsort hsz hlN hL hdown hS h
    refine ⟨fun hr => ?_, fun i hi => ?_⟩
    · exfalso
      cases L with
      | nil => simp at hn
      | cons j L =>
        obtain ⟨hj, hjl⟩ := (hL j).1 (by simp)
        have hj' : j < ops.size := by omega
        have hoj : ops[j]? = some ops[j] := by simp [hj']
        have : j ∈ Region.ready .any ops listed := by
          refine mem_ready.2 ⟨hjl, _, hoj, fun e he hb => ?_⟩
          have hlt := hok.back j _ hoj e he hb
          have hnot : e.on ∉ j :: L := by
            intro hmem
            rcases List.mem_cons.1 hmem with h1 | h1
            · omega
            · have := (List.pairwise_cons.1 hsort).1 _ h1; omega
          have h2 : listed.getD e.on true ≠ false := fun hf => hnot ((hL e.on).2 ⟨by omega, hf⟩)
          have hes : e.on < listed.size := by omega
          simp [hes] at h2 ⊢; exact h2
        rw [hr] at this; cases this
    · obtain ⟨h0, o, ho, hall⟩ := mem_ready.1 hi
      have his : i < ops.size := (Array.getElem?_eq_some_iff.1 ho).1
      have hiN : i ≠ N := fun e => by
        subst e
        rw [hz] at ho; cases ho
        cases L with
        | nil => simp at hn
        | cons j L =>
          obtain ⟨hj, hjl⟩ := (hL j).1 (by simp)
          rcases hzall j hj with ⟨e, he, hb, rfl⟩ | ⟨e, he, hb, o', ho', e', he', hb', rfl⟩
          · have := hall e he hb
            rw [getD_true_of_false this] at hjl; cases hjl
          · have := hdown e.on o' ho' (hall e he hb) e' he' hb'
            rw [getD_true_of_false this] at hjl; cases hjl
      have hiL : i ∈ L := (hL i).2 ⟨by omega, h0⟩
      obtain ⟨L1, L2, rfl⟩ := List.append_of_mem hiL
      have hsort' := List.pairwise_append.1 hsort
      have hlt1 : ∀ x ∈ L1, x < i := fun x hx => hsort'.2.2 x hx i (by simp)
      have hgt2 : ∀ x ∈ L2, i < x := fun x hx => (List.pairwise_cons.1 hsort'.2.1).1 x hx
      rw [List.filterMap_append, List.filterMap_cons_some ho] at h
      have hfront := text_front (P := P) (ops := ops) (S := S) (st := st) (Q := Q) (Region.noSelect_spec hok.sel i o · · ho) (L1.filterMap (ops[·]?)) (fun x hx => by
        obtain ⟨k, hk, hox⟩ := List.mem_filterMap.1 hx
        have hkl := ((hL k).1 (by simp [hk])).2
        have hnl : ¬ listed.getD k false = true := fun hf => by rw [getD_true_of_false hf] at hkl; cases hkl
        refine ⟨(Region.noSelect_spec hok.sel k x · · hox), ?_⟩
        rcases hok.pair i o ho k (hlt1 k hk) x hox with ⟨e, he, hb, rfl⟩ | ⟨hap, hor⟩
        · exact absurd (hall e he hb) hnl
        · refine ⟨hap, ?_⟩
          rcases hor with h1 | h1 | h1
          · exact .inl h1
          · exact .inr h1
          · exact absurd (preds_listed hok hdown i o ho hall k h1) hnl) a w hS h
      have hrest : ∀ a' w', S w' → wpText P ops st S Q (L1.filterMap (ops[·]?) ++ L2.filterMap (ops[·]?)) a' w' → wpAny P .any ops Q' (n + 1) (listed.setIfInBounds i true) a' w' := by
        intro a' w' hS' hh
        rw [← List.filterMap_append] at hh
        refine ih (L1 ++ L2) (listed.setIfInBounds i true) a' w' ?_ ?_ (by simpa using hsz) (by rw [getD_set_ne true hiN]; exact hlN) ?_ ?_ hS' hh
        · simp at hn ⊢; omega
        · exact List.pairwise_append.2 ⟨hsort'.1, (List.pairwise_cons.1 hsort'.2.1).2, fun x hx y hy => hsort'.2.2 x hx y (by simp [hy])⟩
        · intro j
          by_cases hji : j = i
          · subst hji
            constructor
            · intro hm
              exfalso
              rcases List.mem_append.1 hm with h1 | h1
              · have := hlt1 _ h1; omega
              · have := hgt2 _ h1; omega
            · rintro ⟨_, hf⟩
              have : j < listed.size := by omega
              simp [this] at hf
          · rw [getD_set_ne true (Ne.symm hji), ← hL j]
            simp [hji]
        · intro k ok hk hkl e he hb
          by_cases hki : k = i
          · subst hki
            rw [ho] at hk; cases hk
            exact getD_set_true (hall e he hb)
          · rw [getD_set_ne false (Ne.symm hki)] at hkl
            exact getD_set_true (hdown k ok hk hkl e he hb)
      unfold wpOp
      simp only [ho]
      rw [text_cons] at hfront
      split
      · rename_i hw
        rw [if_pos hw] at hfront
        refine .inl ?_
        by_cases hs : st o = true
        · rw [if_pos hs] at hfront
          obtain ⟨v, hv, hh⟩ := hfront
          unfold Oper.wp
          rw [hv w hS]
          exact hrest _ _ hS hh
        · rw [if_neg hs] at hfront
          exact wp_mono_Q (Oper.wp_mono (fun a' w' hh => hrest a' w' hh.1 hh.2) hfront)
      · rename_i hw
        rw [if_neg hw] at hfront
        exact hrest _ _ hS hfront
end
def lastB2 (ops : List Oper) : Bool :=
  match ops.getLast? with
  | some z => z.guard.isNone && (List.range (ops.length - 1)).all fun i => z.after.toList.any fun e => Region.binds .any e && (e.on == i || (match ops[e.on]? with | some o => o.after.toList.any fun e' => Region.binds .any e' && e'.on == i | none => false))
  | none => false
theorem wp_region_lastS2 {P : Program} {id : Nat} {Q' : Exit → Act → World → Prop} {a : Act} {w : World} {l : List Oper} (S : World → Prop) (st : Oper → Bool) (hm : P.follows .mixedOrders = true) (hB : textB st l.toArray = true) (hZ : lastB2 l = true)
    (hS : S w.drew) (h : wpText P l.toArray st S (lastK P l fun a' w' => Q' .normal a' w') l.dropLast a w.drew) : (Code.region id l.toArray true).wp P Q' a w := by
  refine wp_region_any hm ?_
  unfold lastB2 at hZ
  cases hg : l.getLast? with
  | none => rw [hg] at hZ; cases hZ
  | some z =>
    rw [hg] at hZ
    simp only [Bool.and_eq_true, List.all_eq_true, List.mem_range] at hZ
    obtain ⟨hz1, hz2⟩ := hZ
    have hne : l ≠ [] := fun e => by rw [e] at hg; cases hg
    have hlen : l.length = l.length - 1 + 1 := by have := List.length_pos_iff.2 hne; omega
    have hzi : l.toArray[l.length - 1]? = some z := by
      rw [List.getLast?_eq_getElem?] at hg; simpa using hg
    have hfm : (List.range (l.length - 1)).filterMap (l.toArray[·]?) = l.dropLast := by
      rw [List.dropLast_eq_take]
      have : ∀ n, (List.range n).filterMap (fun i => l.toArray[i]?) = l.take n := by
        intro n
        induction n with
        | zero => simp
        | succ n ih =>
          rw [List.range_succ, List.filterMap_append, ih]
          by_cases hn : n < l.length
          · rw [List.take_succ_eq_append_getElem hn]; simp [hn]
          · simp [hn, List.take_of_length_le (show l.length ≤ n by omega), List.take_of_length_le (show l.length ≤ n + 1 by omega)]
      exact this _
    have := text_anyZ2 (P := P) (S := S) (Q := lastK P l fun a' w' => Q' .normal a' w') (textB_ok hB) (Q' := Q') (z := z) (N := l.length - 1) (by simpa using hlen) hzi (by simpa using hz1) (fun i hi => by
        have := hz2 i hi
        simp only [List.any_eq_true, Bool.and_eq_true, Bool.or_eq_true, beq_iff_eq] at this
        obtain ⟨e, he, hb, h1 | h1⟩ := this
        · exact .inl ⟨e, by simpa using he, hb, h1⟩
        · cases hoo : l[e.on]? with
          | none => rw [hoo] at h1; cases h1
          | some o =>
            rw [hoo] at h1
            simp only [List.any_eq_true, Bool.and_eq_true, beq_iff_eq] at h1
            obtain ⟨e', he', hb', h2⟩ := h1
            exact .inr ⟨e, by simpa using he, hb, o, by simpa using hoo, e', by simpa using he', hb', h2⟩) (fun a' w' hq => by unfold lastK at hq; rw [hg] at hq; exact hq) (l.length - 1) (List.range (l.length - 1)) (Array.replicate l.toArray.size false) a w.drew
      (by simp) List.pairwise_lt_range (by simp) (by have : l.length - 1 < l.length := by omega
                                                     simp [this]) (by intro j; simp; intro h1; simp [show j < l.length by omega]) (by intro k o hk hkl; exfalso; rw [Array.getD_eq_getD_getElem?, Array.getElem?_replicate] at hkl; split at hkl <;> simp at hkl) hS (by rw [hfm]; exact h)
    rw [← hlen] at this
    simpa using this
end Go.WW
/- ref04.block: it ends, whatever the words and bytes are. -/
namespace Go.WW
open Go.RowKit
def Arr (w : World) (b n : Nat) (t : TypeId) : Prop := ∃ L : List Int, L.length = n ∧ w.heap[b]? = some (.cells (intsA L) t)
theorem Arr.lt {w : World} {b n : Nat} {t : TypeId} (h : Arr w b n t) : b < w.heap.size := by
  obtain ⟨L, hL, h2⟩ := h
  exact (Array.getElem?_eq_some_iff.1 h2).1
theorem Arr.on {w w' : World} {b n : Nat} {t : TypeId} (h : Arr w b n t) (he : w'.heap[b]? = w.heap[b]?) : Arr w' b n t := by
  obtain ⟨L, hL, h2⟩ := h
  exact ⟨L, hL, he.trans h2⟩
theorem Arr.later {w w' : World} {b n : Nat} {t : TypeId} (h : Arr w b n t) (hb : Below w.heap.size w w') : Arr w' b n t := h.on (hb.block _ h.lt)
theorem Arr.set {w : World} {b n : Nat} {t : TypeId} (h : Arr w b n t) (j : Nat) (v : Int) : Arr (w.setCell ⟨b, j, none⟩ (.int .i64 v)) b n t := by
  obtain ⟨L, hL, h2⟩ := h
  have h3 := setCell_blk (o := j) (.int .i64 v) h2
  rw [intsA_set] at h3
  exact ⟨L.set j v, by simp [hL], h3⟩
theorem Arr.other {w : World} {b n c : Nat} {t : TypeId} (h : Arr w b n t) (hn : b ≠ c) (j : Nat) (v : Value) : Arr (w.setCell ⟨c, j, none⟩ v) b n t := h.on (Below.heap_setCell _ _ _ _ hn)
theorem Arr.get {w : World} {b n : Nat} {t : TypeId} (h : Arr w b n t) (j : Nat) (hj : j < n) : ∃ v : Int, w.cell? ⟨b, j, none⟩ = some (.int .i64 v) := by
  obtain ⟨L, hL, h2⟩ := h
  exact ⟨_, ((boxF h2).1 j).trans (intsA_get L j (by omega))⟩
theorem Arr.frozen {w : World} {b n : Nat} {t : TypeId} (h : Arr w b n t) (j : Nat) : w.frozen? ⟨b, j, none⟩ = false := by
  obtain ⟨L, hL, h2⟩ := h
  exact (boxF h2).2.1 j
theorem Arr.row {w : World} {b n : Nat} {t : TypeId} (h : Arr w b n t) : ∃ L : List Int, L.length = n ∧ row? w b 0 n = some (intsA L) := by
  obtain ⟨L, hL, h2⟩ := h
  exact ⟨L, hL, by rw [row?_of_cells h2]; exact subRow_whole (by rw [intsA_size, hL])⟩
theorem Arr.canPut {w : World} {b n : Nat} {t : TypeId} (h : Arr w b n t) : canPut w b 0 n = true := by
  obtain ⟨L, hL, h2⟩ := h
  exact canPut_of_cells h2 (by rw [intsA_size]; omega)
theorem Arr.put {w : World} {b n : Nat} {t : TypeId} (h : Arr w b n t) (L' : List Int) (hL' : L'.length = n) : Arr (putRow w b 0 (intsA L')) b n t := by
  obtain ⟨L, hL, h2⟩ := h
  refine ⟨L', hL', ?_⟩
  have := putRow_blk (o := 0) (cs := intsA L') h2 (by rw [intsA_size, intsA_size]; omega)
  rw [splice_whole (by rw [intsA_size, intsA_size]; omega)] at this
  exact this
theorem Arr.put8 {w : World} {b : Nat} {t : TypeId} (h : Arr w b 8 t) (a0 a1 a2 a3 a4 a5 a6 a7 : Int) : Arr (putRow w b 0 #[.int .i64 a0, .int .i64 a1, .int .i64 a2, .int .i64 a3, .int .i64 a4, .int .i64 a5, .int .i64 a6, .int .i64 a7]) b 8 t := h.put [a0, a1, a2, a3, a4, a5, a6, a7] rfl
theorem Arr.new (w : World) (L : List Int) (t : TypeId) : Arr (w.alloc (.cells (intsA L) t)) w.heap.size L.length t := ⟨L, rfl, World.alloc_heap_new _ _⟩
end Go.WW
namespace Go.Proofs.YtidadlcknkeodaaGreatDoor
open Go.RowKit Go.WW
theorem allOne8 (a0 a1 a2 a3 a4 a5 a6 a7 : Int) : allOne #[.int .i64 a0, .int .i64 a1, .int .i64 a2, .int .i64 a3, .int .i64 a4, .int .i64 a5, .int .i64 a6, .int .i64 a7] = true := intsA_one [a0, a1, a2, a3, a4, a5, a6, a7]
attribute [go_sem] allOne8
def Consts04 (w : World) : Prop := ∃ cb co cc, w.cell? ⟨2, 0, none⟩ = some (.slice (some ⟨cb, co, none⟩) 64 cc) ∧ ∀ i, i < 64 → ∃ x : Int, w.cell? ⟨cb, co + i, none⟩ = some (.int .i64 x)
structure BInv (w wr : World) : Prop where
  b : Below w.heap.size w wr
  x0 : Arr wr w.heap.size 8 177
  x1 : Arr wr (w.heap.size + 1) 8 177
  x2 : Arr wr (w.heap.size + 2) 64 234
theorem BInv.later {w wr w' : World} (x : BInv w wr) (hb : Below wr.heap.size wr w') : BInv w w' := ⟨below_step x.b hb, x.x0.later hb, x.x1.later hb, x.x2.later hb⟩
theorem BInv.set2 {w wr : World} (x : BInv w wr) (j : Nat) (v : Int) : BInv w (wr.setCell ⟨w.heap.size + 2, j, none⟩ (.int .i64 v)) :=
  ⟨x.b.setCell (show w.heap.size ≤ w.heap.size + 2 by omega) _, x.x0.other (by omega) _ _, x.x1.other (by omega) _ _, x.x2.set _ _⟩
theorem BInv.set0 {w wr : World} (x : BInv w wr) (j : Nat) (v : Int) : BInv w (wr.setCell ⟨w.heap.size, j, none⟩ (.int .i64 v)) :=
  ⟨x.b.setCell (Nat.le_refl _) _, x.x0.set _ _, x.x1.other (by omega) _ _, x.x2.other (by omega) _ _⟩
theorem BInv.put {w wr : World} (x : BInv w wr) (c : Nat) (hc : w.heap.size + 2 < c) (cs : Array Value) : BInv w (putRow wr c 0 cs) :=
  ⟨Go.WW.Below.putRow x.b (by omega), x.x0.on (putRow_other (by omega)), x.x1.on (putRow_other (by omega)), x.x2.on (putRow_other (by omega))⟩
theorem block04_c (h : List Int) (h8 : h.length = 8) (b o cap : Nat) (w : World) (hby : ∀ i, i < 64 → ∃ x : Int, w.cell? ⟨b, o + i, none⟩ = some (.int .u8 x)) (hc : Consts04 w) :
    Calls Tryz.prog 102 #[.agg (intsA h), .slice (some ⟨b, o, none⟩) 64 cap] w fun e w' => ∃ h' : List Int, h'.length = 8 ∧ e = .returned (.agg (intsA h')) ∧ Below w.heap.size w w' := by
  obtain ⟨V, hV⟩ : ∃ V, V = ((w.alloc (.cells (intsA h) 177)).alloc (.cells (intsA (List.replicate 8 0)) 177)).alloc (.cells (intsA (List.replicate 64 0)) 234) := ⟨_, rfl⟩
  have hI : BInv w V := by
    rw [hV]
    refine ⟨below_new (below_new (below_new (Below.refl _ _) _) _) _, ⟨h, h8, ?_⟩, ⟨List.replicate 8 0, by simp, ?_⟩, List.replicate 64 0, by simp, ?_⟩
    · rw [Below.heap_alloc _ _ _ (by simp; omega)]; exact second_blk w _ _
    · have := second_blk (w.alloc (.cells (intsA h) 177)) (.cells (intsA (List.replicate 8 0)) 177) (.cells (intsA (List.replicate 64 0)) 234); simpa using this
    · have := World.alloc_heap_new ((w.alloc (.cells (intsA h) 177)).alloc (.cells (intsA (List.replicate 8 0)) 177)) (.cells (intsA (List.replicate 64 0)) 234); simpa using this
  have hBy := Lib.hid hby
  have HC := Lib.hid hc
  have hbw : b < w.heap.size := by obtain ⟨x, hx⟩ := hby 0 (by omega); exact World.block_lt_of_cell? w _ hx
  rw [← zeros64, ← zeros8] at hV
  clear hby hc
  go_enter Tryz.func102, Tryz.ntmps102
  go_wp2_with fail
  rw [← hV]
  clear hV
  go_loopw [6] (fun tv wr => ∃ t : Nat, t ≤ 16 ∧ tv = .int .i64 t ∧ BInv w wr) (fun tv _ => 16 - (intOf tv).toNat)
  case atStart => exact ⟨0, by omega, rfl, hI⟩
  case round =>
    obtain ⟨t, ht, rfl, hI⟩ := hrel
    by_cases ht16 : t < 16
    · have hti : (t : Int) < 16 := by omega
      go_wp2_with fail
      go_loopw [7] (fun iv wr => ∃ i : Nat, i ≤ 4 ∧ iv = .int .i64 i ∧ BInv w wr) (fun iv _ => 4 - (intOf iv).toNat)
      case atStart => exact ⟨0, by omega, rfl, hI⟩
      case round =>
        obtain ⟨i, hi, rfl, hI⟩ := hrel
        by_cases hi4 : i < 4
        · have hii : (i : Int) < 4 := by omega
          obtain ⟨x, hx⟩ := hI.x2.get t (by omega)
          have hf := hI.x2.frozen t
          obtain ⟨y, hy⟩ := hBy.out (4 * t + i) (by omega)
          have hy2 : wr.cell? ⟨b, o + (4 * t + i), none⟩ = some (.int .u8 y) := (hI.b.cell (p := ⟨b, o + (4 * t + i), none⟩) hbw).trans hy
          have hl2 := hI.x2.lt
          have hbw2 : b < wr.heap.size := Nat.lt_of_lt_of_le hbw hI.b.size
          go_wp2_with fail
          refine wp_region_lastS2 (sinceB (fun _ => False) wr) looksN (by kernel_rfl) (by kernel_rfl) (by kernel_rfl) ⟨⟨World.drew wr, (But.refl _ _).drew⟩, rfl⟩ ?_
          repeat (first | (refine text_skip (by rfl) ?_) | (refine textN_look (by rfl) (by rfl) (fun K hK => ?_); go_big_quiet_op; refine hK _ ?_; clear hK K) | (refine textN_act (by rfl) (by rfl) (fun K hK => ?_); go_wp2_with fail; refine hK _ _ (sinceB_of (But.refl _ wr).drew) ?_; clear hK K))
          refine text_nil ?_
          unfold lastK
          simp only [List.getLast?_cons_cons, List.getLast?_singleton]
          go_wp2_with fail
          exact ⟨⟨i + 1, by omega, by simp, (hI.set2 t _).later (Below.refl _ _).drew⟩, by simp [intOf]; omega⟩
        · have hii : ¬ (i : Int) < 4 := by omega
          go_wp2_with fail
          exact ⟨⟨t + 1, by omega, by simp, hI⟩, by simp [intOf]; omega⟩
    · have hti : ¬ (t : Int) < 16 := by omega
      go_wp2_with fail
      go_loopw [8] (fun tv wr => ∃ t : Nat, 16 ≤ t ∧ t ≤ 64 ∧ tv = .int .i64 t ∧ BInv w wr) (fun tv _ => 64 - (intOf tv).toNat)
      case atStart => exact ⟨16, by omega, by omega, rfl, hI⟩
      case round =>
        clear ht ht16 hti
        obtain ⟨t, ht0, ht, rfl, hI⟩ := hrel
        by_cases ht64 : t < 64
        · have hti : (t : Int) < 64 := by omega
          have i15 : (t : Int) - 15 = ((t - 15 : Nat) : Int) := by omega
          have i2 : (t : Int) - 2 = ((t - 2 : Nat) : Int) := by omega
          have i7 : (t : Int) - 7 = ((t - 7 : Nat) : Int) := by omega
          have i16 : (t : Int) - 16 = ((t - 16 : Nat) : Int) := by omega
          obtain ⟨x15, hx15⟩ := hI.x2.get (t - 15) (by omega)
          obtain ⟨x2, hx2⟩ := hI.x2.get (t - 2) (by omega)
          have hl2 := hI.x2.lt
          go_wp2_with fail
          refine wp_region_later (Below.refl _ wr) (by kernel_rfl) (by kernel_rfl) ?_
          repeat (go_big_quiet_step (fail))
          refine wpQuiet_nil ?_
          intro w5 hb5
          have hI5 := hI.later hb5
          clear hx15 hx2 hl2 hI
          go_wp2_with (refine (right04_c _ _ (by omega) (by omega) _).mono ?_; rintro e wq ⟨rfl, hbq⟩; have hI5 := hI5.later hbq; clear hbq; dsimp only)
          obtain ⟨x7, hx7⟩ := hI5.x2.get (t - 7) (by omega)
          obtain ⟨x16, hx16⟩ := hI5.x2.get (t - 16) (by omega)
          obtain ⟨xt, hxt⟩ := hI5.x2.get t (by omega)
          have hft := hI5.x2.frozen t
          have hl2 := hI5.x2.lt
          refine wp_region_lastS2 (sinceB (fun _ => False) wq) looksN (by kernel_rfl) (by kernel_rfl) (by kernel_rfl) ⟨⟨World.drew wq, (But.refl _ _).drew⟩, rfl⟩ ?_
          repeat (first | (refine text_skip (by rfl) ?_) | (refine textN_look (by rfl) (by rfl) (fun K hK => ?_); go_big_quiet_op; refine hK _ ?_; clear hK K) | (refine textN_act (by rfl) (by rfl) (fun K hK => ?_); go_wp2_with fail; refine hK _ _ (sinceB_of (But.refl _ wq).drew) ?_; clear hK K))
          refine text_nil ?_
          unfold lastK
          simp only [List.getLast?_cons_cons, List.getLast?_singleton]
          go_wp2_with fail
          exact ⟨⟨t + 1, by omega, by omega, by simp, (hI5.set2 t _).later (Below.refl _ _).drew⟩, by simp [intOf]; omega⟩
        · have hti : ¬ (t : Int) < 64 := by omega
          obtain ⟨H, hH, hr0⟩ := hI.x0.row
          have hl0 := hI.x0.lt
          have hsz : (intsA H).size = 8 := by rw [intsA_size, hH]
          have hone := intsA_one H
          have hbv : w.heap.size + 2 < wr.heap.size := hI.x2.lt
          have hI3 := hI.later (below_new (Below.refl _ wr) (.cells (intsA H) 177))
          have hv0 : Arr (wr.alloc (.cells (intsA H) 177)) wr.heap.size 8 177 := by have := Arr.new wr H 177; rwa [hH] at this
          go_wp2_with fail
          clear hl0 hsz hone hr0 hI
          generalize wr.alloc (.cells (intsA H) 177) = W3 at *
          generalize wr.heap.size = bv at *
          go_loopw [14] (fun tv wr => ∃ t : Nat, t ≤ 64 ∧ tv = .int .i64 t ∧ BInv w wr ∧ Arr wr bv 8 177) (fun tv _ => 64 - (intOf tv).toNat)
          case atStart => exact ⟨0, by omega, rfl, hI3, hv0⟩
          case round =>
            clear ht0 ht ht64 hti hI3 hv0
            obtain ⟨t, ht, rfl, hI, hv⟩ := hrel
            by_cases ht64 : t < 64
            · have hti : (t : Int) < 64 := by omega
              obtain ⟨y4, hy4⟩ := hv.get 4 (by omega)
              have hlv := hv.lt
              go_wp2_with fail
              refine wp_region_later (Below.refl _ wr) (by kernel_rfl) (by kernel_rfl) ?_
              repeat (go_big_quiet_step ((go_at_call 166; rename_i xw; exact Calls.later_of (right04_c _ _ (by omega) (by omega) _))))
              refine wpQuiet_nil ?_
              intro w5 hb5
              have hI := hI.later hb5
              have hv := hv.later hb5
              clear hy4 hlv
              obtain ⟨y0, hy0⟩ := hv.get 0 (by omega)
              have hlv := hv.lt
              go_wp2_with fail
              refine wp_region_later (Below.refl _ w5) (by kernel_rfl) (by kernel_rfl) ?_
              repeat (go_big_quiet_step ((go_at_call 166; rename_i xw; exact Calls.later_of (right04_c _ _ (by omega) (by omega) _))))
              refine wpQuiet_nil ?_
              intro w6 hb6
              have hI := hI.later hb6
              have hv := hv.later hb6
              clear hy0 hlv
              obtain ⟨y4, hy4⟩ := hv.get 4 (by omega)
              obtain ⟨y5, hy5⟩ := hv.get 5 (by omega)
              obtain ⟨y6, hy6⟩ := hv.get 6 (by omega)
              obtain ⟨y7, hy7⟩ := hv.get 7 (by omega)
              have hlv := hv.lt
              obtain ⟨cb, co, cc, hc1, hc2⟩ := HC.out
              obtain ⟨kc, hkc⟩ := hc2 t ht64
              have hgl := World.block_lt_of_cell? w _ hc1
              have hcl := World.block_lt_of_cell? w _ hkc
              have hd1 := (hI.b.cell (p := ⟨2, 0, none⟩) hgl).trans hc1
              have hd2 := (hI.b.cell (p := ⟨cb, co + t, none⟩) hcl).trans hkc
              have hgl6 : 2 < w6.heap.size := Nat.lt_of_lt_of_le hgl hI.b.size
              have hcl6 : cb < w6.heap.size := Nat.lt_of_lt_of_le hcl hI.b.size
              obtain ⟨xt, hxt⟩ := hI.x2.get t (by omega)
              have hl2 := hI.x2.lt
              go_wp2_with fail
              refine wp_region_later (Below.refl _ w6) (by kernel_rfl) (by kernel_rfl) ?_
              repeat (go_big_quiet_step ((first | (go_at_call 166; rename_i xw; exact Calls.later_of (right04_c _ _ (by omega) (by omega) _)) | (go_at_call 167; rename_i xw; exact Calls.later_of (pick04_c _ _ _ _)))))
              refine wpQuiet_nil ?_
              intro w7 hb7
              have hI := hI.later hb7
              have hv := hv.later hb7
              clear hy4 hy5 hy6 hy7 hlv hd1 hd2 hgl6 hcl6 hxt hl2
              obtain ⟨y0, hy0⟩ := hv.get 0 (by omega)
              obtain ⟨y1, hy1⟩ := hv.get 1 (by omega)
              obtain ⟨y2, hy2⟩ := hv.get 2 (by omega)
              have hlv := hv.lt
              go_wp2_with (refine (most04_c _ _ _ _).mono ?_; rintro e wq ⟨rfl, hbq⟩; have hI := hI.later hbq; have hv := hv.later hbq; clear hy0 hy1 hy2 hlv hbq; obtain ⟨y0, hy0⟩ := hv.get 0 (by omega); obtain ⟨y1, hy1⟩ := hv.get 1 (by omega); obtain ⟨y2, hy2⟩ := hv.get 2 (by omega); obtain ⟨y3, hy3⟩ := hv.get 3 (by omega); obtain ⟨y4, hy4⟩ := hv.get 4 (by omega); obtain ⟨y5, hy5⟩ := hv.get 5 (by omega); obtain ⟨y6, hy6⟩ := hv.get 6 (by omega); obtain ⟨y7, hy7⟩ := hv.get 7 (by omega); have hlv := hv.lt; have hcp := hv.canPut; dsimp only)
              exact ⟨⟨t + 1, by omega, by simp, hI.put bv hbv _, hv.put8 _ _ _ _ _ _ _ _⟩, by simp [intOf]; omega⟩
            · have hti : ¬ (t : Int) < 64 := by omega
              go_wp2_with fail
              go_loopw [19] (fun iv wr => ∃ i : Nat, i ≤ 8 ∧ iv = .int .i64 i ∧ BInv w wr ∧ Arr wr bv 8 177) (fun iv _ => 8 - (intOf iv).toNat)
              case atStart => exact ⟨0, by omega, rfl, hI, hv⟩
              case round =>
                clear ht ht64 hti hI hv
                obtain ⟨i, hi, rfl, hI, hv⟩ := hrel
                by_cases hi8 : i < 8
                · have hii : (i : Int) < 8 := by omega
                  obtain ⟨x, hx⟩ := hI.x0.get i hi8
                  have hf := hI.x0.frozen i
                  obtain ⟨y, hy⟩ := hv.get i hi8
                  have hlv := hv.lt
                  have hl0 := hI.x0.lt
                  go_wp2_with fail
                  refine wp_region_lastS2 (sinceB (fun _ => False) wr) looksN (by kernel_rfl) (by kernel_rfl) (by kernel_rfl) ⟨⟨World.drew wr, (But.refl _ _).drew⟩, rfl⟩ ?_
                  repeat (first | (refine text_skip (by rfl) ?_) | (refine textN_look (by rfl) (by rfl) (fun K hK => ?_); go_big_quiet_op; refine hK _ ?_; clear hK K) | (refine textN_act (by rfl) (by rfl) (fun K hK => ?_); go_wp2_with fail; refine hK _ _ (sinceB_of (But.refl _ wr).drew) ?_; clear hK K))
                  refine text_nil ?_
                  unfold lastK
                  simp only [List.getLast?_cons_cons, List.getLast?_singleton]
                  go_wp2_with fail
                  exact ⟨⟨i + 1, by omega, by simp, (hI.set0 i _).later (Below.refl _ _).drew, (hv.other (by omega) _ _).later (Below.refl _ _).drew⟩, by simp [intOf]; omega⟩
                · have hii : ¬ (i : Int) < 8 := by omega
                  obtain ⟨H2, hH2, hr2⟩ := hI.x0.row
                  have hcp := hI.x1.canPut
                  have hsz2 : (intsA H2).size = 8 := by rw [intsA_size, hH2]
                  have hone2 := intsA_one H2
                  have hl1 := hI.x1.lt
                  go_wp2_with fail
                  have hrow := row?_putRow_whole (w := wr) hsz2 hcp
                  exact bodyPost_ret (results_row (by rfl) Tryz.underlying177 rfl (by kernel_rfl) rfl hrow) rfl ⟨H2, hH2, rfl, Go.WW.Below.putRow hI.b (by omega)⟩
end Go.Proofs.YtidadlcknkeodaaGreatDoor
/- ref04.Sum: it ends with 32 bytes, whatever the bytes are. -/
namespace Go.WW
open Go.RowKit
theorem own_cap {w : World} {base k : Nat} {e : TypeId} {s : Sl} {rows : List (Array Value)} (h : Own w base e k s rows) : rows.length ≤ s.cap := by
  rcases h.own.2 with ⟨_, hn⟩ | ⟨g, cap, cur, hv, hb, hh, hle, _, hsz, _⟩
  · omega
  · have hc : s.cap = cap := by injection hv
    omega
end Go.WW
namespace Go.Proofs.YtidadlcknkeodaaGreatDoor
open Go.RowKit Go.WW
theorem Consts04.later {w w' : World} (h : Consts04 w) (hb : Below w.heap.size w w') : Consts04 w' := by
  obtain ⟨cb, co, cc, h1, h2⟩ := h
  refine ⟨cb, co, cc, (hb.cell (p := ⟨2, 0, none⟩) (World.block_lt_of_cell? w _ h1)).trans h1, fun i hi => ?_⟩
  obtain ⟨x, hx⟩ := h2 i hi
  exact ⟨x, (hb.cell (p := ⟨cb, co + i, none⟩) (World.block_lt_of_cell? w _ hx)).trans hx⟩
def Arr32 (w : World) (b : Nat) : Prop := ∃ L : List Int, L.length = 32 ∧ w.heap[b]? = some (.cells (bytesA L) 75)
theorem Arr32.lt {w : World} {b : Nat} (h : Arr32 w b) : b < w.heap.size := by
  obtain ⟨L, hL, h2⟩ := h
  exact (Array.getElem?_eq_some_iff.1 h2).1
theorem Arr32.set {w : World} {b : Nat} (h : Arr32 w b) (j : Nat) (v : Int) : Arr32 (w.setCell ⟨b, j, none⟩ (.int .u8 v)) b := by
  obtain ⟨L, hL, h2⟩ := h
  have h3 := setCell_blk (o := j) (.int .u8 v) h2
  rw [bytesA_set] at h3
  exact ⟨L.set j v, by simp [hL], h3⟩
theorem Arr32.get {w : World} {b : Nat} (h : Arr32 w b) (j : Nat) (hj : j < 32) : ∃ v, w.cell? ⟨b, j, none⟩ = some v := by
  obtain ⟨L, hL, h2⟩ := h
  exact ⟨_, ((boxF h2).1 j).trans (bytesA_get L j (by omega))⟩
theorem Arr32.frozen {w : World} {b : Nat} (h : Arr32 w b) (j : Nat) : w.frozen? ⟨b, j, none⟩ = false := by
  obtain ⟨L, hL, h2⟩ := h
  exact (boxF h2).2.1 j
theorem Arr32.row {w : World} {b : Nat} (h : Arr32 w b) : ∃ L : List Int, L.length = 32 ∧ row? w b 0 32 = some (bytesA L) := by
  obtain ⟨L, hL, h2⟩ := h
  exact ⟨L, hL, by rw [row?_of_cells h2]; exact subRow_whole (by rw [bytesA_size, hL])⟩
structure SumInv (w : World) (base : Nat) (s : Sl) (L : List Int) (wr : World) : Prop where
  b : Below w.heap.size w wr
  x0 : wr.heap[w.heap.size]? = some (.cells (bytesA (List.replicate 32 0)) 75)
  x1 : Arr wr (w.heap.size + 1) 8 177
  own : Go.WW.Own wr base 5 1 s (L.map byteRow)
theorem SumInv.later {w wr w' : World} {base : Nat} {s : Sl} {L : List Int} (x : SumInv w base s L wr) (hb : Below wr.heap.size wr w') : SumInv w base s L w' :=
  ⟨below_step x.b hb, (hb.block _ (Array.getElem?_eq_some_iff.1 x.x0).1).trans x.x0, x.x1.later hb, x.own.kept fun g hg => hb.block g (x.own.base hg).2⟩
theorem SumInv.bytes {w wr : World} {base : Nat} {s : Sl} {L : List Int} (x : SumInv w base s L wr) (hL : 0 < L.length) : ∃ g, s.a = some ⟨g, 0, none⟩ ∧ base ≤ g ∧ g < wr.heap.size ∧ ∀ i, i < L.length → ∃ v : Int, wr.cell? ⟨g, i, none⟩ = some (.int .u8 v) := by
  obtain ⟨g, ha, hg, hr⟩ := x.own.row 0 (by simpa using hL)
  refine ⟨g, ha, (x.own.base hg).1, (x.own.base hg).2, fun i hi => ?_⟩
  obtain ⟨g', ha', -, hr'⟩ := x.own.row i (by simpa using hi)
  rw [ha] at ha'
  cases ha'
  have := row?_cell hr' 0 (by omega)
  rw [List.getElem_map] at this
  exact ⟨L[i], by simpa [byteRow] using this⟩
theorem SumInv.put {w wr : World} {base : Nat} {s : Sl} {L h : List Int} (x : SumInv w base s L wr) (hb : w.heap.size + 1 < base) (hh : h.length = 8) : SumInv w base s L (putRow wr (w.heap.size + 1) 0 (intsA h)) :=
  ⟨Go.WW.Below.putRow x.b (by omega), (putRow_other (by omega)).trans x.x0, x.x1.put h hh, x.own.kept fun g hg => putRow_other (by have := (x.own.base hg).1; omega)⟩
theorem sum04_c (a : Option Addr) (cap : Nat) (l : List UInt8) (w : World) (hl : BytesAt w a l) (hn : l.length ≤ 1000000) (hc : Consts04 w) :
    Calls Tryz.prog 62 #[.slice a l.length cap] w fun e w' => ∃ d : List Int, d.length = 32 ∧ e = .returned (.agg (bytesA d)) ∧ Below w.heap.size w w' := by
  obtain ⟨V, hV⟩ : ∃ V, V = (w.alloc (.cells (bytesA (List.replicate 32 0)) 75)) := ⟨_, rfl⟩
  have hV0 : V.heap[w.heap.size]? = some (.cells (bytesA (List.replicate 32 0)) 75) := by rw [hV]; exact World.alloc_heap_new _ _
  have hVs : V.heap.size = w.heap.size + 1 := by rw [hV]; simp
  have hVb : Below w.heap.size w V := by rw [hV]; exact below_new (Below.refl _ _) _
  rw [← zeros32] at hV
  have HC := Lib.hid hc
  have HL := Lib.hid hl
  clear hc hl
  go_enter Tryz.func62, Tryz.ntmps62
  go_wp2_with fail
  rw [← hV]
  clear hV
  have hbU : Below V.heap.size V (V.alloc (.cells (intsA [1779033703, 3144134277, 1013904242, 2773480762, 1359893119, 2600822924, 528734635, 1541459225]) 177)) := below_new (Below.refl _ _) _
  have hU1 : Arr (V.alloc (.cells (intsA [1779033703, 3144134277, 1013904242, 2773480762, 1359893119, 2600822924, 528734635, 1541459225]) 177)) (w.heap.size + 1) 8 177 := by have := Arr.new V [1779033703, 3144134277, 1013904242, 2773480762, 1359893119, 2600822924, 528734635, 1541459225] 177; rw [hVs] at this; exact this
  have hUs : (V.alloc (.cells (intsA [1779033703, 3144134277, 1013904242, 2773480762, 1359893119, 2600822924, 528734635, 1541459225]) 177)).heap.size = w.heap.size + 2 := by simp [hVs]
  have hUz := (hbU.block _ (Array.getElem?_eq_some_iff.1 hV0).1).trans hV0
  have hwU := below_step hVb hbU
  rw [show (#[.int .i64 1779033703, .int .i64 3144134277, .int .i64 1013904242, .int .i64 2773480762, .int .i64 1359893119, .int .i64 2600822924, .int .i64 528734635, .int .i64 1541459225] : Array Value) = intsA [1779033703, 3144134277, 1013904242, 2773480762, 1359893119, 2600822924, 528734635, 1541459225] from rfl]
  generalize V.alloc (.cells (intsA [1779033703, 3144134277, 1013904242, 2773480762, 1359893119, 2600822924, 528734635, 1541459225]) 177) = U at *
  refine (padded04_c a cap l U (HL.out.later hwU) hn).mono ?_
  rintro e w1 ⟨⟨sa, sc⟩, L, rfl, hL64, hLn, hb1, hO⟩
  have hS : SumInv w U.heap.size ⟨sa, sc⟩ L w1 := ⟨below_step hwU hb1, (hb1.block _ (Array.getElem?_eq_some_iff.1 hUz).1).trans hUz, hU1.later hb1, hO⟩
  have hcap : L.length ≤ sc := by simpa using own_cap hO
  have hbase : w.heap.size + 1 < U.heap.size := by omega
  clear hUz hU1 hb1 hO hbU hwU hV0
  generalize U.heap.size = base at *
  dsimp only
  go_wp2_with fail
  go_loopw [5] (fun iv wr => ∃ k : Nat, 64 * k ≤ L.length ∧ iv = .int .i64 ((64 * k : Nat) : Int) ∧ SumInv w base ⟨sa, sc⟩ L wr) (fun iv _ => L.length - (intOf iv).toNat)
  case atStart => exact ⟨0, by omega, rfl, hS⟩
  case round =>
    clear hS
    obtain ⟨k, hk, rfl, hS⟩ := hrel
    by_cases hk2 : 64 * k < L.length
    · have hk3 : 64 * k + 64 ≤ L.length := by omega
      obtain ⟨g, hga, hgb, hgl, hgv⟩ := hS.bytes (by omega)
      obtain ⟨H, hH, hr⟩ := hS.x1.row
      have hga' : sa = some ⟨g, 0, none⟩ := hga
      subst hga'
      have hki : ((64 * k : Nat) : Int) < (L.length : Int) := by omega
      have hl1 := hS.x1.lt
      generalize hm : 64 * k = m at *
      go_wp2_with fail
      refine wp_region_lastS2 (sinceB (fun _ => False) wr) looksN (by kernel_rfl) (by kernel_rfl) (by kernel_rfl) ⟨⟨World.drew wr, (But.refl _ _).drew⟩, rfl⟩ ?_
      repeat (first | (refine text_skip (by rfl) ?_) | (refine textN_look (by rfl) (by rfl) (fun K hK => ?_); go_big_quiet_op; refine hK _ ?_; clear hK K) | (refine textN_act (by rfl) (by rfl) (fun K hK => ?_); go_wp2_with fail; refine hK _ _ (sinceB_of (But.refl _ wr).drew) ?_; clear hK K))
      refine textN_act (by rfl) (by rfl) (fun K hK => ?_)
      go_wp2_with fail
      refine (block04_c H hH g m (sc - m) wr.drew (fun i hi => by obtain ⟨v, hv⟩ := hgv (m + i) (by omega); exact ⟨v, hv⟩) ((HC.out.later hS.b).later (Below.refl _ _).drew)).mono ?_
      rintro e w2 ⟨h', hh', rfl, hb2⟩
      have hb2' : Below wr.heap.size wr w2 := (Below.refl _ wr).drew.trans hb2
      dsimp only
      refine hK _ _ (sinceB_of (But.of_below hb2')) ?_
      clear hK K
      repeat (first | (refine text_skip (by rfl) ?_) | (refine textN_look (by rfl) (by rfl) (fun K hK => ?_); go_big_quiet_op; refine hK _ ?_; clear hK K))
      refine text_nil ?_
      unfold lastK
      simp only [List.getLast?_cons_cons, List.getLast?_singleton]
      have hS2 := hS.later hb2'
      have hcp := hS2.x1.canPut
      have hsz : (intsA h').size = 8 := by rw [intsA_size, hh']
      have hone := intsA_one h'
      clear hS hr hl1 hgv hb2 hb2'
      go_wp2_with fail
      exact ⟨⟨k + 1, by omega, by simp; omega, hS2.put hbase hh'⟩, by simp [intOf]; omega⟩
    · have hkL : 64 * k = L.length := by omega
      have hki : ¬ ((64 * k : Nat) : Int) < (L.length : Int) := by omega
      obtain ⟨W, hW⟩ : ∃ W, W = wr.alloc (.cells (bytesA (List.replicate 32 0)) 75) := ⟨_, rfl⟩
      have hS3 : SumInv w base ⟨sa, sc⟩ L W := by rw [hW]; exact hS.later (below_new (Below.refl _ _) _)
      have h6 : Arr32 W wr.heap.size := ⟨List.replicate 32 0, by simp, by rw [hW]; exact World.alloc_heap_new _ _⟩
      have hw6 : w.heap.size + 1 < wr.heap.size := hS.x1.lt
      rw [← zeros32] at hW
      generalize hm : 64 * k = m at *
      go_wp2_with fail
      rw [← hW]
      clear hW hS
      generalize wr.heap.size = b6 at *
      go_loopw [7] (fun iv wr => ∃ i : Nat, i ≤ 32 ∧ iv = .int .i64 i ∧ Below w.heap.size w wr ∧ wr.heap[w.heap.size]? = some (.cells (bytesA (List.replicate 32 0)) 75) ∧ Arr wr (w.heap.size + 1) 8 177 ∧ Arr32 wr b6) (fun iv _ => 32 - (intOf iv).toNat)
      case atStart => exact ⟨0, by omega, rfl, hS3.b, hS3.x0, hS3.x1, h6⟩
      case round =>
        clear hS3 h6
        obtain ⟨i, hi, rfl, hB, h0, h1, h6⟩ := hrel
        by_cases hi32 : i < 32
        · have hii : (i : Int) < 32 := by omega
          obtain ⟨x, hx⟩ := h1.get (i / 4) (by omega)
          obtain ⟨y, hy⟩ := h6.get i hi32
          have hf := h6.frozen i
          have hl1 := h1.lt
          have hl6 := h6.lt
          go_wp2_with fail
          exact ⟨⟨i + 1, by omega, by simp, hB.setCell (show w.heap.size ≤ b6 by omega) _, (Below.heap_setCell _ _ _ _ (show w.heap.size ≠ b6 by omega)).trans h0, h1.other (by omega) _ _, h6.set _ _⟩, by simp [intOf]; omega⟩
        · have hii : ¬ (i : Int) < 32 := by omega
          obtain ⟨D, hD, hr6⟩ := h6.row
          have hcp : canPut wr w.heap.size 0 32 = true := canPut_of_cells h0 (by rw [bytesA_size]; simp)
          have hsz2 : (bytesA D).size = 32 := by rw [bytesA_size, hD]
          have hone2 := bytesA_one D
          have hl0 := (Array.getElem?_eq_some_iff.1 h0).1
          have hl6 := h6.lt
          go_wp2_with fail
          have hrow := row?_putRow_whole (w := wr) hsz2 hcp
          exact bodyPost_ret (results_row (by rfl) Tryz.underlying75 rfl (by kernel_rfl) rfl hrow) rfl ⟨D, hD, rfl, Go.WW.Below.putRow hB (Nat.le_refl _)⟩
end Go.Proofs.YtidadlcknkeodaaGreatDoor
/- replica.NewReplica, ref30.New: a replica of any realm. -/
namespace Go.Proofs.YtidadlcknkeodaaGreatDoor
open Go.RowKit Go.WW Go.Mini Go.MiniT
theorem copyDigest (w : World) (cur : Array Value) (T : TypeId) (hcur : cur.size = 35) (sa : Option Addr) (sc : Nat) (dl : List UInt8) (hby : BytesAt w sa dl) (hdl : dl.length = 32) :
    (Builtin.copy_ #[56, 56] 3 #[.slice (some ⟨w.heap.size, 2, none⟩) 32 32, .slice sa 32 sc]).run Tryz.prog (w.alloc (.cells cur T)) = .ok (goInt 32) ((w.alloc (.cells cur T)).setRow w.heap.size (cur.toList.take 2 ++ (dl.map fun c => Value.int .u8 c.toNat) ++ cur.toList.drop 34).toArray) := by
  obtain ⟨g, o, rfl, hg⟩ := (CellsAt.addr hby).resolve_left (by omega)
  have hrun := run_copy_row (P := Tryz.prog) (w.alloc (.cells cur T)) 56 56 3 5 w.heap.size 2 32 32 ⟨g, o, none⟩ 32 sc cur T (dl.map fun c => Value.int .u8 c.toNat) Tryz.underlying56 (by kernel_rfl) (World.alloc_heap_new _ _) (by rw [List.length_map, hdl]; rfl) (fun j v hj => by
    have hl : j < dl.length := by have := (List.getElem?_eq_some_iff.1 hj).1; simpa using this
    rw [List.getElem?_map, List.getElem?_eq_getElem hl] at hj
    cases hj
    obtain ⟨b', o', v', ha, hc, x, hx, rfl⟩ := hby.2 j hl
    cases ha
    rw [List.getElem?_eq_getElem hl] at hx
    cases hx
    have hc2 : (w.alloc (.cells cur T)).cell? ⟨g, o + j, none⟩ = some (.int .u8 dl[j].toNat) := ((below_new (Below.refl _ w) (.cells cur T)).cell (p := ⟨g, o + j, none⟩) hg).trans hc
    by_cases hj0 : j = 0
    · subst hj0; simpa [Addr.add] using hc2
    · simpa [Addr.add, hj0] using hc2) (by rw [List.length_map]; omega) (fun v hv => by obtain ⟨x, _, rfl⟩ := List.mem_map.1 hv; rfl)
  rw [List.length_map, hdl] at hrun
  exact hrun
theorem newReplica_no (re : ByteArray) (w : World) (hs : re.size ≤ lim) (hok : realmOk re = false) : Calls Tryz.prog 7 #[.string re] w fun x w' => x = .returned (.tuple #[.pointer none, .int .i64 2]) ∧ Below w.heap.size w w' := by
  go_enter Tryz.func7, Tryz.ntmps7
  go_wp2_with fail
  refine (updNew_no re w hs hok).mono ?_
  rintro x w1 ⟨rfl, hb⟩
  dsimp only
  go_wp2_with fail
  exact bodyPost_ret (results_tmp2 (by rfl) _ _ _) rfl ⟨rfl, hb⟩
theorem newReplica_ok (hT : TurnC) (hC : ChoiceC) (re : ByteArray) (w : World) (hs : re.size ≤ 1000) (hok : realmOk re = true) (hre : ¬ re = ⟨#[]⟩) (hv : ShaVars w) : Calls Tryz.prog 7 #[.string re] w fun x w' => ∃ c, x = .returned (.tuple #[.pointer (some ⟨c, 0, none⟩), .int .i64 0]) ∧ Below w.heap.size w w' := by
  go_enter Tryz.func7, Tryz.ntmps7
  go_wp2_with fail
  refine (updNew_ok hT hC re w hs hok hv).mono ?_
  rintro x w1 ⟨lb, b, n, e, p, db, dl, rfl, hb1, hlog, hdl, hdg, hdb⟩
  dsimp only
  go_wp2_with fail
  refine (logDigest_c lb b db dl hdl w1 hlog hdg).mono ?_
  rintro x w2 ⟨⟨sa, sc⟩, rfl, hb2, hby⟩
  dsimp only
  go_wp2_with fail
  refine (logDatabase_c lb b db n e p re w2 ((hb2.block _ (Array.getElem?_eq_some_iff.1 hlog).1).trans hlog) (hdb.later hb2) hre).mono ?_
  rintro x w3 ⟨c, rfl, hb3⟩
  dsimp only
  have hby3 := BytesAt.later hb3 hby
  go_wp2_with fail
  rw [copyDigest w3 _ _ ?_ sa sc dl hby3 hdl]
  · go_wp2_with fail
    exact bodyPost_ret (results_tmp2 (by rfl) _ _ _) rfl ⟨_, rfl, below_setRow (below_new (below_step (below_step hb1 hb2) hb3) _) (by have := hb1.size; have := hb2.size; have := hb3.size; omega) _⟩
  · rfl
end Go.Proofs.YtidadlcknkeodaaGreatDoor
/- ref29.Digest with index 0, ref26.New of a bad realm, ref30.New. -/
namespace Go.WW
open Go.RowKit
def nilS : Sl := ⟨none, 0⟩
def rdb0 (re : ByteArray) : Db := ⟨re, 0, [], []⟩
theorem putRow_one (w : World) (b : Nat) (cs : Array Value) : But (one b) w (putRow w b 0 cs) :=
  ⟨by have := (setCells_below (Nat.le_refl b) cs.toList 0 w).os; exact this, (setCells_below (Nat.le_refl b) cs.toList 0 w).tape, (setCells_below (Nat.le_refl b) cs.toList 0 w).output, by rw [putRow_size]; exact Nat.le_refl _, fun k _ hn => putRow_other (fun e => hn e)⟩
theorem wpList_append_run {P : Program} {ops : Array Oper} {rest : List Oper} {o : Oper} {a : Act} {w : World} {Q : Exit → Act → World → Prop} (hgd : o.guard = none) (x y : Operand) (t u : TypeId)
    (ho : o.op = .call { callee := .builtin .append, args := #[x, y], argTypes := #[t, u] }) {vx vy v' : Value} {w' : World} (hx : a.eval x = vx) (hy : a.eval y = vy) (hr : (Builtin.append_ #[t, u] o.type #[vx, vy]).run P w = .ok v' w')
    (h : wpList P ops Q rest (a.put o.dst v') w') : wpList P ops Q (o :: rest) a w := by
  refine wpList_plain hgd fun K hK => ?_
  unfold Oper.wp execOp
  simp only [ho, resolve, invoke, builtin, Sem.run_bind, Sem.run_pure, Result.andThen_ok, List.map_toArray, List.map_cons, List.map_nil, hx, hy, hr]
  exact hK _ _ h
end Go.WW
namespace Go.Proofs.YtidadlcknkeodaaGreatDoor
open Go.RowKit Go.WW Go.Mini Go.MiniT
theorem execOp_buildDbA (ρ : Operand → Value) (dst : Option Tmp) (x : Operand) (ty : TypeId) (pos : String) (after : Array Edge) (guard : Option (Nat × Bool)) :
    execOp ρ { dst, op := .build 55 #[(0, x)], type := ty, pos, after, guard } = structBuild 55 #[(0, ρ x)] := by simp [execOp, structBuild]
theorem buildDbA (re : ByteArray) (w : World) : (structBuild 55 #[(0, .string re)]).run Tryz.prog w = .ok (.value (.agg (rdbC nilS nilS (rdb0 re)))) w := by kernel_rfl
theorem execOp_buildDb0 (ρ : Operand → Value) (dst : Option Tmp) (ty : TypeId) (pos : String) (after : Array Edge) (guard : Option (Nat × Bool)) :
    execOp ρ { dst, op := .build 55 #[], type := ty, pos, after, guard } = structBuild 55 #[] := by simp [execOp, structBuild]
theorem buildDb0 (w : World) : (structBuild 55 #[]).run Tryz.prog w = .ok (.value (.agg (rdbC nilS nilS (rdb0 ⟨#[]⟩)))) w := by kernel_rfl
attribute [go_sem] buildDbA buildDb0
attribute [go_sem ↓] execOp_buildDbA execOp_buildDb0
theorem zeroDbA_lit : rdbC nilS nilS (rdb0 ⟨#[]⟩) = #[.string ⟨#[]⟩, .int .i64 0, .slice Option.none 0 0, .slice Option.none 0 0] := rfl
theorem ref26New_c (re : ByteArray) (w : World) (hs : re.size ≤ lim) (ok : Bool) (hok : realmOk re = ok) : Calls Tryz.prog 26 #[.string re] w fun z w' => z = .returned (.tuple #[.agg (rdbC nilS nilS (rdb0 (if ok then re else ⟨#[]⟩))), .int .i64 (if ok then 0 else 2)]) ∧ Below w.heap.size w w' := by
  have hz3 : canPut (w.alloc (.cells (rdbC nilS nilS (rdb0 ⟨#[]⟩)) 55)) w.heap.size 0 4 = true := by simp [go_sem]
  have hR := realm15_c re (w.alloc (.cells (rdbC nilS nilS (rdb0 ⟨#[]⟩)) 55)) hs
  rw [hok] at hR
  rw [zeroDbA_lit] at hz3 hR
  have HR := Lib.hid hR
  clear hok hs hR
  cases ok
  · simp only [Bool.false_eq_true, if_false]
    go_enter Tryz.func26, Tryz.ntmps26
    go_wp2_with fail
    refine HR.out.mono ?_
    rintro z w' ⟨rfl, rfl⟩
    dsimp only
    go_wp2_with fail
    have hrow : row? (w.alloc (.cells (rdbC nilS nilS (rdb0 ⟨#[]⟩)) 55)) w.heap.size 0 4 = some (rdbC nilS nilS (rdb0 ⟨#[]⟩)) := by rw [row?_alloc_at rfl]; exact subRow_whole (rdbC_size _ _ _)
    exact bodyPost_ret (results_row2 (by rfl) Tryz.underlying55 rfl (by kernel_rfl) rfl hrow) rfl ⟨rfl, below_new (Below.refl _ _) _⟩
  · simp only [if_true]
    go_enter Tryz.func26, Tryz.ntmps26
    go_wp2_with fail
    refine HR.out.mono ?_
    rintro z w' ⟨rfl, rfl⟩
    dsimp only
    go_wp2_with fail
    have hrow : row? (w.alloc (.cells (rdbC nilS nilS (rdb0 re)) 55)) w.heap.size 0 4 = some (rdbC nilS nilS (rdb0 re)) := by rw [row?_alloc_at rfl]; exact subRow_whole (rdbC_size _ _ _)
    exact bodyPost_ret (results_row2 (by rfl) Tryz.underlying55 rfl (by kernel_rfl) rfl hrow) rfl ⟨rfl, below_new (Below.refl _ _) _⟩
def c13 : List Int := [119, 97, 116, 99, 104, 119, 111, 114, 100, 32, 108, 111, 103]
theorem app14 (w : World) : ∃ g cap w', (Builtin.append_ #[56, 56] 56 #[.slice (some ⟨w.heap.size, 0, none⟩) 13 13, .slice (some ⟨w.heap.size + 1, 0, none⟩) 1 1]).run Tryz.prog ((w.alloc (.cells ((c13.map (Value.int .u8)).toArray) 5 (13, 14))).alloc (.cells #[.int .u8 0] 5)) = .ok (.slice (some ⟨g, 0, none⟩) 14 cap) w' ∧
    w'.ownsRow w.heap.size 5 1 (.slice (some ⟨g, 0, none⟩) 14 cap) 14 ((c13 ++ [0]).map (Value.int .u8)) ∧ Below w.heap.size w w' := by
  obtain ⟨V, hV⟩ : ∃ V, V = (w.alloc (.cells ((c13.map (Value.int .u8)).toArray) 5 (13, 14))).alloc (.cells #[.int .u8 0] 5) := ⟨_, rfl⟩
  have hVb : Below w.heap.size w V := by rw [hV]; exact below_new (below_new (Below.refl _ _) _) _
  have h0 : V.heap[w.heap.size]? = some (.cells ((c13.map (Value.int .u8)).toArray) 5 (13, 14)) := by rw [hV]; exact second_blk w _ _
  have h1 : V.heap[w.heap.size + 1]? = some (.cells #[.int .u8 0] 5) := by rw [hV]; have := World.alloc_heap_new (w.alloc (.cells ((c13.map (Value.int .u8)).toArray) 5 (13, 14))) (.cells #[.int .u8 0] 5); simpa using this
  rw [← hV]
  clear hV
  have hVs := hVb.size
  have hge := grownCap_ge V 14 13 5
  have hle := grownCap_le_maxLen V 14 13 5 (by decide)
  have hrun := run_append_grow (P := Tryz.prog) V 56 56 5 Tryz.t5 (.int .u8 0) Tryz.underlying56 (by kernel_rfl) (by kernel_rfl) ⟨w.heap.size, 0, none⟩ 13 13 (c13.map (Value.int .u8)) (by rfl) (fun j v hj => by
    have hl : j < 13 := by have := (List.getElem?_eq_some_iff.1 hj).1; simpa [c13] using this
    have hc : V.cell? ⟨w.heap.size, j, none⟩ = some v := by rw [cell_of_row V w.heap.size j _ _ _ h0]; simpa using hj
    by_cases hj0 : j = 0
    · subst hj0; simpa [Addr.add] using hc
    · simpa [Addr.add, hj0] using hc) ⟨w.heap.size + 1, 0, none⟩ 1 1 [.int .u8 0] (by rfl) (fun j v hj => by
    have hl : j < 1 := by have := (List.getElem?_eq_some_iff.1 hj).1; simpa using this
    obtain rfl : j = 0 := by omega
    have hc : V.cell? ⟨w.heap.size + 1, 0, none⟩ = some v := by rw [cell_of_row V (w.heap.size + 1) 0 _ _ _ h1]; simpa using hj
    simpa [Addr.add] using hc) (by omega) (by omega) (by decide +kernel)
  refine ⟨_, _, _, hrun, ⟨by rfl, .inr ⟨_, _, _, rfl, hVs, World.alloc_heap_new V.drew _, hge, hle, ?_, ?_⟩⟩, below_new hVb.drew _⟩
  · rw [Array.size_append, Array.size_append, size_zeroCells]
    have e1 : (c13.map (Value.int .u8)).toArray.size = 13 := rfl
    have e2 : (([.int .u8 0] : List Value).toArray).size = 1 := rfl
    have e3 : (Value.int .u8 0).cells.size = 1 := rfl
    rw [e1, e2, e3]
    simp only [Nat.reduceAdd] at hge ⊢
    omega
  · rw [Array.toList_append, Array.toList_append, List.take_append_of_le_length (by simp [c13])]
    rfl
theorem digest29_c (re : ByteArray) (w : World) (hs : re.size ≤ 1000) (hc : Consts04 w) : Calls Tryz.prog 27 #[.string re, .slice none 0 0, .int .i64 0] w fun x w' => ∃ a n c, x = .returned (.slice a n c) ∧ Below w.heap.size w w' := by
  obtain ⟨g, cap, w1, hap, hown, hb1⟩ := app14 w
  obtain ⟨v2, w2, hap2, hown2, hg2, -⟩ := Go.Lib.run_append_own_string (P := Tryz.prog) w1 w.heap.size 56 9 56 5 Tryz.t5 Tryz.underlying56 Tryz.underlying9 (by kernel_rfl) (by kernel_rfl) rfl rfl _ 14 _ hown re (by simp only [maxLen]; omega) (by omega) hb1.size
  have hb2 : Below w.heap.size w w2 := hb1.grown hg2 hb1.size (fun k e => by cases e; exact (World.ownsRow.lt hown g rfl).1)
  have hLn : ((c13 ++ [0]).map (Value.int .u8) ++ Go.Lib.strCells re) = (([119, 97, 116, 99, 104, 119, 111, 114, 100, 32, 108, 111, 103, 0] ++ re.data.toList : List UInt8).map fun c => Value.int .u8 c.toNat) := by
    rw [List.map_append]; rfl
  rw [hLn] at hown2
  have hl14 : ([119, 97, 116, 99, 104, 119, 111, 114, 100, 32, 108, 111, 103, 0] ++ re.data.toList : List UInt8).length = 14 + re.size := by rw [List.length_append, Array.length_toList]; rfl
  generalize ([119, 97, 116, 99, 104, 119, 111, 114, 100, 32, 108, 111, 103, 0] ++ re.data.toList : List UInt8) = l at *
  obtain ⟨ga, capa, rfl, hby⟩ : ∃ ga capa, v2 = .slice (some ⟨ga, 0, none⟩) (14 + re.size) capa ∧ BytesAt w2 (some ⟨ga, 0, none⟩) l := by
    rcases hown2.2 with ⟨_, hn⟩ | ⟨ga, capa, cur, hv, -⟩
    · omega
    · subst hv
      refine ⟨ga, capa, rfl, by unfold lim; omega, fun i hi => ⟨ga, 0, _, rfl, ?_, l[i], List.getElem?_eq_getElem hi, rfl⟩⟩
      have := World.ownsRow.cells hown2 (g := ga) rfl i (.int .u8 l[i].toNat) (by simp [hi])
      by_cases hi0 : i = 0
      · subst hi0; simpa [Addr.add] using this
      · simpa [Addr.add, hi0] using this
  go_enter Tryz.func27, Tryz.ntmps27
  go_wp2_with fail
  rw [Go.Lib.run_convert_bytes_const w 56 5 _ 13 13 Tryz.underlying56 Tryz.underlying5]
  go_wp2_with (first
    | (at_builtin; refine wpList_append_run rfl (.tmp 10) (.tmp 11) _ _ rfl rfl rfl hap ?_)
    | (at_builtin; refine wpList_append_run rfl (.tmp 12) (.tmp 13) _ _ rfl rfl rfl hap2 ?_))
  rw [← hl14]
  refine (sum04_c _ capa l w2 hby (by omega) (hc.later hb2)).mono ?_
  rintro x w3 ⟨d, hd, rfl, hb3⟩
  have hsz := bytesA_size d
  rw [hd] at hsz
  have hone := bytesA_one d
  dsimp only
  go_wp2_with fail
  refine wp_loop_rounds 1 ?_
  rw [rounds_succ]
  go_wp2_with fail
  go_ret
  exact ⟨_, _, _, rfl, below_new (below_step hb2 hb3) _⟩
theorem execOp_loadRefRep (ρ : Operand → Value) (dst : Option Tmp) (x : Operand) (ty : TypeId) (pos : String) (after : Array Edge) (guard : Option (Nat × Bool)) : execOp ρ { dst, op := .load 58 x, type := ty, pos, after, guard } = structLoad 58 (ρ x) := rfl
attribute [go_sem ↓] execOp_loadRefRep
theorem storeRefRep (w : World) (b o : Nat) (cs : Array Value) (hn : cs.size = 7) (h1 : allOne cs = true) : (structStore 58 (.pointer (some ⟨b, o, none⟩)) (.agg cs)).run Tryz.prog w = storeOut Tryz.prog 58 w b o cs (canPut w b o 7) := run_structStore (by kernel_rfl) w b o cs hn h1
theorem execOp_storeRefRep (ρ : Operand → Value) (dst : Option Tmp) (x y : Operand) (ty : TypeId) (pos : String) (after : Array Edge) (guard : Option (Nat × Bool)) : execOp ρ { dst, op := .store 58 x y, type := ty, pos, after, guard } = structStore 58 (ρ x) (ρ y) := rfl
attribute [go_sem] storeRefRep
attribute [go_sem ↓] execOp_storeRefRep
def repC (re : ByteArray) (v : Value) : Array Value := #[.string re, .string re, .int .i64 0, .slice none 0 0, .slice none 0 0, .int .i64 0, v]
theorem repC_size (re : ByteArray) (v : Value) : (repC re v).size = 7 := rfl
theorem repC_one (re : ByteArray) (a : Option Addr) (n c : Nat) : allOne (repC re (.slice a n c)) = true := by simp [allOne, repC, Value.oneCell']
theorem execOp_buildRep (ρ : Operand → Value) (dst : Option Tmp) (a b c d : Operand) (ty : TypeId) (pos : String) (after : Array Edge) (guard : Option (Nat × Bool)) :
    execOp ρ { dst, op := .build 58 #[(0, a), (1, b), (2, c), (3, d)], type := ty, pos, after, guard } = structBuild 58 #[(0, ρ a), (1, ρ b), (2, ρ c), (3, ρ d)] := by simp [execOp, structBuild]
theorem buildRep (re : ByteArray) (a : Option Addr) (n c : Nat) (w : World) : (structBuild 58 #[(0, .string re), (1, .agg (rdbC nilS nilS (rdb0 re))), (2, .int .i64 0), (3, .slice a n c)]).run Tryz.prog w = .ok (.value (.agg (repC re (.slice a n c)))) w := by kernel_rfl
theorem execOp_buildRep0 (ρ : Operand → Value) (dst : Option Tmp) (ty : TypeId) (pos : String) (after : Array Edge) (guard : Option (Nat × Bool)) :
    execOp ρ { dst, op := .build 58 #[], type := ty, pos, after, guard } = structBuild 58 #[] := by simp [execOp, structBuild]
theorem buildRep0 (w : World) : (structBuild 58 #[]).run Tryz.prog w = .ok (.value (.agg (repC ⟨#[]⟩ (.slice none 0 0)))) w := by kernel_rfl
attribute [go_sem] buildRep buildRep0 repC_size
attribute [go_sem ↓] execOp_buildRep execOp_buildRep0
theorem repC_lit (w : World) : w.alloc (.cells #[.string ⟨#[]⟩, .string ⟨#[]⟩, .int .i64 0, .slice none 0 0, .slice none 0 0, .int .i64 0, .slice none 0 0] 58) = w.alloc (.cells (repC ⟨#[]⟩ (.slice none 0 0)) 58) := rfl
theorem ref30New_c (re : ByteArray) (w : World) (hs : re.size ≤ 1000) (ok : Bool) (hok : realmOk re = ok) (hc : Consts04 w) : Calls Tryz.prog 8 #[.string re] w fun x w' => ∃ y va vn vc, x = .returned (.tuple #[.agg (repC y (.slice va vn vc)), .int .i64 (if ok then 0 else 2)]) ∧ Below w.heap.size w w' := by
  obtain ⟨W0, hW⟩ : ∃ W0, W0 = w.alloc (.cells (repC ⟨#[]⟩ (.slice none 0 0)) 58) := ⟨_, rfl⟩
  have hN := ref26New_c re W0 (Nat.le_trans hs (by decide)) ok hok
  have HC := Lib.hid hc
  have HN := Lib.hid hN
  have hb0 : Below w.heap.size w W0 := by rw [hW]; exact below_new (Below.refl _ _) _
  have hx0 : W0.heap[w.heap.size]? = some (.cells (repC ⟨#[]⟩ (.slice none 0 0)) 58) := by rw [hW]; exact World.alloc_heap_new _ _
  rw [← repC_lit] at hW
  clear hc hN hok
  cases ok
  · simp only [Bool.false_eq_true, if_false] at HN ⊢
    go_enter Tryz.func8, Tryz.ntmps8
    go_wp2_with fail
    rw [← hW]
    refine HN.out.mono ?_
    rintro z w1 ⟨rfl, hb1⟩
    have hx1 := (hb1.block _ (Array.getElem?_eq_some_iff.1 hx0).1).trans hx0
    have hcp1 : canPut w1 w.heap.size 0 7 = true := canPut_of_cells hx1 (by rw [repC_size]; omega)
    have hl1 := (Array.getElem?_eq_some_iff.1 hx1).1
    have hone := repC_one ⟨#[]⟩ none 0 0
    have hsz7 := repC_size ⟨#[]⟩ (.slice none 0 0)
    have hcp2 : canPut (w1.alloc (.cells (rdbC nilS nilS (rdb0 ⟨#[]⟩)) 55)) w.heap.size 0 7 = true := (canPut_of_block (Below.heap_alloc _ _ _ hl1) 0 7).trans hcp1
    dsimp only
    go_wp2_with fail
    have hrow := row?_putRow_whole (w := w1.alloc (.cells (rdbC nilS nilS (rdb0 ⟨#[]⟩)) 55)) (repC_size ⟨#[]⟩ (.slice none 0 0)) hcp2
    exact bodyPost_ret (results_row2 (by rfl) Tryz.underlying58 rfl (by kernel_rfl) rfl hrow) rfl ⟨_, _, _, _, rfl, Go.WW.Below.putRow (below_new (below_step hb0 hb1) _) (Nat.le_refl _)⟩
  · simp only [if_true] at HN ⊢
    go_enter Tryz.func8, Tryz.ntmps8
    go_wp2_with fail
    rw [← hW]
    refine HN.out.mono ?_
    rintro z w1 ⟨rfl, hb1⟩
    have hx1 := (hb1.block _ (Array.getElem?_eq_some_iff.1 hx0).1).trans hx0
    have hl1 := (Array.getElem?_eq_some_iff.1 hx1).1
    have hb01 := below_step hb0 hb1
    dsimp only
    go_wp2_with fail
    have hb2 : Below w.heap.size w (w1.alloc (.cells (rdbC nilS nilS (rdb0 re)) 55)) := below_new hb01 _
    have hx4 := World.alloc_heap_new w1 (.cells (rdbC nilS nilS (rdb0 re)) 55)
    have hx2 : (w1.alloc (.cells (rdbC nilS nilS (rdb0 re)) 55)).heap[w.heap.size]? = some (.cells (repC ⟨#[]⟩ (.slice none 0 0)) 58) := (Below.heap_alloc _ _ _ hl1).trans hx1
    generalize w1.alloc (.cells (rdbC nilS nilS (rdb0 re)) 55) = W2 at *
    have hr4 : row? W2 w1.heap.size 0 4 = some (rdbC nilS nilS (rdb0 re)) := by rw [row?_of_cells hx4]; exact subRow_whole (rdbC_size _ _ _)
    have hl4 := (Array.getElem?_eq_some_iff.1 hx4).1
    have m4 : ¬ one w.heap.size w1.heap.size := not_one (by omega)
    refine wp_region_sinceB (one w.heap.size) (But.refl _ W2) (by kernel_rfl) (by kernel_rfl) ?_
    repeat (first | (refine text_skip (by rfl) ?_) | (refine textN_look (by rfl) (by rfl) (fun K hK => ?_); go_big_quiet_op; refine hK _ ?_; clear hK K) | (refine textN_act (by rfl) (by rfl) (fun K hK => ?_); go_wp2_with fail; refine hK _ _ (sinceB_of (But.refl _ W2).drew) ?_; clear hK K))
    refine textN_act (by rfl) (by rfl) (fun K hK => ?_)
    go_wp2_with fail
    refine (digest29_c re W2.drew hs ((HC.out.later hb2).later (Below.refl _ _).drew)).mono ?_
    rintro x w3 ⟨va, vn, vc, rfl, hb3⟩
    have hb3' : Below W2.heap.size W2 w3 := (Below.refl _ W2).drew.trans hb3
    have hx3 := (hb3'.block _ (Array.getElem?_eq_some_iff.1 hx2).1).trans hx2
    have hcp3 : canPut w3 w.heap.size 0 7 = true := canPut_of_cells hx3 (by rw [repC_size]; omega)
    have hone := repC_one re va vn vc
    dsimp only
    refine hK _ _ (sinceB_of (But.of_below hb3')) ?_
    clear hK K
    repeat (first | (refine text_skip (by rfl) ?_) | (refine textN_look (by rfl) (by rfl) (fun K hK => ?_); go_big_quiet_op; refine hK _ ?_; clear hK K))
    have hsz7 := repC_size re (.slice va vn vc)
    refine textN_act (by rfl) (by rfl) (fun K hK => ?_)
    go_wp2_with fail
    refine hK _ _ (sinceB_of ((But.of_below hb3').trans (putRow_one w3 w.heap.size _))) ?_
    clear hK K
    repeat (first | (refine text_skip (by rfl) ?_) | (refine textN_look (by rfl) (by rfl) (fun K hK => ?_); go_big_quiet_op; refine hK _ ?_; clear hK K))
    refine text_nil ?_
    go_wp2_with fail
    have hrow := row?_putRow_whole (w := w3) hsz7 hcp3
    exact bodyPost_ret (results_row2 (by rfl) Tryz.underlying58 rfl (by kernel_rfl) rfl hrow) rfl ⟨_, _, _, _, rfl, Go.WW.Below.putRow (below_step hb2 hb3') (Nat.le_refl _)⟩
end Go.Proofs.YtidadlcknkeodaaGreatDoor
/- The answers of nil and of zero primaries and replicas; NewPrimary of no log. -/
namespace Go.Proofs.YtidadlcknkeodaaGreatDoor
open Go.RowKit Go.WW Go.Mini Go.MiniT
def PrimNo (w : World) (v : Value) : Prop := v = .pointer none ∨ ∃ b, v = .pointer (some ⟨b, 0, none⟩) ∧ w.heap[b]? = some (.cells #[.pointer none, .int .i64 0, .int .i64 0] 63)
def zeroC : Array Value := #[.string ⟨#[]⟩, .int .i64 0, .int .u8 0, .int .u8 0, .int .u8 0, .int .u8 0, .int .u8 0, .int .u8 0, .int .u8 0, .int .u8 0, .int .u8 0, .int .u8 0, .int .u8 0, .int .u8 0, .int .u8 0, .int .u8 0, .int .u8 0, .int .u8 0, .int .u8 0, .int .u8 0, .int .u8 0, .int .u8 0, .int .u8 0, .int .u8 0, .int .u8 0, .int .u8 0, .int .u8 0, .int .u8 0, .int .u8 0, .int .u8 0, .int .u8 0, .int .u8 0, .int .u8 0, .int .u8 0, .pointer none]
def RepNo (w : World) (v : Value) : Prop := v = .pointer none ∨ ∃ b, v = .pointer (some ⟨b, 0, none⟩) ∧ w.heap[b]? = some (.cells zeroC 79)
def LogNo (w : World) (v : Value) : Prop := v = .pointer none ∨ ∃ b, v = .pointer (some ⟨b, 0, none⟩) ∧ w.heap[b]? = some (.cells #[.slice none 0 0, .slice none 0 0, .pointer none] 48)
theorem PrimNo.later {w w' : World} {v : Value} (h : PrimNo w v) (hb : Below w.heap.size w w') : PrimNo w' v := by
  rcases h with rfl | ⟨b, rfl, h⟩
  · exact .inl rfl
  · exact .inr ⟨b, rfl, (hb.block _ (Array.getElem?_eq_some_iff.1 h).1).trans h⟩
theorem RepNo.later {w w' : World} {v : Value} (h : RepNo w v) (hb : Below w.heap.size w w') : RepNo w' v := by
  rcases h with rfl | ⟨b, rfl, h⟩
  · exact .inl rfl
  · exact .inr ⟨b, rfl, (hb.block _ (Array.getElem?_eq_some_iff.1 h).1).trans h⟩
theorem LogNo.later {w w' : World} {v : Value} (h : LogNo w v) (hb : Below w.heap.size w w') : LogNo w' v := by
  rcases h with rfl | ⟨b, rfl, h⟩
  · exact .inl rfl
  · exact .inr ⟨b, rfl, (hb.block _ (Array.getElem?_eq_some_iff.1 h).1).trans h⟩
theorem primNone_c (v : Value) (w : World) (h : PrimNo w v) : Calls Tryz.prog 28 #[v] w fun e w' => e = .returned (.bool true) ∧ w = w' := by
  rcases h with rfl | ⟨b, rfl, h⟩
  · go_enter Tryz.func28, Tryz.ntmps28
    go_wp2_with fail
    go_ret
    exact ⟨rfl, rfl⟩
  · obtain ⟨f, -, hl⟩ := boxF h
    have c0 : w.cell? ⟨b, 0, none⟩ = some (.pointer none) := f 0
    clear f
    go_enter Tryz.func28, Tryz.ntmps28
    go_wp2_with fail
    go_ret
    exact ⟨rfl, rfl⟩
theorem repNone_c (v : Value) (w : World) (h : RepNo w v) : Calls Tryz.prog 40 #[v] w fun e w' => e = .returned (.bool true) ∧ w = w' := by
  rcases h with rfl | ⟨b, rfl, h⟩
  · go_enter Tryz.func40, Tryz.ntmps40
    go_wp2_with fail
    go_ret
    exact ⟨rfl, rfl⟩
  · obtain ⟨f, -, hl⟩ := boxF h
    have c0 : w.cell? ⟨b, 34, none⟩ = some (.pointer none) := f 34
    clear f
    go_enter Tryz.func40, Tryz.ntmps40
    go_wp2_with fail
    go_ret
    exact ⟨rfl, rfl⟩
theorem logNoneNo_c (v : Value) (w : World) (h : LogNo w v) : Calls Tryz.prog 50 #[v] w fun e w' => e = .returned (.bool true) ∧ w = w' := by
  rcases h with rfl | ⟨b, rfl, h⟩
  · go_enter Tryz.func50, Tryz.ntmps50
    go_wp2_with fail
    go_ret
    exact ⟨rfl, rfl⟩
  · obtain ⟨f, -, hl⟩ := boxF h
    have c0 : w.cell? ⟨b, 2, none⟩ = some (.pointer none) := f 2
    clear f
    go_enter Tryz.func50, Tryz.ntmps50
    go_wp2_with fail
    go_ret
    exact ⟨rfl, rfl⟩
theorem logRealm_no (v : Value) (w : World) (h : LogNo w v) : Calls Tryz.prog 22 #[v] w fun e w' => e = .returned (.string ⟨#[]⟩) ∧ w = w' := by
  go_enter Tryz.func22, Tryz.ntmps22
  go_wp2_with fail
  refine (logNoneNo_c v w h).mono ?_
  rintro z w' ⟨rfl, rfl⟩
  dsimp only
  go_wp2_with fail
  go_ret
  exact ⟨rfl, rfl⟩
theorem newPrimary_no (v : Value) (w : World) (h : LogNo w v) : Calls Tryz.prog 6 #[v, .int .i64 1, .int .i64 1] w fun e w' => e = .returned (.tuple #[.pointer none, .int .i64 1]) ∧ w = w' := by
  go_enter Tryz.func6, Tryz.ntmps6
  go_wp2_with fail
  refine (logRealm_no v w h).mono ?_
  rintro z w' ⟨rfl, rfl⟩
  dsimp only
  go_wp2_with fail
  exact bodyPost_ret (results_tmp2 (by rfl) _ _ _) rfl ⟨rfl, rfl⟩
theorem num30_c (i : Int) (w : World) : Calls Tryz.prog 9 #[.int .i64 i] w fun e w' => e = .returned (.int .i64 i) ∧ w = w' := by
  go_enter Tryz.func9, Tryz.ntmps9
  go_wp2_with fail
  go_ret
  exact ⟨rfl, rfl⟩
theorem primLog_no (v : Value) (w : World) (h : PrimNo w v) : Calls Tryz.prog 12 #[v] w fun e w' => e = .returned (.pointer none) ∧ w = w' := by
  go_enter Tryz.func12, Tryz.ntmps12
  go_wp2_with fail
  refine (primNone_c v w h).mono ?_
  rintro z w' ⟨rfl, rfl⟩
  dsimp only
  go_wp2_with fail
  go_ret
  exact ⟨rfl, rfl⟩
theorem primCopy_no (v : Value) (w : World) (h : PrimNo w v) : Calls Tryz.prog 13 #[v] w fun e w' => e = .returned (.pointer none) ∧ w = w' := by
  go_enter Tryz.func13, Tryz.ntmps13
  go_wp2_with fail
  refine (primNone_c v w h).mono ?_
  rintro z w' ⟨rfl, rfl⟩
  dsimp only
  go_wp2_with fail
  go_ret
  exact ⟨rfl, rfl⟩
theorem repDb_no (v : Value) (w : World) (h : RepNo w v) : Calls Tryz.prog 16 #[v] w fun e w' => e = .returned (.pointer none) ∧ w = w' := by
  go_enter Tryz.func16, Tryz.ntmps16
  go_wp2_with fail
  refine (repNone_c v w h).mono ?_
  rintro z w' ⟨rfl, rfl⟩
  dsimp only
  go_wp2_with fail
  go_ret
  exact ⟨rfl, rfl⟩
theorem repCopy_no (v : Value) (w : World) (h : RepNo w v) : Calls Tryz.prog 17 #[v] w fun e w' => e = .returned (.pointer none) ∧ w = w' := by
  go_enter Tryz.func17, Tryz.ntmps17
  go_wp2_with fail
  refine (repNone_c v w h).mono ?_
  rintro z w' ⟨rfl, rfl⟩
  dsimp only
  go_wp2_with fail
  go_ret
  exact ⟨rfl, rfl⟩
end Go.Proofs.YtidadlcknkeodaaGreatDoor
/- The deferred closure of (*Replica).Take: it sets the result where a refusal is on its way. -/
namespace Go.Proofs.YtidadlcknkeodaaGreatDoor
open Go.RowKit
theorem refusal_no (w : World) : (Instr.typeAssert .nilIface 20 114 true).run Tryz.prog w = .ok (.tuple #[.agg #[.int .i64 0], .bool false]) w := by
  kernel_rfl
theorem refusal_yes (n : Int) (w : World) : (Instr.typeAssert (.iface 114 (.agg #[.int .i64 n])) 20 114 true).run Tryz.prog w = .ok (.tuple #[.agg #[.int .i64 n], .bool true]) w := by
  kernel_rfl
theorem tcatch_idle (p : Addr) (w : World) :
    CallsD Tryz.prog 42 #[.pointer (some p)] .returning w fun e u' w' => e = .returned (.tuple #[]) ∧ u' = .returning ∧ w' = w.alloc (.cells #[.int .i64 0] 114) := by
  refine callsD_of_wpS Tryz.func42 rfl fun c₀ cs hu => ?_
  apply wpS_seq
  apply wpS_region
  have h1 := refusal_no
  simp [wpOpsS, go_sem, recoverD, hu, Tryz.ntmps42, Exit.thenS, h1]
  apply wpS_seq
  apply wpS_region
  simp [wpOpsS, go_sem, Exit.thenS]
  refine wpS_cond (t := false) (by simp [Act.eval, Array.replicate]) ?_
  simp only [Bool.false_eq_true, if_false]
  refine wpS_of_wp (wp_skip ?_)
  cases c₀
  simp_all [bodyPostS, results, Tryz.results42]
theorem tcatch_panicking (p : Addr) (x n : Int) (older : List PanicEntry) (w : World) (hc : w.cell? p = some (.int .i64 x)) (hz : w.frozen? p = false) :
    CallsD Tryz.prog 42 #[.pointer (some p)] (.panicking ({ v := .iface 114 (.agg #[.int .i64 n]), recovered := false } :: older)) w fun e u' w' => e = .returned (.tuple #[]) ∧ u' = .panicking ({ v := .iface 114 (.agg #[.int .i64 n]), recovered := true } :: older) ∧ ∃ w1, w1 = w.alloc (.cells #[.int .i64 n] 114) ∧ w' = w1.setCell p (.int .i64 n) := by
  refine callsD_of_wpS Tryz.func42 rfl fun c₀ cs hu => ?_
  apply wpS_seq
  apply wpS_region
  have h1 := refusal_yes n
  simp [wpOpsS, go_sem, recoverD, hu, Tryz.ntmps42, Exit.thenS, h1]
  apply wpS_seq
  apply wpS_region
  simp [wpOpsS, go_sem, Exit.thenS]
  refine wpS_cond (t := true) (by simp [Act.eval, Array.replicate]) ?_
  simp only [if_true]
  apply wpS_region
  have hc' : (w.alloc (.cells #[.int .i64 n] 114)).cell? p = some (.int .i64 x) := by
    unfold World.cell? at hc ⊢
    rw [Below.heap_alloc _ _ _ (by rcases Nat.lt_or_ge p.block w.heap.size with h | h; exact h; rw [Array.getElem?_eq_none h] at hc; cases hc)]
    exact hc
  have hz' : (w.alloc (.cells #[.int .i64 n] 114)).frozen? p = false := (frozen?_alloc_cells w _ _ p).trans hz
  simp [wpOpsS, go_sem, hc', hz', bodyPostS, results, Tryz.results42]
end Go.Proofs.YtidadlcknkeodaaGreatDoor
/- (*Replica).Take, where the answer is a dump that is taken. -/
namespace Go.Proofs.YtidadlcknkeodaaGreatDoor
open Go.RowKit Go.WW
theorem cell_past {w : World} {p : Addr} {v : Value} (hc : w.cell? p = some v) (o : Obj) : (w.alloc o).cell? p = some v := by
  unfold World.cell? at hc ⊢
  rw [Below.heap_alloc _ _ _ (by rcases Nat.lt_or_ge p.block w.heap.size with h | h; exact h; rw [Array.getElem?_eq_none h] at hc; cases hc)]
  exact hc
def takeW (w : World) (A : Array Value) : World := (w.alloc (.cells A 67)).alloc (.cells #[.int .i64 0] 40)
theorem take3_c (ra : Addr) (v1 v2 v3 v4 : Value) (w : World) (Φ : World → Prop)
    (hn : Calls Tryz.prog 40 #[.pointer (some ra)] (takeW w #[.int .i64 3, v1, v2, v3, v4]) fun e w' => e = .returned (.bool false) ∧ w' = takeW w #[.int .i64 3, v1, v2, v3, v4])
    (hr : Calls Tryz.prog 46 #[.pointer (some ra), .agg #[.int .i64 3, v1, v2, v3, v4]] (takeW w #[.int .i64 3, v1, v2, v3, v4]) fun e w' => e = .returned (.tuple #[]) ∧ Φ w' ∧ w'.cell? ⟨w.heap.size + 1, 0, none⟩ = some (.int .i64 0) ∧ w'.frozen? ⟨w.heap.size + 1, 0, none⟩ = false) :
    Calls Tryz.prog 15 #[.pointer (some ra), .agg #[.int .i64 3, v1, v2, v3, v4]] w fun e w' => e = .returned (.int .i64 0) ∧ ∃ w1, Φ w1 ∧ w' = (w1.setCell ⟨w.heap.size + 1, 0, none⟩ (.int .i64 0)).alloc (.cells #[.int .i64 0] 114) := by
  have hmf : ∀ (fn : Fn) (first cap : Array Value) (w : World), (Instr.makeFunc fn first cap).run Tryz.prog w = .ok (.func fn first cap) w := fun _ _ _ _ => rfl
  unfold takeW at hn hr
  have HN := Lib.hid hn
  have HR := Lib.hid hr
  clear hn hr
  go_enter_defers Tryz.func15, Tryz.ntmps15
  go_wp2_with fail
  refine HN.out.mono ?_
  rintro z w' ⟨rfl, rfl⟩
  dsimp only
  go_wp2_with fail
  refine HR.out.mono ?_
  rintro z w' ⟨rfl, h1, h2, h3⟩
  dsimp only
  go_wp2_with fail
  refine leaves_cons (f := 42) (args := #[.pointer (some ⟨w.heap.size + 1, 0, none⟩)]) (by simp) (by simp [go_sem]) ?_
  refine (tcatch_idle ⟨w.heap.size + 1, 0, none⟩ _).mono ?_
  rintro e u' w'' ⟨rfl, rfl, rfl⟩
  have h4 := cell_past (World.cell?_setCell_same w' ⟨w.heap.size + 1, 0, none⟩ (.int .i64 0) h2) (.cells #[.int .i64 0] 114)
  simp [Leaves, settle, results, Tryz.results15, go_sem]
  exact ⟨.int .i64 0, by rw [h4], rfl, w', h1, rfl⟩
theorem take2_c (ra : Addr) (v1 v2 v3 v4 : Value) (w : World) (Φ : World → Prop)
    (hn : Calls Tryz.prog 40 #[.pointer (some ra)] (takeW w #[.int .i64 2, v1, v2, v3, v4]) fun e w' => e = .returned (.bool false) ∧ w' = takeW w #[.int .i64 2, v1, v2, v3, v4])
    (hr : Calls Tryz.prog 45 #[.pointer (some ra), .agg #[.int .i64 2, v1, v2, v3, v4]] (takeW w #[.int .i64 2, v1, v2, v3, v4]) fun e w' => e = .returned (.tuple #[]) ∧ Φ w' ∧ w'.cell? ⟨w.heap.size + 1, 0, none⟩ = some (.int .i64 0) ∧ w'.frozen? ⟨w.heap.size + 1, 0, none⟩ = false) :
    Calls Tryz.prog 15 #[.pointer (some ra), .agg #[.int .i64 2, v1, v2, v3, v4]] w fun e w' => e = .returned (.int .i64 0) ∧ ∃ w1, Φ w1 ∧ w' = (w1.setCell ⟨w.heap.size + 1, 0, none⟩ (.int .i64 0)).alloc (.cells #[.int .i64 0] 114) := by
  have hmf : ∀ (fn : Fn) (first cap : Array Value) (w : World), (Instr.makeFunc fn first cap).run Tryz.prog w = .ok (.func fn first cap) w := fun _ _ _ _ => rfl
  unfold takeW at hn hr
  have HN := Lib.hid hn
  have HR := Lib.hid hr
  clear hn hr
  go_enter_defers Tryz.func15, Tryz.ntmps15
  go_wp2_with fail
  refine HN.out.mono ?_
  rintro z w' ⟨rfl, rfl⟩
  dsimp only
  go_wp2_with fail
  refine HR.out.mono ?_
  rintro z w' ⟨rfl, h1, h2, h3⟩
  dsimp only
  go_wp2_with fail
  refine leaves_cons (f := 42) (args := #[.pointer (some ⟨w.heap.size + 1, 0, none⟩)]) (by simp) (by simp [go_sem]) ?_
  refine (tcatch_idle ⟨w.heap.size + 1, 0, none⟩ _).mono ?_
  rintro e u' w'' ⟨rfl, rfl, rfl⟩
  have h4 := cell_past (World.cell?_setCell_same w' ⟨w.heap.size + 1, 0, none⟩ (.int .i64 0) h2) (.cells #[.int .i64 0] 114)
  simp [Leaves, settle, results, Tryz.results15, go_sem]
  exact ⟨.int .i64 0, by rw [h4], rfl, w', h1, rfl⟩
theorem take2_err (ra : Addr) (n : Int) (v1 v2 v3 v4 : Value) (w : World) (Φ : World → Prop)
    (hn : Calls Tryz.prog 40 #[.pointer (some ra)] (takeW w #[.int .i64 2, v1, v2, v3, v4]) fun e w' => e = .returned (.bool false) ∧ w' = takeW w #[.int .i64 2, v1, v2, v3, v4])
    (hr : Calls Tryz.prog 45 #[.pointer (some ra), .agg #[.int .i64 2, v1, v2, v3, v4]] (takeW w #[.int .i64 2, v1, v2, v3, v4]) fun e w' => e = .panicked [{ v := .iface 114 (.agg #[.int .i64 n]), recovered := false }] ∧ Φ w' ∧ w'.cell? ⟨w.heap.size + 1, 0, none⟩ = some (.int .i64 0) ∧ w'.frozen? ⟨w.heap.size + 1, 0, none⟩ = false) :
    Calls Tryz.prog 15 #[.pointer (some ra), .agg #[.int .i64 2, v1, v2, v3, v4]] w fun e w' => e = .returned (.int .i64 n) ∧ ∃ w1, Φ w1 ∧ w' = (w1.alloc (.cells #[.int .i64 n] 114)).setCell ⟨w.heap.size + 1, 0, none⟩ (.int .i64 n) := by
  have hmf : ∀ (fn : Fn) (first cap : Array Value) (w : World), (Instr.makeFunc fn first cap).run Tryz.prog w = .ok (.func fn first cap) w := fun _ _ _ _ => rfl
  unfold takeW at hn hr
  have HN := Lib.hid hn
  have HR := Lib.hid hr
  clear hn hr
  go_enter_defers Tryz.func15, Tryz.ntmps15
  go_wp2_with fail
  refine HN.out.mono ?_
  rintro z w' ⟨rfl, rfl⟩
  dsimp only
  go_wp2_with fail
  refine HR.out.mono ?_
  rintro z w' ⟨rfl, h1, h2, h3⟩
  dsimp only
  go_wp2_with fail
  refine leaves_cons (f := 42) (args := #[.pointer (some ⟨w.heap.size + 1, 0, none⟩)]) (by simp) (by simp [go_sem]) ?_
  refine (tcatch_panicking ⟨w.heap.size + 1, 0, none⟩ 0 n [] _ h2 h3).mono ?_
  rintro e u' w'' ⟨rfl, rfl, w1, rfl, rfl⟩
  have h4 := World.cell?_setCell_same (w'.alloc (.cells #[.int .i64 n] 114)) ⟨w.heap.size + 1, 0, none⟩ (.int .i64 n) (cell_past h2 _)
  simp [Leaves, settle, results, Tryz.results15, go_sem]
  exact ⟨.int .i64 n, by rw [h4], rfl, w', h1, rfl⟩
end Go.Proofs.YtidadlcknkeodaaGreatDoor
