/- Part N of the proof about watchword's lockout: texts B1 B2. -/
import Derived.Test.YtnpddjmjdpgohaaGreatDoorGL
import Derived.Test.YtnpddjmjdpgohaaGreatDoorGI

namespace Go.WW
open Go.RowKit
theorem Own.empty (w : World) (e : TypeId) (k : Nat) : Own (w.alloc (.cells #[] e)) w.heap.size e k ⟨some ⟨w.heap.size, 0, none⟩, 0⟩ [] :=
  ⟨World.ownsRow_made w #[] 0 (Nat.le_refl _) (by unfold maxLen; omega) (by simp), by simp⟩
theorem Own.fresh {w w' : World} {base : Nat} {e : TypeId} {k : Nat} {s : Sl} {rows : List (Array Value)} (h : Own w base e k s rows) (hw : ∀ j, fresh base w j → w'.heap[j]? = w.heap[j]?) : Own w' base e k s rows :=
  h.kept fun _ hg => hw _ (h.base hg)
def ClonedStrs (w : World) (l : List ByteArray) (e : Ending) (w' : World) : Prop :=
  ∃ s : Sl, e = .returned (.slice s.a l.length s.cap) ∧ Below w.heap.size w w' ∧ Dep w' (fresh w.heap.size w') (fun x => StrsAt x s.a l)
def ClonedBytes (w : World) (l : List UInt8) (e : Ending) (w' : World) : Prop :=
  ∃ s : Sl, e = .returned (.slice s.a l.length s.cap) ∧ Below w.heap.size w w' ∧ Dep w' (fresh w.heap.size w') (fun x => BytesAt x s.a l)
theorem strR_one {l : List ByteArray} (i : Nat) (v : Value) (h : ∃ s, l[i]? = some s ∧ v = .string s ∧ s.size ≤ lim) : v.oneCell' = true := by obtain ⟨s, _, rfl, _⟩ := h; rfl
theorem byteR_one {l : List UInt8} (i : Nat) (v : Value) (h : ∃ c, l[i]? = some c ∧ v = .int .u8 c.toNat) : v.oneCell' = true := by obtain ⟨s, _, rfl⟩ := h; rfl
theorem cloned_strs {w w' : World} {e : TypeId} {s : Sl} {rows : List (Array Value)} {l : List ByteArray} (h : Own w' w.heap.size e 1 s rows) (hl : rows.length = l.length) (hn : l.length ≤ lim) (hb : Below w.heap.size w w')
    (hR : ∀ i (hi : i < rows.length), ∃ v, rows[i] = #[v] ∧ ∃ s, l[i]? = some s ∧ v = .string s ∧ s.size ≤ lim) : ClonedStrs w l (.returned (.slice s.a l.length s.cap)) w' :=
  ⟨s, rfl, hb, fun _ hx => CellsAt.of_own (h.fresh hx) hl hn hR⟩
theorem cloned_bytes {w w' : World} {e : TypeId} {s : Sl} {rows : List (Array Value)} {l : List UInt8} (h : Own w' w.heap.size e 1 s rows) (hl : rows.length = l.length) (hn : l.length ≤ lim) (hb : Below w.heap.size w w')
    (hR : ∀ i (hi : i < rows.length), ∃ v, rows[i] = #[v] ∧ ∃ c, l[i]? = some c ∧ v = .int .u8 c.toNat) : ClonedBytes w l (.returned (.slice s.a l.length s.cap)) w' :=
  ⟨s, rfl, hb, fun _ hx => CellsAt.of_own (h.fresh hx) hl hn hR⟩
theorem CellsAt.none {w : World} {n : Nat} {R : Nat → Value → Prop} (h : CellsAt w none n R) : n = 0 := by
  rcases h.addr with h | ⟨b, o, h, _⟩
  · exact h
  · cases h
theorem SrcRows.later {w w' : World} {k : Nat} {A : Option Addr} {rows : List (Array Value)} (h : SrcRows w k A rows) (hb : Below w.heap.size w w') : SrcRows w' k A rows :=
  ⟨h.size, h.one, fun i hi => by obtain ⟨b, o, h1, h2⟩ := h.at_ i hi; exact ⟨b, o, h1, by rw [row?_of_block (hb.block b (row?_lt h2))]; exact h2⟩⟩
end Go.WW
namespace Go.Proofs.YtnpddjmjdpgohaaGreatDoor
open Go.RowKit Go.WW
theorem nilEq22 (cap : Nat) (w : World) : (binOp .eql 22 (.slice none 0 cap) (.slice none 0 0)).run Tryz.prog w = .ok (.bool true) w := by kernel_rfl
theorem nilNe22 (ad : Addr) (n cap : Nat) (w : World) : (binOp .eql 22 (.slice (some ad) n cap) (.slice none 0 0)).run Tryz.prog w = .ok (.bool false) w := by kernel_rfl
theorem nilEq74 (cap : Nat) (w : World) : (binOp .eql 111 (.slice none 0 cap) (.slice none 0 0)).run Tryz.prog w = .ok (.bool true) w := by kernel_rfl
theorem nilNe74 (ad : Addr) (n cap : Nat) (w : World) : (binOp .eql 111 (.slice (some ad) n cap) (.slice none 0 0)).run Tryz.prog w = .ok (.bool false) w := by kernel_rfl
attribute [go_sem] nilEq22 nilNe22 nilEq74 nilNe74
theorem elemStr : ElemOk Tryz.prog 22 9 1 16 := ElemOk.of Tryz.underlying22 (by kernel_rfl)
set_option maxRecDepth 100000 in
theorem cloneStrs_c (a : Option Addr) (cap : Nat) (l : List ByteArray) (w : World) (hl : StrsAt w a l) : Calls Tryz.prog 78 #[.slice a l.length cap] w (ClonedStrs w l) := by
  have hn : l.length ≤ 4294967000 := hl.1
  cases a with
  | none =>
    obtain rfl : l = [] := List.eq_nil_of_length_eq_zero (CellsAt.none hl)
    go_enter Tryz.func78, Tryz.ntmps78
    go_wp2_with fail
    go_ret
    exact ⟨⟨none, 0⟩, rfl, Below.refl _ _, fun x _ => ⟨by simp [lim], fun i hi => by simp at hi⟩⟩
  | some ad =>
    obtain ⟨rows, hlr, hsr, hrR⟩ := CellsAt.src hl strR_one
    have hown := Own.empty w 9 1
    have HS := hsr.later ((Below.refl _ w).alloc (Nat.le_refl _) (.cells #[] 9))
    have HLR := Lib.hid hlr
    have HRR := Lib.hid hrR
    have hln : l.length ≤ lim := hl.1
    have HLN := Lib.hid hln
    clear hlr hrR hl hsr hln
    go_enter Tryz.func78, Tryz.ntmps78
    go_wp2_with (at_builtin; refine wpList_append_n rfl (.tmp 5) (.tmp 6) _ rfl elemStr (n := 0) (s := ⟨some ⟨w.heap.size, 0, none⟩, 0⟩) rfl rfl hown rfl HLR.out.symm HS (by rw [HLR.out]; simp; omega) (by simp) ?_; intro s3 w3 hown3 hg3 hat3)
    go_ret
    have hb3 : Below w.heap.size w w3 := ((Below.refl _ w).alloc (Nat.le_refl _) _).grown hg3 (by simp) (fun k e => by cases e; exact Nat.le_refl _)
    have := cloned_strs (l := l) hown3 (by simpa using HLR.out) HLN.out hb3 (fun i hi => by simpa using HRR.out i (by simpa using hi))
    simpa using this
set_option maxRecDepth 100000 in
theorem cloneBytes_c (a : Option Addr) (cap : Nat) (l : List UInt8) (w : World) (hl : BytesAt w a l) : Calls Tryz.prog 132 #[.slice a l.length cap] w (ClonedBytes w l) := by
  have hn : l.length ≤ 4294967000 := hl.1
  cases a with
  | none =>
    obtain rfl : l = [] := List.eq_nil_of_length_eq_zero (CellsAt.none hl)
    go_enter Tryz.func132, Tryz.ntmps132
    go_wp2_with fail
    go_ret
    exact ⟨⟨none, 0⟩, rfl, Below.refl _ _, fun x _ => ⟨by simp [lim], fun i hi => by simp at hi⟩⟩
  | some ad =>
    obtain ⟨rows, hlr, hsr, hrR⟩ := CellsAt.src hl byteR_one
    have hown := Own.empty w 5 1
    have HS := hsr.later ((Below.refl _ w).alloc (Nat.le_refl _) (.cells #[] 5))
    have HLR := Lib.hid hlr
    have HRR := Lib.hid hrR
    have hln : l.length ≤ lim := hl.1
    have HLN := Lib.hid hln
    clear hlr hrR hl hsr hln
    go_enter Tryz.func132, Tryz.ntmps132
    go_wp2_with (at_builtin; refine wpList_append_n rfl (.tmp 5) (.tmp 6) _ rfl elemByte (n := 0) (s := ⟨some ⟨w.heap.size, 0, none⟩, 0⟩) rfl rfl hown rfl HLR.out.symm HS (by rw [HLR.out]; simp; omega) (by simp) ?_; intro s3 w3 hown3 hg3 hat3)
    go_ret
    have hb3 : Below w.heap.size w w3 := ((Below.refl _ w).alloc (Nat.le_refl _) _).grown hg3 (by simp) (fun k e => by cases e; exact Nat.le_refl _)
    have := cloned_bytes (l := l) hown3 (by simpa using HLR.out) HLN.out hb3 (fun i hi => by simpa using HRR.out i (by simpa using hi))
    simpa using this
set_option maxRecDepth 100000 in
theorem copyBytes_c (a : Option Addr) (cap : Nat) (l : List UInt8) (w : World) (hl : BytesAt w a l) : Calls Tryz.prog 84 #[.slice a l.length cap] w (ClonedBytes w l) := by
  have hn : l.length ≤ 4294967000 := hl.1
  obtain ⟨rows, hlr, hsr, hrR⟩ := CellsAt.src hl byteR_one
  have hown := Go.WW.Own.nil w w.heap.size 5 1
  have HLR := Lib.hid hlr
  have HRR := Lib.hid hrR
  have HLN := Lib.hid hl.1
  clear hlr hrR hl
  go_enter Tryz.func84, Tryz.ntmps84
  go_wp2_with (at_builtin; refine wpList_append_n rfl (.const (.slice none 0 0)) (.tmp 3) _ rfl elemByte (n := 0) (s := ⟨none, 0⟩) rfl rfl hown rfl HLR.out.symm hsr (by rw [HLR.out]; simp; omega) (by simp) ?_; intro s3 w3 hown3 hg3 hat3)
  go_ret
  have hb3 : Below w.heap.size w w3 := (Below.refl _ w).grown hg3 (by simp) (fun k e => by cases e)
  have := cloned_bytes (l := l) hown3 (by simpa using HLR.out) HLN.out hb3 (fun i hi => by simpa using HRR.out i (by simpa using hi))
  simpa using this
end Go.Proofs.YtnpddjmjdpgohaaGreatDoor

namespace Go.WW
open Go.RowKit
def CopiedPrin (w : World) (p : Prin) (e : Ending) (w' : World) : Prop :=
  ∃ s : Sl, e = .returned (.agg (prinC s p)) ∧ Below w.heap.size w w' ∧ Dep w' (fresh w.heap.size w') (fun x => PrinAt x s p)
def CopiedKey (w : World) (k : Key) (e : Ending) (w' : World) : Prop :=
  ∃ s : Sl, e = .returned (.agg (keyC s k)) ∧ Below w.heap.size w w' ∧ Dep w' (fresh w.heap.size w') (fun x => KeyAt x s k)
theorem canPut_setCell_other {w : World} {p : Addr} {v : Value} {k o n : Nat} (h : k ≠ p.block) : canPut (w.setCell p v) k o n = canPut w k o n := canPut_of_block (Below.heap_setCell w p v k h) o n
theorem second_blk (w : World) (a b : Obj) : ((w.alloc a).alloc b).heap[w.heap.size]? = some a := by
  rw [Below.heap_alloc _ _ _ (by simp)]; exact World.alloc_heap_new w a
attribute [go_sem] canPut_setCell_other
end Go.WW
namespace Go.Proofs.YtnpddjmjdpgohaaGreatDoor
open Go.RowKit Go.WW
set_option maxRecDepth 100000 in
set_option maxHeartbeats 1000000 in
theorem nameCopy_c (s : Sl) (p : Prin) (w : World) (hp : PrinAt w s p) : Calls Tryz.prog 45 #[.agg (prinC s p)] w (CopiedPrin w p) := by
  obtain ⟨Z, hZ⟩ : ∃ Z : Array Value, Z = #[.slice none 0 0, .string ⟨#[]⟩] := ⟨_, rfl⟩
  have hB : Below w.heap.size w ((w.alloc (.cells (prinC s p) 24)).alloc (.cells Z 24)) := ((Below.refl _ w).alloc (Nat.le_refl _) _).alloc (by simp) _
  have hq : StrsAt ((w.alloc (.cells (prinC s p) 24)).alloc (.cells Z 24)) s.a p.parts := hp.1.later hB
  have hrl := hp.2
  subst hZ
  go_enter Tryz.func45, Tryz.ntmps45
  go_wp2_with fail
  refine (cloneStrs_c _ _ _ _ hq).mono ?_
  rintro e w2 ⟨s', rfl, hb2, hd2⟩
  have hblk := setCell_blk (o := 0) (.slice s'.a p.parts.length s'.cap) ((hb2.block w.heap.size (by simp; omega)).trans (second_blk w _ _))
  have hrow : row? (w2.setCell ⟨w.heap.size, 0, none⟩ (.slice s'.a p.parts.length s'.cap)) w.heap.size 0 2 = some (prinC s' p) := by rw [row?_of_cells hblk]; rfl
  obtain ⟨hcc, hff, hrr⟩ := bcell hb2
  have hpp := bput hb2
  have hsz : w.heap.size + 1 < w2.heap.size := by have := hb2.size; simp at this; omega
  have hsz0 : w.heap.size < w2.heap.size := by omega
  have hne : w.heap.size + 1 ≠ w.heap.size := by omega
  clear hblk
  go_wp2_with fail
  refine bodyPost_ret (v := .agg (prinC s' p)) (by simp [results, Tryz.results45, go_sem, *]; rfl) rfl ⟨s', rfl, ?_, ?_⟩
  · exact Go.WW.Below.putRow ((hB.trans (hb2.mono hB.size)).setCell (by simp) _) (by omega)
  · refine Dep.to (fun x hx => ⟨hd2 x hx, hrl⟩) (fun j hj => ?_) (fun j hj => ?_)
    · have h1 := hj.1
      simp at h1
      rw [putRow_other (by omega), Below.heap_setCell _ _ _ _ (by simp; omega)]
    · have h1 := hj.1
      have h2 := hj.2
      simp at h1
      exact ⟨by omega, by rw [putRow_size]; simpa [World.setCell] using h2⟩
set_option maxRecDepth 100000 in
set_option maxHeartbeats 1000000 in
theorem keyCopy_c (s : Sl) (p : Key) (w : World) (hp : KeyAt w s p) : Calls Tryz.prog 113 #[.agg (keyC s p)] w (CopiedKey w p) := by
  obtain ⟨Z, hZ⟩ : ∃ Z : Array Value, Z = #[.int .i64 0, .int .i64 0, .slice none 0 0] := ⟨_, rfl⟩
  have hB : Below w.heap.size w ((w.alloc (.cells (keyC s p) 143)).alloc (.cells Z 143)) := ((Below.refl _ w).alloc (Nat.le_refl _) _).alloc (by simp) _
  have hq : BytesAt ((w.alloc (.cells (keyC s p) 143)).alloc (.cells Z 143)) s.a p.bytes := BytesAt.later hB hp
  subst hZ
  go_enter Tryz.func113, Tryz.ntmps113
  go_wp2_with fail
  refine (cloneBytes_c _ _ _ _ hq).mono ?_
  rintro e w2 ⟨s', rfl, hb2, hd2⟩
  have hblk := setCell_blk (o := 2) (.slice s'.a p.bytes.length s'.cap) ((hb2.block w.heap.size (by simp; omega)).trans (second_blk w _ _))
  have hrow : row? (w2.setCell ⟨w.heap.size, 2, none⟩ (.slice s'.a p.bytes.length s'.cap)) w.heap.size 0 3 = some (keyC s' p) := by rw [row?_of_cells hblk]; rfl
  obtain ⟨hcc, hff, hrr⟩ := bcell hb2
  have hpp := bput hb2
  have hsz : w.heap.size + 1 < w2.heap.size := by have := hb2.size; simp at this; omega
  have hsz0 : w.heap.size < w2.heap.size := by omega
  have hne : w.heap.size + 1 ≠ w.heap.size := by omega
  clear hblk
  go_wp2_with fail
  refine bodyPost_ret (v := .agg (keyC s' p)) (by simp [results, Tryz.results113, go_sem, *]; rfl) rfl ⟨s', rfl, ?_, ?_⟩
  · exact Go.WW.Below.putRow ((hB.trans (hb2.mono hB.size)).setCell (by simp) _) (by omega)
  · refine Dep.to (Φ := fun x => KeyAt x s' p) hd2 (fun j hj => ?_) (fun j hj => ?_)
    · have h1 := hj.1
      simp at h1
      rw [putRow_other (by omega), Below.heap_setCell _ _ _ _ (by simp; omega)]
    · have h1 := hj.1
      have h2 := hj.2
      simp at h1
      exact ⟨by omega, by rw [putRow_size]; simpa [World.setCell] using h2⟩
end Go.Proofs.YtnpddjmjdpgohaaGreatDoor
