/- Part i of the proof about watchword's lockout: texts RL. -/
import Derived.Test.YtnpddjmjdpgohaaGreatDoorGT
import Derived.Test.YtnpddjmjdpgohaaGreatDoorGd

namespace Go.Proofs.YtnpddjmjdpgohaaGreatDoor
open Go.ChangeShapes Go.WideShapes Go.ChangeAt Go.RowKit Go.WW Go.Deep
section
variable {H : Type} {enc : TypeId × Value → H} {w : World} {base : Nat} {spare : Nat → Bool} {held : Bool} {fuel : Nat} {x : DataW H × List MemPlace}
theorem read_pols {v : Value} (h : DataW.trod enc Tryz.prog w base spare held fuel 45 [v] = some x) (hb : Rows.uptoBulk x.1 ≤ 1048576) : ∃ (s : Sl) (l : List Policy), v = .slice s.a l.length s.cap ∧ PolsAt w s.a l := by
  obtain ⟨s, n, hv, hn, hel⟩ := read_slice Tryz.underlying45 cellsPol (by omega) h hb
  obtain ⟨l, hl, hr⟩ := list_of (R := fun i (a : Policy) => ∃ b o, s.a = some ⟨b, o, none⟩ ∧ row? w b (o + i * 10) 10 = some (polC a) ∧ a.name.size ≤ lim) (n := n) (fun i hi => by
    obtain ⟨b, o, cs, f', y, ha, hrow, ht, hby⟩ := hel i hi
    obtain ⟨p, hcs, hp⟩ := read_pol ht hby
    exact ⟨p, b, o, ha, by rw [hrow, ← Array.toList_inj.1 hcs], hp⟩)
  refine ⟨s, l, by rw [hl]; exact hv, by rw [hl]; exact lim_of hn, fun i hi => ?_⟩
  obtain ⟨b, o, h1, h2, h3⟩ := hr i l[i] (List.getElem?_eq_getElem hi)
  exact ⟨b, o, _, h1, h2, l[i], List.getElem?_eq_getElem hi, rfl, h3⟩
theorem read_ents {v : Value} (h : DataW.trod enc Tryz.prog w base spare held fuel 46 [v] = some x) (hb : Rows.uptoBulk x.1 ≤ 1048576) : ∃ (s : Sl) (l : List EE), v = .slice s.a l.length s.cap ∧ RowsXE w s.a l := by
  obtain ⟨s, n, hv, hn, hel⟩ := read_slice Tryz.underlying46 cellsEnt (by omega) h hb
  obtain ⟨l, hl, hr⟩ := list_of (R := fun i (a : EE) => ∃ b o, s.a = some ⟨b, o, none⟩ ∧ row? w b (o + i * 17) 17 = some (entC a.1 a.2) ∧ EntAt w a.1 a.2) (n := n) (fun i hi => by
    obtain ⟨b, o, cs, f', y, ha, hrow, ht, hby⟩ := hel i hi
    obtain ⟨r, d, hcs, hp⟩ := read_ent ht hby
    exact ⟨(r, d), b, o, ha, by rw [hrow, ← Array.toList_inj.1 hcs], hp⟩)
  refine ⟨s, l, by rw [hl]; exact hv, ⟨by rw [hl]; exact lim_of hn, fun i hi => ?_⟩, fun y hy => ?_⟩
  · obtain ⟨b, o, h1, h2, h3⟩ := hr i l[i] (List.getElem?_eq_getElem hi)
    exact ⟨b, o, _, h1, h2, l[i], List.getElem?_eq_getElem hi, rfl⟩
  · obtain ⟨i, hi, rfl⟩ := List.mem_iff_getElem.1 hy
    obtain ⟨b, o, h1, h2, h3⟩ := hr i l[i] (List.getElem?_eq_getElem hi)
    exact h3
end
theorem readPols : Tryz.prog.readableRec 45 = true := by kernel_rfl
theorem readEnts : Tryz.prog.readableRec 46 = true := by kernel_rfl
theorem ltPols : 45 < Tryz.prog.types.size := of_decide_eq_true (by kernel_rfl)
theorem ltEnts : 46 < Tryz.prog.types.size := of_decide_eq_true (by kernel_rfl)
section
variable {H : Type} {enc : TypeId × Value → H}
set_option maxRecDepth 2000000 in
theorem arg_pols {W : World} {b0 : Nat} {v : Value} {d : DataW H} {p : List MemPlace} (_hv : Value.okWide Tryz.prog W .any b0 45 v) (h : DataW.Trod enc Tryz.prog W 0 (fun _ => true) true 45 v d p) (hb : Rows.uptoBulk d ≤ 1048576) :
    ∃ (s : Sl) (l : List Policy), v = .slice s.a l.length s.cap ∧ PolsAt W s.a l := by
  obtain ⟨a, len, cap, rfl⟩ := okWide_slice Tryz.underlying45 _hv
  obtain ⟨fuel, hf⟩ := h
  exact read_pols (x := (d, p)) hf hb
set_option maxRecDepth 2000000 in
theorem arg_ents {W : World} {b0 : Nat} {v : Value} {d : DataW H} {p : List MemPlace} (_hv : Value.okWide Tryz.prog W .any b0 46 v) (h : DataW.Trod enc Tryz.prog W 0 (fun _ => true) true 46 v d p) (hb : Rows.uptoBulk d ≤ 1048576) :
    ∃ (s : Sl) (l : List EE), v = .slice s.a l.length s.cap ∧ RowsXE W s.a l := by
  obtain ⟨a, len, cap, rfl⟩ := okWide_slice Tryz.underlying46 _hv
  obtain ⟨fuel, hf⟩ := h
  exact read_ents (x := (d, p)) hf hb
end
end Go.Proofs.YtnpddjmjdpgohaaGreatDoor
