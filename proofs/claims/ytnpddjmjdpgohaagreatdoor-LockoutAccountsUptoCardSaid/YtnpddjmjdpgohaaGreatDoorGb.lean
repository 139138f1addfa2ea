/- Part b of the proof about watchword's lockout: texts Y4 Y5 Y6. -/
import Derived.Test.YtnpddjmjdpgohaaGreatDoorGa
import Derived.Test.YtnpddjmjdpgohaaGreatDoorG7
import Derived.Test.YtnpddjmjdpgohaaGreatDoorGQ
import Derived.Test.YtnpddjmjdpgohaaGreatDoorGM

namespace Go.WW
open Go.RowKit
def delAll (N : List (ByteArray × Value)) (ps : List Prin) : List (ByteArray × Value) := ps.foldl (fun m p => delM m (textOf p)) N
theorem delAll_snoc (N : List (ByteArray × Value)) (ps : List Prin) (p : Prin) : delAll N (ps ++ [p]) = delM (delAll N ps) (textOf p) := by simp [delAll]
theorem take_snoc {α : Type} {l : List α} {k : Nat} {x : α} (h : l[k]? = some x) : l.take (k + 1) = l.take k ++ [x] := by rw [List.take_add_one, h]; rfl
def delE (E : List EE) (k : ByteArray) : List EE := E.filter fun y => decide (textOf y.2.name ≠ k)
theorem delE_map (E : List EE) (k : ByteArray) : delM (E.map fun x => (textOf x.2.name, Value.agg (encX x))) k = (delE E k).map fun x => (textOf x.2.name, Value.agg (encX x)) := by
  unfold delM delE
  rw [List.filter_map]
  rfl
theorem But.past {S T : Nat → Prop} {w a b : World} (h : But S w a) (k : But T a b) (hT : ∀ j, T j → w.heap.size ≤ j) : But S w b :=
  ⟨k.os.trans h.os, k.tape.trans h.tape, k.output.trans h.output, Nat.le_trans h.size k.size, fun j hj hn => (k.block j (Nat.lt_of_lt_of_le hj h.size) (fun t => by have := hT j t; omega)).trans (h.block j hj hn)⟩
end Go.WW
namespace Go.Proofs.YtnpddjmjdpgohaaGreatDoor
open Go.RowKit Go.WW
theorem look_ent {w : World} {e : Nat} {E : List EE} (h : MapOf w e (E.map fun x => (textOf x.2.name, Value.agg (encX x)))) (x : EE) (hx : x ∈ E) : (Instr.lookup 94 (.map (some e)) (.string (textOf x.2.name)) true).run Tryz.prog w = .ok (.tuple #[.agg (entC x.1 x.2), .bool true]) w := by
  have := look_yes (P := Tryz.prog) true Tryz.underlying94 Tryz.underlying9 h (List.mem_map.2 ⟨x, hx, rfl⟩)
  exact this
attribute [local go_sem] Oper.semAt_some
set_option maxRecDepth 100000 in
set_option maxHeartbeats 2000000 in
theorem remove_yes (b n e p : Nat) (re : ByteArray) (s : Int) (N : List (ByteArray × Value)) (E : List EE) (P : List Policy) (x : EE) (w : World) (h : DbAt w b n e p re s N E P) (hx : x ∈ E) (he : EntAt w x.1 x.2) (hok : ∀ q ∈ x.2.name :: x.2.aliases, prinOk q = true) :
    Calls Tryz.prog 48 #[.pointer (some ⟨b, 0, none⟩), .string (textOf x.2.name)] w fun r w' => r = .returned (.tuple #[]) ∧ But (ofDb b n e p) w w' ∧ DbAt w' b n e p re s (delAll N (x.2.name :: x.2.aliases)) (delE E (textOf x.2.name)) P := by
  have hB : Below w.heap.size w (w.alloc (.cells #[.pointer (some ⟨b, 0, none⟩)] 133)) := (Below.refl _ _).alloc (Nat.le_refl _) _
  have h' := h.later hB
  have hx3 : (w.alloc (.cells #[.pointer (some ⟨b, 0, none⟩)] 133)).heap[w.heap.size]? = some (.cells #[.pointer (some ⟨b, 0, none⟩)] 133) := World.alloc_heap_new _ _
  refine (callsIn_wide (n := 0)).1 ?_
  refine callsIn_of_wp_marks Tryz.func48 rfl trivial ?_ rfl
  simp only [Tryz.ntmps48, List.size_toArray, List.length_cons, List.length_nil, Nat.reduceAdd, Nat.reduceSub, Array.replicate_succ, Array.replicate_zero, List.push_toArray, List.append_toArray, List.nil_append, List.cons_append]
  have hlk := look_ent h'.em x hx
  obtain ⟨c0, c1, c2, c3, c4, f1, hl⟩ := box5 h'.box
  have hWs : (w.alloc (.cells #[.pointer (some ⟨b, 0, none⟩)] 133)).heap.size = w.heap.size + 1 := by simp
  have hct : (w.alloc (.cells #[.pointer (some ⟨b, 0, none⟩)] 133)).cell? ⟨w.heap.size, 0, none⟩ = some (.pointer (some ⟨b, 0, none⟩)) := (box_facts hx3).1 0
  gi_wp2
  have hB2 : Below w.heap.size w ((w.alloc (.cells #[.pointer (some ⟨b, 0, none⟩)] 133)).alloc (.cells (entC x.1 x.2) 31)) := below_new hB _
  have ht2 : ((w.alloc (.cells #[.pointer (some ⟨b, 0, none⟩)] 133)).alloc (.cells (entC x.1 x.2) 31)).heap[w.heap.size]? = some (.cells #[.pointer (some ⟨b, 0, none⟩)] 133) := (Below.heap_alloc _ _ _ (by simp)).trans hx3
  have hs2 : w.heap.size < ((w.alloc (.cells #[.pointer (some ⟨b, 0, none⟩)] 133)).alloc (.cells (entC x.1 x.2) 31)).heap.size := by simp; omega
  clear hB h' hx3 hlk c0 c1 c2 c3 c4 f1 hl hWs hct
  generalize (w.alloc (.cells #[.pointer (some ⟨b, 0, none⟩)] 133)).alloc (.cells (entC x.1 x.2) 31) = W2 at *
  refine ⟨trivial, rfl, (callsIn_wide.2 (names_c _ _ _ (he.later hB2))).mono ?_⟩
  rintro r w3 ⟨bN, sN, X, rfl, hb3, hbN, hcN, hX, hd⟩
  have hB3 := below_step hB2 hb3
  have h3 := h.later hB3
  have ht3 := still_blk hb3 ht2
  have hs3 := hb3.size
  have hnl := h.nm.lt
  have hws := hB3.size
  dsimp only
  gi_wp2
  refine (wpIn_wide (n := 0)).2 ?_
  refine wp_range_but (gf := 104) (lb := #[.pointer (some ⟨bN, 0, none⟩)]) (by simp [go_sem]) (enters_of Tryz.func104 (by kernel_rfl) rfl) (S := one n) ?_ (xs := X) (V := VN) ?_ (names1_seq bN sN X (one n) w3 hcN ?_ ?_)
    (fun c1 k Wc => But (one n) w3 Wc ∧ MapOf Wc n (delAll N ((X.map (·.2)).take k)) ∧ w3.heap.size < c1) (fun _ _ _ _ => False) ?_ ?_ ?_ ?_ ?_ ?_
  · rintro k (rfl : k = n); omega
  · rintro c1 xx v W0 Wc ⟨s', rfl, _⟩; rfl
  · rintro k (rfl : k = n); omega
  · intro y hy
    exact hd y fun k hk => hy.block k hk.2 fun hk' => by
      rcases hk' with (e : k = n) | e
      · have := hk.1; have := hB2.size; omega
      · have := hk.2; omega
  · intro c1 Wc h1 h2 hb
    exact ⟨But.of_below hb, h3.nm.at (hb.block n h3.nm.lt), h1⟩
  · rintro c1 k Wc Wc' ⟨h1, h2, h4⟩ hb
    refine ⟨h1.past hb (fun j hj => hj.1), h2.at (hb.block n h2.lt fun hj => ?_), h4⟩
    have := hj.1
    have := h3.nm.lt
    omega
  · rintro c c1 k Wc Wc' hf
    exact hf.elim
  · rintro c1 k xx v W0 Wc hxx ⟨s', rfl, hp⟩ ⟨hbu0, hm0, hc0⟩ hbs hc1 hc20
    have hsW := hbs.size
    have hc2 : c1 ≤ Wc.heap.size := Nat.le_trans hc20 hsW
    have hbu : But (one n) w3 Wc := hbu0.past hbs (fun j hj => hj.1)
    have hm := hm0.at (hbs.block n hm0.lt (fun hj => by have := hj.1; have := h3.nm.lt; omega))
    clear hbu0 hm0 hbs
    obtain ⟨s0, q⟩ := xx
    have hqm : (X.map (·.2))[k]? = some q := by rw [List.getElem?_map, hxx]; rfl
    have hqok : prinOk q = true := hok q (by rw [← hX]; exact List.mem_of_getElem? hqm)
    have HP := Lib.hid hp
    clear hp
    dsimp only
    gi_wp2
    have hal : Below Wc.heap.size Wc (Wc.alloc (.cells (prinC s' q) 24)) := (Below.refl _ _).alloc (Nat.le_refl _) _
    refine ⟨hal, fun U hU => ?_⟩
    have hUp : U.heap[Wc.heap.size]? = some (.cells (prinC s' q) 24) := (hU.block _ (by simp) (not_one (by omega))).trans (World.alloc_heap_new _ _)
    have hUs : Wc.heap.size < U.heap.size := (Array.getElem?_eq_some_iff.1 hUp).1
    have hbuU : But (one n) w3 U := (hbu.trans (But.of_below hal)).past hU (fun j hj => by have : j = _ := hj; omega)
    have hmU : MapOf U n (delAll N ((X.map (·.2)).take k)) := hm.at ((hU.block n (by have := hm.lt; simp; omega) (not_one (by have := h3.nm.lt; omega))).trans (hal.block n hm.lt))
    have hPU : PrinAt U s' q := HP.out U fun j hj => (hU.block j (by have := hj.2; simp; omega) (not_one (by have := hj.1; omega))).trans (hal.block j hj.2)
    have hbn : b ≠ n := cells_ne_map h3.box h3.nm
    have htn : w.heap.size ≠ n := by omega
    have hUb : U.heap[b]? = some (.cells (dbC re s n e p) 99) := (hbuU.block b (Array.getElem?_eq_some_iff.1 h3.box).1 (not_one hbn)).trans h3.box
    have hUt : U.heap[w.heap.size]? = some (.cells #[.pointer (some ⟨b, 0, none⟩)] 133) := (hbuU.block _ (Array.getElem?_eq_some_iff.1 ht3).1 (not_one htn)).trans ht3
    clear hal hU hbu HP hm hsW
    obtain ⟨c0, c1', c2, c3, c4, f1, hl⟩ := box5 hUb
    have hct : U.cell? ⟨w.heap.size, 0, none⟩ = some (.pointer (some ⟨b, 0, none⟩)) := (box_facts hUt).1 0
    have hlt : w.heap.size < U.heap.size := (Array.getElem?_eq_some_iff.1 hUt).1
    have hrp : row? U Wc.heap.size 0 2 = some (prinC s' q) := by rw [row?_of_cells hUp]; exact subRow_whole (by simp [go_sem])
    have n1 := not_one hbn
    have n2 := not_one htn
    have n3 : ¬ one n Wc.heap.size := not_one (by have := h3.nm.lt; omega)
    gi_wp2
    refine TI.wpIn_region_sinceB (one n) (But.refl _ U) (by kernel_rfl) (by kernel_rfl) (by kernel_rfl) ?_
    repeat (first | (refine TI.text_skip (by rfl) ?_) | (refine TI.text_look (by rfl) (by rfl) (fun K hK => ?_); go_big_quiet_op; refine hK _ ?_; clear hK K))
    refine TI.text_act (by rfl) (by rfl) (by rfl) (fun K hK => ?_)
    go_wp2_with fail
    refine (key_c _ _ U.drew (hPU.later (Below.refl _ _).drew) hqok).mono ?_
    rintro r U2 ⟨rfl, hbk⟩
    dsimp only
    have hbb : Below U.heap.size U U2 := (Below.refl _ U).drew.trans hbk
    refine hK _ _ (sinceB_of (But.of_below hbb)) ?_
    clear hK K
    obtain ⟨U3, hrun, hmU3, hbU3, hsU3⟩ := del_map (P := Tryz.prog) (k := textOf q) (ty := 0) (tys := #[93, 9]) rfl Tryz.underlying93 Tryz.underlying9 (hmU.at (hbb.block n hmU.lt))
    have hbU3' : But (one n) U U3 := (But.of_below hbb).trans ⟨hbU3.os, hbU3.tape, hbU3.output, hbU3.size, hbU3.block⟩
    refine TI.text_act (by rfl) (by rfl) (by rfl) (fun K hK => ?_)
    go_wp2_with fail
    refine hK _ _ (sinceB_of hbU3') ?_
    clear hK K
    refine TI.text_nil ?_
    gi_wp2
    refine ⟨hbU3'.mono fun _ h => .inl h, hbuU.trans hbU3', ?_, by omega⟩
    rw [← hX, take_snoc hqm, delAll_snoc]
    exact hmU3
  · rintro c1 Wc ⟨hbu, hm, hc0⟩ hD
    rw [List.take_of_length_le (by simp), hX] at hm
    have hbn : b ≠ n := cells_ne_map h3.box h3.nm
    have htn : w.heap.size ≠ n := by omega
    have hen : e ≠ n := fun e' => h.ne.1 e'.symm
    have hUb : Wc.heap[b]? = some (.cells (dbC re s n e p) 99) := (hbu.block b (Array.getElem?_eq_some_iff.1 h3.box).1 (not_one hbn)).trans h3.box
    have hUt : Wc.heap[w.heap.size]? = some (.cells #[.pointer (some ⟨b, 0, none⟩)] 133) := (hbu.block _ (Array.getElem?_eq_some_iff.1 ht3).1 (not_one htn)).trans ht3
    have hme := h3.em.at (hbu.block e h3.em.lt (not_one hen))
    obtain ⟨U3, hrun, hmU3, hbU3, hsU3⟩ := del_map (P := Tryz.prog) (k := textOf x.2.name) (ty := 0) (tys := #[94, 9]) rfl Tryz.underlying94 Tryz.underlying9 hme
    rw [delE_map] at hmU3
    obtain ⟨k0, k1, k2, k3, k4, f1, hl⟩ := box5 hUb
    have hct : Wc.cell? ⟨w.heap.size, 0, none⟩ = some (.pointer (some ⟨b, 0, none⟩)) := (box_facts hUt).1 0
    gi_wp2
    have hD3 : U3.heap[w3.heap.size]? = some (.deferred (some [])) := (hbU3.block _ (Array.getElem?_eq_some_iff.1 hD).1 (by have := h3.em.lt; omega)).trans hD
    refine ⟨by simp, .inl ⟨_, _, rfl, run_takeDeferred hD3, ?_⟩⟩
    have hfin : But (one w3.heap.size) U3 (U3.putObj w3.heap.size (.deferred none)) := But.putObj _
    have he3 := h3.em.lt
    have hn3 := h3.nm.lt
    have hp3 := h3.pm.lt
    have hall : But (ofDb b n e p) w U3 := ((But.of_below hB3).trans (hbu.mono fun k (hk : k = n) => .inr (.inl hk))).trans (hbU3.mono fun k (hk : k = e) => .inr (.inr (.inl hk)))
    have hbe : b ≠ e := cells_ne_map h3.box h3.em
    refine ⟨.tuple #[], by simp [results, Tryz.f48, go_sem], rfl, hall.past hfin (fun j hj => by have : j = _ := hj; omega), ?_, ?_, ?_, ?_, h.ne⟩
    · exact (hfin.block b (by have := hbU3.size; omega) (not_one (by have := (Array.getElem?_eq_some_iff.1 h3.box).1; omega))).trans ((hbU3.block b hl hbe).trans hUb)
    · exact hm.at ((hfin.block n (by have := hbU3.size; have := hm.lt; omega) (not_one (by omega))).trans (hbU3.block n hm.lt (fun e' => h.ne.1 e')))
    · exact hmU3.at (hfin.block e hmU3.lt (not_one (by omega)))
    · have hpm := h3.pm.at (hbu.block p h3.pm.lt (not_one (fun e' => h.ne.2.1 e'.symm)))
      exact hpm.at ((hfin.block p (by have := hbU3.size; have := hpm.lt; omega) (not_one (by omega))).trans (hbU3.block p hpm.lt (fun e' => h.ne.2.2 e'.symm)))
  · intro c c1 k Wc hf
    exact hf.elim
end Go.Proofs.YtnpddjmjdpgohaaGreatDoor

namespace Go.WW
open Go.RowKit
def RemoveTo (N : List (ByteArray × Value)) (E : List EE) (k : ByteArray) (N1 : List (ByteArray × Value)) (E1 : List EE) : Prop :=
  (∃ x ∈ E, textOf x.2.name = k ∧ N1 = delAll N (x.2.name :: x.2.aliases) ∧ E1 = delE E k) ∨ ((∀ x ∈ E, textOf x.2.name ≠ k) ∧ N1 = N ∧ E1 = E)
theorem RemoveTo.no {N N1 : List (ByteArray × Value)} {E E1 : List EE} {k : ByteArray} (h : RemoveTo N E k N1 E1) : ∀ y ∈ E1, textOf y.2.name ≠ k := by
  rcases h with ⟨x, hx, rfl, rfl, rfl⟩ | ⟨h, rfl, rfl⟩
  · intro y hy
    simpa [delE] using (List.mem_filter.1 hy).2
  · exact h
def setAll (N : List (ByteArray × Value)) (k : ByteArray) (ps : List Prin) : List (ByteArray × Value) := ps.foldl (fun m p => setM m (textOf p) (.string k)) N
theorem setAll_snoc (N : List (ByteArray × Value)) (k : ByteArray) (ps : List Prin) (p : Prin) : setAll N k (ps ++ [p]) = setM (setAll N k ps) (textOf p) (.string k) := by simp [setAll]
theorem setE_map (E : List EE) (x : EE) (h : ∀ y ∈ E, textOf y.2.name ≠ textOf x.2.name) : setM (E.map fun x => (textOf x.2.name, Value.agg (encX x))) (textOf x.2.name) (.agg (encX x)) = (E ++ [x]).map fun x => (textOf x.2.name, Value.agg (encX x)) := by
  have hk : hasK (E.map fun x => (textOf x.2.name, Value.agg (encX x))) (textOf x.2.name) = false := by
    unfold hasK
    rw [List.any_eq_false]
    intro y hy
    obtain ⟨z, hz, rfl⟩ := List.mem_map.1 hy
    simpa using h z hz
  unfold setM
  rw [hk]
  simp
def KeptE (S : Nat → Prop) (w : World) (x : EE) : Prop := ∀ y, But S w y → EntAt y x.1 x.2
theorem KeptE.on {S : Nat → Prop} {w w' : World} {x : EE} (h : KeptE S w x) (hb : But S w w') : KeptE S w' x := fun y hy => h y (hb.trans hy)
theorem KeptE.out {S : Nat → Prop} {w : World} {x : EE} (h : KeptE S w x) : EntAt w x.1 x.2 := h w (But.refl _ _)
def nmsOk (d : Entry) : Prop := ∀ q ∈ d.name :: d.aliases, prinOk q = true
end Go.WW
namespace Go.Proofs.YtnpddjmjdpgohaaGreatDoor
open Go.RowKit Go.WW
theorem look_noent {w : World} {e : Nat} {E : List EE} (h : MapOf w e (E.map fun x => (textOf x.2.name, Value.agg (encX x)))) (k : ByteArray) (hk : ∀ x ∈ E, textOf x.2.name ≠ k) : (Instr.lookup 94 (.map (some e)) (.string k) true).run Tryz.prog w = .ok (.tuple #[.agg (entC zeroR zeroD), .bool false]) w := by
  have hn : k ∉ (E.map fun x => (textOf x.2.name, Value.agg (encX x))).map (·.1) := by
    intro hk'
    rw [List.map_map] at hk'
    obtain ⟨x, hx, e⟩ := List.mem_map.1 hk'
    exact hk x hx e
  have := look_no (P := Tryz.prog) (z := .agg (entC zeroR zeroD)) true Tryz.underlying94 Tryz.underlying9 h (by kernel_rfl) hn
  simpa using this
set_option maxRecDepth 100000 in
set_option maxHeartbeats 1000000 in
theorem remove_no (b n e p : Nat) (re : ByteArray) (s : Int) (N : List (ByteArray × Value)) (E : List EE) (P : List Policy) (k : ByteArray) (w : World) (h : DbAt w b n e p re s N E P) (hk : ∀ x ∈ E, textOf x.2.name ≠ k) :
    Calls Tryz.prog 48 #[.pointer (some ⟨b, 0, none⟩), .string k] w fun r w' => r = .returned (.tuple #[]) ∧ Below w.heap.size w w' := by
  have hB : Below w.heap.size w (w.alloc (.cells #[.pointer (some ⟨b, 0, none⟩)] 133)) := (Below.refl _ _).alloc (Nat.le_refl _) _
  have h' := h.later hB
  have hlk := look_noent h'.em k hk
  obtain ⟨c0, c1, c2, c3, c4, f1, hl⟩ := box5 h'.box
  go_enter Tryz.func48, Tryz.ntmps48
  go_wp2_with fail
  refine bodyPost_ret (results_none rfl _ _ _) rfl ⟨rfl, below_new hB _⟩
theorem remove_c (b n e p : Nat) (re : ByteArray) (s : Int) (N N1 : List (ByteArray × Value)) (E E1 : List EE) (P : List Policy) (k : ByteArray) (w : World) (h : DbAt w b n e p re s N E P) (hE : ∀ x ∈ E, KeptE (ofDb b n e p) w x ∧ nmsOk x.2) (hR : RemoveTo N E k N1 E1) :
    Calls Tryz.prog 48 #[.pointer (some ⟨b, 0, none⟩), .string k] w fun r w' => r = .returned (.tuple #[]) ∧ But (ofDb b n e p) w w' ∧ DbAt w' b n e p re s N1 E1 P := by
  rcases hR with ⟨x, hx, rfl, rfl, rfl⟩ | ⟨hk, rfl, rfl⟩
  · exact remove_yes b n e p re s N E P x w h hx (hE x hx).1.out (hE x hx).2
  · refine (remove_no b n e p re s _ _ P k w h hk).mono ?_
    rintro r w' ⟨rfl, hb⟩
    exact ⟨rfl, But.of_below hb, h.later hb⟩
attribute [local go_sem] Oper.semAt_some
set_option maxRecDepth 100000 in
set_option maxHeartbeats 2000000 in
theorem store_c (b n e p : Nat) (re : ByteArray) (s : Int) (N N1 : List (ByteArray × Value)) (E E1 : List EE) (P : List Policy) (r : ERaw) (d : Entry) (w : World) (h : DbAt w b n e p re s N E P) (hE : ∀ x ∈ E, KeptE (ofDb b n e p) w x ∧ nmsOk x.2) (hR : RemoveTo N E (textOf d.name) N1 E1) (he : KeptE (ofDb b n e p) w (r, d)) (hok : nmsOk d) :
    Calls Tryz.prog 72 #[.pointer (some ⟨b, 0, none⟩), .agg (entC r d)] w fun q w' => q = .returned (.tuple #[]) ∧ But (ofDb b n e p) w w' ∧ DbAt w' b n e p re s (setAll N1 (textOf d.name) (d.name :: d.aliases)) (E1 ++ [(r, d)]) P := by
  have hB : Below w.heap.size w ((w.alloc (.cells #[.pointer (some ⟨b, 0, none⟩)] 133)).alloc (.cells (entC r d) 31)) := below_new ((Below.refl _ _).alloc (Nat.le_refl _) _) _
  have ht0 : ((w.alloc (.cells #[.pointer (some ⟨b, 0, none⟩)] 133)).alloc (.cells (entC r d) 31)).heap[w.heap.size]? = some (.cells #[.pointer (some ⟨b, 0, none⟩)] 133) := second_blk _ _ _
  have he0 : ((w.alloc (.cells #[.pointer (some ⟨b, 0, none⟩)] 133)).alloc (.cells (entC r d) 31)).heap[w.heap.size + 1]? = some (.cells (entC r d) 31) := by
    have := World.alloc_heap_new (w.alloc (.cells #[.pointer (some ⟨b, 0, none⟩)] 133)) (.cells (entC r d) 31)
    rwa [World.size_alloc] at this
  refine (callsIn_wide (n := 0)).1 ?_
  refine callsIn_of_wp_marks Tryz.func72 rfl trivial ?_ rfl
  simp only [Tryz.ntmps72, List.size_toArray, List.length_cons, List.length_nil, Nat.reduceAdd, Nat.reduceSub, Array.replicate_succ, Array.replicate_zero, List.push_toArray, List.append_toArray, List.nil_append, List.cons_append]
  gi_wp2
  generalize (w.alloc (.cells #[.pointer (some ⟨b, 0, none⟩)] 133)).alloc (.cells (entC r d) 31) = W at *
  have h1 := h.later hB
  have hnb : ∀ k, w.heap.size ≤ k → ¬ ofDb b n e p k := fun k hk hd => by
    have q1 := (Array.getElem?_eq_some_iff.1 h.box).1
    have q2 := h.nm.lt
    have q3 := h.em.lt
    have q4 := h.pm.lt
    rcases hd with rfl | rfl | rfl | rfl <;> omega
  have n0 := hnb w.heap.size (Nat.le_refl _)
  have n1 := hnb (w.heap.size + 1) (by omega)
  have hct : W.cell? ⟨w.heap.size, 0, none⟩ = some (.pointer (some ⟨b, 0, none⟩)) := (box_facts ht0).1 0
  have hl0 : w.heap.size < W.heap.size := (Array.getElem?_eq_some_iff.1 ht0).1
  have hl1 : w.heap.size + 1 < W.heap.size := (Array.getElem?_eq_some_iff.1 he0).1
  have hre : row? W (w.heap.size + 1) 0 17 = some (entC r d) := by rw [row?_of_cells he0]; exact subRow_whole (by simp [go_sem])
  have hrn := ent_name_row hre
  have hno : ∀ q, q = d.name → prinOk q = true := fun q hq => hok q (by simp [hq])
  refine (wpIn_wide (n := 0)).2 ?_
  refine wp_region_sinceB (ofDb b n e p) (But.refl _ W) (by kernel_rfl) (by kernel_rfl) ?_
  repeat (first | (refine text_skip (by rfl) ?_) | (refine textN_look (by rfl) (by rfl) (fun K hK => ?_); go_big_quiet_op; refine hK _ ?_; clear hK K))
  refine textN_act (by rfl) (by rfl) (fun K hK => ?_)
  go_wp2_with fail
  refine (key_c _ _ W.drew ((he.out.name.later hB).later (Below.refl _ _).drew) (hno _ rfl)).mono ?_
  rintro q W1 ⟨rfl, hbk⟩
  dsimp only
  have hb1 : Below W.heap.size W W1 := (Below.refl _ W).drew.trans hbk
  refine hK _ _ (sinceB_of (But.of_below hb1)) ?_
  clear hK K
  repeat (first | (refine text_skip (by rfl) ?_) | (refine textN_look (by rfl) (by rfl) (fun K hK => ?_); go_big_quiet_op; refine hK _ ?_; clear hK K))
  refine textN_act (by rfl) (by rfl) (fun K hK => ?_)
  go_wp2_with fail
  have hBW1 := below_step hB hb1
  refine (remove_c b n e p re s N N1 E E1 P _ W1 (h1.later hb1) (fun x hx => ⟨(hE x hx).1.on (But.of_below hBW1), (hE x hx).2⟩) hR).mono ?_
  rintro q W2 ⟨rfl, hb2, h2⟩
  dsimp only
  have hbW2 : But (ofDb b n e p) W W2 := (But.of_below hb1).trans hb2
  refine hK _ _ (sinceB_of hbW2) ?_
  clear hK K
  refine text_nil ?_
  have hall2 : But (ofDb b n e p) w W2 := (But.of_below hB).trans hbW2
  have ht2 : W2.heap[w.heap.size]? = some (.cells #[.pointer (some ⟨b, 0, none⟩)] 133) := (hbW2.block _ hl0 n0).trans ht0
  have he2 : W2.heap[w.heap.size + 1]? = some (.cells (entC r d) 31) := (hbW2.block _ hl1 n1).trans he0
  clear hct hl0 hl1 hre hrn ht0 he0 hb1 hbk hBW1 hb2 hbW2 hB h1
  have hws : w.heap.size ≤ W2.heap.size := hall2.size
  obtain ⟨c0, c1, c2, c3, c4, f1, hl⟩ := box5 h2.box
  have hct : W2.cell? ⟨w.heap.size, 0, none⟩ = some (.pointer (some ⟨b, 0, none⟩)) := (box_facts ht2).1 0
  have hl0 : w.heap.size < W2.heap.size := (Array.getElem?_eq_some_iff.1 ht2).1
  have hl1 : w.heap.size + 1 < W2.heap.size := (Array.getElem?_eq_some_iff.1 he2).1
  have hre : row? W2 (w.heap.size + 1) 0 17 = some (entC r d) := by rw [row?_of_cells he2]; exact subRow_whole (by simp [go_sem])
  have hrn := ent_name_row hre
  have hel := h.em.lt
  have m0 : ¬ one e w.heap.size := not_one (by omega)
  have m1 : ¬ one e (w.heap.size + 1) := not_one (by omega)
  have m2 : ¬ one e b := not_one (cells_ne_map h.box h.em)
  gi_wp2
  refine (wpIn_wide (n := 0)).2 ?_
  refine wp_region_sinceB (one e) (But.refl _ W2) (by kernel_rfl) (by kernel_rfl) ?_
  repeat (first | (refine text_skip (by rfl) ?_) | (refine textN_look (by rfl) (by rfl) (fun K hK => ?_); go_big_quiet_op; refine hK _ ?_; clear hK K))
  refine textN_act (by rfl) (by rfl) (fun K hK => ?_)
  go_wp2_with fail
  refine (key_c _ _ W2.drew ((he W2 hall2).name.later (Below.refl _ _).drew) (hno _ rfl)).mono ?_
  rintro q W3 ⟨rfl, hbk⟩
  dsimp only
  have hb3 : Below W2.heap.size W2 W3 := (Below.refl _ W2).drew.trans hbk
  refine hK _ _ (sinceB_of (But.of_below hb3)) ?_
  clear hK K
  repeat (first | (refine text_skip (by rfl) ?_) | (refine textN_look (by rfl) (by rfl) (fun K hK => ?_); go_big_quiet_op; refine hK _ ?_; clear hK K))
  obtain ⟨W4, hrun, hmW4, hb4, hs4⟩ := upd_map (P := Tryz.prog) (k := textOf d.name) (v := .agg (entC r d)) Tryz.underlying94 Tryz.underlying9 (h2.em.at (hb3.block e h2.em.lt))
  rw [show Value.agg (entC r d) = Value.agg (encX (r, d)) from rfl, setE_map E1 (r, d) hR.no] at hmW4
  have hb4' : But (one e) W2 W4 := (But.of_below hb3).trans ⟨hb4.os, hb4.tape, hb4.output, hb4.size, hb4.block⟩
  refine textN_act (by rfl) (by rfl) (fun K hK => ?_)
  go_wp2_with fail
  refine hK _ _ (sinceB_of hb4') ?_
  clear hK K
  refine text_nil ?_
  have hall4 : But (ofDb b n e p) w W4 := hall2.trans (hb4'.mono fun k hk => .inr (.inr (.inl hk)))
  have ht4 : W4.heap[w.heap.size]? = some (.cells #[.pointer (some ⟨b, 0, none⟩)] 133) := (hb4'.block _ hl0 m0).trans ht2
  have he4 : W4.heap[w.heap.size + 1]? = some (.cells (entC r d) 31) := (hb4'.block _ hl1 m1).trans he2
  have h4 : DbAt W4 b n e p re s N1 (E1 ++ [(r, d)]) P := ⟨(hb4'.block b hl m2).trans h2.box, h2.nm.at (hb4'.block n h2.nm.lt (not_one h.ne.1)), hmW4, h2.pm.at (hb4'.block p h2.pm.lt (not_one (fun e' => h.ne.2.2 e'.symm))), h.ne⟩
  clear hct hl0 hl1 hre hrn c0 c1 c2 c3 c4 f1 hl hrun hmW4 hb4 hs4 hbk hb3 hb4'
  have hct : W4.cell? ⟨w.heap.size, 0, none⟩ = some (.pointer (some ⟨b, 0, none⟩)) := (box_facts ht4).1 0
  have hl1 : w.heap.size + 1 < W4.heap.size := (Array.getElem?_eq_some_iff.1 he4).1
  have hre : row? W4 (w.heap.size + 1) 0 17 = some (entC r d) := by rw [row?_of_cells he4]; exact subRow_whole (by simp [go_sem])
  gi_wp2
  refine ⟨trivial, rfl, (callsIn_wide.2 (names_c _ _ _ (he W4 hall4))).mono ?_⟩
  rintro q w3 ⟨bN, sN, X, rfl, hb3, hbN, hcN, hX, hd⟩
  have h3 := h4.later hb3
  have hall3 : But (ofDb b n e p) w w3 := hall4.trans (But.of_below hb3)
  have ht3 := still_blk hb3 ht4
  have he3 := still_blk hb3 he4
  have hs3 := hb3.size
  have hnl := h.nm.lt
  have hw4 := hall4.size
  clear hct hl1 hre ht2 he2 h2 hall2
  dsimp only
  gi_wp2
  refine (wpIn_wide (n := 0)).2 ?_
  refine wp_range_but (gf := 104) (lb := #[.pointer (some ⟨bN, 0, none⟩)]) (by simp [go_sem]) (enters_of Tryz.func104 (by kernel_rfl) rfl) (S := one n) ?_ (xs := X) (V := VN) ?_ (names1_seq bN sN X (one n) w3 hcN ?_ ?_)
    (fun c1 k Wc => But (one n) w3 Wc ∧ MapOf Wc n (setAll N1 (textOf d.name) ((X.map (·.2)).take k)) ∧ w3.heap.size < c1) (fun _ _ _ _ => False) ?_ ?_ ?_ ?_ ?_ ?_
  · rintro k (rfl : k = n); omega
  · rintro c1 xx v W0 Wc ⟨s', rfl, _⟩; rfl
  · rintro k (rfl : k = n); omega
  · intro y hy
    exact hd y fun k hk => hy.block k hk.2 fun hk' => by
      rcases hk' with (e : k = n) | e
      · have := hk.1; omega
      · have := hk.2; omega
  · intro c1 Wc h1 h2 hb
    exact ⟨But.of_below hb, h3.nm.at (hb.block n h3.nm.lt), h1⟩
  · rintro c1 k Wc Wc' ⟨h1, h2, h4⟩ hb
    refine ⟨h1.past hb (fun j hj => hj.1), h2.at (hb.block n h2.lt fun hj => ?_), h4⟩
    have := hj.1
    have := h3.nm.lt
    omega
  · rintro c c1 k Wc Wc' hf
    exact hf.elim
  · rintro c1 k xx v W0 Wc hxx ⟨s', rfl, hp⟩ ⟨hbu0, hm0, hc0⟩ hbs hc1 hc20
    have hsW := hbs.size
    have hc2 : c1 ≤ Wc.heap.size := Nat.le_trans hc20 hsW
    have hbu : But (one n) w3 Wc := hbu0.past hbs (fun j hj => hj.1)
    have hm := hm0.at (hbs.block n hm0.lt (fun hj => by have := hj.1; have := h3.nm.lt; omega))
    clear hbu0 hm0 hbs
    obtain ⟨s0, q⟩ := xx
    have hqm : (X.map (·.2))[k]? = some q := by rw [List.getElem?_map, hxx]; rfl
    have hqok : prinOk q = true := hok q (by rw [← hX]; exact List.mem_of_getElem? hqm)
    have HP := Lib.hid hp
    clear hp
    dsimp only
    gi_wp2
    have hal : Below Wc.heap.size Wc (Wc.alloc (.cells (prinC s' q) 24)) := (Below.refl _ _).alloc (Nat.le_refl _) _
    refine ⟨hal, fun U hU => ?_⟩
    have hUp : U.heap[Wc.heap.size]? = some (.cells (prinC s' q) 24) := (hU.block _ (by simp) (not_one (by omega))).trans (World.alloc_heap_new _ _)
    have hUs : Wc.heap.size < U.heap.size := (Array.getElem?_eq_some_iff.1 hUp).1
    have hbuU : But (one n) w3 U := (hbu.trans (But.of_below hal)).past hU (fun j hj => by have : j = _ := hj; omega)
    have hmU : MapOf U n (setAll N1 (textOf d.name) ((X.map (·.2)).take k)) := hm.at ((hU.block n (by have := hm.lt; simp; omega) (not_one (by have := h3.nm.lt; omega))).trans (hal.block n hm.lt))
    have hPU : PrinAt U s' q := HP.out U fun j hj => (hU.block j (by have := hj.2; simp; omega) (not_one (by have := hj.1; omega))).trans (hal.block j hj.2)
    have hEU : PrinAt U r.parts d.name := (he U (hall3.trans (hbuU.mono fun j hj => .inr (.inl hj)))).name
    have hbn : b ≠ n := cells_ne_map h3.box h3.nm
    have htn : w.heap.size ≠ n := by omega
    have htn1 : w.heap.size + 1 ≠ n := by omega
    have hUb : U.heap[b]? = some (.cells (dbC re s n e p) 99) := (hbuU.block b (Array.getElem?_eq_some_iff.1 h3.box).1 (not_one hbn)).trans h3.box
    have hUt : U.heap[w.heap.size]? = some (.cells #[.pointer (some ⟨b, 0, none⟩)] 133) := (hbuU.block _ (Array.getElem?_eq_some_iff.1 ht3).1 (not_one htn)).trans ht3
    have hUe : U.heap[w.heap.size + 1]? = some (.cells (entC r d) 31) := (hbuU.block _ (Array.getElem?_eq_some_iff.1 he3).1 (not_one htn1)).trans he3
    clear hal hU hbu HP hm hsW
    obtain ⟨c0, c1', c2, c3, c4, f1, hl⟩ := box5 hUb
    have hct : U.cell? ⟨w.heap.size, 0, none⟩ = some (.pointer (some ⟨b, 0, none⟩)) := (box_facts hUt).1 0
    have hlt : w.heap.size < U.heap.size := (Array.getElem?_eq_some_iff.1 hUt).1
    have hlt1 : w.heap.size + 1 < U.heap.size := (Array.getElem?_eq_some_iff.1 hUe).1
    have hrp : row? U Wc.heap.size 0 2 = some (prinC s' q) := by rw [row?_of_cells hUp]; exact subRow_whole (by simp [go_sem])
    have hrn : row? U (w.heap.size + 1) 0 2 = some (prinC r.parts d.name) := ent_name_row (d := d) (by rw [row?_of_cells hUe]; exact subRow_whole (by simp [go_sem]))
    have o1 := not_one hbn
    have o2 := not_one htn
    have o4 := not_one htn1
    have o3 : ¬ one n Wc.heap.size := not_one (by have := h3.nm.lt; omega)
    gi_wp2
    refine TI.wpIn_region_sinceB (one n) (But.refl _ U) (by kernel_rfl) (by kernel_rfl) (by kernel_rfl) ?_
    repeat (first | (refine TI.text_skip (by rfl) ?_) | (refine TI.text_look (by rfl) (by rfl) (fun K hK => ?_); go_big_quiet_op; refine hK _ ?_; clear hK K))
    refine TI.text_act (by rfl) (by rfl) (by rfl) (fun K hK => ?_)
    go_wp2_with fail
    refine (key_c _ _ U.drew (hPU.later (Below.refl _ _).drew) hqok).mono ?_
    rintro z U2 ⟨rfl, hbk⟩
    dsimp only
    have hbb : Below U.heap.size U U2 := (Below.refl _ U).drew.trans hbk
    refine hK _ _ (sinceB_of (But.of_below hbb)) ?_
    clear hK K
    repeat (first | (refine TI.text_skip (by rfl) ?_) | (refine TI.text_look (by rfl) (by rfl) (fun K hK => ?_); go_big_quiet_op; refine hK _ ?_; clear hK K))
    refine TI.text_act (by rfl) (by rfl) (by rfl) (fun K hK => ?_)
    go_wp2_with fail
    refine (key_c _ _ U2 (hEU.later hbb) (hno _ rfl)).mono ?_
    rintro z U2' ⟨rfl, hbk'⟩
    dsimp only
    have hbb' := below_step hbb hbk'
    refine hK _ _ (sinceB_of (But.of_below hbb')) ?_
    clear hK K
    obtain ⟨U3, hrun, hmU3, hbU3, hsU3⟩ := upd_map (P := Tryz.prog) (k := textOf q) (v := .string (textOf d.name)) Tryz.underlying93 Tryz.underlying9 (hmU.at (hbb'.block n hmU.lt))
    have hbU3' : But (one n) U U3 := (But.of_below hbb').trans ⟨hbU3.os, hbU3.tape, hbU3.output, hbU3.size, hbU3.block⟩
    refine TI.text_act (by rfl) (by rfl) (by rfl) (fun K hK => ?_)
    go_wp2_with fail
    refine hK _ _ (sinceB_of hbU3') ?_
    clear hK K
    refine TI.text_nil ?_
    gi_wp2
    refine ⟨hbU3'.mono fun _ h => .inl h, hbuU.trans hbU3', ?_, by omega⟩
    rw [← hX, take_snoc hqm, setAll_snoc]
    exact hmU3
  · rintro c1 Wc ⟨hbu, hm, hc0⟩ hD
    rw [List.take_of_length_le (by simp), hX] at hm
    have hbn : b ≠ n := cells_ne_map h3.box h3.nm
    gi_wp2
    refine ⟨by simp, .inl ⟨_, _, rfl, run_takeDeferred hD, ?_⟩⟩
    have hfin : But (one w3.heap.size) Wc (Wc.putObj w3.heap.size (.deferred none)) := But.putObj _
    have hbs := hbu.size
    have hb3' := (Array.getElem?_eq_some_iff.1 h3.box).1
    have he3' := h3.em.lt
    have hn3' := h3.nm.lt
    have hp3' := h3.pm.lt
    have hall : But (ofDb b n e p) w Wc := hall3.trans (hbu.mono fun k hk => .inr (.inl hk))
    refine ⟨.tuple #[], by simp [results, Tryz.f72, go_sem], rfl, hall.past hfin (fun j hj => by have : j = _ := hj; omega), ?_, ?_, ?_, ?_, h.ne⟩
    · exact (hfin.block b (by omega) (not_one (by omega))).trans ((hbu.block b hb3' (not_one hbn)).trans h3.box)
    · exact hm.at (hfin.block n hm.lt (not_one (by omega)))
    · exact h3.em.at ((hfin.block e (by omega) (not_one (by omega))).trans (hbu.block e he3' (not_one (fun e' => h.ne.1 e'.symm))))
    · exact h3.pm.at ((hfin.block p (by omega) (not_one (by omega))).trans (hbu.block p hp3' (not_one (fun e' => h.ne.2.1 e'.symm))))
  · intro c c1 k Wc hf
    exact hf.elim
end Go.Proofs.YtnpddjmjdpgohaaGreatDoor

namespace Go.WW
open Go.RowKit
theorem text_skip_same {P : Program} {ops : Array Oper} {S : World → Prop} {st : Oper → Bool} {Q : Act → World → Prop} {o : Oper} {rest : List Oper} {a : Act} {w : World} (hw : Region.wanted o (yielded ops a.tmps) = false) (hs : a.put o.dst undef = a) (h : wpText P ops st S Q rest a w) : wpText P ops st S Q (o :: rest) a w :=
  text_skip hw (by rw [hs]; exact h)
theorem wp_region_since2N {P : Program} {id : Nat} {Q' : Exit → Act → World → Prop} {a : Act} {W w : World} {l : List Oper} (x c : Nat) (idx : List Nat) (hW : Below W.heap.size W w) (hm : P.follows .mixedOrders = true) (hB : textB2 looksN l.toArray x c = true) (hi : mv x c (List.range l.toArray.size) = idx)
    (h : ∀ w1, Below W.heap.size W w1 → wpText P l.toArray looksN (since W) (fun a' w' => Q' .normal a' w') l a w1)
    (h2 : ∀ w1, Below W.heap.size W w1 → wpText P l.toArray looksN (since W) (fun a' w' => Q' .normal a' w') (pick l idx) a w1) : (Code.region id l.toArray true).wp P Q' a w :=
  wp_region_text2 (since W) looksN x c idx hm hB hi ⟨⟨w.drew, hW.drew⟩, rfl⟩ (h _ hW.drew) (h2 _ hW.drew)
def strM (L : List (ByteArray × ByteArray)) : List (ByteArray × Value) := L.map fun x => (x.1, Value.string x.2)
def busyN (L : List (ByteArray × ByteArray)) (d : Entry) : Prop := ∃ q ∈ d.name :: d.aliases, ∃ o, (textOf q, o) ∈ L ∧ o ≠ textOf d.name
def freeN (L : List (ByteArray × ByteArray)) (k : ByteArray) (ps : List Prin) : Prop := ∀ q ∈ ps, ∀ o, (textOf q, o) ∈ L → o = k
theorem freeN_snoc {L : List (ByteArray × ByteArray)} {k : ByteArray} {ps : List Prin} {q : Prin} (h : freeN L k ps) (hq : ∀ o, (textOf q, o) ∈ L → o = k) : freeN L k (ps ++ [q]) := by
  intro x hx
  rcases List.mem_append.1 hx with hx | hx
  · exact h x hx
  · obtain rfl : x = q := by simpa using hx
    exact hq
theorem strM_key {L : List (ByteArray × ByteArray)} {k : ByteArray} (h : ∀ o, (k, o) ∉ L) : k ∉ (strM L).map (·.1) := by
  intro hk
  simp only [strM, List.map_map, List.mem_map, Function.comp] at hk
  obtain ⟨⟨a, o⟩, hx, rfl⟩ := hk
  exact h o hx
end Go.WW
namespace Go.Proofs.YtnpddjmjdpgohaaGreatDoor
open Go.RowKit Go.WW
def putW (w : World) (b : Nat) (r : ERaw) (d : Entry) : World := ((w.alloc (.cells #[.pointer (some ⟨b, 0, none⟩)] 48)).alloc (.cells (entC r d) 31)).alloc (.cells #[.int .i64 0] 36)
theorem putW_facts (w : World) (b : Nat) (r : ERaw) (d : Entry) : Below w.heap.size w (putW w b r d) ∧ (putW w b r d).heap[w.heap.size]? = some (.cells #[.pointer (some ⟨b, 0, none⟩)] 48) ∧ (putW w b r d).heap[w.heap.size + 1]? = some (.cells (entC r d) 31) ∧ (putW w b r d).heap[w.heap.size + 1 + 1]? = some (.cells #[.int .i64 0] 36) ∧ (putW w b r d).heap.size = w.heap.size + 1 + 1 + 1 := by
  unfold putW
  refine ⟨below_new (below_new ((Below.refl _ _).alloc (Nat.le_refl _) _) _) _, ?_, ?_, ?_, by simp⟩
  · rw [Below.heap_alloc _ _ _ (by simp; omega)]; exact second_blk _ _ _
  · rw [Below.heap_alloc _ _ _ (by simp)]
    have := World.alloc_heap_new (w.alloc (.cells #[.pointer (some ⟨b, 0, none⟩)] 48)) (.cells (entC r d) 31)
    rwa [World.size_alloc] at this
  · have := World.alloc_heap_new ((w.alloc (.cells #[.pointer (some ⟨b, 0, none⟩)] 48)).alloc (.cells (entC r d) 31)) (.cells #[.int .i64 0] 36)
    simpa using this
theorem look_names {w : World} {n : Nat} {L : List (ByteArray × ByteArray)} (h : MapOf w n (strM L)) {k o : ByteArray} (hx : (k, o) ∈ L) : (Instr.lookup 93 (.map (some n)) (.string k) true).run Tryz.prog w = .ok (.tuple #[.string o, .bool true]) w := by
  have := look_yes (P := Tryz.prog) true Tryz.underlying93 Tryz.underlying9 h (List.mem_map.2 ⟨(k, o), hx, rfl⟩)
  exact this
theorem look_nonames {w : World} {n : Nat} {L : List (ByteArray × ByteArray)} (h : MapOf w n (strM L)) {k : ByteArray} (hx : ∀ o, (k, o) ∉ L) : (Instr.lookup 93 (.map (some n)) (.string k) true).run Tryz.prog w = .ok (.tuple #[.string ⟨#[]⟩, .bool false]) w := by
  have := look_no (P := Tryz.prog) (z := .string ⟨#[]⟩) true Tryz.underlying93 Tryz.underlying9 h (by kernel_rfl) (strM_key hx)
  simpa using this
theorem look_anyent (E : List EE) (k : ByteArray) : ∃ (r0 : ERaw) (d0 : Entry) (ok : Bool), ∀ (w : World) (e : Nat), MapOf w e (E.map fun x => (textOf x.2.name, Value.agg (encX x))) → (Instr.lookup 94 (.map (some e)) (.string k) true).run Tryz.prog w = .ok (.tuple #[.agg (entC r0 d0), .bool ok]) w := by
  by_cases h : ∃ x ∈ E, textOf x.2.name = k
  · obtain ⟨x, hx, rfl⟩ := h
    exact ⟨x.1, x.2, true, fun w e hm => look_ent hm x hx⟩
  · exact ⟨zeroR, zeroD, false, fun w e hm => look_noent hm k (fun x hx e' => h ⟨x, hx, e'⟩)⟩
theorem look_anypol (P : List Policy) (k : ByteArray) : ∃ (q0 : Policy) (ok : Bool), (∀ (w : World) (p : Nat), MapOf w p (P.map fun q => (q.name, Value.agg (polC q))) → (Instr.lookup 95 (.map (some p)) (.string k) true).run Tryz.prog w = .ok (.tuple #[.agg (polC q0), .bool ok]) w) ∧ ok = P.any (fun x => decide (x.name = k)) := by
  cases h : P.any (fun x => decide (x.name = k)) with
  | true =>
    obtain ⟨q, hq, e⟩ := List.any_eq_true.1 h
    have e' : q.name = k := by simpa using e
    subst e'
    exact ⟨q, true, fun w p hm => look_pol hm q hq, rfl⟩
  | false => exact ⟨zeroP, false, fun w p hm => look_nopol hm k h, rfl⟩
attribute [local irreducible] wpText
set_option maxRecDepth 100000 in
set_option maxHeartbeats 1000000 in
theorem dput_bad (b n e p : Nat) (re : ByteArray) (s : Int) (N : List (ByteArray × Value)) (E : List EE) (P : List Policy) (r : ERaw) (d : Entry) (w : World) (h : DbAt w b n e p re s N E P) (hre : ¬ re = ⟨#[]⟩) (he : EntAt w r d) (hv : entryOk d = false) :
    Calls Tryz.prog 39 #[.pointer (some ⟨b, 0, none⟩), .agg (entC r d)] w fun q w' => q = .returned (.int .i64 2) ∧ Below w.heap.size w w' := by
  obtain ⟨hB, ht, hee, hr4, hsz⟩ := putW_facts w b r d
  go_enter Tryz.func39, Tryz.ntmps39
  go_wp2_with fail
  have he' := he.later hB
  have h' := h.later hB
  unfold putW at hB ht hee hr4 hsz he' h'
  generalize ((w.alloc (.cells #[.pointer (some ⟨b, 0, none⟩)] 48)).alloc (.cells (entC r d) 31)).alloc (.cells #[.int .i64 0] 36) = W at *
  obtain ⟨c0, c1, c2, c3, c4, f1, hl⟩ := box5 h'.box
  refine (dnone_no _ _ _ c0 hre).mono ?_
  rintro x w' ⟨rfl, rfl⟩
  dsimp only
  have hre17 : row? W (w.heap.size + 1) 0 17 = some (entC r d) := by rw [row?_of_cells hee]; exact subRow_whole (by simp [go_sem])
  have hecell := (box_facts hee).1
  have hct : W.cell? ⟨w.heap.size, 0, none⟩ = some (.pointer (some ⟨b, 0, none⟩)) := (box_facts ht).1 0
  have hc4 : W.cell? ⟨w.heap.size + 1 + 1, 0, none⟩ = some (.int .i64 0) := (box_facts hr4).1 0
  have hf4 := (box_facts hr4).2.1
  have l0 : w.heap.size < W.heap.size := by omega
  have l1 : w.heap.size + 1 < W.heap.size := by omega
  have l2 : w.heap.size + 1 + 1 < W.heap.size := by omega
  clear hsz
  go_wp2_with fail
  refine wp_region_sinceN (Below.refl _ W) (by kernel_rfl) (by kernel_rfl) ?_
  intro w1 hb1
  repeat (first | (refine text_skip (by rfl) ?_) | (refine textN_look (by rfl) (by rfl) (fun K hK => ?_); go_big_quiet_op; refine hK _ ?_; clear hK K))
  refine textN_act (by rfl) (by rfl) (fun K hK => ?_)
  go_wp2_with fail
  refine (eValid_c r d w1 (he'.later hb1)).mono ?_
  rintro q w2 ⟨rfl, hb2⟩
  rw [hv]
  dsimp only
  have hb2' := below_step hb1 hb2
  refine hK _ _ (since_of hb2') ?_
  clear hK K
  iterate 2 (refine textN_look (by kernel_rfl) (by kernel_rfl) (fun K hK => ?_); go_big_quiet_op; refine hK _ ?_; clear hK K)
  iterate 9 (refine text_skip_same (by kernel_rfl) (by kernel_rfl) ?_)
  iterate 1 (refine textN_look (by kernel_rfl) (by kernel_rfl) (fun K hK => ?_); go_big_quiet_op; refine hK _ ?_; clear hK K)
  refine text_nil ?_
  have hctV : w2.cell? ⟨w.heap.size, 0, none⟩ = some (.pointer (some ⟨b, 0, none⟩)) := (hb2'.cell l0).trans hct
  have hc4V : w2.cell? ⟨w.heap.size + 1 + 1, 0, none⟩ = some (.int .i64 0) := (hb2'.cell l2).trans hc4
  have hf4V : w2.frozen? ⟨w.heap.size + 1 + 1, 0, none⟩ = false := (hb2'.frozen l2).trans (hf4 0)
  have hr4V : w2.heap[w.heap.size + 1 + 1]? = some (.cells #[.int .i64 0] 36) := (hb2'.block _ l2).trans hr4
  have l2V : w.heap.size + 1 + 1 < w2.heap.size := (Array.getElem?_eq_some_iff.1 hr4V).1
  go_wp2_with fail
  have hset := setCell_blk (o := 0) (.int .i64 2) hr4V
  have hfc : (w2.setCell ⟨w.heap.size + 1 + 1, 0, none⟩ (.int .i64 2)).cell? ⟨w.heap.size + 1 + 1, 0, none⟩ = some (.int .i64 2) := (box_facts hset).1 0
  refine bodyPost_ret (v := .int .i64 2) (by simp [results, Tryz.results39, go_sem, hfc]) rfl ?_
  exact ⟨rfl, (below_step hB hb2').setCell (show w.heap.size ≤ w.heap.size + 1 + 1 by omega) _⟩
set_option maxRecDepth 100000 in
set_option maxHeartbeats 1000000 in
theorem dput_realm (b n e p : Nat) (re : ByteArray) (s : Int) (N : List (ByteArray × Value)) (E : List EE) (P : List Policy) (r : ERaw) (d : Entry) (w : World) (h : DbAt w b n e p re s N E P) (hre : ¬ re = ⟨#[]⟩) (he : EntAt w r d) (hv : entryOk d = true) (hrl : ¬ d.name.realm = re) :
    Calls Tryz.prog 39 #[.pointer (some ⟨b, 0, none⟩), .agg (entC r d)] w fun q w' => q = .returned (.int .i64 2) ∧ Below w.heap.size w w' := by
  have hrl' := str_ne _ _ hrl
  obtain ⟨hB, ht, hee, hr4, hsz⟩ := putW_facts w b r d
  go_enter Tryz.func39, Tryz.ntmps39
  go_wp2_with fail
  have he' := he.later hB
  have h' := h.later hB
  unfold putW at hB ht hee hr4 hsz he' h'
  generalize ((w.alloc (.cells #[.pointer (some ⟨b, 0, none⟩)] 48)).alloc (.cells (entC r d) 31)).alloc (.cells #[.int .i64 0] 36) = W at *
  obtain ⟨c0, c1, c2, c3, c4, f1, hl⟩ := box5 h'.box
  refine (dnone_no _ _ _ c0 hre).mono ?_
  rintro x w' ⟨rfl, rfl⟩
  dsimp only
  have hre17 : row? W (w.heap.size + 1) 0 17 = some (entC r d) := by rw [row?_of_cells hee]; exact subRow_whole (by simp [go_sem])
  have hecell := (box_facts hee).1
  have hct : W.cell? ⟨w.heap.size, 0, none⟩ = some (.pointer (some ⟨b, 0, none⟩)) := (box_facts ht).1 0
  have hc4 : W.cell? ⟨w.heap.size + 1 + 1, 0, none⟩ = some (.int .i64 0) := (box_facts hr4).1 0
  have hf4 := (box_facts hr4).2.1
  have l0 : w.heap.size < W.heap.size := by omega
  have l1 : w.heap.size + 1 < W.heap.size := by omega
  have l2 : w.heap.size + 1 + 1 < W.heap.size := by omega
  clear hsz
  go_wp2_with fail
  refine wp_region_sinceN (Below.refl _ W) (by kernel_rfl) (by kernel_rfl) ?_
  intro w1 hb1
  repeat (first | (refine text_skip (by rfl) ?_) | (refine textN_look (by rfl) (by rfl) (fun K hK => ?_); go_big_quiet_op; refine hK _ ?_; clear hK K))
  refine textN_act (by rfl) (by rfl) (fun K hK => ?_)
  go_wp2_with fail
  refine (eValid_c r d w1 (he'.later hb1)).mono ?_
  rintro q w2 ⟨rfl, hb2⟩
  rw [hv]
  dsimp only
  have hb2' := below_step hb1 hb2
  refine hK _ _ (since_of hb2') ?_
  clear hK K
  iterate 12 (refine textN_look (by kernel_rfl) (by kernel_rfl) (fun K hK => ?_); go_big_quiet_op; refine hK _ ?_; clear hK K)
  refine text_nil ?_
  have hctV : w2.cell? ⟨w.heap.size, 0, none⟩ = some (.pointer (some ⟨b, 0, none⟩)) := (hb2'.cell l0).trans hct
  have hc4V : w2.cell? ⟨w.heap.size + 1 + 1, 0, none⟩ = some (.int .i64 0) := (hb2'.cell l2).trans hc4
  have hf4V : w2.frozen? ⟨w.heap.size + 1 + 1, 0, none⟩ = false := (hb2'.frozen l2).trans (hf4 0)
  have hr4V : w2.heap[w.heap.size + 1 + 1]? = some (.cells #[.int .i64 0] 36) := (hb2'.block _ l2).trans hr4
  have l2V : w.heap.size + 1 + 1 < w2.heap.size := (Array.getElem?_eq_some_iff.1 hr4V).1
  go_wp2_with fail
  have hset := setCell_blk (o := 0) (.int .i64 2) hr4V
  have hfc : (w2.setCell ⟨w.heap.size + 1 + 1, 0, none⟩ (.int .i64 2)).cell? ⟨w.heap.size + 1 + 1, 0, none⟩ = some (.int .i64 2) := (box_facts hset).1 0
  refine bodyPost_ret (v := .int .i64 2) (by simp [results, Tryz.results39, go_sem, hfc]) rfl ?_
  exact ⟨rfl, (below_step hB hb2').setCell (show w.heap.size ≤ w.heap.size + 1 + 1 by omega) _⟩
set_option maxRecDepth 100000 in
set_option maxHeartbeats 1000000 in
theorem dput_nopol (b n e p : Nat) (re : ByteArray) (s : Int) (N : List (ByteArray × Value)) (E : List EE) (P : List Policy) (r : ERaw) (d : Entry) (w : World) (h : DbAt w b n e p re s N E P) (hre : ¬ re = ⟨#[]⟩) (he : EntAt w r d) (hv : entryOk d = true) (hrl : d.name.realm = re) (hpe : ¬ d.policy = ⟨#[]⟩) (hP : P.any (fun x => decide (x.name = d.policy)) = false) :
    Calls Tryz.prog 39 #[.pointer (some ⟨b, 0, none⟩), .agg (entC r d)] w fun q w' => q = .returned (.int .i64 9) ∧ Below w.heap.size w w' := by
  have hrl' := str_eq _ _ hrl
  have hp0 := str_ne _ _ hpe
  have hp1 : ¬ d.policy.toList = [] := fun h => hpe (toList_inj (b := ⟨#[]⟩) (by rw [h, ByteArray.toList_eq]))
  have hp2 : d.policy.toList.isEmpty = false := by cases h : d.policy.toList <;> simp_all
  obtain ⟨hB, ht, hee, hr4, hsz⟩ := putW_facts w b r d
  go_enter Tryz.func39, Tryz.ntmps39
  go_wp2_with fail
  have he' := he.later hB
  have h' := h.later hB
  unfold putW at hB ht hee hr4 hsz he' h'
  generalize ((w.alloc (.cells #[.pointer (some ⟨b, 0, none⟩)] 48)).alloc (.cells (entC r d) 31)).alloc (.cells #[.int .i64 0] 36) = W at *
  obtain ⟨c0, c1, c2, c3, c4, f1, hl⟩ := box5 h'.box
  refine (dnone_no _ _ _ c0 hre).mono ?_
  rintro x w' ⟨rfl, rfl⟩
  dsimp only
  have hre17 : row? W (w.heap.size + 1) 0 17 = some (entC r d) := by rw [row?_of_cells hee]; exact subRow_whole (by simp [go_sem])
  have hecell := (box_facts hee).1
  have hct : W.cell? ⟨w.heap.size, 0, none⟩ = some (.pointer (some ⟨b, 0, none⟩)) := (box_facts ht).1 0
  have hc4 : W.cell? ⟨w.heap.size + 1 + 1, 0, none⟩ = some (.int .i64 0) := (box_facts hr4).1 0
  have hf4 := (box_facts hr4).2.1
  have l0 : w.heap.size < W.heap.size := by omega
  have l1 : w.heap.size + 1 < W.heap.size := by omega
  have l2 : w.heap.size + 1 + 1 < W.heap.size := by omega
  clear hsz
  go_wp2_with fail
  refine wp_region_sinceN (Below.refl _ W) (by kernel_rfl) (by kernel_rfl) ?_
  intro w1 hb1
  repeat (first | (refine text_skip (by rfl) ?_) | (refine textN_look (by rfl) (by rfl) (fun K hK => ?_); go_big_quiet_op; refine hK _ ?_; clear hK K))
  refine textN_act (by rfl) (by rfl) (fun K hK => ?_)
  go_wp2_with fail
  refine (eValid_c r d w1 (he'.later hb1)).mono ?_
  rintro q w2 ⟨rfl, hb2⟩
  rw [hv]
  dsimp only
  have hb2' := below_step hb1 hb2
  refine hK _ _ (since_of hb2') ?_
  clear hK K
  iterate 12 (refine textN_look (by kernel_rfl) (by kernel_rfl) (fun K hK => ?_); go_big_quiet_op; refine hK _ ?_; clear hK K)
  refine text_nil ?_
  have h2 := h'.later hb2'
  have hlk : ∀ x : Later w2, (Instr.lookup 95 (.map (some p)) (.string d.policy) true).run Tryz.prog x.w = .ok (.tuple #[.agg (polC zeroP), .bool false]) x.w := fun x => look_nopol (h2.pm.at (x.b.block p h2.pm.lt)) _ hP
  have ht2 := still_blk hb2' ht
  have he2 := still_blk hb2' hee
  have hr2 := still_blk hb2' hr4
  clear c0 c1 c2 c3 c4 f1 hl hre17 hecell hct hc4 hf4
  obtain ⟨c0, c1, c2, c3, c4, f1, hl⟩ := box5 h2.box
  have hecell := (box_facts he2).1
  have hct : w2.cell? ⟨w.heap.size, 0, none⟩ = some (.pointer (some ⟨b, 0, none⟩)) := (box_facts ht2).1 0
  have m0 : w.heap.size < w2.heap.size := (Array.getElem?_eq_some_iff.1 ht2).1
  have m1 : w.heap.size + 1 < w2.heap.size := (Array.getElem?_eq_some_iff.1 he2).1
  go_wp2_with fail
  refine wp_region_sinceN (Below.refl _ w2) (by kernel_rfl) (by kernel_rfl) ?_
  intro w3 hb3
  iterate 11 (refine textN_look (by kernel_rfl) (by kernel_rfl) (fun K hK => ?_); go_big_quiet_op; refine hK _ ?_; clear hK K)
  refine textN_act (by rfl) (by rfl) (fun K hK => ?_)
  go_wp2_with fail
  refine hK _ _ (since_of (below_new hb3 _)) ?_
  clear hK K
  refine textN_act (by rfl) (by rfl) (fun K hK => ?_)
  go_wp2_with fail
  refine hK _ _ (since_of (below_new hb3 (.cells (polC zeroP) 33))) ?_
  clear hK K
  iterate 1 (refine textN_look (by kernel_rfl) (by kernel_rfl) (fun K hK => ?_); go_big_quiet_op; refine hK _ ?_; clear hK K)
  refine text_nil ?_
  have hb4 := below_new hb3 (.cells (polC zeroP) 33)
  clear hb3 hlk
  generalize (w3.alloc (.cells (polC zeroP) 33)) = V at *
  have hb4' := below_step hb2' hb4
  have hecellV : V.cell? ⟨w.heap.size + 1, 6, none⟩ = some (.string d.policy) := (box_facts (still_blk hb4' hee)).1 6
  have m1V : w.heap.size + 1 < V.heap.size := by have := hb4.size; omega
  have hc4 : W.cell? ⟨w.heap.size + 1 + 1, 0, none⟩ = some (.int .i64 0) := (box_facts hr4).1 0
  have hf4 := (box_facts hr4).2.1
  have hct := (box_facts ht).1 0
  have hctV : V.cell? ⟨w.heap.size, 0, none⟩ = some (.pointer (some ⟨b, 0, none⟩)) := (hb4'.cell l0).trans hct
  have hc4V : V.cell? ⟨w.heap.size + 1 + 1, 0, none⟩ = some (.int .i64 0) := (hb4'.cell l2).trans hc4
  have hf4V : V.frozen? ⟨w.heap.size + 1 + 1, 0, none⟩ = false := (hb4'.frozen l2).trans (hf4 0)
  have hr4V : V.heap[w.heap.size + 1 + 1]? = some (.cells #[.int .i64 0] 36) := (hb4'.block _ l2).trans hr4
  have l2V : w.heap.size + 1 + 1 < V.heap.size := (Array.getElem?_eq_some_iff.1 hr4V).1
  go_wp2_with fail
  have hset := setCell_blk (o := 0) (.int .i64 9) hr4V
  have hfc : (V.setCell ⟨w.heap.size + 1 + 1, 0, none⟩ (.int .i64 9)).cell? ⟨w.heap.size + 1 + 1, 0, none⟩ = some (.int .i64 9) := (box_facts hset).1 0
  refine bodyPost_ret (v := .int .i64 9) (by simp [results, Tryz.results39, go_sem, hfc]) rfl ?_
  exact ⟨rfl, (below_step hB hb4').setCell (show w.heap.size ≤ w.heap.size + 1 + 1 by omega) _⟩
end Go.Proofs.YtnpddjmjdpgohaaGreatDoor
