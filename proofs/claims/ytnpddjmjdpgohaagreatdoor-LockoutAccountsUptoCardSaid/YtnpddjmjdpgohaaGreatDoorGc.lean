/- Part c of the proof about watchword's lockout: texts Y7. -/
import Derived.Test.YtnpddjmjdpgohaaGreatDoorGb
import Derived.Test.YtnpddjmjdpgohaaGreatDoorGP

namespace Go.Proofs.YtnpddjmjdpgohaaGreatDoor
open Go.RowKit Go.WW
attribute [local go_sem] Oper.semAt_some
attribute [local irreducible] wpText
def PutPost (b n e p : Nat) (re : ByteArray) (s : Int) (NL : List (ByteArray × ByteArray)) (N1 : List (ByteArray × Value)) (E1 : List EE) (P : List Policy) (d : Entry) (w : World) (q : Ending) (w' : World) : Prop :=
 (q = .returned (.int .i64 11) ∧ busyN NL d ∧ Below w.heap.size w w') ∨
 (q = .returned (.int .i64 0) ∧ freeN NL (textOf d.name) (d.name :: d.aliases) ∧ But (ofDb b n e p) w w' ∧ ∃ r', KeptE (fun k => k < w.heap.size) w' (r', d) ∧ DbAt w' b n e p re (s + 1) (setAll N1 (textOf d.name) (d.name :: d.aliases)) (E1 ++ [(r', d)]) P)
theorem not_ofDb {w : World} {b n e p : Nat} {re : ByteArray} {s : Int} {N : List (ByteArray × Value)} {E : List EE} {P : List Policy} (h : DbAt w b n e p re s N E P) : ∀ k, w.heap.size ≤ k → ¬ ofDb b n e p k := fun k hk hd => by
 have q1 := (Array.getElem?_eq_some_iff.1 h.box).1
 have q2 := h.nm.lt
 have q3 := h.em.lt
 have q4 := h.pm.lt
 rcases hd with rfl | rfl | rfl | rfl <;> omega
set_option maxRecDepth 100000 in
set_option maxHeartbeats 4000000 in
theorem dput_c (b n e p : Nat) (re : ByteArray) (s : Int) (NL : List (ByteArray × ByteArray)) (N1 : List (ByteArray × Value)) (E E1 : List EE) (P : List Policy) (r : ERaw) (d : Entry) (w : World) (h : DbAt w b n e p re s (strM NL) E P) (hre : ¬ re = ⟨#[]⟩) (he : EntAt w r d) (hE : ∀ x ∈ E, KeptE (ofDb b n e p) w x ∧ nmsOk x.2) (hR : RemoveTo (strM NL) E (textOf d.name) N1 E1) (hok : nmsOk d) (hv : entryOk d = true) (hrl : d.name.realm = re) (hpol : d.policy = ⟨#[]⟩ ∨ P.any (fun x => decide (x.name = d.policy)) = true) (hkeys : ∀ k o o', (k, o) ∈ NL → (k, o') ∈ NL → o = o') (hEl : E.length < 4096) (hs0 : 0 ≤ s) (hs1 : s < 1000000) :
  Calls Tryz.prog 39 #[.pointer (some ⟨b, 0, none⟩), .agg (entC r d)] w (PutPost b n e p re s NL N1 E1 P d w) := by
 have hrl' := str_eq _ _ hrl
 obtain ⟨q0, okp, hlp, hokp⟩ := look_anypol P d.policy
 obtain ⟨r0, d0, ok, hle⟩ := look_anyent E (textOf d.name)
 have HLE := Lib.hid hle
 have HLP := Lib.hid hlp
 have HOK := Lib.hid hokp
 clear hle hlp hokp
 obtain ⟨hB, ht, hee, hr4, hsz⟩ := putW_facts w b r d
 refine (callsIn_wide (n := 0)).1 ?_
 refine callsIn_of_wp_marks Tryz.func39 rfl trivial ?_ rfl
 simp only [Tryz.ntmps39, List.size_toArray, List.length_cons, List.length_nil, Nat.reduceAdd, Nat.reduceSub, Array.replicate_succ, Array.replicate_zero, List.push_toArray, List.append_toArray, List.nil_append, List.cons_append]
 gi_wp2
 have he' := he.later hB
 have h' := h.later hB
 unfold putW at hB ht hee hr4 hsz he' h'
 generalize ((w.alloc (.cells #[.pointer (some ⟨b, 0, none⟩)] 48)).alloc (.cells (entC r d) 31)).alloc (.cells #[.int .i64 0] 36) = W at *
 clear hsz
 have ht_W := still_blk (Below.refl _ W) ht
 have he_W := still_blk (Below.refl _ W) hee
 have hr_W := still_blk (Below.refl _ W) hr4
 have h_W := h'.later (Below.refl _ W)
 have l0 : w.heap.size < W.heap.size := (Array.getElem?_eq_some_iff.1 ht_W).1
 have l1 : w.heap.size + 1 < W.heap.size := (Array.getElem?_eq_some_iff.1 he_W).1
 have l2 : w.heap.size + 1 + 1 < W.heap.size := (Array.getElem?_eq_some_iff.1 hr_W).1
 obtain ⟨c0, c1', c2, c3, c4, f1, hl⟩ := box5 h_W.box
 have hre17 : row? W (w.heap.size + 1) 0 17 = some (entC r d) := by rw [row?_of_cells he_W]; exact subRow_whole (by simp [go_sem])
 have hrn : row? W (w.heap.size + 1) 0 2 = some (prinC r.parts d.name) := ent_name_row hre17
 have hecell := (box_facts he_W).1
 have hct : W.cell? ⟨w.heap.size, 0, none⟩ = some (.pointer (some ⟨b, 0, none⟩)) := (box_facts ht_W).1 0
 have hc4 : W.cell? ⟨w.heap.size + 1 + 1, 0, none⟩ = some (.int .i64 0) := (box_facts hr_W).1 0
 have hf4 : W.frozen? ⟨w.heap.size + 1 + 1, 0, none⟩ = false := (box_facts hr_W).2.1 0
 refine ⟨trivial, rfl, (callsIn_wide.2 (dnone_no _ _ _ c0 hre)).mono ?_⟩
 rintro x w' ⟨rfl, rfl⟩
 dsimp only
 gi_wp2
 refine (wpIn_wide (n := 0)).2 ?_
 refine wp_region_sinceN (Below.refl _ W) (by kernel_rfl) (by kernel_rfl) ?_
 intro w1 hb1
 iterate 1 (refine textN_look (by kernel_rfl) (by kernel_rfl) (fun K hK => ?_); go_big_quiet_op; refine hK _ ?_; clear hK K)
 refine textN_act (by rfl) (by rfl) (fun K hK => ?_)
 go_wp2_with fail
 refine (eValid_c r d w1 (he'.later hb1)).mono ?_
 rintro q w2 ⟨rfl, hb2⟩
 rw [hv]
 dsimp only
 have hb2' := below_step hb1 hb2
 refine hK _ _ (since_of hb2') ?_
 clear hK K
 iterate 12 (refine textN_look (by kernel_rfl) (by kernel_rfl) (fun K hK => ?_); go_big_quiet_op; refine hK _ ?_; clear hK K)
 refine text_nil ?_
 clear c0 c1' c2 c3 c4 f1 hl hre17 hrn hecell hct hc4 hf4 l0 l1 l2
 have ht_w2 := still_blk hb2' ht
 have he_w2 := still_blk hb2' hee
 have hr_w2 := still_blk hb2' hr4
 have h_w2 := h'.later hb2'
 have l0 : w.heap.size < w2.heap.size := (Array.getElem?_eq_some_iff.1 ht_w2).1
 have l1 : w.heap.size + 1 < w2.heap.size := (Array.getElem?_eq_some_iff.1 he_w2).1
 have l2 : w.heap.size + 1 + 1 < w2.heap.size := (Array.getElem?_eq_some_iff.1 hr_w2).1
 obtain ⟨c0, c1', c2, c3, c4, f1, hl⟩ := box5 h_w2.box
 have hre17 : row? w2 (w.heap.size + 1) 0 17 = some (entC r d) := by rw [row?_of_cells he_w2]; exact subRow_whole (by simp [go_sem])
 have hrn : row? w2 (w.heap.size + 1) 0 2 = some (prinC r.parts d.name) := ent_name_row hre17
 have hecell := (box_facts he_w2).1
 have hct : w2.cell? ⟨w.heap.size, 0, none⟩ = some (.pointer (some ⟨b, 0, none⟩)) := (box_facts ht_w2).1 0
 have hc4 : w2.cell? ⟨w.heap.size + 1 + 1, 0, none⟩ = some (.int .i64 0) := (box_facts hr_w2).1 0
 have hf4 : w2.frozen? ⟨w.heap.size + 1 + 1, 0, none⟩ = false := (box_facts hr_w2).2.1 0
 have hlk : ∀ x : Later w2, (Instr.lookup 95 (.map (some p)) (.string d.policy) true).run Tryz.prog x.w = .ok (.tuple #[.agg (polC q0), .bool okp]) x.w := fun x => HLP.out _ _ (h_w2.pm.at (x.b.block p h_w2.pm.lt))
 gi_wp2
 refine (wpIn_wide (n := 0)).2 ?_
 refine wp_region_sinceN (Below.refl _ w2) (by kernel_rfl) (by kernel_rfl) ?_
 intro wq hbq
 iterate 11 (refine textN_look (by kernel_rfl) (by kernel_rfl) (fun K hK => ?_); go_big_quiet_op; refine hK _ ?_; clear hK K)
 refine textN_act (by rfl) (by rfl) (fun K hK => ?_)
 go_wp2_with fail
 refine hK _ _ (since_of (below_new hbq _)) ?_
 clear hK K
 refine textN_act (by rfl) (by rfl) (fun K hK => ?_)
 go_wp2_with fail
 refine hK _ _ (since_of (below_new hbq (.cells (polC q0) 33))) ?_
 clear hK K
 iterate 1 (refine textN_look (by kernel_rfl) (by kernel_rfl) (fun K hK => ?_); go_big_quiet_op; refine hK _ ?_; clear hK K)
 refine text_nil ?_
 have hb4 := below_step hb2' (below_new hbq (.cells (polC q0) 33))
 clear hbq hlk
 generalize (wq.alloc (.cells (polC q0) 33)) = V at *
 clear c0 c1' c2 c3 c4 f1 hl hre17 hrn hecell hct hc4 hf4 l0 l1 l2
 have ht_V := still_blk hb4 ht
 have he_V := still_blk hb4 hee
 have hr_V := still_blk hb4 hr4
 have h_V := h'.later hb4
 have l0 : w.heap.size < V.heap.size := (Array.getElem?_eq_some_iff.1 ht_V).1
 have l1 : w.heap.size + 1 < V.heap.size := (Array.getElem?_eq_some_iff.1 he_V).1
 have l2 : w.heap.size + 1 + 1 < V.heap.size := (Array.getElem?_eq_some_iff.1 hr_V).1
 obtain ⟨c0, c1', c2, c3, c4, f1, hl⟩ := box5 h_V.box
 have hre17 : row? V (w.heap.size + 1) 0 17 = some (entC r d) := by rw [row?_of_cells he_V]; exact subRow_whole (by simp [go_sem])
 have hrn : row? V (w.heap.size + 1) 0 2 = some (prinC r.parts d.name) := ent_name_row hre17
 have hecell := (box_facts he_V).1
 have hct : V.cell? ⟨w.heap.size, 0, none⟩ = some (.pointer (some ⟨b, 0, none⟩)) := (box_facts ht_V).1 0
 have hc4 : V.cell? ⟨w.heap.size + 1 + 1, 0, none⟩ = some (.int .i64 0) := (box_facts hr_V).1 0
 have hf4 : V.frozen? ⟨w.heap.size + 1 + 1, 0, none⟩ = false := (box_facts hr_V).2.1 0
 cases okp
 ·have hpe : d.policy = ⟨#[]⟩ := by
   rcases hpol with h | h
   ·exact h
   ·rw [← HOK.out] at h; cases h
  have hpc : V.cell? ⟨w.heap.size + 1, 6, none⟩ = some (.string ⟨#[]⟩) := by rw [hecell 6, entC_6, hpe]
  clear hecell
  have hecell : True := trivial
  gi_wp2
  refine ⟨trivial, rfl, (callsIn_wide.2 (names_c _ _ _ (he'.later hb4))).mono ?_⟩
  rintro q w3 ⟨bN, sN, X, rfl, hb3, hbN, hcN, hX, hd⟩
  have HBW3 := below_step hb4 hb3
  have hB3 := below_step hB HBW3
  have hbVs := hb3.size
  have hVs : w.heap.size + 1 + 1 < V.heap.size := l2
  dsimp only
  gi_wp2
  refine (wpIn_wide (n := 0)).2 ?_
  refine wp_range_but (gf := 104) (lb := #[.pointer (some ⟨bN, 0, none⟩)]) (by simp [go_sem]) (enters_of Tryz.func104 (by kernel_rfl) rfl) (S := one (w.heap.size + 1 + 1)) ?_ (xs := X) (V := VN) ?_ (names1_seq bN sN X (one (w.heap.size + 1 + 1)) w3 hcN ?_ ?_)
   (fun c1 k Wc => But (fun _ => False) w3 Wc ∧ freeN NL (textOf d.name) ((X.map (·.2)).take k) ∧ w3.heap.size < c1) (fun c c1 _ Wc => c = .ret ∧ busyN NL d ∧ But (one (w.heap.size + 1 + 1)) w3 Wc ∧ Wc.heap[w.heap.size + 1 + 1]? = some (.cells #[.int .i64 11] 36) ∧ w3.heap.size < c1) ?_ ?_ ?_ ?_ ?_ ?_
  ·rintro k (rfl : k = _); omega
  ·rintro c1 xx v W0 Wc ⟨s', rfl, _⟩; rfl
  ·rintro k (rfl : k = _); omega
  ·intro y hy
   exact hd y fun k hk => hy.block k hk.2 fun hk' => by
    rcases hk' with (e : k = _) | e
    ·have := hk.1; omega
    ·have := hk.2; omega
  ·intro c1 Wc h1 h2 hb
   exact ⟨But.of_below hb, by simp [freeN], h1⟩
  ·rintro c1 k Wc Wc' ⟨h1, h2, h4⟩ hb
   exact ⟨h1.past hb (fun j hj => hj.1), h2, h4⟩
  ·rintro c c1 k Wc Wc' ⟨h1, h2, h3, h4, h5⟩ hb
   exact ⟨h1, h2, h3.past hb (fun j hj => hj.1), (hb.block _ (Array.getElem?_eq_some_iff.1 h4).1 (fun hj => by have := hj.1; omega)).trans h4, h5⟩
  ·rintro c1 k xx v W0 Wc hxx ⟨s', rfl, hp⟩ ⟨hbu0, hfr, hc0⟩ hbs hc1 hc20
   have hsW := hbs.size
   have hc2 : c1 ≤ Wc.heap.size := Nat.le_trans hc20 hsW
   have hbu : But (fun _ => False) w3 Wc := hbu0.past hbs (fun j hj => hj.1)
   clear hbu0 hbs
   obtain ⟨s0, q⟩ := xx
   have hqm : (X.map (·.2))[k]? = some q := by rw [List.getElem?_map, hxx]; rfl
   have hqin : q ∈ d.name :: d.aliases := by rw [← hX]; exact List.mem_of_getElem? hqm
   have hqok : prinOk q = true := hok q hqin
   have HP := Lib.hid hp
   have HFR := Lib.hid hfr
   clear hp hfr
   dsimp only
   gi_wp2
   have hal : Below Wc.heap.size Wc (Wc.alloc (.cells (prinC s' q) 24)) := (Below.refl _ _).alloc (Nat.le_refl _) _
   refine ⟨hal, fun U hU => ?_⟩
   have hUp : U.heap[Wc.heap.size]? = some (.cells (prinC s' q) 24) := (hU.block _ (by simp) (not_one (by omega))).trans (World.alloc_heap_new _ _)
   have hUs : Wc.heap.size < U.heap.size := (Array.getElem?_eq_some_iff.1 hUp).1
   have hbuU : But (fun _ => False) w3 U := (hbu.trans (But.of_below hal)).past hU (fun j hj => by have : j = _ := hj; omega)
   have hbUw : Below w3.heap.size w3 U := hbuU.below (Nat.le_refl _) (fun _ hf => hf.elim)
   have hPU : PrinAt U s' q := HP.out U fun j hj => (hU.block j (by have := hj.2; simp; omega) (not_one (by have := hj.1; omega))).trans (hal.block j hj.2)
   have HBWU := below_step HBW3 hbUw
   have hrp : row? U Wc.heap.size 0 2 = some (prinC s' q) := by rw [row?_of_cells hUp]; exact subRow_whole (by simp [go_sem])
   clear hal hU hbu HP
   clear c0 c1' c2 c3 c4 f1 hl hre17 hrn hecell hct hc4 hf4 l0 l1 l2
   have ht_U := still_blk HBWU ht
   have he_U := still_blk HBWU hee
   have hr_U := still_blk HBWU hr4
   have h_U := h'.later HBWU
   have l0 : w.heap.size < U.heap.size := (Array.getElem?_eq_some_iff.1 ht_U).1
   have l1 : w.heap.size + 1 < U.heap.size := (Array.getElem?_eq_some_iff.1 he_U).1
   have l2 : w.heap.size + 1 + 1 < U.heap.size := (Array.getElem?_eq_some_iff.1 hr_U).1
   obtain ⟨c0, c1', c2, c3, c4, f1, hl⟩ := box5 h_U.box
   have hre17 : row? U (w.heap.size + 1) 0 17 = some (entC r d) := by rw [row?_of_cells he_U]; exact subRow_whole (by simp [go_sem])
   have hrn : row? U (w.heap.size + 1) 0 2 = some (prinC r.parts d.name) := ent_name_row hre17
   have hecell := (box_facts he_U).1
   have hct : U.cell? ⟨w.heap.size, 0, none⟩ = some (.pointer (some ⟨b, 0, none⟩)) := (box_facts ht_U).1 0
   have hc4 : U.cell? ⟨w.heap.size + 1 + 1, 0, none⟩ = some (.int .i64 0) := (box_facts hr_U).1 0
   have hf4 : U.frozen? ⟨w.heap.size + 1 + 1, 0, none⟩ = false := (box_facts hr_U).2.1 0
   have hEU : PrinAt U r.parts d.name := (he'.later HBWU).name
   have hnmU := h_U.nm
   by_cases hin : ∃ o, (textOf q, o) ∈ NL
   ·obtain ⟨o, ho⟩ := hin
    have hlk : ∀ x : LaterB (fun _ => False) U, (Instr.lookup 93 (.map (some n)) (.string (textOf q)) true).run Tryz.prog x.w = .ok (.tuple #[.string o, .bool true]) x.w := fun x => look_names (h_U.nm.at (x.b.block n h_U.nm.lt (fun hf => hf))) ho
    gi_wp2
    refine TI.wpIn_region_sinceB (fun _ => False) (But.refl _ U) (by kernel_rfl) (by kernel_rfl) (by kernel_rfl) ?_
    repeat (first | (refine TI.text_skip (by rfl) ?_) | (refine TI.text_look (by rfl) (by rfl) (fun K hK => ?_); go_big_quiet_op; refine hK _ ?_; clear hK K))
    refine TI.text_act (by rfl) (by rfl) (by rfl) (fun K hK => ?_)
    go_wp2_with fail
    refine (key_c _ _ U.drew (hPU.later (Below.refl _ _).drew) hqok).mono ?_
    rintro z U2 ⟨rfl, hbk⟩
    dsimp only
    have hbb : Below U.heap.size U U2 := (Below.refl _ U).drew.trans hbk
    refine hK _ _ (sinceB_of (But.of_below hbb)) ?_
    clear hK K
    repeat (first | (refine TI.text_skip (by rfl) ?_) | (refine TI.text_look (by rfl) (by rfl) (fun K hK => ?_); go_big_quiet_op; refine hK _ ?_; clear hK K))
    refine TI.text_nil ?_
    have he_2 := still_blk hbb he_U
    have hrn2 : row? U2 (w.heap.size + 1) 0 2 = some (prinC r.parts d.name) := ent_name_row (d := d) (by rw [row?_of_cells he_2]; exact subRow_whole (by simp [go_sem]))
    have l12 : w.heap.size + 1 < U2.heap.size := (Array.getElem?_eq_some_iff.1 he_2).1
    gi_wp2
    refine ⟨trivial, rfl, CallsIn.mono (F := Fence.wide.inRound (w3.heap.size + 1)) (callsIn_wide.2 (key_c _ _ U2 (hEU.later hbb) (hok _ (by simp)))) ?_⟩
    rintro z U3 ⟨rfl, hbk3⟩
    dsimp only
    have hbb3 := below_step hbb hbk3
    have hr3 := still_blk hbb3 hr_U
    have hc43 : U3.cell? ⟨w.heap.size + 1 + 1, 0, none⟩ = some (.int .i64 0) := (box_facts hr3).1 0
    have hf43 : U3.frozen? ⟨w.heap.size + 1 + 1, 0, none⟩ = false := (box_facts hr3).2.1 0
    have l23 : w.heap.size + 1 + 1 < U3.heap.size := (Array.getElem?_eq_some_iff.1 hr3).1
    by_cases hoe : o = textOf d.name
    ·have hoe' := str_eq _ _ hoe
     gi_wp2
     refine ⟨But.of_below hbb3, hbuU.trans (But.of_below hbb3), ?_, by omega⟩
     rw [← hX, take_snoc hqm]
     exact freeN_snoc HFR.out (fun o' ho' => by rw [hkeys _ _ _ ho' ho]; exact hoe)
    ·have hoe' := str_ne _ _ hoe
     gi_wp2
     have hset := setCell_blk (o := 0) (.int .i64 11) hr3
     have hbx : But (one (w.heap.size + 1 + 1)) U3 (U3.setCell ⟨w.heap.size + 1 + 1, 0, none⟩ (.int .i64 11)) := ⟨rfl, rfl, rfl, by simp [World.setCell], fun k _ hn' => Below.heap_setCell _ _ _ _ hn'⟩
     exact ⟨((But.of_below hbb3).trans hbx).mono fun _ h => .inl h, rfl, ⟨q, hqin, o, ho, hoe⟩, ((But.of_below hbUw).trans (But.of_below hbb3)).trans hbx, hset, by omega⟩
   ·have hno : ∀ o, (textOf q, o) ∉ NL := fun o ho => hin ⟨o, ho⟩
    have hlk : ∀ x : LaterB (fun _ => False) U, (Instr.lookup 93 (.map (some n)) (.string (textOf q)) true).run Tryz.prog x.w = .ok (.tuple #[.string ⟨#[]⟩, .bool false]) x.w := fun x => look_nonames (h_U.nm.at (x.b.block n h_U.nm.lt (fun hf => hf))) hno
    gi_wp2
    refine TI.wpIn_region_sinceB (fun _ => False) (But.refl _ U) (by kernel_rfl) (by kernel_rfl) (by kernel_rfl) ?_
    repeat (first | (refine TI.text_skip (by rfl) ?_) | (refine TI.text_look (by rfl) (by rfl) (fun K hK => ?_); go_big_quiet_op; refine hK _ ?_; clear hK K))
    refine TI.text_act (by rfl) (by rfl) (by rfl) (fun K hK => ?_)
    go_wp2_with fail
    refine (key_c _ _ U.drew (hPU.later (Below.refl _ _).drew) hqok).mono ?_
    rintro z U2 ⟨rfl, hbk⟩
    dsimp only
    have hbb : Below U.heap.size U U2 := (Below.refl _ U).drew.trans hbk
    refine hK _ _ (sinceB_of (But.of_below hbb)) ?_
    clear hK K
    repeat (first | (refine TI.text_skip (by rfl) ?_) | (refine TI.text_look (by rfl) (by rfl) (fun K hK => ?_); go_big_quiet_op; refine hK _ ?_; clear hK K))
    refine TI.text_nil ?_
    have he_2 := still_blk hbb he_U
    have hrn2 : row? U2 (w.heap.size + 1) 0 2 = some (prinC r.parts d.name) := ent_name_row (d := d) (by rw [row?_of_cells he_2]; exact subRow_whole (by simp [go_sem]))
    have l12 : w.heap.size + 1 < U2.heap.size := (Array.getElem?_eq_some_iff.1 he_2).1
    gi_wp2
    refine ⟨trivial, ?_⟩
    gi_wp2
    refine ⟨But.of_below hbb, hbuU.trans (But.of_below hbb), ?_, by omega⟩
    rw [← hX, take_snoc hqm]
    exact freeN_snoc HFR.out (fun o' ho' => absurd ho' (hno o'))
  ·rintro c1 Wc ⟨hbu, hfree, hc0⟩ hD
   rw [List.take_of_length_le (by simp), hX] at hfree
   have hbc : Below w3.heap.size w3 Wc := hbu.below (Nat.le_refl _) (fun _ hf => hf.elim)
   have HBWc := below_step HBW3 hbc
   clear c0 c1' c2 c3 c4 f1 hl hre17 hrn hecell hct hc4 hf4 l0 l1 l2
   have ht_Wc := still_blk HBWc ht
   have he_Wc := still_blk HBWc hee
   have hr_Wc := still_blk HBWc hr4
   have h_Wc := h'.later HBWc
   have l0 : w.heap.size < Wc.heap.size := (Array.getElem?_eq_some_iff.1 ht_Wc).1
   have l1 : w.heap.size + 1 < Wc.heap.size := (Array.getElem?_eq_some_iff.1 he_Wc).1
   have l2 : w.heap.size + 1 + 1 < Wc.heap.size := (Array.getElem?_eq_some_iff.1 hr_Wc).1
   obtain ⟨c0, c1', c2, c3, c4, f1, hl⟩ := box5 h_Wc.box
   have hre17 : row? Wc (w.heap.size + 1) 0 17 = some (entC r d) := by rw [row?_of_cells he_Wc]; exact subRow_whole (by simp [go_sem])
   have hrn : row? Wc (w.heap.size + 1) 0 2 = some (prinC r.parts d.name) := ent_name_row hre17
   have hecell := (box_facts he_Wc).1
   have hct : Wc.cell? ⟨w.heap.size, 0, none⟩ = some (.pointer (some ⟨b, 0, none⟩)) := (box_facts ht_Wc).1 0
   have hc4 : Wc.cell? ⟨w.heap.size + 1 + 1, 0, none⟩ = some (.int .i64 0) := (box_facts hr_Wc).1 0
   have hf4 : Wc.frozen? ⟨w.heap.size + 1 + 1, 0, none⟩ = false := (box_facts hr_Wc).2.1 0
   have hlk : ∀ x : Later Wc, (Instr.lookup 94 (.map (some e)) (.string (textOf d.name)) true).run Tryz.prog x.w = .ok (.tuple #[.agg (entC r0 d0), .bool ok]) x.w := fun x => HLE.out _ _ (h_Wc.em.at (x.b.block e h_Wc.em.lt))
   have hEc : PrinAt Wc r.parts d.name := (he'.later HBWc).name
   gi_wp2
   refine (wpIn_wide (n := 0)).2 ?_
   refine wp_region_since2N 12 7 [0, 1, 2, 3, 4, 5, 6, 12, 7, 8, 9, 10, 11, 13, 14] (Below.refl _ Wc) (by kernel_rfl) (by kernel_rfl) (by rfl) ?_ ?_
   ·intro v1 hv1
    iterate 7 (refine textN_look (by kernel_rfl) (by kernel_rfl) (fun K hK => ?_); go_big_quiet_op; refine hK _ ?_; clear hK K)
    refine textN_act (by rfl) (by rfl) (fun K hK => ?_)
    go_wp2_with fail
    refine (key_c _ _ v1 (hEc.later hv1) (hok _ (by simp))).mono ?_
    rintro z v2 ⟨rfl, hv2⟩
    dsimp only
    have hv2' := below_step hv1 hv2
    refine hK _ _ (since_of hv2') ?_
    clear hK K
    iterate 4 (refine textN_look (by kernel_rfl) (by kernel_rfl) (fun K hK => ?_); go_big_quiet_op; refine hK _ ?_; clear hK K)
    refine textN_act (by rfl) (by rfl) (fun K hK => ?_)
    go_wp2_with fail
    refine hK _ _ (since_of (below_new hv2' _)) ?_
    clear hK K
    refine textN_act (by rfl) (by rfl) (fun K hK => ?_)
    go_wp2_with fail
    refine hK _ _ (since_of (below_new hv2' (.cells (entC r0 d0) 31))) ?_
    clear hK K
    iterate 1 (refine textN_look (by kernel_rfl) (by kernel_rfl) (fun K hK => ?_); go_big_quiet_op; refine hK _ ?_; clear hK K)
    refine text_nil ?_
    have hV5 := below_new hv2' (.cells (entC r0 d0) 31)
    clear hlk hv1 hv2 hv2'
    generalize (v2.alloc (.cells (entC r0 d0) 31)) = V5 at *
    have HBW5 := below_step HBWc hV5
    have HB5 := below_step hB HBW5
    clear c0 c1' c2 c3 c4 f1 hl hre17 hrn hecell hct hc4 hf4 l0 l1 l2
    have ht_V5 := still_blk HBW5 ht
    have he_V5 := still_blk HBW5 hee
    have hr_V5 := still_blk HBW5 hr4
    have h_V5 := h'.later HBW5
    have l0 : w.heap.size < V5.heap.size := (Array.getElem?_eq_some_iff.1 ht_V5).1
    have l1 : w.heap.size + 1 < V5.heap.size := (Array.getElem?_eq_some_iff.1 he_V5).1
    have l2 : w.heap.size + 1 + 1 < V5.heap.size := (Array.getElem?_eq_some_iff.1 hr_V5).1
    obtain ⟨c0, c1', c2, c3, c4, f1, hl⟩ := box5 h_V5.box
    have hre17 : row? V5 (w.heap.size + 1) 0 17 = some (entC r d) := by rw [row?_of_cells he_V5]; exact subRow_whole (by simp [go_sem])
    have hrn : row? V5 (w.heap.size + 1) 0 2 = some (prinC r.parts d.name) := ent_name_row hre17
    have hecell := (box_facts he_V5).1
    have hct : V5.cell? ⟨w.heap.size, 0, none⟩ = some (.pointer (some ⟨b, 0, none⟩)) := (box_facts ht_V5).1 0
    have hc4 : V5.cell? ⟨w.heap.size + 1 + 1, 0, none⟩ = some (.int .i64 0) := (box_facts hr_V5).1 0
    have hf4 : V5.frozen? ⟨w.heap.size + 1 + 1, 0, none⟩ = false := (box_facts hr_V5).2.1 0
    have hD5 : V5.heap[w3.heap.size]? = some (.deferred (some [])) := still_blk hV5 hD
    have hln := len_map (P := Tryz.prog) (ty := 3) (tys := #[94]) rfl Tryz.underlying94 h_V5.em
    rw [List.length_map] at hln
    have h4096 : ¬ (4096 : Int) ≤ (E.length : Int) := by omega
    have n0 := not_ofDb h w.heap.size (Nat.le_refl _)
    have n1 := not_ofDb h (w.heap.size + 1) (by omega)
    have n2 := not_ofDb h (w.heap.size + 1 + 1) (by omega)
    have n3 := not_ofDb h w3.heap.size (by have := hB3.size; omega)
    cases ok
    ·gi_wp2
     refine (wpIn_wide (n := 0)).2 ?_
     refine wp_region_sinceB (ofDb b n e p) (But.refl _ V5) (by kernel_rfl) (by kernel_rfl) ?_
     iterate 4 (refine textN_look (by kernel_rfl) (by kernel_rfl) (fun K hK => ?_); go_big_quiet_op; refine hK _ ?_; clear hK K)
     refine textN_act (by rfl) (by rfl) (fun K hK => ?_)
     go_wp2_with fail
     refine (eCopy_c r d V5.drew ((he.later HB5).later (Below.refl _ _).drew)).mono ?_
     rintro q V6 ⟨r', rfl, hb6, hd6⟩
     dsimp only
     have hb6' : Below V5.heap.size V5 V6 := (Below.refl _ V5).drew.trans hb6
     refine hK _ _ (sinceB_of (But.of_below hb6')) ?_
     clear hK K
     refine textN_act (by rfl) (by rfl) (fun K hK => ?_)
     go_wp2_with fail
     have HB6 := below_step HB5 hb6'
     have hkv : ∀ y, But (fun k => k < V5.heap.size) V6 y → EntAt y r' d := fun y hy => hd6 y fun k hk => hy.block k hk.2 (fun hk' => by have h1 : V5.drew.heap.size ≤ k := hk.1; have h2 : V5.drew.heap.size = V5.heap.size := rfl; omega)
     have hdv : ∀ k, ofDb b n e p k → k < V5.heap.size := fun k hk => Nat.lt_of_not_le fun hge => not_ofDb h k (Nat.le_trans HB5.size hge) hk
     have hke : KeptE (ofDb b n e p) V6 (r', d) := fun y hy => hkv y (hy.mono hdv)
     refine (store_c b n e p re s (strM NL) N1 E E1 P r' d V6 (h.later HB6) (fun x hx => ⟨(hE x hx).1.on (But.of_below HB6), (hE x hx).2⟩) hR hke hok).mono ?_
     rintro q V7 ⟨rfl, hb7, h7⟩
     dsimp only
     have hb7' : But (ofDb b n e p) V5 V7 := (But.of_below hb6').trans hb7
     refine hK _ _ (sinceB_of hb7') ?_
     clear hK K
     refine text_nil ?_
     have hb67 : But (fun k => k < V5.heap.size) V6 V7 := hb7.mono hdv
     have hl2V : w.heap.size + 1 + 1 < V5.heap.size := l2
     have hl3V : w3.heap.size < V5.heap.size := (Array.getElem?_eq_some_iff.1 hD5).1
     have ht7 := (hb7'.block _ l0 n0).trans ht_V5
     have hr7 := (hb7'.block _ l2 n2).trans hr_V5
     have hD7 := (hb7'.block _ (Array.getElem?_eq_some_iff.1 hD5).1 n3).trans hD5
     have HB7 : But (ofDb b n e p) w V7 := (But.of_below HB5).trans hb7'
     clear c0 c1' c2 c3 c4 f1 hl hre17 hrn hecell hct hc4 hf4 l0 l1 l2 hln
     obtain ⟨c0, c1, c2, c3, c4, f1, hl⟩ := box5 h7.box
     have l0 : w.heap.size < V7.heap.size := (Array.getElem?_eq_some_iff.1 ht7).1
     have hct : V7.cell? ⟨w.heap.size, 0, none⟩ = some (.pointer (some ⟨b, 0, none⟩)) := (box_facts ht7).1 0
     gi_wp2
     refine ⟨trivial, rfl, (callsIn_wide.2 (advance_c b s V7 c1 f1 hs0 hs1)).mono ?_⟩
     rintro q w' ⟨rfl, rfl⟩
     dsimp only
     have hbw : b < w.heap.size := (Array.getElem?_eq_some_iff.1 h.box).1
     have hset8 := setCell_blk (o := 1) (.int .i64 (s + 1)) h7.box
     rw [dbC_set] at hset8
     have hoth : ∀ k, k ≠ b → (V7.setCell ⟨b, 1, none⟩ (.int .i64 (s + 1))).heap[k]? = V7.heap[k]? := fun k hk => Below.heap_setCell _ _ _ _ hk
     have hsz8 : (V7.setCell ⟨b, 1, none⟩ (.int .i64 (s + 1))).heap.size = V7.heap.size := by simp [World.setCell]
     have hr8 := (hoth _ (by omega)).trans hr7
     have hD8 := (hoth w3.heap.size (by have := hB3.size; omega)).trans hD7
     have hc8 : (V7.setCell ⟨b, 1, none⟩ (.int .i64 (s + 1))).cell? ⟨w.heap.size + 1 + 1, 0, none⟩ = some (.int .i64 0) := (box_facts hr8).1 0
     have hf8 : (V7.setCell ⟨b, 1, none⟩ (.int .i64 (s + 1))).frozen? ⟨w.heap.size + 1 + 1, 0, none⟩ = false := (box_facts hr8).2.1 0
     have l8 : w.heap.size + 1 + 1 < (V7.setCell ⟨b, 1, none⟩ (.int .i64 (s + 1))).heap.size := (Array.getElem?_eq_some_iff.1 hr8).1
     have HB8 : But (ofDb b n e p) w (V7.setCell ⟨b, 1, none⟩ (.int .i64 (s + 1))) := ⟨HB7.os, HB7.tape, HB7.output, by rw [hsz8]; exact HB7.size, fun k hk hn' => (hoth k (fun e' => hn' (.inl e'))).trans (HB7.block k hk hn')⟩
     have hnb : n ≠ b := fun e' => cells_ne_map h7.box h7.nm e'.symm
     have heb : e ≠ b := fun e' => cells_ne_map h7.box h7.em e'.symm
     have hpb : p ≠ b := fun e' => cells_ne_map h7.box h7.pm e'.symm
     have h8 : DbAt (V7.setCell ⟨b, 1, none⟩ (.int .i64 (s + 1))) b n e p re (s + 1) (setAll N1 (textOf d.name) (d.name :: d.aliases)) (E1 ++ [(r', d)]) P := ⟨hset8, h7.nm.at (hoth n hnb), h7.em.at (hoth e heb), h7.pm.at (hoth p hpb), h.ne⟩
     have hb68 : But (fun k => k < V5.heap.size) V6 (V7.setCell ⟨b, 1, none⟩ (.int .i64 (s + 1))) := hb67.trans ⟨rfl, rfl, rfl, by rw [hsz8]; exact Nat.le_refl _, fun k _ hn' => hoth k (fun e' => hn' (hdv k (.inl e')))⟩
     clear hset8 hoth hsz8 c0 c1 c2 c3 c4 f1 hl hct l0 hr7 hD7 ht7
     generalize V7.setCell ⟨b, 1, none⟩ (.int .i64 (s + 1)) = V8 at *
     gi_wp2
     have hw3 := hB3.size
     have hset9 := setCell_blk (o := 0) (.int .i64 0) hr8
     have hD9 : (V8.setCell ⟨w.heap.size + 1 + 1, 0, none⟩ (.int .i64 0)).heap[w3.heap.size]? = some (.deferred (some [])) := (Below.heap_setCell _ _ _ _ (show w3.heap.size ≠ w.heap.size + 1 + 1 by omega)).trans hD8
     refine ⟨by simp, .inl ⟨_, _, rfl, run_takeDeferred hD9, ?_⟩⟩
     have hoth9 : ∀ k, k ≠ w.heap.size + 1 + 1 → k ≠ w3.heap.size → ((V8.setCell ⟨w.heap.size + 1 + 1, 0, none⟩ (.int .i64 0)).putObj w3.heap.size (.deferred none)).heap[k]? = V8.heap[k]? := fun k h1 h2 => (World.putObj_heap_other h2).trans (Below.heap_setCell _ _ _ _ h1)
     have hsz9 : V8.heap.size ≤ ((V8.setCell ⟨w.heap.size + 1 + 1, 0, none⟩ (.int .i64 0)).putObj w3.heap.size (.deferred none)).heap.size := by simp [World.setCell, World.putObj]
     have hc9 : ((V8.setCell ⟨w.heap.size + 1 + 1, 0, none⟩ (.int .i64 0)).putObj w3.heap.size (.deferred none)).cell? ⟨w.heap.size + 1 + 1, 0, none⟩ = some (.int .i64 0) := (box_facts ((World.putObj_heap_other (show w.heap.size + 1 + 1 ≠ w3.heap.size by omega)).trans hset9)).1 0
     have hb9 : But (fun k => k = w.heap.size + 1 + 1 ∨ k = w3.heap.size) V8 ((V8.setCell ⟨w.heap.size + 1 + 1, 0, none⟩ (.int .i64 0)).putObj w3.heap.size (.deferred none)) := ⟨rfl, rfl, rfl, hsz9, fun k _ hn' => hoth9 k (fun e' => hn' (.inl e')) (fun e' => hn' (.inr e'))⟩
     refine ⟨.int .i64 0, by simp [results, Tryz.f39, go_sem, hc9], .inr ⟨rfl, hfree, HB8.past hb9 (fun k hk => by rcases hk with rfl | rfl <;> omega), r', fun y hy => hkv y ((hb68.trans (hb9.mono fun k hk => by rcases hk with rfl | rfl <;> assumption)).trans (hy.mono fun k hk => Nat.lt_of_lt_of_le hk HB5.size)), ?_⟩⟩
     have hlt8 : ∀ k, ofDb b n e p k → k < w.heap.size := fun k hk => Nat.lt_of_not_le fun hge => not_ofDb h k hge hk
     have hk9 : ∀ k, ofDb b n e p k → ((V8.setCell ⟨w.heap.size + 1 + 1, 0, none⟩ (.int .i64 0)).putObj w3.heap.size (.deferred none)).heap[k]? = V8.heap[k]? := fun k hk => hoth9 k (by have := hlt8 k hk; omega) (by have := hlt8 k hk; omega)
     exact ⟨(hk9 b (.inl rfl)).trans h8.box, h8.nm.at (hk9 n (.inr (.inl rfl))), h8.em.at (hk9 e (.inr (.inr (.inl rfl)))), h8.pm.at (hk9 p (.inr (.inr (.inr rfl)))), h.ne⟩
    ·gi_wp2
     refine (wpIn_wide (n := 0)).2 ?_
     refine wp_region_sinceB (ofDb b n e p) (But.refl _ V5) (by kernel_rfl) (by kernel_rfl) ?_
     iterate 4 (refine textN_look (by kernel_rfl) (by kernel_rfl) (fun K hK => ?_); go_big_quiet_op; refine hK _ ?_; clear hK K)
     refine textN_act (by rfl) (by rfl) (fun K hK => ?_)
     go_wp2_with fail
     refine (eCopy_c r d V5.drew ((he.later HB5).later (Below.refl _ _).drew)).mono ?_
     rintro q V6 ⟨r', rfl, hb6, hd6⟩
     dsimp only
     have hb6' : Below V5.heap.size V5 V6 := (Below.refl _ V5).drew.trans hb6
     refine hK _ _ (sinceB_of (But.of_below hb6')) ?_
     clear hK K
     refine textN_act (by rfl) (by rfl) (fun K hK => ?_)
     go_wp2_with fail
     have HB6 := below_step HB5 hb6'
     have hkv : ∀ y, But (fun k => k < V5.heap.size) V6 y → EntAt y r' d := fun y hy => hd6 y fun k hk => hy.block k hk.2 (fun hk' => by have h1 : V5.drew.heap.size ≤ k := hk.1; have h2 : V5.drew.heap.size = V5.heap.size := rfl; omega)
     have hdv : ∀ k, ofDb b n e p k → k < V5.heap.size := fun k hk => Nat.lt_of_not_le fun hge => not_ofDb h k (Nat.le_trans HB5.size hge) hk
     have hke : KeptE (ofDb b n e p) V6 (r', d) := fun y hy => hkv y (hy.mono hdv)
     refine (store_c b n e p re s (strM NL) N1 E E1 P r' d V6 (h.later HB6) (fun x hx => ⟨(hE x hx).1.on (But.of_below HB6), (hE x hx).2⟩) hR hke hok).mono ?_
     rintro q V7 ⟨rfl, hb7, h7⟩
     dsimp only
     have hb7' : But (ofDb b n e p) V5 V7 := (But.of_below hb6').trans hb7
     refine hK _ _ (sinceB_of hb7') ?_
     clear hK K
     refine text_nil ?_
     have hb67 : But (fun k => k < V5.heap.size) V6 V7 := hb7.mono hdv
     have hl2V : w.heap.size + 1 + 1 < V5.heap.size := l2
     have hl3V : w3.heap.size < V5.heap.size := (Array.getElem?_eq_some_iff.1 hD5).1
     have ht7 := (hb7'.block _ l0 n0).trans ht_V5
     have hr7 := (hb7'.block _ l2 n2).trans hr_V5
     have hD7 := (hb7'.block _ (Array.getElem?_eq_some_iff.1 hD5).1 n3).trans hD5
     have HB7 : But (ofDb b n e p) w V7 := (But.of_below HB5).trans hb7'
     clear c0 c1' c2 c3 c4 f1 hl hre17 hrn hecell hct hc4 hf4 l0 l1 l2 hln
     obtain ⟨c0, c1, c2, c3, c4, f1, hl⟩ := box5 h7.box
     have l0 : w.heap.size < V7.heap.size := (Array.getElem?_eq_some_iff.1 ht7).1
     have hct : V7.cell? ⟨w.heap.size, 0, none⟩ = some (.pointer (some ⟨b, 0, none⟩)) := (box_facts ht7).1 0
     gi_wp2
     refine ⟨trivial, rfl, (callsIn_wide.2 (advance_c b s V7 c1 f1 hs0 hs1)).mono ?_⟩
     rintro q w' ⟨rfl, rfl⟩
     dsimp only
     have hbw : b < w.heap.size := (Array.getElem?_eq_some_iff.1 h.box).1
     have hset8 := setCell_blk (o := 1) (.int .i64 (s + 1)) h7.box
     rw [dbC_set] at hset8
     have hoth : ∀ k, k ≠ b → (V7.setCell ⟨b, 1, none⟩ (.int .i64 (s + 1))).heap[k]? = V7.heap[k]? := fun k hk => Below.heap_setCell _ _ _ _ hk
     have hsz8 : (V7.setCell ⟨b, 1, none⟩ (.int .i64 (s + 1))).heap.size = V7.heap.size := by simp [World.setCell]
     have hr8 := (hoth _ (by omega)).trans hr7
     have hD8 := (hoth w3.heap.size (by have := hB3.size; omega)).trans hD7
     have hc8 : (V7.setCell ⟨b, 1, none⟩ (.int .i64 (s + 1))).cell? ⟨w.heap.size + 1 + 1, 0, none⟩ = some (.int .i64 0) := (box_facts hr8).1 0
     have hf8 : (V7.setCell ⟨b, 1, none⟩ (.int .i64 (s + 1))).frozen? ⟨w.heap.size + 1 + 1, 0, none⟩ = false := (box_facts hr8).2.1 0
     have l8 : w.heap.size + 1 + 1 < (V7.setCell ⟨b, 1, none⟩ (.int .i64 (s + 1))).heap.size := (Array.getElem?_eq_some_iff.1 hr8).1
     have HB8 : But (ofDb b n e p) w (V7.setCell ⟨b, 1, none⟩ (.int .i64 (s + 1))) := ⟨HB7.os, HB7.tape, HB7.output, by rw [hsz8]; exact HB7.size, fun k hk hn' => (hoth k (fun e' => hn' (.inl e'))).trans (HB7.block k hk hn')⟩
     have hnb : n ≠ b := fun e' => cells_ne_map h7.box h7.nm e'.symm
     have heb : e ≠ b := fun e' => cells_ne_map h7.box h7.em e'.symm
     have hpb : p ≠ b := fun e' => cells_ne_map h7.box h7.pm e'.symm
     have h8 : DbAt (V7.setCell ⟨b, 1, none⟩ (.int .i64 (s + 1))) b n e p re (s + 1) (setAll N1 (textOf d.name) (d.name :: d.aliases)) (E1 ++ [(r', d)]) P := ⟨hset8, h7.nm.at (hoth n hnb), h7.em.at (hoth e heb), h7.pm.at (hoth p hpb), h.ne⟩
     have hb68 : But (fun k => k < V5.heap.size) V6 (V7.setCell ⟨b, 1, none⟩ (.int .i64 (s + 1))) := hb67.trans ⟨rfl, rfl, rfl, by rw [hsz8]; exact Nat.le_refl _, fun k _ hn' => hoth k (fun e' => hn' (hdv k (.inl e')))⟩
     clear hset8 hoth hsz8 c0 c1 c2 c3 c4 f1 hl hct l0 hr7 hD7 ht7
     generalize V7.setCell ⟨b, 1, none⟩ (.int .i64 (s + 1)) = V8 at *
     gi_wp2
     have hw3 := hB3.size
     have hset9 := setCell_blk (o := 0) (.int .i64 0) hr8
     have hD9 : (V8.setCell ⟨w.heap.size + 1 + 1, 0, none⟩ (.int .i64 0)).heap[w3.heap.size]? = some (.deferred (some [])) := (Below.heap_setCell _ _ _ _ (show w3.heap.size ≠ w.heap.size + 1 + 1 by omega)).trans hD8
     refine ⟨by simp, .inl ⟨_, _, rfl, run_takeDeferred hD9, ?_⟩⟩
     have hoth9 : ∀ k, k ≠ w.heap.size + 1 + 1 → k ≠ w3.heap.size → ((V8.setCell ⟨w.heap.size + 1 + 1, 0, none⟩ (.int .i64 0)).putObj w3.heap.size (.deferred none)).heap[k]? = V8.heap[k]? := fun k h1 h2 => (World.putObj_heap_other h2).trans (Below.heap_setCell _ _ _ _ h1)
     have hsz9 : V8.heap.size ≤ ((V8.setCell ⟨w.heap.size + 1 + 1, 0, none⟩ (.int .i64 0)).putObj w3.heap.size (.deferred none)).heap.size := by simp [World.setCell, World.putObj]
     have hc9 : ((V8.setCell ⟨w.heap.size + 1 + 1, 0, none⟩ (.int .i64 0)).putObj w3.heap.size (.deferred none)).cell? ⟨w.heap.size + 1 + 1, 0, none⟩ = some (.int .i64 0) := (box_facts ((World.putObj_heap_other (show w.heap.size + 1 + 1 ≠ w3.heap.size by omega)).trans hset9)).1 0
     have hb9 : But (fun k => k = w.heap.size + 1 + 1 ∨ k = w3.heap.size) V8 ((V8.setCell ⟨w.heap.size + 1 + 1, 0, none⟩ (.int .i64 0)).putObj w3.heap.size (.deferred none)) := ⟨rfl, rfl, rfl, hsz9, fun k _ hn' => hoth9 k (fun e' => hn' (.inl e')) (fun e' => hn' (.inr e'))⟩
     refine ⟨.int .i64 0, by simp [results, Tryz.f39, go_sem, hc9], .inr ⟨rfl, hfree, HB8.past hb9 (fun k hk => by rcases hk with rfl | rfl <;> omega), r', fun y hy => hkv y ((hb68.trans (hb9.mono fun k hk => by rcases hk with rfl | rfl <;> assumption)).trans (hy.mono fun k hk => Nat.lt_of_lt_of_le hk HB5.size)), ?_⟩⟩
     have hlt8 : ∀ k, ofDb b n e p k → k < w.heap.size := fun k hk => Nat.lt_of_not_le fun hge => not_ofDb h k hge hk
     have hk9 : ∀ k, ofDb b n e p k → ((V8.setCell ⟨w.heap.size + 1 + 1, 0, none⟩ (.int .i64 0)).putObj w3.heap.size (.deferred none)).heap[k]? = V8.heap[k]? := fun k hk => hoth9 k (by have := hlt8 k hk; omega) (by have := hlt8 k hk; omega)
     exact ⟨(hk9 b (.inl rfl)).trans h8.box, h8.nm.at (hk9 n (.inr (.inl rfl))), h8.em.at (hk9 e (.inr (.inr (.inl rfl)))), h8.pm.at (hk9 p (.inr (.inr (.inr rfl)))), h.ne⟩
   ·intro v1 hv1
    simp only [pick, List.getElem?_cons_zero, List.getElem?_cons_succ]
    iterate 7 (refine textN_look (by kernel_rfl) (by kernel_rfl) (fun K hK => ?_); go_big_quiet_op; refine hK _ ?_; clear hK K)
    refine textN_act (by rfl) (by rfl) (fun K hK => ?_)
    go_wp2_with fail
    refine hK _ _ (since_of (below_new hv1 _)) ?_
    clear hK K
    rw [← zeroE_lit]
    have hz1 := World.alloc_heap_new v1 (.cells (entC zeroR zeroD) 31)
    have hbz1 := below_new hv1 (.cells (entC zeroR zeroD) 31)
    generalize v1.alloc (.cells (entC zeroR zeroD) 31) = Z at *
    refine textN_act (by rfl) (by rfl) (fun K hK => ?_)
    go_wp2_with fail
    refine (key_c _ _ _ (hEc.later hbz1) (hok _ (by simp))).mono ?_
    rintro z v2 ⟨rfl, hv2⟩
    dsimp only
    have hv2' := below_step hbz1 hv2
    refine hK _ _ (since_of hv2') ?_
    clear hK K
    have hz2 := still_blk hv2 hz1
    have hcp : canPut v2 v1.heap.size 0 17 = true := canPut_of_cells hz2 (by simp [go_sem])
    have hV5 := Go.WW.Below.putRow (o := 0) (cs := entC r0 d0) hv2' hv1.size
    iterate 4 (refine textN_look (by kernel_rfl) (by kernel_rfl) (fun K hK => ?_); go_big_quiet_op; refine hK _ ?_; clear hK K)
    refine textN_act (by rfl) (by rfl) (fun K hK => ?_)
    go_wp2_with fail
    refine hK _ _ (since_of hV5) ?_
    clear hK K
    iterate 1 (refine textN_look (by kernel_rfl) (by kernel_rfl) (fun K hK => ?_); go_big_quiet_op; refine hK _ ?_; clear hK K)
    refine text_nil ?_
    clear hlk hv2 hv2' hz1 hz2 hcp hbz1
    generalize (putRow v2 v1.heap.size 0 (entC r0 d0)) = V5 at *
    have HBW5 := below_step HBWc hV5
    have HB5 := below_step hB HBW5
    clear c0 c1' c2 c3 c4 f1 hl hre17 hrn hecell hct hc4 hf4 l0 l1 l2
    have ht_V5 := still_blk HBW5 ht
    have he_V5 := still_blk HBW5 hee
    have hr_V5 := still_blk HBW5 hr4
    have h_V5 := h'.later HBW5
    have l0 : w.heap.size < V5.heap.size := (Array.getElem?_eq_some_iff.1 ht_V5).1
    have l1 : w.heap.size + 1 < V5.heap.size := (Array.getElem?_eq_some_iff.1 he_V5).1
    have l2 : w.heap.size + 1 + 1 < V5.heap.size := (Array.getElem?_eq_some_iff.1 hr_V5).1
    obtain ⟨c0, c1', c2, c3, c4, f1, hl⟩ := box5 h_V5.box
    have hre17 : row? V5 (w.heap.size + 1) 0 17 = some (entC r d) := by rw [row?_of_cells he_V5]; exact subRow_whole (by simp [go_sem])
    have hrn : row? V5 (w.heap.size + 1) 0 2 = some (prinC r.parts d.name) := ent_name_row hre17
    have hecell := (box_facts he_V5).1
    have hct : V5.cell? ⟨w.heap.size, 0, none⟩ = some (.pointer (some ⟨b, 0, none⟩)) := (box_facts ht_V5).1 0
    have hc4 : V5.cell? ⟨w.heap.size + 1 + 1, 0, none⟩ = some (.int .i64 0) := (box_facts hr_V5).1 0
    have hf4 : V5.frozen? ⟨w.heap.size + 1 + 1, 0, none⟩ = false := (box_facts hr_V5).2.1 0
    have hD5 : V5.heap[w3.heap.size]? = some (.deferred (some [])) := still_blk hV5 hD
    have hln := len_map (P := Tryz.prog) (ty := 3) (tys := #[94]) rfl Tryz.underlying94 h_V5.em
    rw [List.length_map] at hln
    have h4096 : ¬ (4096 : Int) ≤ (E.length : Int) := by omega
    have n0 := not_ofDb h w.heap.size (Nat.le_refl _)
    have n1 := not_ofDb h (w.heap.size + 1) (by omega)
    have n2 := not_ofDb h (w.heap.size + 1 + 1) (by omega)
    have n3 := not_ofDb h w3.heap.size (by have := hB3.size; omega)
    cases ok
    ·gi_wp2
     refine (wpIn_wide (n := 0)).2 ?_
     refine wp_region_sinceB (ofDb b n e p) (But.refl _ V5) (by kernel_rfl) (by kernel_rfl) ?_
     iterate 4 (refine textN_look (by kernel_rfl) (by kernel_rfl) (fun K hK => ?_); go_big_quiet_op; refine hK _ ?_; clear hK K)
     refine textN_act (by rfl) (by rfl) (fun K hK => ?_)
     go_wp2_with fail
     refine (eCopy_c r d V5.drew ((he.later HB5).later (Below.refl _ _).drew)).mono ?_
     rintro q V6 ⟨r', rfl, hb6, hd6⟩
     dsimp only
     have hb6' : Below V5.heap.size V5 V6 := (Below.refl _ V5).drew.trans hb6
     refine hK _ _ (sinceB_of (But.of_below hb6')) ?_
     clear hK K
     refine textN_act (by rfl) (by rfl) (fun K hK => ?_)
     go_wp2_with fail
     have HB6 := below_step HB5 hb6'
     have hkv : ∀ y, But (fun k => k < V5.heap.size) V6 y → EntAt y r' d := fun y hy => hd6 y fun k hk => hy.block k hk.2 (fun hk' => by have h1 : V5.drew.heap.size ≤ k := hk.1; have h2 : V5.drew.heap.size = V5.heap.size := rfl; omega)
     have hdv : ∀ k, ofDb b n e p k → k < V5.heap.size := fun k hk => Nat.lt_of_not_le fun hge => not_ofDb h k (Nat.le_trans HB5.size hge) hk
     have hke : KeptE (ofDb b n e p) V6 (r', d) := fun y hy => hkv y (hy.mono hdv)
     refine (store_c b n e p re s (strM NL) N1 E E1 P r' d V6 (h.later HB6) (fun x hx => ⟨(hE x hx).1.on (But.of_below HB6), (hE x hx).2⟩) hR hke hok).mono ?_
     rintro q V7 ⟨rfl, hb7, h7⟩
     dsimp only
     have hb7' : But (ofDb b n e p) V5 V7 := (But.of_below hb6').trans hb7
     refine hK _ _ (sinceB_of hb7') ?_
     clear hK K
     refine text_nil ?_
     have hb67 : But (fun k => k < V5.heap.size) V6 V7 := hb7.mono hdv
     have hl2V : w.heap.size + 1 + 1 < V5.heap.size := l2
     have hl3V : w3.heap.size < V5.heap.size := (Array.getElem?_eq_some_iff.1 hD5).1
     have ht7 := (hb7'.block _ l0 n0).trans ht_V5
     have hr7 := (hb7'.block _ l2 n2).trans hr_V5
     have hD7 := (hb7'.block _ (Array.getElem?_eq_some_iff.1 hD5).1 n3).trans hD5
     have HB7 : But (ofDb b n e p) w V7 := (But.of_below HB5).trans hb7'
     clear c0 c1' c2 c3 c4 f1 hl hre17 hrn hecell hct hc4 hf4 l0 l1 l2 hln
     obtain ⟨c0, c1, c2, c3, c4, f1, hl⟩ := box5 h7.box
     have l0 : w.heap.size < V7.heap.size := (Array.getElem?_eq_some_iff.1 ht7).1
     have hct : V7.cell? ⟨w.heap.size, 0, none⟩ = some (.pointer (some ⟨b, 0, none⟩)) := (box_facts ht7).1 0
     gi_wp2
     refine ⟨trivial, rfl, (callsIn_wide.2 (advance_c b s V7 c1 f1 hs0 hs1)).mono ?_⟩
     rintro q w' ⟨rfl, rfl⟩
     dsimp only
     have hbw : b < w.heap.size := (Array.getElem?_eq_some_iff.1 h.box).1
     have hset8 := setCell_blk (o := 1) (.int .i64 (s + 1)) h7.box
     rw [dbC_set] at hset8
     have hoth : ∀ k, k ≠ b → (V7.setCell ⟨b, 1, none⟩ (.int .i64 (s + 1))).heap[k]? = V7.heap[k]? := fun k hk => Below.heap_setCell _ _ _ _ hk
     have hsz8 : (V7.setCell ⟨b, 1, none⟩ (.int .i64 (s + 1))).heap.size = V7.heap.size := by simp [World.setCell]
     have hr8 := (hoth _ (by omega)).trans hr7
     have hD8 := (hoth w3.heap.size (by have := hB3.size; omega)).trans hD7
     have hc8 : (V7.setCell ⟨b, 1, none⟩ (.int .i64 (s + 1))).cell? ⟨w.heap.size + 1 + 1, 0, none⟩ = some (.int .i64 0) := (box_facts hr8).1 0
     have hf8 : (V7.setCell ⟨b, 1, none⟩ (.int .i64 (s + 1))).frozen? ⟨w.heap.size + 1 + 1, 0, none⟩ = false := (box_facts hr8).2.1 0
     have l8 : w.heap.size + 1 + 1 < (V7.setCell ⟨b, 1, none⟩ (.int .i64 (s + 1))).heap.size := (Array.getElem?_eq_some_iff.1 hr8).1
     have HB8 : But (ofDb b n e p) w (V7.setCell ⟨b, 1, none⟩ (.int .i64 (s + 1))) := ⟨HB7.os, HB7.tape, HB7.output, by rw [hsz8]; exact HB7.size, fun k hk hn' => (hoth k (fun e' => hn' (.inl e'))).trans (HB7.block k hk hn')⟩
     have hnb : n ≠ b := fun e' => cells_ne_map h7.box h7.nm e'.symm
     have heb : e ≠ b := fun e' => cells_ne_map h7.box h7.em e'.symm
     have hpb : p ≠ b := fun e' => cells_ne_map h7.box h7.pm e'.symm
     have h8 : DbAt (V7.setCell ⟨b, 1, none⟩ (.int .i64 (s + 1))) b n e p re (s + 1) (setAll N1 (textOf d.name) (d.name :: d.aliases)) (E1 ++ [(r', d)]) P := ⟨hset8, h7.nm.at (hoth n hnb), h7.em.at (hoth e heb), h7.pm.at (hoth p hpb), h.ne⟩
     have hb68 : But (fun k => k < V5.heap.size) V6 (V7.setCell ⟨b, 1, none⟩ (.int .i64 (s + 1))) := hb67.trans ⟨rfl, rfl, rfl, by rw [hsz8]; exact Nat.le_refl _, fun k _ hn' => hoth k (fun e' => hn' (hdv k (.inl e')))⟩
     clear hset8 hoth hsz8 c0 c1 c2 c3 c4 f1 hl hct l0 hr7 hD7 ht7
     generalize V7.setCell ⟨b, 1, none⟩ (.int .i64 (s + 1)) = V8 at *
     gi_wp2
     have hw3 := hB3.size
     have hset9 := setCell_blk (o := 0) (.int .i64 0) hr8
     have hD9 : (V8.setCell ⟨w.heap.size + 1 + 1, 0, none⟩ (.int .i64 0)).heap[w3.heap.size]? = some (.deferred (some [])) := (Below.heap_setCell _ _ _ _ (show w3.heap.size ≠ w.heap.size + 1 + 1 by omega)).trans hD8
     refine ⟨by simp, .inl ⟨_, _, rfl, run_takeDeferred hD9, ?_⟩⟩
     have hoth9 : ∀ k, k ≠ w.heap.size + 1 + 1 → k ≠ w3.heap.size → ((V8.setCell ⟨w.heap.size + 1 + 1, 0, none⟩ (.int .i64 0)).putObj w3.heap.size (.deferred none)).heap[k]? = V8.heap[k]? := fun k h1 h2 => (World.putObj_heap_other h2).trans (Below.heap_setCell _ _ _ _ h1)
     have hsz9 : V8.heap.size ≤ ((V8.setCell ⟨w.heap.size + 1 + 1, 0, none⟩ (.int .i64 0)).putObj w3.heap.size (.deferred none)).heap.size := by simp [World.setCell, World.putObj]
     have hc9 : ((V8.setCell ⟨w.heap.size + 1 + 1, 0, none⟩ (.int .i64 0)).putObj w3.heap.size (.deferred none)).cell? ⟨w.heap.size + 1 + 1, 0, none⟩ = some (.int .i64 0) := (box_facts ((World.putObj_heap_other (show w.heap.size + 1 + 1 ≠ w3.heap.size by omega)).trans hset9)).1 0
     have hb9 : But (fun k => k = w.heap.size + 1 + 1 ∨ k = w3.heap.size) V8 ((V8.setCell ⟨w.heap.size + 1 + 1, 0, none⟩ (.int .i64 0)).putObj w3.heap.size (.deferred none)) := ⟨rfl, rfl, rfl, hsz9, fun k _ hn' => hoth9 k (fun e' => hn' (.inl e')) (fun e' => hn' (.inr e'))⟩
     refine ⟨.int .i64 0, by simp [results, Tryz.f39, go_sem, hc9], .inr ⟨rfl, hfree, HB8.past hb9 (fun k hk => by rcases hk with rfl | rfl <;> omega), r', fun y hy => hkv y ((hb68.trans (hb9.mono fun k hk => by rcases hk with rfl | rfl <;> assumption)).trans (hy.mono fun k hk => Nat.lt_of_lt_of_le hk HB5.size)), ?_⟩⟩
     have hlt8 : ∀ k, ofDb b n e p k → k < w.heap.size := fun k hk => Nat.lt_of_not_le fun hge => not_ofDb h k hge hk
     have hk9 : ∀ k, ofDb b n e p k → ((V8.setCell ⟨w.heap.size + 1 + 1, 0, none⟩ (.int .i64 0)).putObj w3.heap.size (.deferred none)).heap[k]? = V8.heap[k]? := fun k hk => hoth9 k (by have := hlt8 k hk; omega) (by have := hlt8 k hk; omega)
     exact ⟨(hk9 b (.inl rfl)).trans h8.box, h8.nm.at (hk9 n (.inr (.inl rfl))), h8.em.at (hk9 e (.inr (.inr (.inl rfl)))), h8.pm.at (hk9 p (.inr (.inr (.inr rfl)))), h.ne⟩
    ·gi_wp2
     refine (wpIn_wide (n := 0)).2 ?_
     refine wp_region_sinceB (ofDb b n e p) (But.refl _ V5) (by kernel_rfl) (by kernel_rfl) ?_
     iterate 4 (refine textN_look (by kernel_rfl) (by kernel_rfl) (fun K hK => ?_); go_big_quiet_op; refine hK _ ?_; clear hK K)
     refine textN_act (by rfl) (by rfl) (fun K hK => ?_)
     go_wp2_with fail
     refine (eCopy_c r d V5.drew ((he.later HB5).later (Below.refl _ _).drew)).mono ?_
     rintro q V6 ⟨r', rfl, hb6, hd6⟩
     dsimp only
     have hb6' : Below V5.heap.size V5 V6 := (Below.refl _ V5).drew.trans hb6
     refine hK _ _ (sinceB_of (But.of_below hb6')) ?_
     clear hK K
     refine textN_act (by rfl) (by rfl) (fun K hK => ?_)
     go_wp2_with fail
     have HB6 := below_step HB5 hb6'
     have hkv : ∀ y, But (fun k => k < V5.heap.size) V6 y → EntAt y r' d := fun y hy => hd6 y fun k hk => hy.block k hk.2 (fun hk' => by have h1 : V5.drew.heap.size ≤ k := hk.1; have h2 : V5.drew.heap.size = V5.heap.size := rfl; omega)
     have hdv : ∀ k, ofDb b n e p k → k < V5.heap.size := fun k hk => Nat.lt_of_not_le fun hge => not_ofDb h k (Nat.le_trans HB5.size hge) hk
     have hke : KeptE (ofDb b n e p) V6 (r', d) := fun y hy => hkv y (hy.mono hdv)
     refine (store_c b n e p re s (strM NL) N1 E E1 P r' d V6 (h.later HB6) (fun x hx => ⟨(hE x hx).1.on (But.of_below HB6), (hE x hx).2⟩) hR hke hok).mono ?_
     rintro q V7 ⟨rfl, hb7, h7⟩
     dsimp only
     have hb7' : But (ofDb b n e p) V5 V7 := (But.of_below hb6').trans hb7
     refine hK _ _ (sinceB_of hb7') ?_
     clear hK K
     refine text_nil ?_
     have hb67 : But (fun k => k < V5.heap.size) V6 V7 := hb7.mono hdv
     have hl2V : w.heap.size + 1 + 1 < V5.heap.size := l2
     have hl3V : w3.heap.size < V5.heap.size := (Array.getElem?_eq_some_iff.1 hD5).1
     have ht7 := (hb7'.block _ l0 n0).trans ht_V5
     have hr7 := (hb7'.block _ l2 n2).trans hr_V5
     have hD7 := (hb7'.block _ (Array.getElem?_eq_some_iff.1 hD5).1 n3).trans hD5
     have HB7 : But (ofDb b n e p) w V7 := (But.of_below HB5).trans hb7'
     clear c0 c1' c2 c3 c4 f1 hl hre17 hrn hecell hct hc4 hf4 l0 l1 l2 hln
     obtain ⟨c0, c1, c2, c3, c4, f1, hl⟩ := box5 h7.box
     have l0 : w.heap.size < V7.heap.size := (Array.getElem?_eq_some_iff.1 ht7).1
     have hct : V7.cell? ⟨w.heap.size, 0, none⟩ = some (.pointer (some ⟨b, 0, none⟩)) := (box_facts ht7).1 0
     gi_wp2
     refine ⟨trivial, rfl, (callsIn_wide.2 (advance_c b s V7 c1 f1 hs0 hs1)).mono ?_⟩
     rintro q w' ⟨rfl, rfl⟩
     dsimp only
     have hbw : b < w.heap.size := (Array.getElem?_eq_some_iff.1 h.box).1
     have hset8 := setCell_blk (o := 1) (.int .i64 (s + 1)) h7.box
     rw [dbC_set] at hset8
     have hoth : ∀ k, k ≠ b → (V7.setCell ⟨b, 1, none⟩ (.int .i64 (s + 1))).heap[k]? = V7.heap[k]? := fun k hk => Below.heap_setCell _ _ _ _ hk
     have hsz8 : (V7.setCell ⟨b, 1, none⟩ (.int .i64 (s + 1))).heap.size = V7.heap.size := by simp [World.setCell]
     have hr8 := (hoth _ (by omega)).trans hr7
     have hD8 := (hoth w3.heap.size (by have := hB3.size; omega)).trans hD7
     have hc8 : (V7.setCell ⟨b, 1, none⟩ (.int .i64 (s + 1))).cell? ⟨w.heap.size + 1 + 1, 0, none⟩ = some (.int .i64 0) := (box_facts hr8).1 0
     have hf8 : (V7.setCell ⟨b, 1, none⟩ (.int .i64 (s + 1))).frozen? ⟨w.heap.size + 1 + 1, 0, none⟩ = false := (box_facts hr8).2.1 0
     have l8 : w.heap.size + 1 + 1 < (V7.setCell ⟨b, 1, none⟩ (.int .i64 (s + 1))).heap.size := (Array.getElem?_eq_some_iff.1 hr8).1
     have HB8 : But (ofDb b n e p) w (V7.setCell ⟨b, 1, none⟩ (.int .i64 (s + 1))) := ⟨HB7.os, HB7.tape, HB7.output, by rw [hsz8]; exact HB7.size, fun k hk hn' => (hoth k (fun e' => hn' (.inl e'))).trans (HB7.block k hk hn')⟩
     have hnb : n ≠ b := fun e' => cells_ne_map h7.box h7.nm e'.symm
     have heb : e ≠ b := fun e' => cells_ne_map h7.box h7.em e'.symm
     have hpb : p ≠ b := fun e' => cells_ne_map h7.box h7.pm e'.symm
     have h8 : DbAt (V7.setCell ⟨b, 1, none⟩ (.int .i64 (s + 1))) b n e p re (s + 1) (setAll N1 (textOf d.name) (d.name :: d.aliases)) (E1 ++ [(r', d)]) P := ⟨hset8, h7.nm.at (hoth n hnb), h7.em.at (hoth e heb), h7.pm.at (hoth p hpb), h.ne⟩
     have hb68 : But (fun k => k < V5.heap.size) V6 (V7.setCell ⟨b, 1, none⟩ (.int .i64 (s + 1))) := hb67.trans ⟨rfl, rfl, rfl, by rw [hsz8]; exact Nat.le_refl _, fun k _ hn' => hoth k (fun e' => hn' (hdv k (.inl e')))⟩
     clear hset8 hoth hsz8 c0 c1 c2 c3 c4 f1 hl hct l0 hr7 hD7 ht7
     generalize V7.setCell ⟨b, 1, none⟩ (.int .i64 (s + 1)) = V8 at *
     gi_wp2
     have hw3 := hB3.size
     have hset9 := setCell_blk (o := 0) (.int .i64 0) hr8
     have hD9 : (V8.setCell ⟨w.heap.size + 1 + 1, 0, none⟩ (.int .i64 0)).heap[w3.heap.size]? = some (.deferred (some [])) := (Below.heap_setCell _ _ _ _ (show w3.heap.size ≠ w.heap.size + 1 + 1 by omega)).trans hD8
     refine ⟨by simp, .inl ⟨_, _, rfl, run_takeDeferred hD9, ?_⟩⟩
     have hoth9 : ∀ k, k ≠ w.heap.size + 1 + 1 → k ≠ w3.heap.size → ((V8.setCell ⟨w.heap.size + 1 + 1, 0, none⟩ (.int .i64 0)).putObj w3.heap.size (.deferred none)).heap[k]? = V8.heap[k]? := fun k h1 h2 => (World.putObj_heap_other h2).trans (Below.heap_setCell _ _ _ _ h1)
     have hsz9 : V8.heap.size ≤ ((V8.setCell ⟨w.heap.size + 1 + 1, 0, none⟩ (.int .i64 0)).putObj w3.heap.size (.deferred none)).heap.size := by simp [World.setCell, World.putObj]
     have hc9 : ((V8.setCell ⟨w.heap.size + 1 + 1, 0, none⟩ (.int .i64 0)).putObj w3.heap.size (.deferred none)).cell? ⟨w.heap.size + 1 + 1, 0, none⟩ = some (.int .i64 0) := (box_facts ((World.putObj_heap_other (show w.heap.size + 1 + 1 ≠ w3.heap.size by omega)).trans hset9)).1 0
     have hb9 : But (fun k => k = w.heap.size + 1 + 1 ∨ k = w3.heap.size) V8 ((V8.setCell ⟨w.heap.size + 1 + 1, 0, none⟩ (.int .i64 0)).putObj w3.heap.size (.deferred none)) := ⟨rfl, rfl, rfl, hsz9, fun k _ hn' => hoth9 k (fun e' => hn' (.inl e')) (fun e' => hn' (.inr e'))⟩
     refine ⟨.int .i64 0, by simp [results, Tryz.f39, go_sem, hc9], .inr ⟨rfl, hfree, HB8.past hb9 (fun k hk => by rcases hk with rfl | rfl <;> omega), r', fun y hy => hkv y ((hb68.trans (hb9.mono fun k hk => by rcases hk with rfl | rfl <;> assumption)).trans (hy.mono fun k hk => Nat.lt_of_lt_of_le hk HB5.size)), ?_⟩⟩
     have hlt8 : ∀ k, ofDb b n e p k → k < w.heap.size := fun k hk => Nat.lt_of_not_le fun hge => not_ofDb h k hge hk
     have hk9 : ∀ k, ofDb b n e p k → ((V8.setCell ⟨w.heap.size + 1 + 1, 0, none⟩ (.int .i64 0)).putObj w3.heap.size (.deferred none)).heap[k]? = V8.heap[k]? := fun k hk => hoth9 k (by have := hlt8 k hk; omega) (by have := hlt8 k hk; omega)
     exact ⟨(hk9 b (.inl rfl)).trans h8.box, h8.nm.at (hk9 n (.inr (.inl rfl))), h8.em.at (hk9 e (.inr (.inr (.inl rfl)))), h8.pm.at (hk9 p (.inr (.inr (.inr rfl)))), h.ne⟩
  ·rintro c c1 k Wc ⟨rfl, hbz, hbu, h11, hc0⟩ hD
   refine (wpIn_wide (n := 0)).1 ?_
   gi_wp2
   refine ⟨by simp, .inl ⟨_, _, rfl, run_takeDeferred hD, ?_⟩⟩
   have hc9 : (Wc.putObj w3.heap.size (.deferred none)).cell? ⟨w.heap.size + 1 + 1, 0, none⟩ = some (.int .i64 11) := (box_facts ((World.putObj_heap_other (show w.heap.size + 1 + 1 ≠ w3.heap.size by omega)).trans h11)).1 0
   have hb9 : But (one w3.heap.size) Wc (Wc.putObj w3.heap.size (.deferred none)) := But.putObj _
   refine ⟨.int .i64 11, by simp [results, Tryz.f39, go_sem, hc9], .inl ⟨rfl, hbz, ?_⟩⟩
   have hall : But (fun k => w.heap.size ≤ k) w (Wc.putObj w3.heap.size (.deferred none)) := ((But.of_below hB3).trans (hbu.mono fun k (hk : k = _) => by omega)).trans (hb9.mono fun k (hk : k = _) => by omega)
   exact hall.below (Nat.le_refl _) (fun _ hk => hk)
 ·gi_wp2
  refine ⟨trivial, rfl, (callsIn_wide.2 (names_c _ _ _ (he'.later hb4))).mono ?_⟩
  rintro q w3 ⟨bN, sN, X, rfl, hb3, hbN, hcN, hX, hd⟩
  have HBW3 := below_step hb4 hb3
  have hB3 := below_step hB HBW3
  have hbVs := hb3.size
  have hVs : w.heap.size + 1 + 1 < V.heap.size := l2
  dsimp only
  gi_wp2
  refine (wpIn_wide (n := 0)).2 ?_
  refine wp_range_but (gf := 104) (lb := #[.pointer (some ⟨bN, 0, none⟩)]) (by simp [go_sem]) (enters_of Tryz.func104 (by kernel_rfl) rfl) (S := one (w.heap.size + 1 + 1)) ?_ (xs := X) (V := VN) ?_ (names1_seq bN sN X (one (w.heap.size + 1 + 1)) w3 hcN ?_ ?_)
   (fun c1 k Wc => But (fun _ => False) w3 Wc ∧ freeN NL (textOf d.name) ((X.map (·.2)).take k) ∧ w3.heap.size < c1) (fun c c1 _ Wc => c = .ret ∧ busyN NL d ∧ But (one (w.heap.size + 1 + 1)) w3 Wc ∧ Wc.heap[w.heap.size + 1 + 1]? = some (.cells #[.int .i64 11] 36) ∧ w3.heap.size < c1) ?_ ?_ ?_ ?_ ?_ ?_
  ·rintro k (rfl : k = _); omega
  ·rintro c1 xx v W0 Wc ⟨s', rfl, _⟩; rfl
  ·rintro k (rfl : k = _); omega
  ·intro y hy
   exact hd y fun k hk => hy.block k hk.2 fun hk' => by
    rcases hk' with (e : k = _) | e
    ·have := hk.1; omega
    ·have := hk.2; omega
  ·intro c1 Wc h1 h2 hb
   exact ⟨But.of_below hb, by simp [freeN], h1⟩
  ·rintro c1 k Wc Wc' ⟨h1, h2, h4⟩ hb
   exact ⟨h1.past hb (fun j hj => hj.1), h2, h4⟩
  ·rintro c c1 k Wc Wc' ⟨h1, h2, h3, h4, h5⟩ hb
   exact ⟨h1, h2, h3.past hb (fun j hj => hj.1), (hb.block _ (Array.getElem?_eq_some_iff.1 h4).1 (fun hj => by have := hj.1; omega)).trans h4, h5⟩
  ·rintro c1 k xx v W0 Wc hxx ⟨s', rfl, hp⟩ ⟨hbu0, hfr, hc0⟩ hbs hc1 hc20
   have hsW := hbs.size
   have hc2 : c1 ≤ Wc.heap.size := Nat.le_trans hc20 hsW
   have hbu : But (fun _ => False) w3 Wc := hbu0.past hbs (fun j hj => hj.1)
   clear hbu0 hbs
   obtain ⟨s0, q⟩ := xx
   have hqm : (X.map (·.2))[k]? = some q := by rw [List.getElem?_map, hxx]; rfl
   have hqin : q ∈ d.name :: d.aliases := by rw [← hX]; exact List.mem_of_getElem? hqm
   have hqok : prinOk q = true := hok q hqin
   have HP := Lib.hid hp
   have HFR := Lib.hid hfr
   clear hp hfr
   dsimp only
   gi_wp2
   have hal : Below Wc.heap.size Wc (Wc.alloc (.cells (prinC s' q) 24)) := (Below.refl _ _).alloc (Nat.le_refl _) _
   refine ⟨hal, fun U hU => ?_⟩
   have hUp : U.heap[Wc.heap.size]? = some (.cells (prinC s' q) 24) := (hU.block _ (by simp) (not_one (by omega))).trans (World.alloc_heap_new _ _)
   have hUs : Wc.heap.size < U.heap.size := (Array.getElem?_eq_some_iff.1 hUp).1
   have hbuU : But (fun _ => False) w3 U := (hbu.trans (But.of_below hal)).past hU (fun j hj => by have : j = _ := hj; omega)
   have hbUw : Below w3.heap.size w3 U := hbuU.below (Nat.le_refl _) (fun _ hf => hf.elim)
   have hPU : PrinAt U s' q := HP.out U fun j hj => (hU.block j (by have := hj.2; simp; omega) (not_one (by have := hj.1; omega))).trans (hal.block j hj.2)
   have HBWU := below_step HBW3 hbUw
   have hrp : row? U Wc.heap.size 0 2 = some (prinC s' q) := by rw [row?_of_cells hUp]; exact subRow_whole (by simp [go_sem])
   clear hal hU hbu HP
   clear c0 c1' c2 c3 c4 f1 hl hre17 hrn hecell hct hc4 hf4 l0 l1 l2
   have ht_U := still_blk HBWU ht
   have he_U := still_blk HBWU hee
   have hr_U := still_blk HBWU hr4
   have h_U := h'.later HBWU
   have l0 : w.heap.size < U.heap.size := (Array.getElem?_eq_some_iff.1 ht_U).1
   have l1 : w.heap.size + 1 < U.heap.size := (Array.getElem?_eq_some_iff.1 he_U).1
   have l2 : w.heap.size + 1 + 1 < U.heap.size := (Array.getElem?_eq_some_iff.1 hr_U).1
   obtain ⟨c0, c1', c2, c3, c4, f1, hl⟩ := box5 h_U.box
   have hre17 : row? U (w.heap.size + 1) 0 17 = some (entC r d) := by rw [row?_of_cells he_U]; exact subRow_whole (by simp [go_sem])
   have hrn : row? U (w.heap.size + 1) 0 2 = some (prinC r.parts d.name) := ent_name_row hre17
   have hecell := (box_facts he_U).1
   have hct : U.cell? ⟨w.heap.size, 0, none⟩ = some (.pointer (some ⟨b, 0, none⟩)) := (box_facts ht_U).1 0
   have hc4 : U.cell? ⟨w.heap.size + 1 + 1, 0, none⟩ = some (.int .i64 0) := (box_facts hr_U).1 0
   have hf4 : U.frozen? ⟨w.heap.size + 1 + 1, 0, none⟩ = false := (box_facts hr_U).2.1 0
   have hEU : PrinAt U r.parts d.name := (he'.later HBWU).name
   have hnmU := h_U.nm
   by_cases hin : ∃ o, (textOf q, o) ∈ NL
   ·obtain ⟨o, ho⟩ := hin
    have hlk : ∀ x : LaterB (fun _ => False) U, (Instr.lookup 93 (.map (some n)) (.string (textOf q)) true).run Tryz.prog x.w = .ok (.tuple #[.string o, .bool true]) x.w := fun x => look_names (h_U.nm.at (x.b.block n h_U.nm.lt (fun hf => hf))) ho
    gi_wp2
    refine TI.wpIn_region_sinceB (fun _ => False) (But.refl _ U) (by kernel_rfl) (by kernel_rfl) (by kernel_rfl) ?_
    repeat (first | (refine TI.text_skip (by rfl) ?_) | (refine TI.text_look (by rfl) (by rfl) (fun K hK => ?_); go_big_quiet_op; refine hK _ ?_; clear hK K))
    refine TI.text_act (by rfl) (by rfl) (by rfl) (fun K hK => ?_)
    go_wp2_with fail
    refine (key_c _ _ U.drew (hPU.later (Below.refl _ _).drew) hqok).mono ?_
    rintro z U2 ⟨rfl, hbk⟩
    dsimp only
    have hbb : Below U.heap.size U U2 := (Below.refl _ U).drew.trans hbk
    refine hK _ _ (sinceB_of (But.of_below hbb)) ?_
    clear hK K
    repeat (first | (refine TI.text_skip (by rfl) ?_) | (refine TI.text_look (by rfl) (by rfl) (fun K hK => ?_); go_big_quiet_op; refine hK _ ?_; clear hK K))
    refine TI.text_nil ?_
    have he_2 := still_blk hbb he_U
    have hrn2 : row? U2 (w.heap.size + 1) 0 2 = some (prinC r.parts d.name) := ent_name_row (d := d) (by rw [row?_of_cells he_2]; exact subRow_whole (by simp [go_sem]))
    have l12 : w.heap.size + 1 < U2.heap.size := (Array.getElem?_eq_some_iff.1 he_2).1
    gi_wp2
    refine ⟨trivial, rfl, CallsIn.mono (F := Fence.wide.inRound (w3.heap.size + 1)) (callsIn_wide.2 (key_c _ _ U2 (hEU.later hbb) (hok _ (by simp)))) ?_⟩
    rintro z U3 ⟨rfl, hbk3⟩
    dsimp only
    have hbb3 := below_step hbb hbk3
    have hr3 := still_blk hbb3 hr_U
    have hc43 : U3.cell? ⟨w.heap.size + 1 + 1, 0, none⟩ = some (.int .i64 0) := (box_facts hr3).1 0
    have hf43 : U3.frozen? ⟨w.heap.size + 1 + 1, 0, none⟩ = false := (box_facts hr3).2.1 0
    have l23 : w.heap.size + 1 + 1 < U3.heap.size := (Array.getElem?_eq_some_iff.1 hr3).1
    by_cases hoe : o = textOf d.name
    ·have hoe' := str_eq _ _ hoe
     gi_wp2
     refine ⟨But.of_below hbb3, hbuU.trans (But.of_below hbb3), ?_, by omega⟩
     rw [← hX, take_snoc hqm]
     exact freeN_snoc HFR.out (fun o' ho' => by rw [hkeys _ _ _ ho' ho]; exact hoe)
    ·have hoe' := str_ne _ _ hoe
     gi_wp2
     have hset := setCell_blk (o := 0) (.int .i64 11) hr3
     have hbx : But (one (w.heap.size + 1 + 1)) U3 (U3.setCell ⟨w.heap.size + 1 + 1, 0, none⟩ (.int .i64 11)) := ⟨rfl, rfl, rfl, by simp [World.setCell], fun k _ hn' => Below.heap_setCell _ _ _ _ hn'⟩
     exact ⟨((But.of_below hbb3).trans hbx).mono fun _ h => .inl h, rfl, ⟨q, hqin, o, ho, hoe⟩, ((But.of_below hbUw).trans (But.of_below hbb3)).trans hbx, hset, by omega⟩
   ·have hno : ∀ o, (textOf q, o) ∉ NL := fun o ho => hin ⟨o, ho⟩
    have hlk : ∀ x : LaterB (fun _ => False) U, (Instr.lookup 93 (.map (some n)) (.string (textOf q)) true).run Tryz.prog x.w = .ok (.tuple #[.string ⟨#[]⟩, .bool false]) x.w := fun x => look_nonames (h_U.nm.at (x.b.block n h_U.nm.lt (fun hf => hf))) hno
    gi_wp2
    refine TI.wpIn_region_sinceB (fun _ => False) (But.refl _ U) (by kernel_rfl) (by kernel_rfl) (by kernel_rfl) ?_
    repeat (first | (refine TI.text_skip (by rfl) ?_) | (refine TI.text_look (by rfl) (by rfl) (fun K hK => ?_); go_big_quiet_op; refine hK _ ?_; clear hK K))
    refine TI.text_act (by rfl) (by rfl) (by rfl) (fun K hK => ?_)
    go_wp2_with fail
    refine (key_c _ _ U.drew (hPU.later (Below.refl _ _).drew) hqok).mono ?_
    rintro z U2 ⟨rfl, hbk⟩
    dsimp only
    have hbb : Below U.heap.size U U2 := (Below.refl _ U).drew.trans hbk
    refine hK _ _ (sinceB_of (But.of_below hbb)) ?_
    clear hK K
    repeat (first | (refine TI.text_skip (by rfl) ?_) | (refine TI.text_look (by rfl) (by rfl) (fun K hK => ?_); go_big_quiet_op; refine hK _ ?_; clear hK K))
    refine TI.text_nil ?_
    have he_2 := still_blk hbb he_U
    have hrn2 : row? U2 (w.heap.size + 1) 0 2 = some (prinC r.parts d.name) := ent_name_row (d := d) (by rw [row?_of_cells he_2]; exact subRow_whole (by simp [go_sem]))
    have l12 : w.heap.size + 1 < U2.heap.size := (Array.getElem?_eq_some_iff.1 he_2).1
    gi_wp2
    refine ⟨trivial, ?_⟩
    gi_wp2
    refine ⟨But.of_below hbb, hbuU.trans (But.of_below hbb), ?_, by omega⟩
    rw [← hX, take_snoc hqm]
    exact freeN_snoc HFR.out (fun o' ho' => absurd ho' (hno o'))
  ·rintro c1 Wc ⟨hbu, hfree, hc0⟩ hD
   rw [List.take_of_length_le (by simp), hX] at hfree
   have hbc : Below w3.heap.size w3 Wc := hbu.below (Nat.le_refl _) (fun _ hf => hf.elim)
   have HBWc := below_step HBW3 hbc
   clear c0 c1' c2 c3 c4 f1 hl hre17 hrn hecell hct hc4 hf4 l0 l1 l2
   have ht_Wc := still_blk HBWc ht
   have he_Wc := still_blk HBWc hee
   have hr_Wc := still_blk HBWc hr4
   have h_Wc := h'.later HBWc
   have l0 : w.heap.size < Wc.heap.size := (Array.getElem?_eq_some_iff.1 ht_Wc).1
   have l1 : w.heap.size + 1 < Wc.heap.size := (Array.getElem?_eq_some_iff.1 he_Wc).1
   have l2 : w.heap.size + 1 + 1 < Wc.heap.size := (Array.getElem?_eq_some_iff.1 hr_Wc).1
   obtain ⟨c0, c1', c2, c3, c4, f1, hl⟩ := box5 h_Wc.box
   have hre17 : row? Wc (w.heap.size + 1) 0 17 = some (entC r d) := by rw [row?_of_cells he_Wc]; exact subRow_whole (by simp [go_sem])
   have hrn : row? Wc (w.heap.size + 1) 0 2 = some (prinC r.parts d.name) := ent_name_row hre17
   have hecell := (box_facts he_Wc).1
   have hct : Wc.cell? ⟨w.heap.size, 0, none⟩ = some (.pointer (some ⟨b, 0, none⟩)) := (box_facts ht_Wc).1 0
   have hc4 : Wc.cell? ⟨w.heap.size + 1 + 1, 0, none⟩ = some (.int .i64 0) := (box_facts hr_Wc).1 0
   have hf4 : Wc.frozen? ⟨w.heap.size + 1 + 1, 0, none⟩ = false := (box_facts hr_Wc).2.1 0
   have hlk : ∀ x : Later Wc, (Instr.lookup 94 (.map (some e)) (.string (textOf d.name)) true).run Tryz.prog x.w = .ok (.tuple #[.agg (entC r0 d0), .bool ok]) x.w := fun x => HLE.out _ _ (h_Wc.em.at (x.b.block e h_Wc.em.lt))
   have hEc : PrinAt Wc r.parts d.name := (he'.later HBWc).name
   gi_wp2
   refine (wpIn_wide (n := 0)).2 ?_
   refine wp_region_since2N 12 7 [0, 1, 2, 3, 4, 5, 6, 12, 7, 8, 9, 10, 11, 13, 14] (Below.refl _ Wc) (by kernel_rfl) (by kernel_rfl) (by rfl) ?_ ?_
   ·intro v1 hv1
    iterate 7 (refine textN_look (by kernel_rfl) (by kernel_rfl) (fun K hK => ?_); go_big_quiet_op; refine hK _ ?_; clear hK K)
    refine textN_act (by rfl) (by rfl) (fun K hK => ?_)
    go_wp2_with fail
    refine (key_c _ _ v1 (hEc.later hv1) (hok _ (by simp))).mono ?_
    rintro z v2 ⟨rfl, hv2⟩
    dsimp only
    have hv2' := below_step hv1 hv2
    refine hK _ _ (since_of hv2') ?_
    clear hK K
    iterate 4 (refine textN_look (by kernel_rfl) (by kernel_rfl) (fun K hK => ?_); go_big_quiet_op; refine hK _ ?_; clear hK K)
    refine textN_act (by rfl) (by rfl) (fun K hK => ?_)
    go_wp2_with fail
    refine hK _ _ (since_of (below_new hv2' _)) ?_
    clear hK K
    refine textN_act (by rfl) (by rfl) (fun K hK => ?_)
    go_wp2_with fail
    refine hK _ _ (since_of (below_new hv2' (.cells (entC r0 d0) 31))) ?_
    clear hK K
    iterate 1 (refine textN_look (by kernel_rfl) (by kernel_rfl) (fun K hK => ?_); go_big_quiet_op; refine hK _ ?_; clear hK K)
    refine text_nil ?_
    have hV5 := below_new hv2' (.cells (entC r0 d0) 31)
    clear hlk hv1 hv2 hv2'
    generalize (v2.alloc (.cells (entC r0 d0) 31)) = V5 at *
    have HBW5 := below_step HBWc hV5
    have HB5 := below_step hB HBW5
    clear c0 c1' c2 c3 c4 f1 hl hre17 hrn hecell hct hc4 hf4 l0 l1 l2
    have ht_V5 := still_blk HBW5 ht
    have he_V5 := still_blk HBW5 hee
    have hr_V5 := still_blk HBW5 hr4
    have h_V5 := h'.later HBW5
    have l0 : w.heap.size < V5.heap.size := (Array.getElem?_eq_some_iff.1 ht_V5).1
    have l1 : w.heap.size + 1 < V5.heap.size := (Array.getElem?_eq_some_iff.1 he_V5).1
    have l2 : w.heap.size + 1 + 1 < V5.heap.size := (Array.getElem?_eq_some_iff.1 hr_V5).1
    obtain ⟨c0, c1', c2, c3, c4, f1, hl⟩ := box5 h_V5.box
    have hre17 : row? V5 (w.heap.size + 1) 0 17 = some (entC r d) := by rw [row?_of_cells he_V5]; exact subRow_whole (by simp [go_sem])
    have hrn : row? V5 (w.heap.size + 1) 0 2 = some (prinC r.parts d.name) := ent_name_row hre17
    have hecell := (box_facts he_V5).1
    have hct : V5.cell? ⟨w.heap.size, 0, none⟩ = some (.pointer (some ⟨b, 0, none⟩)) := (box_facts ht_V5).1 0
    have hc4 : V5.cell? ⟨w.heap.size + 1 + 1, 0, none⟩ = some (.int .i64 0) := (box_facts hr_V5).1 0
    have hf4 : V5.frozen? ⟨w.heap.size + 1 + 1, 0, none⟩ = false := (box_facts hr_V5).2.1 0
    have hD5 : V5.heap[w3.heap.size]? = some (.deferred (some [])) := still_blk hV5 hD
    have hln := len_map (P := Tryz.prog) (ty := 3) (tys := #[94]) rfl Tryz.underlying94 h_V5.em
    rw [List.length_map] at hln
    have h4096 : ¬ (4096 : Int) ≤ (E.length : Int) := by omega
    have n0 := not_ofDb h w.heap.size (Nat.le_refl _)
    have n1 := not_ofDb h (w.heap.size + 1) (by omega)
    have n2 := not_ofDb h (w.heap.size + 1 + 1) (by omega)
    have n3 := not_ofDb h w3.heap.size (by have := hB3.size; omega)
    cases ok
    ·gi_wp2
     refine (wpIn_wide (n := 0)).2 ?_
     refine wp_region_sinceB (ofDb b n e p) (But.refl _ V5) (by kernel_rfl) (by kernel_rfl) ?_
     iterate 4 (refine textN_look (by kernel_rfl) (by kernel_rfl) (fun K hK => ?_); go_big_quiet_op; refine hK _ ?_; clear hK K)
     refine textN_act (by rfl) (by rfl) (fun K hK => ?_)
     go_wp2_with fail
     refine (eCopy_c r d V5.drew ((he.later HB5).later (Below.refl _ _).drew)).mono ?_
     rintro q V6 ⟨r', rfl, hb6, hd6⟩
     dsimp only
     have hb6' : Below V5.heap.size V5 V6 := (Below.refl _ V5).drew.trans hb6
     refine hK _ _ (sinceB_of (But.of_below hb6')) ?_
     clear hK K
     refine textN_act (by rfl) (by rfl) (fun K hK => ?_)
     go_wp2_with fail
     have HB6 := below_step HB5 hb6'
     have hkv : ∀ y, But (fun k => k < V5.heap.size) V6 y → EntAt y r' d := fun y hy => hd6 y fun k hk => hy.block k hk.2 (fun hk' => by have h1 : V5.drew.heap.size ≤ k := hk.1; have h2 : V5.drew.heap.size = V5.heap.size := rfl; omega)
     have hdv : ∀ k, ofDb b n e p k → k < V5.heap.size := fun k hk => Nat.lt_of_not_le fun hge => not_ofDb h k (Nat.le_trans HB5.size hge) hk
     have hke : KeptE (ofDb b n e p) V6 (r', d) := fun y hy => hkv y (hy.mono hdv)
     refine (store_c b n e p re s (strM NL) N1 E E1 P r' d V6 (h.later HB6) (fun x hx => ⟨(hE x hx).1.on (But.of_below HB6), (hE x hx).2⟩) hR hke hok).mono ?_
     rintro q V7 ⟨rfl, hb7, h7⟩
     dsimp only
     have hb7' : But (ofDb b n e p) V5 V7 := (But.of_below hb6').trans hb7
     refine hK _ _ (sinceB_of hb7') ?_
     clear hK K
     refine text_nil ?_
     have hb67 : But (fun k => k < V5.heap.size) V6 V7 := hb7.mono hdv
     have hl2V : w.heap.size + 1 + 1 < V5.heap.size := l2
     have hl3V : w3.heap.size < V5.heap.size := (Array.getElem?_eq_some_iff.1 hD5).1
     have ht7 := (hb7'.block _ l0 n0).trans ht_V5
     have hr7 := (hb7'.block _ l2 n2).trans hr_V5
     have hD7 := (hb7'.block _ (Array.getElem?_eq_some_iff.1 hD5).1 n3).trans hD5
     have HB7 : But (ofDb b n e p) w V7 := (But.of_below HB5).trans hb7'
     clear c0 c1' c2 c3 c4 f1 hl hre17 hrn hecell hct hc4 hf4 l0 l1 l2 hln
     obtain ⟨c0, c1, c2, c3, c4, f1, hl⟩ := box5 h7.box
     have l0 : w.heap.size < V7.heap.size := (Array.getElem?_eq_some_iff.1 ht7).1
     have hct : V7.cell? ⟨w.heap.size, 0, none⟩ = some (.pointer (some ⟨b, 0, none⟩)) := (box_facts ht7).1 0
     gi_wp2
     refine ⟨trivial, rfl, (callsIn_wide.2 (advance_c b s V7 c1 f1 hs0 hs1)).mono ?_⟩
     rintro q w' ⟨rfl, rfl⟩
     dsimp only
     have hbw : b < w.heap.size := (Array.getElem?_eq_some_iff.1 h.box).1
     have hset8 := setCell_blk (o := 1) (.int .i64 (s + 1)) h7.box
     rw [dbC_set] at hset8
     have hoth : ∀ k, k ≠ b → (V7.setCell ⟨b, 1, none⟩ (.int .i64 (s + 1))).heap[k]? = V7.heap[k]? := fun k hk => Below.heap_setCell _ _ _ _ hk
     have hsz8 : (V7.setCell ⟨b, 1, none⟩ (.int .i64 (s + 1))).heap.size = V7.heap.size := by simp [World.setCell]
     have hr8 := (hoth _ (by omega)).trans hr7
     have hD8 := (hoth w3.heap.size (by have := hB3.size; omega)).trans hD7
     have hc8 : (V7.setCell ⟨b, 1, none⟩ (.int .i64 (s + 1))).cell? ⟨w.heap.size + 1 + 1, 0, none⟩ = some (.int .i64 0) := (box_facts hr8).1 0
     have hf8 : (V7.setCell ⟨b, 1, none⟩ (.int .i64 (s + 1))).frozen? ⟨w.heap.size + 1 + 1, 0, none⟩ = false := (box_facts hr8).2.1 0
     have l8 : w.heap.size + 1 + 1 < (V7.setCell ⟨b, 1, none⟩ (.int .i64 (s + 1))).heap.size := (Array.getElem?_eq_some_iff.1 hr8).1
     have HB8 : But (ofDb b n e p) w (V7.setCell ⟨b, 1, none⟩ (.int .i64 (s + 1))) := ⟨HB7.os, HB7.tape, HB7.output, by rw [hsz8]; exact HB7.size, fun k hk hn' => (hoth k (fun e' => hn' (.inl e'))).trans (HB7.block k hk hn')⟩
     have hnb : n ≠ b := fun e' => cells_ne_map h7.box h7.nm e'.symm
     have heb : e ≠ b := fun e' => cells_ne_map h7.box h7.em e'.symm
     have hpb : p ≠ b := fun e' => cells_ne_map h7.box h7.pm e'.symm
     have h8 : DbAt (V7.setCell ⟨b, 1, none⟩ (.int .i64 (s + 1))) b n e p re (s + 1) (setAll N1 (textOf d.name) (d.name :: d.aliases)) (E1 ++ [(r', d)]) P := ⟨hset8, h7.nm.at (hoth n hnb), h7.em.at (hoth e heb), h7.pm.at (hoth p hpb), h.ne⟩
     have hb68 : But (fun k => k < V5.heap.size) V6 (V7.setCell ⟨b, 1, none⟩ (.int .i64 (s + 1))) := hb67.trans ⟨rfl, rfl, rfl, by rw [hsz8]; exact Nat.le_refl _, fun k _ hn' => hoth k (fun e' => hn' (hdv k (.inl e')))⟩
     clear hset8 hoth hsz8 c0 c1 c2 c3 c4 f1 hl hct l0 hr7 hD7 ht7
     generalize V7.setCell ⟨b, 1, none⟩ (.int .i64 (s + 1)) = V8 at *
     gi_wp2
     have hw3 := hB3.size
     have hset9 := setCell_blk (o := 0) (.int .i64 0) hr8
     have hD9 : (V8.setCell ⟨w.heap.size + 1 + 1, 0, none⟩ (.int .i64 0)).heap[w3.heap.size]? = some (.deferred (some [])) := (Below.heap_setCell _ _ _ _ (show w3.heap.size ≠ w.heap.size + 1 + 1 by omega)).trans hD8
     refine ⟨by simp, .inl ⟨_, _, rfl, run_takeDeferred hD9, ?_⟩⟩
     have hoth9 : ∀ k, k ≠ w.heap.size + 1 + 1 → k ≠ w3.heap.size → ((V8.setCell ⟨w.heap.size + 1 + 1, 0, none⟩ (.int .i64 0)).putObj w3.heap.size (.deferred none)).heap[k]? = V8.heap[k]? := fun k h1 h2 => (World.putObj_heap_other h2).trans (Below.heap_setCell _ _ _ _ h1)
     have hsz9 : V8.heap.size ≤ ((V8.setCell ⟨w.heap.size + 1 + 1, 0, none⟩ (.int .i64 0)).putObj w3.heap.size (.deferred none)).heap.size := by simp [World.setCell, World.putObj]
     have hc9 : ((V8.setCell ⟨w.heap.size + 1 + 1, 0, none⟩ (.int .i64 0)).putObj w3.heap.size (.deferred none)).cell? ⟨w.heap.size + 1 + 1, 0, none⟩ = some (.int .i64 0) := (box_facts ((World.putObj_heap_other (show w.heap.size + 1 + 1 ≠ w3.heap.size by omega)).trans hset9)).1 0
     have hb9 : But (fun k => k = w.heap.size + 1 + 1 ∨ k = w3.heap.size) V8 ((V8.setCell ⟨w.heap.size + 1 + 1, 0, none⟩ (.int .i64 0)).putObj w3.heap.size (.deferred none)) := ⟨rfl, rfl, rfl, hsz9, fun k _ hn' => hoth9 k (fun e' => hn' (.inl e')) (fun e' => hn' (.inr e'))⟩
     refine ⟨.int .i64 0, by simp [results, Tryz.f39, go_sem, hc9], .inr ⟨rfl, hfree, HB8.past hb9 (fun k hk => by rcases hk with rfl | rfl <;> omega), r', fun y hy => hkv y ((hb68.trans (hb9.mono fun k hk => by rcases hk with rfl | rfl <;> assumption)).trans (hy.mono fun k hk => Nat.lt_of_lt_of_le hk HB5.size)), ?_⟩⟩
     have hlt8 : ∀ k, ofDb b n e p k → k < w.heap.size := fun k hk => Nat.lt_of_not_le fun hge => not_ofDb h k hge hk
     have hk9 : ∀ k, ofDb b n e p k → ((V8.setCell ⟨w.heap.size + 1 + 1, 0, none⟩ (.int .i64 0)).putObj w3.heap.size (.deferred none)).heap[k]? = V8.heap[k]? := fun k hk => hoth9 k (by have := hlt8 k hk; omega) (by have := hlt8 k hk; omega)
     exact ⟨(hk9 b (.inl rfl)).trans h8.box, h8.nm.at (hk9 n (.inr (.inl rfl))), h8.em.at (hk9 e (.inr (.inr (.inl rfl)))), h8.pm.at (hk9 p (.inr (.inr (.inr rfl)))), h.ne⟩
    ·gi_wp2
     refine (wpIn_wide (n := 0)).2 ?_
     refine wp_region_sinceB (ofDb b n e p) (But.refl _ V5) (by kernel_rfl) (by kernel_rfl) ?_
     iterate 4 (refine textN_look (by kernel_rfl) (by kernel_rfl) (fun K hK => ?_); go_big_quiet_op; refine hK _ ?_; clear hK K)
     refine textN_act (by rfl) (by rfl) (fun K hK => ?_)
     go_wp2_with fail
     refine (eCopy_c r d V5.drew ((he.later HB5).later (Below.refl _ _).drew)).mono ?_
     rintro q V6 ⟨r', rfl, hb6, hd6⟩
     dsimp only
     have hb6' : Below V5.heap.size V5 V6 := (Below.refl _ V5).drew.trans hb6
     refine hK _ _ (sinceB_of (But.of_below hb6')) ?_
     clear hK K
     refine textN_act (by rfl) (by rfl) (fun K hK => ?_)
     go_wp2_with fail
     have HB6 := below_step HB5 hb6'
     have hkv : ∀ y, But (fun k => k < V5.heap.size) V6 y → EntAt y r' d := fun y hy => hd6 y fun k hk => hy.block k hk.2 (fun hk' => by have h1 : V5.drew.heap.size ≤ k := hk.1; have h2 : V5.drew.heap.size = V5.heap.size := rfl; omega)
     have hdv : ∀ k, ofDb b n e p k → k < V5.heap.size := fun k hk => Nat.lt_of_not_le fun hge => not_ofDb h k (Nat.le_trans HB5.size hge) hk
     have hke : KeptE (ofDb b n e p) V6 (r', d) := fun y hy => hkv y (hy.mono hdv)
     refine (store_c b n e p re s (strM NL) N1 E E1 P r' d V6 (h.later HB6) (fun x hx => ⟨(hE x hx).1.on (But.of_below HB6), (hE x hx).2⟩) hR hke hok).mono ?_
     rintro q V7 ⟨rfl, hb7, h7⟩
     dsimp only
     have hb7' : But (ofDb b n e p) V5 V7 := (But.of_below hb6').trans hb7
     refine hK _ _ (sinceB_of hb7') ?_
     clear hK K
     refine text_nil ?_
     have hb67 : But (fun k => k < V5.heap.size) V6 V7 := hb7.mono hdv
     have hl2V : w.heap.size + 1 + 1 < V5.heap.size := l2
     have hl3V : w3.heap.size < V5.heap.size := (Array.getElem?_eq_some_iff.1 hD5).1
     have ht7 := (hb7'.block _ l0 n0).trans ht_V5
     have hr7 := (hb7'.block _ l2 n2).trans hr_V5
     have hD7 := (hb7'.block _ (Array.getElem?_eq_some_iff.1 hD5).1 n3).trans hD5
     have HB7 : But (ofDb b n e p) w V7 := (But.of_below HB5).trans hb7'
     clear c0 c1' c2 c3 c4 f1 hl hre17 hrn hecell hct hc4 hf4 l0 l1 l2 hln
     obtain ⟨c0, c1, c2, c3, c4, f1, hl⟩ := box5 h7.box
     have l0 : w.heap.size < V7.heap.size := (Array.getElem?_eq_some_iff.1 ht7).1
     have hct : V7.cell? ⟨w.heap.size, 0, none⟩ = some (.pointer (some ⟨b, 0, none⟩)) := (box_facts ht7).1 0
     gi_wp2
     refine ⟨trivial, rfl, (callsIn_wide.2 (advance_c b s V7 c1 f1 hs0 hs1)).mono ?_⟩
     rintro q w' ⟨rfl, rfl⟩
     dsimp only
     have hbw : b < w.heap.size := (Array.getElem?_eq_some_iff.1 h.box).1
     have hset8 := setCell_blk (o := 1) (.int .i64 (s + 1)) h7.box
     rw [dbC_set] at hset8
     have hoth : ∀ k, k ≠ b → (V7.setCell ⟨b, 1, none⟩ (.int .i64 (s + 1))).heap[k]? = V7.heap[k]? := fun k hk => Below.heap_setCell _ _ _ _ hk
     have hsz8 : (V7.setCell ⟨b, 1, none⟩ (.int .i64 (s + 1))).heap.size = V7.heap.size := by simp [World.setCell]
     have hr8 := (hoth _ (by omega)).trans hr7
     have hD8 := (hoth w3.heap.size (by have := hB3.size; omega)).trans hD7
     have hc8 : (V7.setCell ⟨b, 1, none⟩ (.int .i64 (s + 1))).cell? ⟨w.heap.size + 1 + 1, 0, none⟩ = some (.int .i64 0) := (box_facts hr8).1 0
     have hf8 : (V7.setCell ⟨b, 1, none⟩ (.int .i64 (s + 1))).frozen? ⟨w.heap.size + 1 + 1, 0, none⟩ = false := (box_facts hr8).2.1 0
     have l8 : w.heap.size + 1 + 1 < (V7.setCell ⟨b, 1, none⟩ (.int .i64 (s + 1))).heap.size := (Array.getElem?_eq_some_iff.1 hr8).1
     have HB8 : But (ofDb b n e p) w (V7.setCell ⟨b, 1, none⟩ (.int .i64 (s + 1))) := ⟨HB7.os, HB7.tape, HB7.output, by rw [hsz8]; exact HB7.size, fun k hk hn' => (hoth k (fun e' => hn' (.inl e'))).trans (HB7.block k hk hn')⟩
     have hnb : n ≠ b := fun e' => cells_ne_map h7.box h7.nm e'.symm
     have heb : e ≠ b := fun e' => cells_ne_map h7.box h7.em e'.symm
     have hpb : p ≠ b := fun e' => cells_ne_map h7.box h7.pm e'.symm
     have h8 : DbAt (V7.setCell ⟨b, 1, none⟩ (.int .i64 (s + 1))) b n e p re (s + 1) (setAll N1 (textOf d.name) (d.name :: d.aliases)) (E1 ++ [(r', d)]) P := ⟨hset8, h7.nm.at (hoth n hnb), h7.em.at (hoth e heb), h7.pm.at (hoth p hpb), h.ne⟩
     have hb68 : But (fun k => k < V5.heap.size) V6 (V7.setCell ⟨b, 1, none⟩ (.int .i64 (s + 1))) := hb67.trans ⟨rfl, rfl, rfl, by rw [hsz8]; exact Nat.le_refl _, fun k _ hn' => hoth k (fun e' => hn' (hdv k (.inl e')))⟩
     clear hset8 hoth hsz8 c0 c1 c2 c3 c4 f1 hl hct l0 hr7 hD7 ht7
     generalize V7.setCell ⟨b, 1, none⟩ (.int .i64 (s + 1)) = V8 at *
     gi_wp2
     have hw3 := hB3.size
     have hset9 := setCell_blk (o := 0) (.int .i64 0) hr8
     have hD9 : (V8.setCell ⟨w.heap.size + 1 + 1, 0, none⟩ (.int .i64 0)).heap[w3.heap.size]? = some (.deferred (some [])) := (Below.heap_setCell _ _ _ _ (show w3.heap.size ≠ w.heap.size + 1 + 1 by omega)).trans hD8
     refine ⟨by simp, .inl ⟨_, _, rfl, run_takeDeferred hD9, ?_⟩⟩
     have hoth9 : ∀ k, k ≠ w.heap.size + 1 + 1 → k ≠ w3.heap.size → ((V8.setCell ⟨w.heap.size + 1 + 1, 0, none⟩ (.int .i64 0)).putObj w3.heap.size (.deferred none)).heap[k]? = V8.heap[k]? := fun k h1 h2 => (World.putObj_heap_other h2).trans (Below.heap_setCell _ _ _ _ h1)
     have hsz9 : V8.heap.size ≤ ((V8.setCell ⟨w.heap.size + 1 + 1, 0, none⟩ (.int .i64 0)).putObj w3.heap.size (.deferred none)).heap.size := by simp [World.setCell, World.putObj]
     have hc9 : ((V8.setCell ⟨w.heap.size + 1 + 1, 0, none⟩ (.int .i64 0)).putObj w3.heap.size (.deferred none)).cell? ⟨w.heap.size + 1 + 1, 0, none⟩ = some (.int .i64 0) := (box_facts ((World.putObj_heap_other (show w.heap.size + 1 + 1 ≠ w3.heap.size by omega)).trans hset9)).1 0
     have hb9 : But (fun k => k = w.heap.size + 1 + 1 ∨ k = w3.heap.size) V8 ((V8.setCell ⟨w.heap.size + 1 + 1, 0, none⟩ (.int .i64 0)).putObj w3.heap.size (.deferred none)) := ⟨rfl, rfl, rfl, hsz9, fun k _ hn' => hoth9 k (fun e' => hn' (.inl e')) (fun e' => hn' (.inr e'))⟩
     refine ⟨.int .i64 0, by simp [results, Tryz.f39, go_sem, hc9], .inr ⟨rfl, hfree, HB8.past hb9 (fun k hk => by rcases hk with rfl | rfl <;> omega), r', fun y hy => hkv y ((hb68.trans (hb9.mono fun k hk => by rcases hk with rfl | rfl <;> assumption)).trans (hy.mono fun k hk => Nat.lt_of_lt_of_le hk HB5.size)), ?_⟩⟩
     have hlt8 : ∀ k, ofDb b n e p k → k < w.heap.size := fun k hk => Nat.lt_of_not_le fun hge => not_ofDb h k hge hk
     have hk9 : ∀ k, ofDb b n e p k → ((V8.setCell ⟨w.heap.size + 1 + 1, 0, none⟩ (.int .i64 0)).putObj w3.heap.size (.deferred none)).heap[k]? = V8.heap[k]? := fun k hk => hoth9 k (by have := hlt8 k hk; omega) (by have := hlt8 k hk; omega)
     exact ⟨(hk9 b (.inl rfl)).trans h8.box, h8.nm.at (hk9 n (.inr (.inl rfl))), h8.em.at (hk9 e (.inr (.inr (.inl rfl)))), h8.pm.at (hk9 p (.inr (.inr (.inr rfl)))), h.ne⟩
   ·intro v1 hv1
    simp only [pick, List.getElem?_cons_zero, List.getElem?_cons_succ]
    iterate 7 (refine textN_look (by kernel_rfl) (by kernel_rfl) (fun K hK => ?_); go_big_quiet_op; refine hK _ ?_; clear hK K)
    refine textN_act (by rfl) (by rfl) (fun K hK => ?_)
    go_wp2_with fail
    refine hK _ _ (since_of (below_new hv1 _)) ?_
    clear hK K
    rw [← zeroE_lit]
    have hz1 := World.alloc_heap_new v1 (.cells (entC zeroR zeroD) 31)
    have hbz1 := below_new hv1 (.cells (entC zeroR zeroD) 31)
    generalize v1.alloc (.cells (entC zeroR zeroD) 31) = Z at *
    refine textN_act (by rfl) (by rfl) (fun K hK => ?_)
    go_wp2_with fail
    refine (key_c _ _ _ (hEc.later hbz1) (hok _ (by simp))).mono ?_
    rintro z v2 ⟨rfl, hv2⟩
    dsimp only
    have hv2' := below_step hbz1 hv2
    refine hK _ _ (since_of hv2') ?_
    clear hK K
    have hz2 := still_blk hv2 hz1
    have hcp : canPut v2 v1.heap.size 0 17 = true := canPut_of_cells hz2 (by simp [go_sem])
    have hV5 := Go.WW.Below.putRow (o := 0) (cs := entC r0 d0) hv2' hv1.size
    iterate 4 (refine textN_look (by kernel_rfl) (by kernel_rfl) (fun K hK => ?_); go_big_quiet_op; refine hK _ ?_; clear hK K)
    refine textN_act (by rfl) (by rfl) (fun K hK => ?_)
    go_wp2_with fail
    refine hK _ _ (since_of hV5) ?_
    clear hK K
    iterate 1 (refine textN_look (by kernel_rfl) (by kernel_rfl) (fun K hK => ?_); go_big_quiet_op; refine hK _ ?_; clear hK K)
    refine text_nil ?_
    clear hlk hv2 hv2' hz1 hz2 hcp hbz1
    generalize (putRow v2 v1.heap.size 0 (entC r0 d0)) = V5 at *
    have HBW5 := below_step HBWc hV5
    have HB5 := below_step hB HBW5
    clear c0 c1' c2 c3 c4 f1 hl hre17 hrn hecell hct hc4 hf4 l0 l1 l2
    have ht_V5 := still_blk HBW5 ht
    have he_V5 := still_blk HBW5 hee
    have hr_V5 := still_blk HBW5 hr4
    have h_V5 := h'.later HBW5
    have l0 : w.heap.size < V5.heap.size := (Array.getElem?_eq_some_iff.1 ht_V5).1
    have l1 : w.heap.size + 1 < V5.heap.size := (Array.getElem?_eq_some_iff.1 he_V5).1
    have l2 : w.heap.size + 1 + 1 < V5.heap.size := (Array.getElem?_eq_some_iff.1 hr_V5).1
    obtain ⟨c0, c1', c2, c3, c4, f1, hl⟩ := box5 h_V5.box
    have hre17 : row? V5 (w.heap.size + 1) 0 17 = some (entC r d) := by rw [row?_of_cells he_V5]; exact subRow_whole (by simp [go_sem])
    have hrn : row? V5 (w.heap.size + 1) 0 2 = some (prinC r.parts d.name) := ent_name_row hre17
    have hecell := (box_facts he_V5).1
    have hct : V5.cell? ⟨w.heap.size, 0, none⟩ = some (.pointer (some ⟨b, 0, none⟩)) := (box_facts ht_V5).1 0
    have hc4 : V5.cell? ⟨w.heap.size + 1 + 1, 0, none⟩ = some (.int .i64 0) := (box_facts hr_V5).1 0
    have hf4 : V5.frozen? ⟨w.heap.size + 1 + 1, 0, none⟩ = false := (box_facts hr_V5).2.1 0
    have hD5 : V5.heap[w3.heap.size]? = some (.deferred (some [])) := still_blk hV5 hD
    have hln := len_map (P := Tryz.prog) (ty := 3) (tys := #[94]) rfl Tryz.underlying94 h_V5.em
    rw [List.length_map] at hln
    have h4096 : ¬ (4096 : Int) ≤ (E.length : Int) := by omega
    have n0 := not_ofDb h w.heap.size (Nat.le_refl _)
    have n1 := not_ofDb h (w.heap.size + 1) (by omega)
    have n2 := not_ofDb h (w.heap.size + 1 + 1) (by omega)
    have n3 := not_ofDb h w3.heap.size (by have := hB3.size; omega)
    cases ok
    ·gi_wp2
     refine (wpIn_wide (n := 0)).2 ?_
     refine wp_region_sinceB (ofDb b n e p) (But.refl _ V5) (by kernel_rfl) (by kernel_rfl) ?_
     iterate 4 (refine textN_look (by kernel_rfl) (by kernel_rfl) (fun K hK => ?_); go_big_quiet_op; refine hK _ ?_; clear hK K)
     refine textN_act (by rfl) (by rfl) (fun K hK => ?_)
     go_wp2_with fail
     refine (eCopy_c r d V5.drew ((he.later HB5).later (Below.refl _ _).drew)).mono ?_
     rintro q V6 ⟨r', rfl, hb6, hd6⟩
     dsimp only
     have hb6' : Below V5.heap.size V5 V6 := (Below.refl _ V5).drew.trans hb6
     refine hK _ _ (sinceB_of (But.of_below hb6')) ?_
     clear hK K
     refine textN_act (by rfl) (by rfl) (fun K hK => ?_)
     go_wp2_with fail
     have HB6 := below_step HB5 hb6'
     have hkv : ∀ y, But (fun k => k < V5.heap.size) V6 y → EntAt y r' d := fun y hy => hd6 y fun k hk => hy.block k hk.2 (fun hk' => by have h1 : V5.drew.heap.size ≤ k := hk.1; have h2 : V5.drew.heap.size = V5.heap.size := rfl; omega)
     have hdv : ∀ k, ofDb b n e p k → k < V5.heap.size := fun k hk => Nat.lt_of_not_le fun hge => not_ofDb h k (Nat.le_trans HB5.size hge) hk
     have hke : KeptE (ofDb b n e p) V6 (r', d) := fun y hy => hkv y (hy.mono hdv)
     refine (store_c b n e p re s (strM NL) N1 E E1 P r' d V6 (h.later HB6) (fun x hx => ⟨(hE x hx).1.on (But.of_below HB6), (hE x hx).2⟩) hR hke hok).mono ?_
     rintro q V7 ⟨rfl, hb7, h7⟩
     dsimp only
     have hb7' : But (ofDb b n e p) V5 V7 := (But.of_below hb6').trans hb7
     refine hK _ _ (sinceB_of hb7') ?_
     clear hK K
     refine text_nil ?_
     have hb67 : But (fun k => k < V5.heap.size) V6 V7 := hb7.mono hdv
     have hl2V : w.heap.size + 1 + 1 < V5.heap.size := l2
     have hl3V : w3.heap.size < V5.heap.size := (Array.getElem?_eq_some_iff.1 hD5).1
     have ht7 := (hb7'.block _ l0 n0).trans ht_V5
     have hr7 := (hb7'.block _ l2 n2).trans hr_V5
     have hD7 := (hb7'.block _ (Array.getElem?_eq_some_iff.1 hD5).1 n3).trans hD5
     have HB7 : But (ofDb b n e p) w V7 := (But.of_below HB5).trans hb7'
     clear c0 c1' c2 c3 c4 f1 hl hre17 hrn hecell hct hc4 hf4 l0 l1 l2 hln
     obtain ⟨c0, c1, c2, c3, c4, f1, hl⟩ := box5 h7.box
     have l0 : w.heap.size < V7.heap.size := (Array.getElem?_eq_some_iff.1 ht7).1
     have hct : V7.cell? ⟨w.heap.size, 0, none⟩ = some (.pointer (some ⟨b, 0, none⟩)) := (box_facts ht7).1 0
     gi_wp2
     refine ⟨trivial, rfl, (callsIn_wide.2 (advance_c b s V7 c1 f1 hs0 hs1)).mono ?_⟩
     rintro q w' ⟨rfl, rfl⟩
     dsimp only
     have hbw : b < w.heap.size := (Array.getElem?_eq_some_iff.1 h.box).1
     have hset8 := setCell_blk (o := 1) (.int .i64 (s + 1)) h7.box
     rw [dbC_set] at hset8
     have hoth : ∀ k, k ≠ b → (V7.setCell ⟨b, 1, none⟩ (.int .i64 (s + 1))).heap[k]? = V7.heap[k]? := fun k hk => Below.heap_setCell _ _ _ _ hk
     have hsz8 : (V7.setCell ⟨b, 1, none⟩ (.int .i64 (s + 1))).heap.size = V7.heap.size := by simp [World.setCell]
     have hr8 := (hoth _ (by omega)).trans hr7
     have hD8 := (hoth w3.heap.size (by have := hB3.size; omega)).trans hD7
     have hc8 : (V7.setCell ⟨b, 1, none⟩ (.int .i64 (s + 1))).cell? ⟨w.heap.size + 1 + 1, 0, none⟩ = some (.int .i64 0) := (box_facts hr8).1 0
     have hf8 : (V7.setCell ⟨b, 1, none⟩ (.int .i64 (s + 1))).frozen? ⟨w.heap.size + 1 + 1, 0, none⟩ = false := (box_facts hr8).2.1 0
     have l8 : w.heap.size + 1 + 1 < (V7.setCell ⟨b, 1, none⟩ (.int .i64 (s + 1))).heap.size := (Array.getElem?_eq_some_iff.1 hr8).1
     have HB8 : But (ofDb b n e p) w (V7.setCell ⟨b, 1, none⟩ (.int .i64 (s + 1))) := ⟨HB7.os, HB7.tape, HB7.output, by rw [hsz8]; exact HB7.size, fun k hk hn' => (hoth k (fun e' => hn' (.inl e'))).trans (HB7.block k hk hn')⟩
     have hnb : n ≠ b := fun e' => cells_ne_map h7.box h7.nm e'.symm
     have heb : e ≠ b := fun e' => cells_ne_map h7.box h7.em e'.symm
     have hpb : p ≠ b := fun e' => cells_ne_map h7.box h7.pm e'.symm
     have h8 : DbAt (V7.setCell ⟨b, 1, none⟩ (.int .i64 (s + 1))) b n e p re (s + 1) (setAll N1 (textOf d.name) (d.name :: d.aliases)) (E1 ++ [(r', d)]) P := ⟨hset8, h7.nm.at (hoth n hnb), h7.em.at (hoth e heb), h7.pm.at (hoth p hpb), h.ne⟩
     have hb68 : But (fun k => k < V5.heap.size) V6 (V7.setCell ⟨b, 1, none⟩ (.int .i64 (s + 1))) := hb67.trans ⟨rfl, rfl, rfl, by rw [hsz8]; exact Nat.le_refl _, fun k _ hn' => hoth k (fun e' => hn' (hdv k (.inl e')))⟩
     clear hset8 hoth hsz8 c0 c1 c2 c3 c4 f1 hl hct l0 hr7 hD7 ht7
     generalize V7.setCell ⟨b, 1, none⟩ (.int .i64 (s + 1)) = V8 at *
     gi_wp2
     have hw3 := hB3.size
     have hset9 := setCell_blk (o := 0) (.int .i64 0) hr8
     have hD9 : (V8.setCell ⟨w.heap.size + 1 + 1, 0, none⟩ (.int .i64 0)).heap[w3.heap.size]? = some (.deferred (some [])) := (Below.heap_setCell _ _ _ _ (show w3.heap.size ≠ w.heap.size + 1 + 1 by omega)).trans hD8
     refine ⟨by simp, .inl ⟨_, _, rfl, run_takeDeferred hD9, ?_⟩⟩
     have hoth9 : ∀ k, k ≠ w.heap.size + 1 + 1 → k ≠ w3.heap.size → ((V8.setCell ⟨w.heap.size + 1 + 1, 0, none⟩ (.int .i64 0)).putObj w3.heap.size (.deferred none)).heap[k]? = V8.heap[k]? := fun k h1 h2 => (World.putObj_heap_other h2).trans (Below.heap_setCell _ _ _ _ h1)
     have hsz9 : V8.heap.size ≤ ((V8.setCell ⟨w.heap.size + 1 + 1, 0, none⟩ (.int .i64 0)).putObj w3.heap.size (.deferred none)).heap.size := by simp [World.setCell, World.putObj]
     have hc9 : ((V8.setCell ⟨w.heap.size + 1 + 1, 0, none⟩ (.int .i64 0)).putObj w3.heap.size (.deferred none)).cell? ⟨w.heap.size + 1 + 1, 0, none⟩ = some (.int .i64 0) := (box_facts ((World.putObj_heap_other (show w.heap.size + 1 + 1 ≠ w3.heap.size by omega)).trans hset9)).1 0
     have hb9 : But (fun k => k = w.heap.size + 1 + 1 ∨ k = w3.heap.size) V8 ((V8.setCell ⟨w.heap.size + 1 + 1, 0, none⟩ (.int .i64 0)).putObj w3.heap.size (.deferred none)) := ⟨rfl, rfl, rfl, hsz9, fun k _ hn' => hoth9 k (fun e' => hn' (.inl e')) (fun e' => hn' (.inr e'))⟩
     refine ⟨.int .i64 0, by simp [results, Tryz.f39, go_sem, hc9], .inr ⟨rfl, hfree, HB8.past hb9 (fun k hk => by rcases hk with rfl | rfl <;> omega), r', fun y hy => hkv y ((hb68.trans (hb9.mono fun k hk => by rcases hk with rfl | rfl <;> assumption)).trans (hy.mono fun k hk => Nat.lt_of_lt_of_le hk HB5.size)), ?_⟩⟩
     have hlt8 : ∀ k, ofDb b n e p k → k < w.heap.size := fun k hk => Nat.lt_of_not_le fun hge => not_ofDb h k hge hk
     have hk9 : ∀ k, ofDb b n e p k → ((V8.setCell ⟨w.heap.size + 1 + 1, 0, none⟩ (.int .i64 0)).putObj w3.heap.size (.deferred none)).heap[k]? = V8.heap[k]? := fun k hk => hoth9 k (by have := hlt8 k hk; omega) (by have := hlt8 k hk; omega)
     exact ⟨(hk9 b (.inl rfl)).trans h8.box, h8.nm.at (hk9 n (.inr (.inl rfl))), h8.em.at (hk9 e (.inr (.inr (.inl rfl)))), h8.pm.at (hk9 p (.inr (.inr (.inr rfl)))), h.ne⟩
    ·gi_wp2
     refine (wpIn_wide (n := 0)).2 ?_
     refine wp_region_sinceB (ofDb b n e p) (But.refl _ V5) (by kernel_rfl) (by kernel_rfl) ?_
     iterate 4 (refine textN_look (by kernel_rfl) (by kernel_rfl) (fun K hK => ?_); go_big_quiet_op; refine hK _ ?_; clear hK K)
     refine textN_act (by rfl) (by rfl) (fun K hK => ?_)
     go_wp2_with fail
     refine (eCopy_c r d V5.drew ((he.later HB5).later (Below.refl _ _).drew)).mono ?_
     rintro q V6 ⟨r', rfl, hb6, hd6⟩
     dsimp only
     have hb6' : Below V5.heap.size V5 V6 := (Below.refl _ V5).drew.trans hb6
     refine hK _ _ (sinceB_of (But.of_below hb6')) ?_
     clear hK K
     refine textN_act (by rfl) (by rfl) (fun K hK => ?_)
     go_wp2_with fail
     have HB6 := below_step HB5 hb6'
     have hkv : ∀ y, But (fun k => k < V5.heap.size) V6 y → EntAt y r' d := fun y hy => hd6 y fun k hk => hy.block k hk.2 (fun hk' => by have h1 : V5.drew.heap.size ≤ k := hk.1; have h2 : V5.drew.heap.size = V5.heap.size := rfl; omega)
     have hdv : ∀ k, ofDb b n e p k → k < V5.heap.size := fun k hk => Nat.lt_of_not_le fun hge => not_ofDb h k (Nat.le_trans HB5.size hge) hk
     have hke : KeptE (ofDb b n e p) V6 (r', d) := fun y hy => hkv y (hy.mono hdv)
     refine (store_c b n e p re s (strM NL) N1 E E1 P r' d V6 (h.later HB6) (fun x hx => ⟨(hE x hx).1.on (But.of_below HB6), (hE x hx).2⟩) hR hke hok).mono ?_
     rintro q V7 ⟨rfl, hb7, h7⟩
     dsimp only
     have hb7' : But (ofDb b n e p) V5 V7 := (But.of_below hb6').trans hb7
     refine hK _ _ (sinceB_of hb7') ?_
     clear hK K
     refine text_nil ?_
     have hb67 : But (fun k => k < V5.heap.size) V6 V7 := hb7.mono hdv
     have hl2V : w.heap.size + 1 + 1 < V5.heap.size := l2
     have hl3V : w3.heap.size < V5.heap.size := (Array.getElem?_eq_some_iff.1 hD5).1
     have ht7 := (hb7'.block _ l0 n0).trans ht_V5
     have hr7 := (hb7'.block _ l2 n2).trans hr_V5
     have hD7 := (hb7'.block _ (Array.getElem?_eq_some_iff.1 hD5).1 n3).trans hD5
     have HB7 : But (ofDb b n e p) w V7 := (But.of_below HB5).trans hb7'
     clear c0 c1' c2 c3 c4 f1 hl hre17 hrn hecell hct hc4 hf4 l0 l1 l2 hln
     obtain ⟨c0, c1, c2, c3, c4, f1, hl⟩ := box5 h7.box
     have l0 : w.heap.size < V7.heap.size := (Array.getElem?_eq_some_iff.1 ht7).1
     have hct : V7.cell? ⟨w.heap.size, 0, none⟩ = some (.pointer (some ⟨b, 0, none⟩)) := (box_facts ht7).1 0
     gi_wp2
     refine ⟨trivial, rfl, (callsIn_wide.2 (advance_c b s V7 c1 f1 hs0 hs1)).mono ?_⟩
     rintro q w' ⟨rfl, rfl⟩
     dsimp only
     have hbw : b < w.heap.size := (Array.getElem?_eq_some_iff.1 h.box).1
     have hset8 := setCell_blk (o := 1) (.int .i64 (s + 1)) h7.box
     rw [dbC_set] at hset8
     have hoth : ∀ k, k ≠ b → (V7.setCell ⟨b, 1, none⟩ (.int .i64 (s + 1))).heap[k]? = V7.heap[k]? := fun k hk => Below.heap_setCell _ _ _ _ hk
     have hsz8 : (V7.setCell ⟨b, 1, none⟩ (.int .i64 (s + 1))).heap.size = V7.heap.size := by simp [World.setCell]
     have hr8 := (hoth _ (by omega)).trans hr7
     have hD8 := (hoth w3.heap.size (by have := hB3.size; omega)).trans hD7
     have hc8 : (V7.setCell ⟨b, 1, none⟩ (.int .i64 (s + 1))).cell? ⟨w.heap.size + 1 + 1, 0, none⟩ = some (.int .i64 0) := (box_facts hr8).1 0
     have hf8 : (V7.setCell ⟨b, 1, none⟩ (.int .i64 (s + 1))).frozen? ⟨w.heap.size + 1 + 1, 0, none⟩ = false := (box_facts hr8).2.1 0
     have l8 : w.heap.size + 1 + 1 < (V7.setCell ⟨b, 1, none⟩ (.int .i64 (s + 1))).heap.size := (Array.getElem?_eq_some_iff.1 hr8).1
     have HB8 : But (ofDb b n e p) w (V7.setCell ⟨b, 1, none⟩ (.int .i64 (s + 1))) := ⟨HB7.os, HB7.tape, HB7.output, by rw [hsz8]; exact HB7.size, fun k hk hn' => (hoth k (fun e' => hn' (.inl e'))).trans (HB7.block k hk hn')⟩
     have hnb : n ≠ b := fun e' => cells_ne_map h7.box h7.nm e'.symm
     have heb : e ≠ b := fun e' => cells_ne_map h7.box h7.em e'.symm
     have hpb : p ≠ b := fun e' => cells_ne_map h7.box h7.pm e'.symm
     have h8 : DbAt (V7.setCell ⟨b, 1, none⟩ (.int .i64 (s + 1))) b n e p re (s + 1) (setAll N1 (textOf d.name) (d.name :: d.aliases)) (E1 ++ [(r', d)]) P := ⟨hset8, h7.nm.at (hoth n hnb), h7.em.at (hoth e heb), h7.pm.at (hoth p hpb), h.ne⟩
     have hb68 : But (fun k => k < V5.heap.size) V6 (V7.setCell ⟨b, 1, none⟩ (.int .i64 (s + 1))) := hb67.trans ⟨rfl, rfl, rfl, by rw [hsz8]; exact Nat.le_refl _, fun k _ hn' => hoth k (fun e' => hn' (hdv k (.inl e')))⟩
     clear hset8 hoth hsz8 c0 c1 c2 c3 c4 f1 hl hct l0 hr7 hD7 ht7
     generalize V7.setCell ⟨b, 1, none⟩ (.int .i64 (s + 1)) = V8 at *
     gi_wp2
     have hw3 := hB3.size
     have hset9 := setCell_blk (o := 0) (.int .i64 0) hr8
     have hD9 : (V8.setCell ⟨w.heap.size + 1 + 1, 0, none⟩ (.int .i64 0)).heap[w3.heap.size]? = some (.deferred (some [])) := (Below.heap_setCell _ _ _ _ (show w3.heap.size ≠ w.heap.size + 1 + 1 by omega)).trans hD8
     refine ⟨by simp, .inl ⟨_, _, rfl, run_takeDeferred hD9, ?_⟩⟩
     have hoth9 : ∀ k, k ≠ w.heap.size + 1 + 1 → k ≠ w3.heap.size → ((V8.setCell ⟨w.heap.size + 1 + 1, 0, none⟩ (.int .i64 0)).putObj w3.heap.size (.deferred none)).heap[k]? = V8.heap[k]? := fun k h1 h2 => (World.putObj_heap_other h2).trans (Below.heap_setCell _ _ _ _ h1)
     have hsz9 : V8.heap.size ≤ ((V8.setCell ⟨w.heap.size + 1 + 1, 0, none⟩ (.int .i64 0)).putObj w3.heap.size (.deferred none)).heap.size := by simp [World.setCell, World.putObj]
     have hc9 : ((V8.setCell ⟨w.heap.size + 1 + 1, 0, none⟩ (.int .i64 0)).putObj w3.heap.size (.deferred none)).cell? ⟨w.heap.size + 1 + 1, 0, none⟩ = some (.int .i64 0) := (box_facts ((World.putObj_heap_other (show w.heap.size + 1 + 1 ≠ w3.heap.size by omega)).trans hset9)).1 0
     have hb9 : But (fun k => k = w.heap.size + 1 + 1 ∨ k = w3.heap.size) V8 ((V8.setCell ⟨w.heap.size + 1 + 1, 0, none⟩ (.int .i64 0)).putObj w3.heap.size (.deferred none)) := ⟨rfl, rfl, rfl, hsz9, fun k _ hn' => hoth9 k (fun e' => hn' (.inl e')) (fun e' => hn' (.inr e'))⟩
     refine ⟨.int .i64 0, by simp [results, Tryz.f39, go_sem, hc9], .inr ⟨rfl, hfree, HB8.past hb9 (fun k hk => by rcases hk with rfl | rfl <;> omega), r', fun y hy => hkv y ((hb68.trans (hb9.mono fun k hk => by rcases hk with rfl | rfl <;> assumption)).trans (hy.mono fun k hk => Nat.lt_of_lt_of_le hk HB5.size)), ?_⟩⟩
     have hlt8 : ∀ k, ofDb b n e p k → k < w.heap.size := fun k hk => Nat.lt_of_not_le fun hge => not_ofDb h k hge hk
     have hk9 : ∀ k, ofDb b n e p k → ((V8.setCell ⟨w.heap.size + 1 + 1, 0, none⟩ (.int .i64 0)).putObj w3.heap.size (.deferred none)).heap[k]? = V8.heap[k]? := fun k hk => hoth9 k (by have := hlt8 k hk; omega) (by have := hlt8 k hk; omega)
     exact ⟨(hk9 b (.inl rfl)).trans h8.box, h8.nm.at (hk9 n (.inr (.inl rfl))), h8.em.at (hk9 e (.inr (.inr (.inl rfl)))), h8.pm.at (hk9 p (.inr (.inr (.inr rfl)))), h.ne⟩
  ·rintro c c1 k Wc ⟨rfl, hbz, hbu, h11, hc0⟩ hD
   refine (wpIn_wide (n := 0)).1 ?_
   gi_wp2
   refine ⟨by simp, .inl ⟨_, _, rfl, run_takeDeferred hD, ?_⟩⟩
   have hc9 : (Wc.putObj w3.heap.size (.deferred none)).cell? ⟨w.heap.size + 1 + 1, 0, none⟩ = some (.int .i64 11) := (box_facts ((World.putObj_heap_other (show w.heap.size + 1 + 1 ≠ w3.heap.size by omega)).trans h11)).1 0
   have hb9 : But (one w3.heap.size) Wc (Wc.putObj w3.heap.size (.deferred none)) := But.putObj _
   refine ⟨.int .i64 11, by simp [results, Tryz.f39, go_sem, hc9], .inl ⟨rfl, hbz, ?_⟩⟩
   have hall : But (fun k => w.heap.size ≤ k) w (Wc.putObj w3.heap.size (.deferred none)) := ((But.of_below hB3).trans (hbu.mono fun k (hk : k = _) => by omega)).trans (hb9.mono fun k (hk : k = _) => by omega)
   exact hall.below (Nat.le_refl _) (fun _ hk => hk)
end Go.Proofs.YtnpddjmjdpgohaaGreatDoor
