/- Part g of the proof about watchword's lockout: texts Y19. -/
import Derived.Test.YtnpddjmjdpgohaaGreatDoorGf

namespace Go.Proofs.YtnpddjmjdpgohaaGreatDoor
open Go.RowKit Go.WW
structure MadeAt (S0 : Nat → Prop) (w0 : World) (T5 T9 b n e p : Nat) (k : Nat) (es ps : Sl) (D : Db) (X : List EE) (s : Int) (NL : List (ByteArray × ByteArray)) (E : List EE) (P : List Policy) (wr : World) : Prop where
 box : wr.heap[T9]? = some (.cells (rdbC es ps D) 50)
 res : wr.heap[T5]? = some (.cells (rdbC nilSl nilSl zeroDb) 50)
 prog : ProgAt (fun j => ofDb b n e p j ∨ j = T5 ∨ j = T9 ∨ j < w0.heap.size) b n e p re82 s NL E P wr
 ref : RefAt (fun j => ofDb b n e p j ∨ j = T5 ∨ j = T9 ∨ S0 j) es ps D X wr
 rel : PlainRel D X NL E P
 re : D.realm = re82
 s0 : 0 ≤ s
 s1 : s ≤ k
 d0 : 0 ≤ D.serial
 d1 : D.serial ≤ k
 n1 : X.length ≤ k
 n2 : D.policies.length ≤ k
 out : Below w0.heap.size w0 wr
 b5 : w0.heap.size ≤ T5
 b9 : w0.heap.size ≤ T9
 n59 : T5 ≠ T9
 fr : ∀ j, ofDb b n e p j → w0.heap.size ≤ j ∧ j ≠ T5 ∧ j ≠ T9
section
variable {S0 : Nat → Prop} {w0 : World} {T5 T9 b n e p : Nat} {k : Nat} {es ps : Sl} {D : Db} {X : List EE} {s : Int} {NL : List (ByteArray × ByteArray)} {E : List EE} {P : List Policy} {wr : World}
theorem MadeAt.lt5 (h : MadeAt S0 w0 T5 T9 b n e p k es ps D X s NL E P wr) : T5 < wr.heap.size := (Array.getElem?_eq_some_iff.1 h.res).1
theorem MadeAt.lt9 (h : MadeAt S0 w0 T5 T9 b n e p k es ps D X s NL E P wr) : T9 < wr.heap.size := (Array.getElem?_eq_some_iff.1 h.box).1
theorem MadeAt.ltR (h : MadeAt S0 w0 T5 T9 b n e p k es ps D X s NL E P wr) (h0 : ∀ j, S0 j → j < w0.heap.size) : ∀ j, (ofDb b n e p j ∨ j = T5 ∨ j = T9 ∨ S0 j) → j < wr.heap.size := by
 rintro j (hj | rfl | rfl | hj)
 ·exact h.prog.lt j hj
 ·exact h.lt5
 ·exact h.lt9
 ·have := h0 j hj; have := h.out.size; omega
theorem MadeAt.ltP (h : MadeAt S0 w0 T5 T9 b n e p k es ps D X s NL E P wr) : ∀ j, (ofDb b n e p j ∨ j = T5 ∨ j = T9 ∨ j < w0.heap.size) → j < wr.heap.size := by
 rintro j (hj | rfl | rfl | hj)
 ·exact h.prog.lt j hj
 ·exact h.lt5
 ·exact h.lt9
 ·have := h.out.size; omega
theorem MadeAt.next (h : MadeAt S0 w0 T5 T9 b n e p k es ps D X s NL E P wr) {es' ps' : Sl} {D' : Db} {X' : List EE} {s' : Int} {NL' : List (ByteArray × ByteArray)} {E' : List EE} {P' : List Policy} {V V2 : World} (hV : Below wr.heap.size wr V)
  (hb : But (ofDb b n e p) V V2) (hr : RefAt (fun j => ofDb b n e p j ∨ j = T5 ∨ j = T9 ∨ S0 j) es' ps' D' X' V) (hp : ProgAt (fun j => ofDb b n e p j ∨ j = T5 ∨ j = T9 ∨ j < w0.heap.size) b n e p re82 s' NL' E' P' V2) (hl : PlainRel D' X' NL' E' P') (hre : D'.realm = D.realm) (h1 : s ≤ s') (h2 : s' ≤ s + 1) (h3 : D.serial ≤ D'.serial) (h4 : D'.serial ≤ D.serial + 1) (h5 : X'.length ≤ X.length + 1) (h6 : D'.policies.length ≤ D.policies.length + 1) :
  MadeAt S0 w0 T5 T9 b n e p (k + 1) es' ps' D' X' s' NL' E' P' (putRow V2 T9 0 (rdbC es' ps' D')) := by
 have l9 := h.lt9
 have l5 := h.lt5
 have sV := hV.size
 have s2 := hb.size
 have m9 : ¬ ofDb b n e p T9 := fun hj => (h.fr _ hj).2.2 rfl
 have m5 : ¬ ofDb b n e p T5 := fun hj => (h.fr _ hj).2.1 rfl
 have hbx : V2.heap[T9]? = some (.cells (rdbC es ps D) 50) := (hb.block _ (by omega) m9).trans (still_blk hV h.box)
 have hrs : V2.heap[T5]? = some (.cells (rdbC nilSl nilSl zeroDb) 50) := (hb.block _ (by omega) m5).trans (still_blk hV h.res)
 have hp9 : But (one T9) V2 (putRow V2 T9 0 (rdbC es' ps' D')) := (But.refl _ _).put rfl
 have hall : ∀ j, ofDb b n e p j → w0.heap.size ≤ j := fun j hj => (h.fr j hj).1
 refine ⟨?_, ?_, ?_, ?_, hl, hre.trans h.re, by have := h.s0; omega, by have := h.s1; omega, by have := h.d0; omega, by have := h.d1; omega, by have := h.n1; omega, by have := h.n2; omega, ?_, h.b5, h.b9, h.n59, h.fr⟩
 ·have := putRow_blk (o := 0) (cs := rdbC es' ps' D') hbx (by simp [rdbC_size])
  rwa [splice_whole (by simp [rdbC_size])] at this
 ·exact (hp9.block _ (Array.getElem?_eq_some_iff.1 hrs).1 (not_one h.n59)).trans hrs
 ·have hpm := hp9.mono (S' := fun j => ofDb b n e p j ∨ j = T5 ∨ j = T9 ∨ j < w0.heap.size) fun j hj => .inr (.inr (.inl hj))
  refine ⟨?_, fun x hx => (hp.keep x hx).on hpm, hp.sub⟩
  have hk : ∀ j, ofDb b n e p j → (putRow V2 T9 0 (rdbC es' ps' D')).heap[j]? = V2.heap[j]? := fun j hj => putRow_other (h.fr j hj).2.2
  exact ⟨(hk b (.inl rfl)).trans hp.db.box, hp.db.nm.at (hk n (.inr (.inl rfl))), hp.db.em.at (hk e (.inr (.inr (.inl rfl)))), hp.db.pm.at (hk p (.inr (.inr (.inr rfl)))), hp.db.ne⟩
 ·exact (hr.on (hb.mono fun j hj => .inl hj)).on (hp9.mono fun j hj => .inr (.inr (.inl hj)))
 ·have q1 : But (fun j => w0.heap.size ≤ j) w0 (putRow V2 T9 0 (rdbC es' ps' D')) := ((But.of_below (below_step h.out hV)).trans (hb.mono hall)).trans (hp9.mono fun j (hj : j = T9) => by rw [hj]; exact h.b9)
  exact q1.below (Nat.le_refl _) fun j hj => hj
end
def MadePost (S0 : Nat → Prop) (w0 : World) (m : Nat) (z : Ending) (w' : World) : Prop :=
 ∃ (b n e p : Nat) (es ps : Sl) (D : Db) (X : List EE) (s : Int) (NL : List (ByteArray × ByteArray)) (E : List EE) (P : List Policy), z = .returned (.tuple #[.pointer (some ⟨b, 0, none⟩), .agg (rdbC es ps D), .bool true]) ∧ Below w0.heap.size w0 w' ∧
  ProgAt (fun j => ofDb b n e p j ∨ j < w0.heap.size) b n e p re82 s NL E P w' ∧ RefAt (fun j => ofDb b n e p j ∨ S0 j) es ps D X w' ∧ PlainRel D X NL E P ∧ 0 ≤ s ∧ s ≤ m ∧ X.length ≤ m ∧ D.policies.length ≤ m ∧ ∀ j, ofDb b n e p j → w0.heap.size ≤ j
theorem MadeAt.last {S0 : Nat → Prop} {w0 : World} {T9 b n e p : Nat} {k : Nat} {es ps : Sl} {D : Db} {X : List EE} {s : Int} {NL : List (ByteArray × ByteArray)} {E : List EE} {P : List Policy} {wr : World} (h : MadeAt S0 w0 w0.heap.size T9 b n e p k es ps D X s NL E P wr) :
  But (one w0.heap.size) wr (putRow wr.drew w0.heap.size 0 (rdbC es ps D)) ∧ row? (putRow wr.drew w0.heap.size 0 (rdbC es ps D)) w0.heap.size 0 4 = some (rdbC es ps D) :=
 ⟨((But.refl _ wr).drew).put rfl, row?_putRow_whole (rdbC_size es ps D) ((canPut_drew _ _ _ _).trans (canPut_of_cells (o := 0) (n := 4) h.res (by simp [rdbC_size])))⟩
theorem MadeAt.fin {S0 : Nat → Prop} {w0 : World} {T9 b n e p : Nat} {k : Nat} {es ps : Sl} {D : Db} {X : List EE} {s : Int} {NL : List (ByteArray × ByteArray)} {E : List EE} {P : List Policy} {wr : World} (h : MadeAt S0 w0 w0.heap.size T9 b n e p k es ps D X s NL E P wr) :
  MadePost S0 w0 k (.returned (.tuple #[.pointer (some ⟨b, 0, none⟩), .agg (rdbC es ps D), .bool true])) (putRow wr.drew w0.heap.size 0 (rdbC es ps D)) := by
 have hp5 : But (one w0.heap.size) wr (putRow wr.drew w0.heap.size 0 (rdbC es ps D)) := ((But.refl _ wr).drew).put rfl
 have hk : ∀ j, ofDb b n e p j → (putRow wr.drew w0.heap.size 0 (rdbC es ps D)).heap[j]? = wr.heap[j]? := fun j hj => putRow_other (h.fr j hj).2.1
 have hp := h.prog
 refine ⟨b, n, e, p, es, ps, D, X, s, NL, E, P, rfl, Go.WW.Below.putRow h.out.drew (Nat.le_refl _), ⟨⟨(hk b (.inl rfl)).trans hp.db.box, hp.db.nm.at (hk n (.inr (.inl rfl))), hp.db.em.at (hk e (.inr (.inr (.inl rfl)))), hp.db.pm.at (hk p (.inr (.inr (.inr rfl)))), hp.db.ne⟩, fun x hx => ?_, fun j hj => .inl hj⟩, ?_, h.rel, h.s0, h.s1, h.n1, h.n2, fun j hj => (h.fr j hj).1⟩
 ·have := (hp.keep x hx).on (hp5.mono fun j (hj : j = w0.heap.size) => .inr (.inl hj))
  exact fun y hy => this y (hy.mono fun j hj => hj.imp id fun hj => .inr (.inr hj))
 ·exact (h.ref.on (hp5.mono fun j (hj : j = w0.heap.size) => .inr (.inl hj))).less fun j hj => hj.imp id fun hj => .inr (.inr hj)
set_option maxRecDepth 100000 in
set_option maxHeartbeats 4000000 in
theorem made_00 (S0 : Nat → Prop) (a : Option Addr) (a2 : Option Addr) (cap cap2 : Nat) (w0 : World) (h0 : ∀ j, S0 j → j < w0.heap.size) :
  Calls Tryz.prog 16 #[.slice a 0 cap, .slice a2 0 cap2] w0 (MadePost S0 w0 (0 + 0)) := by
 have H0 := Lib.hid h0
 clear h0
 have hW1 : Below w0.heap.size w0 (w0.alloc (.cells (rdbC nilSl nilSl zeroDb) 50)) := below_new (Below.refl _ _) _
 have hT5 : (w0.alloc (.cells (rdbC nilSl nilSl zeroDb) 50)).heap[w0.heap.size]? = some (.cells (rdbC nilSl nilSl zeroDb) 50) := World.alloc_heap_new _ _
 rw [show rdbC nilSl nilSl zeroDb = #[.string ⟨#[]⟩, .int .i64 0, .slice none 0 0, .slice none 0 0] from rfl] at hW1 hT5
 go_enter Tryz.func16, Tryz.ntmps16
 go_wp2_with fail
 generalize (w0.alloc (.cells #[.string ⟨#[]⟩, .int .i64 0, .slice none 0 0, .slice none 0 0] 50)) = W1 at *
 have hl1 : w0.heap.size < W1.heap.size := (Array.getElem?_eq_some_iff.1 hT5).1
 refine (dbNew_c re82 W1 (by simp [lim, ByteArray.size]) re82_ok).mono ?_
 rintro z w1 ⟨b, n, e, p, rfl, hb1, hdb, ub, un, ue, up⟩
 dsimp only
 have hT51 := still_blk hb1 hT5
 have hB1 := below_step hW1 hb1
 go_wp2_with fail
 refine (refNew_c re82 w1 (by simp [lim, ByteArray.size]) re82_ok).mono ?_
 rintro z w2 ⟨rfl, hb2⟩
 dsimp only
 go_wp2_with fail
 have hV := below_new (below_step hB1 hb2) (.cells (rdbC nilSl nilSl (newDb re82)) 50)
 have hT9 := World.alloc_heap_new w2 (.cells (rdbC nilSl nilSl (newDb re82)) 50)
 have hT5V : (w2.alloc (.cells (rdbC nilSl nilSl (newDb re82)) 50)).heap[w0.heap.size]? = some (.cells (rdbC nilSl nilSl zeroDb) 50) := (Below.heap_alloc _ _ _ (by have := hB1.size; have := hb2.size; have := hb1.size; omega)).trans (still_blk hb2 hT51)
 have hdV := (hdb.later hb2).later ((Below.refl _ w2).alloc (Nat.le_refl _) (.cells (rdbC nilSl nilSl (newDb re82)) 50))
 have l09 : w0.heap.size < w2.heap.size := by have := hb2.size; have := hb1.size; omega
 have ldb : ∀ j, ofDb b n e p j → w0.heap.size ≤ j ∧ j ≠ w0.heap.size ∧ j ≠ w2.heap.size := fun j hj => by
  have g1 := not_ofDb hdb
  have g2 : j < w1.heap.size := Classical.byContradiction fun hn => g1 j (by omega) hj
  have g3 := hb2.size
  have g4 : W1.heap.size ≤ j := by rcases hj with rfl | rfl | rfl | rfl <;> assumption
  omega
 clear hT51 hB1 hdb hb2 hT5 hb1
 generalize (w2.alloc (.cells (rdbC nilSl nilSl (newDb re82)) 50)) = V0 at *
 generalize w2.heap.size = T9 at *
 have hm0 : MadeAt S0 w0 w0.heap.size T9 b n e p 0 nilSl nilSl (newDb re82) [] 0 [] [] [] V0 := ⟨hT9, hT5V, ⟨hdV, by simp, fun j hj => .inl hj⟩, ⟨fun y _ => ⟨⟨by simp [lim], fun i hi => by simp at hi⟩, by simp⟩, fun y _ => ⟨by simp [newDb, lim], fun i hi => by simp [newDb] at hi⟩⟩, new_rel, rfl, by omega, by omega, by simp [newDb], by simp [newDb], by simp, by simp [newDb], hV, Nat.le_refl _, by omega, by omega, ldb⟩
 clear hT9 hT5V hdV l09 ldb hV hW1 hl1 ub un ue up
 refine (num_c _ _).mono ?_
 rintro z w' ⟨rfl, rfl⟩
 dsimp only
 go_wp2_with fail
 refine wp_loop_rounds 1 ?_
 rw [rounds_succ]
 go_wp2_with fail
 refine wp_loop_rounds 1 ?_
 rw [rounds_succ]
 go_wp2_with fail
 obtain ⟨xc, xf, xr, xl⟩ := box_facts hm0.box
 have hcp5 := canPut_of_cells (o := 0) (n := 4) hm0.res (by simp [rdbC_size])
 have hl5 := hm0.lt5
 have n95 := not_one hm0.n59.symm
 have hfin := Lib.hid hm0.fin
 have hbut := Lib.hid hm0.last.1
 have hrowF := Lib.hid hm0.last.2
 have hm' := hm0
 clear hm0
 refine wp_region_sinceB (one w0.heap.size) (But.refl _ _) (by kernel_rfl) (by kernel_rfl) ?_
 repeat (first | (refine text_skip (by rfl) ?_) | (refine textN_look (by rfl) (by rfl) (fun K hK => ?_); go_big_quiet_op; refine hK _ ?_; clear hK K))
 refine textN_act (by rfl) (by rfl) (fun K hK => ?_)
 go_wp2_with fail
 refine hK _ _ (sinceB_of hbut.out) ?_
 clear hK K
 repeat (first | (refine text_skip (by rfl) ?_) | (refine textN_look (by rfl) (by rfl) (fun K hK => ?_); go_big_quiet_op; refine hK _ ?_; clear hK K))
 refine text_nil ?_
 go_wp2_with fail
 exact bodyPost_ret (results_trt (a := 4) (t := 5) (c := 6) (by rfl) Tryz.underlying50 rfl (by kernel_rfl) rfl hrowF.out) rfl (hfin.out)
set_option maxRecDepth 100000 in
set_option maxHeartbeats 4000000 in
theorem made_01 (S0 : Nat → Prop) (a : Option Addr) (bB oB : Nat) (cap cap2 : Nat) (X0 : List EE) (w0 : World) (h0 : ∀ j, S0 j → j < w0.heap.size) (hx : Keeps S0 w0 (fun y => RowsXE y (some ⟨bB, oB, none⟩) X0)) (h2 : X0.length ≤ 6) :
  Calls Tryz.prog 16 #[.slice a 0 cap, .slice (some ⟨bB, oB, none⟩) X0.length cap2] w0 (MadePost S0 w0 (0 + X0.length)) := by
 have H0 := Lib.hid h0
 have HB := Lib.hid hx
 have HLL2 := Lib.hid (show X0.length ≤ 4294967000 from hx.out.rows.1)
 clear h0 hx
 have hW1 : Below w0.heap.size w0 (w0.alloc (.cells (rdbC nilSl nilSl zeroDb) 50)) := below_new (Below.refl _ _) _
 have hT5 : (w0.alloc (.cells (rdbC nilSl nilSl zeroDb) 50)).heap[w0.heap.size]? = some (.cells (rdbC nilSl nilSl zeroDb) 50) := World.alloc_heap_new _ _
 rw [show rdbC nilSl nilSl zeroDb = #[.string ⟨#[]⟩, .int .i64 0, .slice none 0 0, .slice none 0 0] from rfl] at hW1 hT5
 go_enter Tryz.func16, Tryz.ntmps16
 go_wp2_with fail
 generalize (w0.alloc (.cells #[.string ⟨#[]⟩, .int .i64 0, .slice none 0 0, .slice none 0 0] 50)) = W1 at *
 have hl1 : w0.heap.size < W1.heap.size := (Array.getElem?_eq_some_iff.1 hT5).1
 refine (dbNew_c re82 W1 (by simp [lim, ByteArray.size]) re82_ok).mono ?_
 rintro z w1 ⟨b, n, e, p, rfl, hb1, hdb, ub, un, ue, up⟩
 dsimp only
 have hT51 := still_blk hb1 hT5
 have hB1 := below_step hW1 hb1
 go_wp2_with fail
 refine (refNew_c re82 w1 (by simp [lim, ByteArray.size]) re82_ok).mono ?_
 rintro z w2 ⟨rfl, hb2⟩
 dsimp only
 go_wp2_with fail
 have hV := below_new (below_step hB1 hb2) (.cells (rdbC nilSl nilSl (newDb re82)) 50)
 have hT9 := World.alloc_heap_new w2 (.cells (rdbC nilSl nilSl (newDb re82)) 50)
 have hT5V : (w2.alloc (.cells (rdbC nilSl nilSl (newDb re82)) 50)).heap[w0.heap.size]? = some (.cells (rdbC nilSl nilSl zeroDb) 50) := (Below.heap_alloc _ _ _ (by have := hB1.size; have := hb2.size; have := hb1.size; omega)).trans (still_blk hb2 hT51)
 have hdV := (hdb.later hb2).later ((Below.refl _ w2).alloc (Nat.le_refl _) (.cells (rdbC nilSl nilSl (newDb re82)) 50))
 have l09 : w0.heap.size < w2.heap.size := by have := hb2.size; have := hb1.size; omega
 have ldb : ∀ j, ofDb b n e p j → w0.heap.size ≤ j ∧ j ≠ w0.heap.size ∧ j ≠ w2.heap.size := fun j hj => by
  have g1 := not_ofDb hdb
  have g2 : j < w1.heap.size := Classical.byContradiction fun hn => g1 j (by omega) hj
  have g3 := hb2.size
  have g4 : W1.heap.size ≤ j := by rcases hj with rfl | rfl | rfl | rfl <;> assumption
  omega
 clear hT51 hB1 hdb hb2 hT5 hb1
 generalize (w2.alloc (.cells (rdbC nilSl nilSl (newDb re82)) 50)) = V0 at *
 generalize w2.heap.size = T9 at *
 have hm0 : MadeAt S0 w0 w0.heap.size T9 b n e p 0 nilSl nilSl (newDb re82) [] 0 [] [] [] V0 := ⟨hT9, hT5V, ⟨hdV, by simp, fun j hj => .inl hj⟩, ⟨fun y _ => ⟨⟨by simp [lim], fun i hi => by simp at hi⟩, by simp⟩, fun y _ => ⟨by simp [newDb, lim], fun i hi => by simp [newDb] at hi⟩⟩, new_rel, rfl, by omega, by omega, by simp [newDb], by simp [newDb], by simp, by simp [newDb], hV, Nat.le_refl _, by omega, by omega, ldb⟩
 clear hT9 hT5V hdV l09 ldb hV hW1 hl1 ub un ue up
 refine (num_c _ _).mono ?_
 rintro z w' ⟨rfl, rfl⟩
 dsimp only
 go_wp2_with fail
 refine wp_loop_rounds 1 ?_
 rw [rounds_succ]
 go_wp2_with fail
 go_loopw [14] (fun iv wr => ∃ k : Nat, k ≤ X0.length ∧ iv = .int .i64 k ∧ ∃ es ps D X s NL E P, MadeAt S0 w0 w0.heap.size T9 b n e p (0 + k) es ps D X s NL E P wr) (fun iv _ => X0.length - (intOf iv).toNat)
 case atStart => exact ⟨0, Nat.zero_le _, rfl, _, _, _, _, _, _, _, _, hm0⟩
 case round =>
  clear hm0
  obtain ⟨k, hk, rfl, es, ps, D, X, s, NL, E, P, hm⟩ := hrel
  by_cases hlt : k < X0.length
  ·have hki : (k : Int) < (X0.length : Int) := by omega
   have hll := HLL2.out
   have hrow0 := HB.out.out.rows.at k hlt
   have hrow : row? wr bB (oB + k * 17) 17 = some (entC X0[k].1 X0[k].2) := (row?_of_block (hm.out.block _ (row?_lt hrow0)) _ _).trans hrow0
   have hkE : KeptE (fun j => ofDb b n e p j ∨ j = w0.heap.size ∨ j = T9 ∨ S0 j) wr (X0[k].1, X0[k].2) := (show Keeps S0 w0 (fun y => EntAt y X0[k].1 X0[k].2) from fun y hy => (HB.out y hy).each _ (List.getElem_mem hlt)).wide hm.out (by
    rintro j (hj | rfl | rfl | hj)
    ·exact .inr (hm.fr j hj).1
    ·exact .inr hm.b5
    ·exact .inr hm.b9
    ·exact .inl hj)
   generalize X0[k] = x0 at *
   obtain ⟨r0, d0⟩ := x0
   dsimp only at hkE hrow
   have HKE := Lib.hid hkE
   clear hkE
   obtain ⟨xc, xf, xr, xl⟩ := box_facts hm.box
   have hbB : bB < wr.heap.size := row?_lt hrow
   go_wp2_with fail
   apply wp_midF (M := fun (T : Nat) (no : Int) (es' : Sl) (D' : Db) (X' : List EE) V => Below wr.heap.size wr V ∧ wr.heap.size ≤ T ∧ V.heap[T]? = some (.cells (rdbC es' ps D') 50) ∧ RefAt (fun j => ofDb b n e p j ∨ j = w0.heap.size ∨ j = T9 ∨ S0 j) es' ps D' X' V ∧ EntStep D X r0 d0 no D' X')
   case h1 =>
    refine wp_region_since2 9 5 [0, 1, 2, 3, 4, 9, 5, 6, 7, 8, 10, 11] (Below.refl _ wr) (by kernel_rfl) (by kernel_rfl) (by rfl) ?_ ?_
    ·intro w4 hb4
     repeat (first | (refine text_skip (by rfl) ?_) | (refine text_look (by rfl) (by rfl) (fun K hK => ?_); go_big_quiet_op; refine hK _ ?_; clear hK K))
     refine text_act (by rfl) (by rfl) (fun K hK => ?_)
     go_wp2_with fail
     refine (refPut_c (fun j => ofDb b n e p j ∨ j = w0.heap.size ∨ j = T9 ∨ S0 j) es ps D X r0 d0 w4 (hm.ref.later hb4) (fun j hj => by have := hm.ltR H0.out j hj; have := hb4.size; omega) (HKE.out.on (But.of_below hb4)) hm.rel.eq hm.rel.goodX (by have := hm.n1; omega) hm.d0 (by have := hm.d1; omega)).mono ?_
     rintro z w5 ⟨no, es', D', X', rfl, hb5, hr5, hst⟩
     have hb5' := below_step hb4 hb5
     go_wp2_with fail
     refine hK _ _ (since_of hb5') ?_
     clear hK K
     repeat (first | (refine text_skip (by rfl) ?_) | (refine text_look (by rfl) (by rfl) (fun K hK => ?_); go_big_quiet_op; refine hK _ ?_; clear hK K))
     refine text_act (by rfl) (by rfl) (fun K hK => ?_)
     go_wp2_with fail
     refine hK _ _ (since_of (below_new hb5' _)) ?_
     clear hK K
     repeat (first | (refine text_skip (by rfl) ?_) | (refine text_look (by rfl) (by rfl) (fun K hK => ?_); go_big_quiet_op; refine hK _ ?_; clear hK K))
     refine text_act (by rfl) (by rfl) (fun K hK => ?_)
     go_wp2_with fail
     refine hK _ _ (since_of (below_new hb5' (.cells (rdbC es' ps D') 50))) ?_
     clear hK K
     repeat (first | (refine text_skip (by rfl) ?_) | (refine text_look (by rfl) (by rfl) (fun K hK => ?_); go_big_quiet_op; refine hK _ ?_; clear hK K))
     refine text_nil ?_
     have hnew := World.alloc_heap_new w5 (.cells (rdbC es' ps D') 50)
     have hge : wr.heap.size ≤ w5.heap.size := hb5'.size
     have hbV := below_new hb5' (.cells (rdbC es' ps D') 50)
     have hrV := hr5.later ((Below.refl _ w5).alloc (Nat.le_refl _) (.cells (rdbC es' ps D') 50))
     generalize (w5.alloc (.cells (rdbC es' ps D') 50)) = V at *
     generalize w5.heap.size = T at *
     skip
     refine ⟨by first | rfl | trivial, T, no, es', D', X', rfl, hbV, hge, hnew, hrV, hst⟩
    ·intro w4 hb4
     change wpText _ _ _ _ _ [_, _, _, _, _, _, _, _, _, _, _, _] _ _
     repeat (first | (refine text_skip (by rfl) ?_) | (refine text_look (by rfl) (by rfl) (fun K hK => ?_); go_big_quiet_op; refine hK _ ?_; clear hK K))
     refine text_act (by rfl) (by rfl) (fun K hK => ?_)
     go_wp2_with fail
     refine hK _ _ (since_of (below_new hb4 _)) ?_
     clear hK K
     repeat (first | (refine text_skip (by rfl) ?_) | (refine text_look (by rfl) (by rfl) (fun K hK => ?_); go_big_quiet_op; refine hK _ ?_; clear hK K))
     refine text_act (by rfl) (by rfl) (fun K hK => ?_)
     go_wp2_with fail
     refine (refPut_c (fun j => (ofDb b n e p j ∨ j = w0.heap.size ∨ j = T9 ∨ S0 j) ∨ j = w4.heap.size) es ps D X r0 d0 (w4.alloc (.cells #[.string ⟨#[]⟩, .int .i64 0, .slice none 0 0, .slice none 0 0] 50)) (hm.ref.wide (below_new hb4 _) (by rintro j (hj | rfl) <;> first | exact .inl hj | exact .inr hb4.size)) (by rintro j (hj | rfl) <;> first | (have := hm.ltR H0.out j hj; have := hb4.size; simp; omega) | (simp; done)) (Keeps.wide (S := fun j => ofDb b n e p j ∨ j = w0.heap.size ∨ j = T9 ∨ S0 j) (Φ := fun y => EntAt y r0 d0) HKE.out (below_new hb4 _) (by rintro j (hj | rfl) <;> first | exact .inl hj | exact .inr hb4.size)) hm.rel.eq hm.rel.goodX (by have := hm.n1; omega) hm.d0 (by have := hm.d1; omega)).mono ?_
     rintro z w5 ⟨no, es', D', X', rfl, hb5, hr5, hst⟩
     have hb5' := below_step (below_new hb4 (.cells #[.string ⟨#[]⟩, .int .i64 0, .slice none 0 0, .slice none 0 0] 50)) hb5
     have hZ5 := still_blk hb5 (World.alloc_heap_new w4 (.cells #[.string ⟨#[]⟩, .int .i64 0, .slice none 0 0, .slice none 0 0] 50))
     have hcp5 : canPut w5 w4.heap.size 0 4 = true := canPut_of_cells hZ5 (by simp)
     have hbV : Below wr.heap.size wr (putRow w5 w4.heap.size 0 (rdbC es' ps D')) := Go.WW.Below.putRow hb5' hb4.size
     go_wp2_with fail
     refine hK _ _ (since_of hb5') ?_
     clear hK K
     repeat (first | (refine text_skip (by rfl) ?_) | (refine text_look (by rfl) (by rfl) (fun K hK => ?_); go_big_quiet_op; refine hK _ ?_; clear hK K))
     refine text_act (by rfl) (by rfl) (fun K hK => ?_)
     go_wp2_with fail
     refine hK _ _ (since_of hbV) ?_
     clear hK K
     repeat (first | (refine text_skip (by rfl) ?_) | (refine text_look (by rfl) (by rfl) (fun K hK => ?_); go_big_quiet_op; refine hK _ ?_; clear hK K))
     refine text_nil ?_
     have hge : wr.heap.size ≤ w4.heap.size := hb4.size
     have hnew := putRow_blk (o := 0) (cs := rdbC es' ps D') hZ5 (by simp [rdbC_size])
     rw [splice_whole (by simp [rdbC_size])] at hnew
     have hrV := (hr5.on ((But.refl _ w5).put (g := w4.heap.size) (o := 0) (cs := rdbC es' ps D') (.inr rfl))).less (S' := fun j => ofDb b n e p j ∨ j = w0.heap.size ∨ j = T9 ∨ S0 j) (fun j hj => .inl hj)
     clear hcp5 hZ5
     generalize (putRow w5 w4.heap.size 0 (rdbC es' ps D')) = V at *
     generalize w4.heap.size = T at *
     skip
     refine ⟨by first | rfl | trivial, T, no, es', D', X', rfl, hbV, hge, hnew, hrV, hst⟩
   case h2 =>
    rintro T no es' D' X' V ⟨hbV, hTge, hbT, hrV, hst⟩
    try clear xc xf xr xl
    have hrowV := (bcell hbV).2.2 bB
    obtain ⟨tc, tf, tr, tl⟩ := box_facts hbT
    try dsimp only
    have hrow2 : row? V bB _ _ = _ := (hrowV _ _ hbB).trans hrow
    clear hrowV
    go_wp2_with fail
    refine (dbPut_c _ b n e p re82 s NL E P D D' X X' no r0 d0 V (hm.prog.later hbV) re82_ne hm.re hm.rel hst (HKE.out.out.later hbV) (fun j hj => by have := hm.ltP j hj; have := hbV.size; omega) (by have := hm.n1; omega) hm.s0 (by have := hm.s1; omega)).mono ?_
    rintro z V2 ⟨rfl, hbu, s', NL', E', hs1, hs2, hp2, hrel2⟩
    obtain ⟨g1, g2, g3, g4, g5, -, -⟩ := entStep_rest hst
    have HNX := Lib.hid (hm.next hbV hbu hrV hp2 hrel2 g2 hs1 hs2 g3 g4 g5 (by rw [g1]; omega))
    have hbT2 : V2.heap[T]? = some (.cells (rdbC es' ps D') 50) := (hbu.block _ tl (fun hj => by have := hm.prog.lt _ hj; omega)).trans hbT
    have hb92 : V2.heap[T9]? = some (.cells (rdbC es ps D) 50) := (hbu.block _ (by have := hm.lt9; have := hbV.size; omega) (fun hj => (hm.fr _ hj).2.2 rfl)).trans (still_blk hbV hm.box)
    clear tc tf tr tl hrow2
    obtain ⟨tc, tf, tr, tl⟩ := box_facts hbT2
    have hcp9 : canPut V2 T9 0 4 = true := canPut_of_cells hb92 (by simp [rdbC_size])
    try dsimp only
    go_wp2_with fail
    refine (num_c _ _).mono ?_
    rintro z w' ⟨rfl, rfl⟩
    dsimp only
    go_wp2_with fail
    go_roundw
    case rel => exact ⟨k + 1, by omega, by go_num, es', ps, D', X', s', NL', E', P, HNX.out⟩
    case measure => simp [intOf]; omega
  ·obtain rfl : k = X0.length := by omega
   go_wp2_with fail
   obtain ⟨xc, xf, xr, xl⟩ := box_facts hm.box
   have hcp5 := canPut_of_cells (o := 0) (n := 4) hm.res (by simp [rdbC_size])
   have hl5 := hm.lt5
   have n95 := not_one hm.n59.symm
   have hfin := Lib.hid hm.fin
   have hbut := Lib.hid hm.last.1
   have hrowF := Lib.hid hm.last.2
   have hm' := hm
   clear hm
   refine wp_region_sinceB (one w0.heap.size) (But.refl _ _) (by kernel_rfl) (by kernel_rfl) ?_
   repeat (first | (refine text_skip (by rfl) ?_) | (refine textN_look (by rfl) (by rfl) (fun K hK => ?_); go_big_quiet_op; refine hK _ ?_; clear hK K))
   refine textN_act (by rfl) (by rfl) (fun K hK => ?_)
   go_wp2_with fail
   refine hK _ _ (sinceB_of hbut.out) ?_
   clear hK K
   repeat (first | (refine text_skip (by rfl) ?_) | (refine textN_look (by rfl) (by rfl) (fun K hK => ?_); go_big_quiet_op; refine hK _ ?_; clear hK K))
   refine text_nil ?_
   go_wp2_with fail
   exact bodyPost_ret (results_trt (a := 4) (t := 5) (c := 6) (by rfl) Tryz.underlying50 rfl (by kernel_rfl) rfl hrowF.out) rfl (hfin.out)
set_option maxRecDepth 100000 in
set_option maxHeartbeats 4000000 in
theorem made_10 (S0 : Nat → Prop) (bA oA : Nat) (a2 : Option Addr) (cap cap2 : Nat) (PL : List Policy) (w0 : World) (h0 : ∀ j, S0 j → j < w0.heap.size) (hp : PolsAt w0 (some ⟨bA, oA, none⟩) PL) (h1 : PL.length ≤ 4) :
  Calls Tryz.prog 16 #[.slice (some ⟨bA, oA, none⟩) PL.length cap, .slice a2 0 cap2] w0 (MadePost S0 w0 (PL.length + 0)) := by
 have H0 := Lib.hid h0
 have HA := Lib.hid hp
 have HLL1 := Lib.hid (show PL.length ≤ 4294967000 from hp.1)
 clear h0 hp
 have hW1 : Below w0.heap.size w0 (w0.alloc (.cells (rdbC nilSl nilSl zeroDb) 50)) := below_new (Below.refl _ _) _
 have hT5 : (w0.alloc (.cells (rdbC nilSl nilSl zeroDb) 50)).heap[w0.heap.size]? = some (.cells (rdbC nilSl nilSl zeroDb) 50) := World.alloc_heap_new _ _
 rw [show rdbC nilSl nilSl zeroDb = #[.string ⟨#[]⟩, .int .i64 0, .slice none 0 0, .slice none 0 0] from rfl] at hW1 hT5
 go_enter Tryz.func16, Tryz.ntmps16
 go_wp2_with fail
 generalize (w0.alloc (.cells #[.string ⟨#[]⟩, .int .i64 0, .slice none 0 0, .slice none 0 0] 50)) = W1 at *
 have hl1 : w0.heap.size < W1.heap.size := (Array.getElem?_eq_some_iff.1 hT5).1
 refine (dbNew_c re82 W1 (by simp [lim, ByteArray.size]) re82_ok).mono ?_
 rintro z w1 ⟨b, n, e, p, rfl, hb1, hdb, ub, un, ue, up⟩
 dsimp only
 have hT51 := still_blk hb1 hT5
 have hB1 := below_step hW1 hb1
 go_wp2_with fail
 refine (refNew_c re82 w1 (by simp [lim, ByteArray.size]) re82_ok).mono ?_
 rintro z w2 ⟨rfl, hb2⟩
 dsimp only
 go_wp2_with fail
 have hV := below_new (below_step hB1 hb2) (.cells (rdbC nilSl nilSl (newDb re82)) 50)
 have hT9 := World.alloc_heap_new w2 (.cells (rdbC nilSl nilSl (newDb re82)) 50)
 have hT5V : (w2.alloc (.cells (rdbC nilSl nilSl (newDb re82)) 50)).heap[w0.heap.size]? = some (.cells (rdbC nilSl nilSl zeroDb) 50) := (Below.heap_alloc _ _ _ (by have := hB1.size; have := hb2.size; have := hb1.size; omega)).trans (still_blk hb2 hT51)
 have hdV := (hdb.later hb2).later ((Below.refl _ w2).alloc (Nat.le_refl _) (.cells (rdbC nilSl nilSl (newDb re82)) 50))
 have l09 : w0.heap.size < w2.heap.size := by have := hb2.size; have := hb1.size; omega
 have ldb : ∀ j, ofDb b n e p j → w0.heap.size ≤ j ∧ j ≠ w0.heap.size ∧ j ≠ w2.heap.size := fun j hj => by
  have g1 := not_ofDb hdb
  have g2 : j < w1.heap.size := Classical.byContradiction fun hn => g1 j (by omega) hj
  have g3 := hb2.size
  have g4 : W1.heap.size ≤ j := by rcases hj with rfl | rfl | rfl | rfl <;> assumption
  omega
 clear hT51 hB1 hdb hb2 hT5 hb1
 generalize (w2.alloc (.cells (rdbC nilSl nilSl (newDb re82)) 50)) = V0 at *
 generalize w2.heap.size = T9 at *
 have hm0 : MadeAt S0 w0 w0.heap.size T9 b n e p 0 nilSl nilSl (newDb re82) [] 0 [] [] [] V0 := ⟨hT9, hT5V, ⟨hdV, by simp, fun j hj => .inl hj⟩, ⟨fun y _ => ⟨⟨by simp [lim], fun i hi => by simp at hi⟩, by simp⟩, fun y _ => ⟨by simp [newDb, lim], fun i hi => by simp [newDb] at hi⟩⟩, new_rel, rfl, by omega, by omega, by simp [newDb], by simp [newDb], by simp, by simp [newDb], hV, Nat.le_refl _, by omega, by omega, ldb⟩
 clear hT9 hT5V hdV l09 ldb hV hW1 hl1 ub un ue up
 refine (num_c _ _).mono ?_
 rintro z w' ⟨rfl, rfl⟩
 dsimp only
 go_wp2_with fail
 go_loopw [11] (fun iv wr => ∃ k : Nat, k ≤ PL.length ∧ iv = .int .i64 k ∧ ∃ es ps D X s NL E P, MadeAt S0 w0 w0.heap.size T9 b n e p (k) es ps D X s NL E P wr) (fun iv _ => PL.length - (intOf iv).toNat)
 case atStart => exact ⟨0, Nat.zero_le _, rfl, _, _, _, _, _, _, _, _, hm0⟩
 case round =>
  clear hm0
  obtain ⟨k, hk, rfl, es, ps, D, X, s, NL, E, P, hm⟩ := hrel
  by_cases hlt : k < PL.length
  ·have hki : (k : Int) < (PL.length : Int) := by omega
   have hll := HLL1.out
   obtain ⟨hrow0, hsz0⟩ := HA.out.at k hlt
   have hrow : row? wr bA (oA + k * 10) 10 = some (polC PL[k]) := (row?_of_block (hm.out.block _ (row?_lt hrow0)) _ _).trans hrow0
   generalize PL[k] = q at *
   have HSZ := Lib.hid hsz0
   clear hsz0
   obtain ⟨xc, xf, xr, xl⟩ := box_facts hm.box
   have hbA : bA < wr.heap.size := row?_lt hrow
   go_wp2_with fail
   apply wp_midF (M := fun (T : Nat) (no : Int) (ps' : Sl) (D' : Db) (_ : List EE) V => Below wr.heap.size wr V ∧ wr.heap.size ≤ T ∧ V.heap[T]? = some (.cells (rdbC es ps' D') 50) ∧ RefAt (fun j => ofDb b n e p j ∨ j = w0.heap.size ∨ j = T9 ∨ S0 j) es ps' D' X V ∧ PolStep D q no D')
   case h1 =>
    refine wp_region_since2 9 5 [0, 1, 2, 3, 4, 9, 5, 6, 7, 8, 10, 11] (Below.refl _ wr) (by kernel_rfl) (by kernel_rfl) (by rfl) ?_ ?_
    ·intro w4 hb4
     repeat (first | (refine text_skip (by rfl) ?_) | (refine text_look (by rfl) (by rfl) (fun K hK => ?_); go_big_quiet_op; refine hK _ ?_; clear hK K))
     refine text_act (by rfl) (by rfl) (fun K hK => ?_)
     go_wp2_with fail
     refine (refPutPol_c (fun j => ofDb b n e p j ∨ j = w0.heap.size ∨ j = T9 ∨ S0 j) es ps D X q w4 (hm.ref.later hb4) (fun j hj => by have := hm.ltR H0.out j hj; have := hb4.size; omega) HSZ.out (by have := hm.n2; omega) hm.d0 (by have := hm.d1; omega)).mono ?_
     rintro z w5 ⟨no, ps', D', rfl, hb5, hr5, hst⟩
     have hb5' := below_step hb4 hb5
     go_wp2_with fail
     refine hK _ _ (since_of hb5') ?_
     clear hK K
     repeat (first | (refine text_skip (by rfl) ?_) | (refine text_look (by rfl) (by rfl) (fun K hK => ?_); go_big_quiet_op; refine hK _ ?_; clear hK K))
     refine text_act (by rfl) (by rfl) (fun K hK => ?_)
     go_wp2_with fail
     refine hK _ _ (since_of (below_new hb5' _)) ?_
     clear hK K
     repeat (first | (refine text_skip (by rfl) ?_) | (refine text_look (by rfl) (by rfl) (fun K hK => ?_); go_big_quiet_op; refine hK _ ?_; clear hK K))
     refine text_act (by rfl) (by rfl) (fun K hK => ?_)
     go_wp2_with fail
     refine hK _ _ (since_of (below_new hb5' (.cells (rdbC es ps' D') 50))) ?_
     clear hK K
     repeat (first | (refine text_skip (by rfl) ?_) | (refine text_look (by rfl) (by rfl) (fun K hK => ?_); go_big_quiet_op; refine hK _ ?_; clear hK K))
     refine text_nil ?_
     have hnew := World.alloc_heap_new w5 (.cells (rdbC es ps' D') 50)
     have hge : wr.heap.size ≤ w5.heap.size := hb5'.size
     have hbV := below_new hb5' (.cells (rdbC es ps' D') 50)
     have hrV := hr5.later ((Below.refl _ w5).alloc (Nat.le_refl _) (.cells (rdbC es ps' D') 50))
     generalize (w5.alloc (.cells (rdbC es ps' D') 50)) = V at *
     generalize w5.heap.size = T at *
     obtain ⟨uX, -⟩ : ∃ u : List EE, u = X := ⟨_, rfl⟩
     refine ⟨by first | rfl | trivial, T, no, ps', D', uX, rfl, hbV, hge, hnew, hrV, hst⟩
    ·intro w4 hb4
     change wpText _ _ _ _ _ [_, _, _, _, _, _, _, _, _, _, _, _] _ _
     repeat (first | (refine text_skip (by rfl) ?_) | (refine text_look (by rfl) (by rfl) (fun K hK => ?_); go_big_quiet_op; refine hK _ ?_; clear hK K))
     refine text_act (by rfl) (by rfl) (fun K hK => ?_)
     go_wp2_with fail
     refine hK _ _ (since_of (below_new hb4 _)) ?_
     clear hK K
     repeat (first | (refine text_skip (by rfl) ?_) | (refine text_look (by rfl) (by rfl) (fun K hK => ?_); go_big_quiet_op; refine hK _ ?_; clear hK K))
     refine text_act (by rfl) (by rfl) (fun K hK => ?_)
     go_wp2_with fail
     refine (refPutPol_c (fun j => (ofDb b n e p j ∨ j = w0.heap.size ∨ j = T9 ∨ S0 j) ∨ j = w4.heap.size) es ps D X q (w4.alloc (.cells #[.string ⟨#[]⟩, .int .i64 0, .slice none 0 0, .slice none 0 0] 50)) (hm.ref.wide (below_new hb4 _) (by rintro j (hj | rfl) <;> first | exact .inl hj | exact .inr hb4.size)) (by rintro j (hj | rfl) <;> first | (have := hm.ltR H0.out j hj; have := hb4.size; simp; omega) | (simp; done)) HSZ.out (by have := hm.n2; omega) hm.d0 (by have := hm.d1; omega)).mono ?_
     rintro z w5 ⟨no, ps', D', rfl, hb5, hr5, hst⟩
     have hb5' := below_step (below_new hb4 (.cells #[.string ⟨#[]⟩, .int .i64 0, .slice none 0 0, .slice none 0 0] 50)) hb5
     have hZ5 := still_blk hb5 (World.alloc_heap_new w4 (.cells #[.string ⟨#[]⟩, .int .i64 0, .slice none 0 0, .slice none 0 0] 50))
     have hcp5 : canPut w5 w4.heap.size 0 4 = true := canPut_of_cells hZ5 (by simp)
     have hbV : Below wr.heap.size wr (putRow w5 w4.heap.size 0 (rdbC es ps' D')) := Go.WW.Below.putRow hb5' hb4.size
     go_wp2_with fail
     refine hK _ _ (since_of hb5') ?_
     clear hK K
     repeat (first | (refine text_skip (by rfl) ?_) | (refine text_look (by rfl) (by rfl) (fun K hK => ?_); go_big_quiet_op; refine hK _ ?_; clear hK K))
     refine text_act (by rfl) (by rfl) (fun K hK => ?_)
     go_wp2_with fail
     refine hK _ _ (since_of hbV) ?_
     clear hK K
     repeat (first | (refine text_skip (by rfl) ?_) | (refine text_look (by rfl) (by rfl) (fun K hK => ?_); go_big_quiet_op; refine hK _ ?_; clear hK K))
     refine text_nil ?_
     have hge : wr.heap.size ≤ w4.heap.size := hb4.size
     have hnew := putRow_blk (o := 0) (cs := rdbC es ps' D') hZ5 (by simp [rdbC_size])
     rw [splice_whole (by simp [rdbC_size])] at hnew
     have hrV := (hr5.on ((But.refl _ w5).put (g := w4.heap.size) (o := 0) (cs := rdbC es ps' D') (.inr rfl))).less (S' := fun j => ofDb b n e p j ∨ j = w0.heap.size ∨ j = T9 ∨ S0 j) (fun j hj => .inl hj)
     clear hcp5 hZ5
     generalize (putRow w5 w4.heap.size 0 (rdbC es ps' D')) = V at *
     generalize w4.heap.size = T at *
     obtain ⟨uX, -⟩ : ∃ u : List EE, u = X := ⟨_, rfl⟩
     refine ⟨by first | rfl | trivial, T, no, ps', D', uX, rfl, hbV, hge, hnew, hrV, hst⟩
   case h2 =>
    rintro T no ps' D' uu V ⟨hbV, hTge, hbT, hrV, hst⟩
    try clear xc xf xr xl
    have hrowV := (bcell hbV).2.2 bA
    obtain ⟨tc, tf, tr, tl⟩ := box_facts hbT
    try dsimp only
    have hrow2 : row? V bA _ _ = _ := (hrowV _ _ hbA).trans hrow
    clear hrowV
    go_wp2_with fail
    refine (dbPutPol_c _ b n e p re82 s NL E P D D' no q V (hm.prog.later hbV) re82_ne hm.rel.pols hst HSZ.out (by have h1 := hm.rel.pols.perm.length_eq; have h2 := hm.n2; omega) hm.s0 (by have := hm.s1; omega)).mono ?_
    rintro z V2 ⟨rfl, hbu, s', P', hs1, hs2, hp2, hpr2⟩
    obtain ⟨g1, g2, g3, g4, g5⟩ := polStep_rest hst
    have hrel2 := hm.rel.polStep hst hpr2
    have HNX := Lib.hid (hm.next hbV hbu hrV hp2 hrel2 g2 hs1 hs2 g3 g4 (by omega) g5)
    have hbT2 : V2.heap[T]? = some (.cells (rdbC es ps' D') 50) := (hbu.block _ tl (fun hj => by have := hm.prog.lt _ hj; omega)).trans hbT
    have hb92 : V2.heap[T9]? = some (.cells (rdbC es ps D) 50) := (hbu.block _ (by have := hm.lt9; have := hbV.size; omega) (fun hj => (hm.fr _ hj).2.2 rfl)).trans (still_blk hbV hm.box)
    clear tc tf tr tl hrow2
    obtain ⟨tc, tf, tr, tl⟩ := box_facts hbT2
    have hcp9 : canPut V2 T9 0 4 = true := canPut_of_cells hb92 (by simp [rdbC_size])
    try dsimp only
    go_wp2_with fail
    refine (num_c _ _).mono ?_
    rintro z w' ⟨rfl, rfl⟩
    dsimp only
    go_wp2_with fail
    go_roundw
    case rel => exact ⟨k + 1, by omega, by go_num, es, ps', D', X, s', NL, E, P', HNX.out⟩
    case measure => simp [intOf]; omega
  ·obtain rfl : k = PL.length := by omega
   go_wp2_with fail
   refine wp_loop_rounds 1 ?_
   rw [rounds_succ]
   go_wp2_with fail
   obtain ⟨xc, xf, xr, xl⟩ := box_facts hm.box
   have hcp5 := canPut_of_cells (o := 0) (n := 4) hm.res (by simp [rdbC_size])
   have hl5 := hm.lt5
   have n95 := not_one hm.n59.symm
   have hfin := Lib.hid hm.fin
   have hbut := Lib.hid hm.last.1
   have hrowF := Lib.hid hm.last.2
   have hm' := hm
   clear hm
   refine wp_region_sinceB (one w0.heap.size) (But.refl _ _) (by kernel_rfl) (by kernel_rfl) ?_
   repeat (first | (refine text_skip (by rfl) ?_) | (refine textN_look (by rfl) (by rfl) (fun K hK => ?_); go_big_quiet_op; refine hK _ ?_; clear hK K))
   refine textN_act (by rfl) (by rfl) (fun K hK => ?_)
   go_wp2_with fail
   refine hK _ _ (sinceB_of hbut.out) ?_
   clear hK K
   repeat (first | (refine text_skip (by rfl) ?_) | (refine textN_look (by rfl) (by rfl) (fun K hK => ?_); go_big_quiet_op; refine hK _ ?_; clear hK K))
   refine text_nil ?_
   go_wp2_with fail
   exact bodyPost_ret (results_trt (a := 4) (t := 5) (c := 6) (by rfl) Tryz.underlying50 rfl (by kernel_rfl) rfl hrowF.out) rfl (hfin.out)
set_option maxRecDepth 100000 in
set_option maxHeartbeats 4000000 in
theorem made_11 (S0 : Nat → Prop) (bA oA : Nat) (bB oB : Nat) (cap cap2 : Nat) (PL : List Policy) (X0 : List EE) (w0 : World) (h0 : ∀ j, S0 j → j < w0.heap.size) (hp : PolsAt w0 (some ⟨bA, oA, none⟩) PL) (hx : Keeps S0 w0 (fun y => RowsXE y (some ⟨bB, oB, none⟩) X0)) (h1 : PL.length ≤ 4) (h2 : X0.length ≤ 6) :
  Calls Tryz.prog 16 #[.slice (some ⟨bA, oA, none⟩) PL.length cap, .slice (some ⟨bB, oB, none⟩) X0.length cap2] w0 (MadePost S0 w0 (PL.length + X0.length)) := by
 have H0 := Lib.hid h0
 have HA := Lib.hid hp
 have HLL1 := Lib.hid (show PL.length ≤ 4294967000 from hp.1)
 have HB := Lib.hid hx
 have HLL2 := Lib.hid (show X0.length ≤ 4294967000 from hx.out.rows.1)
 clear h0 hp hx
 have hW1 : Below w0.heap.size w0 (w0.alloc (.cells (rdbC nilSl nilSl zeroDb) 50)) := below_new (Below.refl _ _) _
 have hT5 : (w0.alloc (.cells (rdbC nilSl nilSl zeroDb) 50)).heap[w0.heap.size]? = some (.cells (rdbC nilSl nilSl zeroDb) 50) := World.alloc_heap_new _ _
 rw [show rdbC nilSl nilSl zeroDb = #[.string ⟨#[]⟩, .int .i64 0, .slice none 0 0, .slice none 0 0] from rfl] at hW1 hT5
 go_enter Tryz.func16, Tryz.ntmps16
 go_wp2_with fail
 generalize (w0.alloc (.cells #[.string ⟨#[]⟩, .int .i64 0, .slice none 0 0, .slice none 0 0] 50)) = W1 at *
 have hl1 : w0.heap.size < W1.heap.size := (Array.getElem?_eq_some_iff.1 hT5).1
 refine (dbNew_c re82 W1 (by simp [lim, ByteArray.size]) re82_ok).mono ?_
 rintro z w1 ⟨b, n, e, p, rfl, hb1, hdb, ub, un, ue, up⟩
 dsimp only
 have hT51 := still_blk hb1 hT5
 have hB1 := below_step hW1 hb1
 go_wp2_with fail
 refine (refNew_c re82 w1 (by simp [lim, ByteArray.size]) re82_ok).mono ?_
 rintro z w2 ⟨rfl, hb2⟩
 dsimp only
 go_wp2_with fail
 have hV := below_new (below_step hB1 hb2) (.cells (rdbC nilSl nilSl (newDb re82)) 50)
 have hT9 := World.alloc_heap_new w2 (.cells (rdbC nilSl nilSl (newDb re82)) 50)
 have hT5V : (w2.alloc (.cells (rdbC nilSl nilSl (newDb re82)) 50)).heap[w0.heap.size]? = some (.cells (rdbC nilSl nilSl zeroDb) 50) := (Below.heap_alloc _ _ _ (by have := hB1.size; have := hb2.size; have := hb1.size; omega)).trans (still_blk hb2 hT51)
 have hdV := (hdb.later hb2).later ((Below.refl _ w2).alloc (Nat.le_refl _) (.cells (rdbC nilSl nilSl (newDb re82)) 50))
 have l09 : w0.heap.size < w2.heap.size := by have := hb2.size; have := hb1.size; omega
 have ldb : ∀ j, ofDb b n e p j → w0.heap.size ≤ j ∧ j ≠ w0.heap.size ∧ j ≠ w2.heap.size := fun j hj => by
  have g1 := not_ofDb hdb
  have g2 : j < w1.heap.size := Classical.byContradiction fun hn => g1 j (by omega) hj
  have g3 := hb2.size
  have g4 : W1.heap.size ≤ j := by rcases hj with rfl | rfl | rfl | rfl <;> assumption
  omega
 clear hT51 hB1 hdb hb2 hT5 hb1
 generalize (w2.alloc (.cells (rdbC nilSl nilSl (newDb re82)) 50)) = V0 at *
 generalize w2.heap.size = T9 at *
 have hm0 : MadeAt S0 w0 w0.heap.size T9 b n e p 0 nilSl nilSl (newDb re82) [] 0 [] [] [] V0 := ⟨hT9, hT5V, ⟨hdV, by simp, fun j hj => .inl hj⟩, ⟨fun y _ => ⟨⟨by simp [lim], fun i hi => by simp at hi⟩, by simp⟩, fun y _ => ⟨by simp [newDb, lim], fun i hi => by simp [newDb] at hi⟩⟩, new_rel, rfl, by omega, by omega, by simp [newDb], by simp [newDb], by simp, by simp [newDb], hV, Nat.le_refl _, by omega, by omega, ldb⟩
 clear hT9 hT5V hdV l09 ldb hV hW1 hl1 ub un ue up
 refine (num_c _ _).mono ?_
 rintro z w' ⟨rfl, rfl⟩
 dsimp only
 go_wp2_with fail
 go_loopw [11] (fun iv wr => ∃ k : Nat, k ≤ PL.length ∧ iv = .int .i64 k ∧ ∃ es ps D X s NL E P, MadeAt S0 w0 w0.heap.size T9 b n e p (k) es ps D X s NL E P wr) (fun iv _ => PL.length - (intOf iv).toNat)
 case atStart => exact ⟨0, Nat.zero_le _, rfl, _, _, _, _, _, _, _, _, hm0⟩
 case round =>
  clear hm0
  obtain ⟨k, hk, rfl, es, ps, D, X, s, NL, E, P, hm⟩ := hrel
  by_cases hlt : k < PL.length
  ·have hki : (k : Int) < (PL.length : Int) := by omega
   have hll := HLL1.out
   obtain ⟨hrow0, hsz0⟩ := HA.out.at k hlt
   have hrow : row? wr bA (oA + k * 10) 10 = some (polC PL[k]) := (row?_of_block (hm.out.block _ (row?_lt hrow0)) _ _).trans hrow0
   generalize PL[k] = q at *
   have HSZ := Lib.hid hsz0
   clear hsz0
   obtain ⟨xc, xf, xr, xl⟩ := box_facts hm.box
   have hbA : bA < wr.heap.size := row?_lt hrow
   go_wp2_with fail
   apply wp_midF (M := fun (T : Nat) (no : Int) (ps' : Sl) (D' : Db) (_ : List EE) V => Below wr.heap.size wr V ∧ wr.heap.size ≤ T ∧ V.heap[T]? = some (.cells (rdbC es ps' D') 50) ∧ RefAt (fun j => ofDb b n e p j ∨ j = w0.heap.size ∨ j = T9 ∨ S0 j) es ps' D' X V ∧ PolStep D q no D')
   case h1 =>
    refine wp_region_since2 9 5 [0, 1, 2, 3, 4, 9, 5, 6, 7, 8, 10, 11] (Below.refl _ wr) (by kernel_rfl) (by kernel_rfl) (by rfl) ?_ ?_
    ·intro w4 hb4
     repeat (first | (refine text_skip (by rfl) ?_) | (refine text_look (by rfl) (by rfl) (fun K hK => ?_); go_big_quiet_op; refine hK _ ?_; clear hK K))
     refine text_act (by rfl) (by rfl) (fun K hK => ?_)
     go_wp2_with fail
     refine (refPutPol_c (fun j => ofDb b n e p j ∨ j = w0.heap.size ∨ j = T9 ∨ S0 j) es ps D X q w4 (hm.ref.later hb4) (fun j hj => by have := hm.ltR H0.out j hj; have := hb4.size; omega) HSZ.out (by have := hm.n2; omega) hm.d0 (by have := hm.d1; omega)).mono ?_
     rintro z w5 ⟨no, ps', D', rfl, hb5, hr5, hst⟩
     have hb5' := below_step hb4 hb5
     go_wp2_with fail
     refine hK _ _ (since_of hb5') ?_
     clear hK K
     repeat (first | (refine text_skip (by rfl) ?_) | (refine text_look (by rfl) (by rfl) (fun K hK => ?_); go_big_quiet_op; refine hK _ ?_; clear hK K))
     refine text_act (by rfl) (by rfl) (fun K hK => ?_)
     go_wp2_with fail
     refine hK _ _ (since_of (below_new hb5' _)) ?_
     clear hK K
     repeat (first | (refine text_skip (by rfl) ?_) | (refine text_look (by rfl) (by rfl) (fun K hK => ?_); go_big_quiet_op; refine hK _ ?_; clear hK K))
     refine text_act (by rfl) (by rfl) (fun K hK => ?_)
     go_wp2_with fail
     refine hK _ _ (since_of (below_new hb5' (.cells (rdbC es ps' D') 50))) ?_
     clear hK K
     repeat (first | (refine text_skip (by rfl) ?_) | (refine text_look (by rfl) (by rfl) (fun K hK => ?_); go_big_quiet_op; refine hK _ ?_; clear hK K))
     refine text_nil ?_
     have hnew := World.alloc_heap_new w5 (.cells (rdbC es ps' D') 50)
     have hge : wr.heap.size ≤ w5.heap.size := hb5'.size
     have hbV := below_new hb5' (.cells (rdbC es ps' D') 50)
     have hrV := hr5.later ((Below.refl _ w5).alloc (Nat.le_refl _) (.cells (rdbC es ps' D') 50))
     generalize (w5.alloc (.cells (rdbC es ps' D') 50)) = V at *
     generalize w5.heap.size = T at *
     obtain ⟨uX, -⟩ : ∃ u : List EE, u = X := ⟨_, rfl⟩
     refine ⟨by first | rfl | trivial, T, no, ps', D', uX, rfl, hbV, hge, hnew, hrV, hst⟩
    ·intro w4 hb4
     change wpText _ _ _ _ _ [_, _, _, _, _, _, _, _, _, _, _, _] _ _
     repeat (first | (refine text_skip (by rfl) ?_) | (refine text_look (by rfl) (by rfl) (fun K hK => ?_); go_big_quiet_op; refine hK _ ?_; clear hK K))
     refine text_act (by rfl) (by rfl) (fun K hK => ?_)
     go_wp2_with fail
     refine hK _ _ (since_of (below_new hb4 _)) ?_
     clear hK K
     repeat (first | (refine text_skip (by rfl) ?_) | (refine text_look (by rfl) (by rfl) (fun K hK => ?_); go_big_quiet_op; refine hK _ ?_; clear hK K))
     refine text_act (by rfl) (by rfl) (fun K hK => ?_)
     go_wp2_with fail
     refine (refPutPol_c (fun j => (ofDb b n e p j ∨ j = w0.heap.size ∨ j = T9 ∨ S0 j) ∨ j = w4.heap.size) es ps D X q (w4.alloc (.cells #[.string ⟨#[]⟩, .int .i64 0, .slice none 0 0, .slice none 0 0] 50)) (hm.ref.wide (below_new hb4 _) (by rintro j (hj | rfl) <;> first | exact .inl hj | exact .inr hb4.size)) (by rintro j (hj | rfl) <;> first | (have := hm.ltR H0.out j hj; have := hb4.size; simp; omega) | (simp; done)) HSZ.out (by have := hm.n2; omega) hm.d0 (by have := hm.d1; omega)).mono ?_
     rintro z w5 ⟨no, ps', D', rfl, hb5, hr5, hst⟩
     have hb5' := below_step (below_new hb4 (.cells #[.string ⟨#[]⟩, .int .i64 0, .slice none 0 0, .slice none 0 0] 50)) hb5
     have hZ5 := still_blk hb5 (World.alloc_heap_new w4 (.cells #[.string ⟨#[]⟩, .int .i64 0, .slice none 0 0, .slice none 0 0] 50))
     have hcp5 : canPut w5 w4.heap.size 0 4 = true := canPut_of_cells hZ5 (by simp)
     have hbV : Below wr.heap.size wr (putRow w5 w4.heap.size 0 (rdbC es ps' D')) := Go.WW.Below.putRow hb5' hb4.size
     go_wp2_with fail
     refine hK _ _ (since_of hb5') ?_
     clear hK K
     repeat (first | (refine text_skip (by rfl) ?_) | (refine text_look (by rfl) (by rfl) (fun K hK => ?_); go_big_quiet_op; refine hK _ ?_; clear hK K))
     refine text_act (by rfl) (by rfl) (fun K hK => ?_)
     go_wp2_with fail
     refine hK _ _ (since_of hbV) ?_
     clear hK K
     repeat (first | (refine text_skip (by rfl) ?_) | (refine text_look (by rfl) (by rfl) (fun K hK => ?_); go_big_quiet_op; refine hK _ ?_; clear hK K))
     refine text_nil ?_
     have hge : wr.heap.size ≤ w4.heap.size := hb4.size
     have hnew := putRow_blk (o := 0) (cs := rdbC es ps' D') hZ5 (by simp [rdbC_size])
     rw [splice_whole (by simp [rdbC_size])] at hnew
     have hrV := (hr5.on ((But.refl _ w5).put (g := w4.heap.size) (o := 0) (cs := rdbC es ps' D') (.inr rfl))).less (S' := fun j => ofDb b n e p j ∨ j = w0.heap.size ∨ j = T9 ∨ S0 j) (fun j hj => .inl hj)
     clear hcp5 hZ5
     generalize (putRow w5 w4.heap.size 0 (rdbC es ps' D')) = V at *
     generalize w4.heap.size = T at *
     obtain ⟨uX, -⟩ : ∃ u : List EE, u = X := ⟨_, rfl⟩
     refine ⟨by first | rfl | trivial, T, no, ps', D', uX, rfl, hbV, hge, hnew, hrV, hst⟩
   case h2 =>
    rintro T no ps' D' uu V ⟨hbV, hTge, hbT, hrV, hst⟩
    try clear xc xf xr xl
    have hrowV := (bcell hbV).2.2 bA
    obtain ⟨tc, tf, tr, tl⟩ := box_facts hbT
    try dsimp only
    have hrow2 : row? V bA _ _ = _ := (hrowV _ _ hbA).trans hrow
    clear hrowV
    go_wp2_with fail
    refine (dbPutPol_c _ b n e p re82 s NL E P D D' no q V (hm.prog.later hbV) re82_ne hm.rel.pols hst HSZ.out (by have h1 := hm.rel.pols.perm.length_eq; have h2 := hm.n2; omega) hm.s0 (by have := hm.s1; omega)).mono ?_
    rintro z V2 ⟨rfl, hbu, s', P', hs1, hs2, hp2, hpr2⟩
    obtain ⟨g1, g2, g3, g4, g5⟩ := polStep_rest hst
    have hrel2 := hm.rel.polStep hst hpr2
    have HNX := Lib.hid (hm.next hbV hbu hrV hp2 hrel2 g2 hs1 hs2 g3 g4 (by omega) g5)
    have hbT2 : V2.heap[T]? = some (.cells (rdbC es ps' D') 50) := (hbu.block _ tl (fun hj => by have := hm.prog.lt _ hj; omega)).trans hbT
    have hb92 : V2.heap[T9]? = some (.cells (rdbC es ps D) 50) := (hbu.block _ (by have := hm.lt9; have := hbV.size; omega) (fun hj => (hm.fr _ hj).2.2 rfl)).trans (still_blk hbV hm.box)
    clear tc tf tr tl hrow2
    obtain ⟨tc, tf, tr, tl⟩ := box_facts hbT2
    have hcp9 : canPut V2 T9 0 4 = true := canPut_of_cells hb92 (by simp [rdbC_size])
    try dsimp only
    go_wp2_with fail
    refine (num_c _ _).mono ?_
    rintro z w' ⟨rfl, rfl⟩
    dsimp only
    go_wp2_with fail
    go_roundw
    case rel => exact ⟨k + 1, by omega, by go_num, es, ps', D', X, s', NL, E, P', HNX.out⟩
    case measure => simp [intOf]; omega
  ·obtain rfl : k = PL.length := by omega
   go_wp2_with fail
   go_loopw [14] (fun iv wr => ∃ k : Nat, k ≤ X0.length ∧ iv = .int .i64 k ∧ ∃ es ps D X s NL E P, MadeAt S0 w0 w0.heap.size T9 b n e p (PL.length + k) es ps D X s NL E P wr) (fun iv _ => X0.length - (intOf iv).toNat)
   case atStart => exact ⟨0, Nat.zero_le _, rfl, _, _, _, _, _, _, _, _, hm⟩
   case round =>
    clear hm
    obtain ⟨k, hk, rfl, es, ps, D, X, s, NL, E, P, hm⟩ := hrel
    by_cases hlt : k < X0.length
    ·have hki : (k : Int) < (X0.length : Int) := by omega
     have hll := HLL2.out
     have hrow0 := HB.out.out.rows.at k hlt
     have hrow : row? wr bB (oB + k * 17) 17 = some (entC X0[k].1 X0[k].2) := (row?_of_block (hm.out.block _ (row?_lt hrow0)) _ _).trans hrow0
     have hkE : KeptE (fun j => ofDb b n e p j ∨ j = w0.heap.size ∨ j = T9 ∨ S0 j) wr (X0[k].1, X0[k].2) := (show Keeps S0 w0 (fun y => EntAt y X0[k].1 X0[k].2) from fun y hy => (HB.out y hy).each _ (List.getElem_mem hlt)).wide hm.out (by
      rintro j (hj | rfl | rfl | hj)
      ·exact .inr (hm.fr j hj).1
      ·exact .inr hm.b5
      ·exact .inr hm.b9
      ·exact .inl hj)
     generalize X0[k] = x0 at *
     obtain ⟨r0, d0⟩ := x0
     dsimp only at hkE hrow
     have HKE := Lib.hid hkE
     clear hkE
     obtain ⟨xc, xf, xr, xl⟩ := box_facts hm.box
     have hbB : bB < wr.heap.size := row?_lt hrow
     go_wp2_with fail
     apply wp_midF (M := fun (T : Nat) (no : Int) (es' : Sl) (D' : Db) (X' : List EE) V => Below wr.heap.size wr V ∧ wr.heap.size ≤ T ∧ V.heap[T]? = some (.cells (rdbC es' ps D') 50) ∧ RefAt (fun j => ofDb b n e p j ∨ j = w0.heap.size ∨ j = T9 ∨ S0 j) es' ps D' X' V ∧ EntStep D X r0 d0 no D' X')
     case h1 =>
      refine wp_region_since2 9 5 [0, 1, 2, 3, 4, 9, 5, 6, 7, 8, 10, 11] (Below.refl _ wr) (by kernel_rfl) (by kernel_rfl) (by rfl) ?_ ?_
      ·intro w4 hb4
       repeat (first | (refine text_skip (by rfl) ?_) | (refine text_look (by rfl) (by rfl) (fun K hK => ?_); go_big_quiet_op; refine hK _ ?_; clear hK K))
       refine text_act (by rfl) (by rfl) (fun K hK => ?_)
       go_wp2_with fail
       refine (refPut_c (fun j => ofDb b n e p j ∨ j = w0.heap.size ∨ j = T9 ∨ S0 j) es ps D X r0 d0 w4 (hm.ref.later hb4) (fun j hj => by have := hm.ltR H0.out j hj; have := hb4.size; omega) (HKE.out.on (But.of_below hb4)) hm.rel.eq hm.rel.goodX (by have := hm.n1; omega) hm.d0 (by have := hm.d1; omega)).mono ?_
       rintro z w5 ⟨no, es', D', X', rfl, hb5, hr5, hst⟩
       have hb5' := below_step hb4 hb5
       go_wp2_with fail
       refine hK _ _ (since_of hb5') ?_
       clear hK K
       repeat (first | (refine text_skip (by rfl) ?_) | (refine text_look (by rfl) (by rfl) (fun K hK => ?_); go_big_quiet_op; refine hK _ ?_; clear hK K))
       refine text_act (by rfl) (by rfl) (fun K hK => ?_)
       go_wp2_with fail
       refine hK _ _ (since_of (below_new hb5' _)) ?_
       clear hK K
       repeat (first | (refine text_skip (by rfl) ?_) | (refine text_look (by rfl) (by rfl) (fun K hK => ?_); go_big_quiet_op; refine hK _ ?_; clear hK K))
       refine text_act (by rfl) (by rfl) (fun K hK => ?_)
       go_wp2_with fail
       refine hK _ _ (since_of (below_new hb5' (.cells (rdbC es' ps D') 50))) ?_
       clear hK K
       repeat (first | (refine text_skip (by rfl) ?_) | (refine text_look (by rfl) (by rfl) (fun K hK => ?_); go_big_quiet_op; refine hK _ ?_; clear hK K))
       refine text_nil ?_
       have hnew := World.alloc_heap_new w5 (.cells (rdbC es' ps D') 50)
       have hge : wr.heap.size ≤ w5.heap.size := hb5'.size
       have hbV := below_new hb5' (.cells (rdbC es' ps D') 50)
       have hrV := hr5.later ((Below.refl _ w5).alloc (Nat.le_refl _) (.cells (rdbC es' ps D') 50))
       generalize (w5.alloc (.cells (rdbC es' ps D') 50)) = V at *
       generalize w5.heap.size = T at *
       skip
       refine ⟨by first | rfl | trivial, T, no, es', D', X', rfl, hbV, hge, hnew, hrV, hst⟩
      ·intro w4 hb4
       change wpText _ _ _ _ _ [_, _, _, _, _, _, _, _, _, _, _, _] _ _
       repeat (first | (refine text_skip (by rfl) ?_) | (refine text_look (by rfl) (by rfl) (fun K hK => ?_); go_big_quiet_op; refine hK _ ?_; clear hK K))
       refine text_act (by rfl) (by rfl) (fun K hK => ?_)
       go_wp2_with fail
       refine hK _ _ (since_of (below_new hb4 _)) ?_
       clear hK K
       repeat (first | (refine text_skip (by rfl) ?_) | (refine text_look (by rfl) (by rfl) (fun K hK => ?_); go_big_quiet_op; refine hK _ ?_; clear hK K))
       refine text_act (by rfl) (by rfl) (fun K hK => ?_)
       go_wp2_with fail
       refine (refPut_c (fun j => (ofDb b n e p j ∨ j = w0.heap.size ∨ j = T9 ∨ S0 j) ∨ j = w4.heap.size) es ps D X r0 d0 (w4.alloc (.cells #[.string ⟨#[]⟩, .int .i64 0, .slice none 0 0, .slice none 0 0] 50)) (hm.ref.wide (below_new hb4 _) (by rintro j (hj | rfl) <;> first | exact .inl hj | exact .inr hb4.size)) (by rintro j (hj | rfl) <;> first | (have := hm.ltR H0.out j hj; have := hb4.size; simp; omega) | (simp; done)) (Keeps.wide (S := fun j => ofDb b n e p j ∨ j = w0.heap.size ∨ j = T9 ∨ S0 j) (Φ := fun y => EntAt y r0 d0) HKE.out (below_new hb4 _) (by rintro j (hj | rfl) <;> first | exact .inl hj | exact .inr hb4.size)) hm.rel.eq hm.rel.goodX (by have := hm.n1; omega) hm.d0 (by have := hm.d1; omega)).mono ?_
       rintro z w5 ⟨no, es', D', X', rfl, hb5, hr5, hst⟩
       have hb5' := below_step (below_new hb4 (.cells #[.string ⟨#[]⟩, .int .i64 0, .slice none 0 0, .slice none 0 0] 50)) hb5
       have hZ5 := still_blk hb5 (World.alloc_heap_new w4 (.cells #[.string ⟨#[]⟩, .int .i64 0, .slice none 0 0, .slice none 0 0] 50))
       have hcp5 : canPut w5 w4.heap.size 0 4 = true := canPut_of_cells hZ5 (by simp)
       have hbV : Below wr.heap.size wr (putRow w5 w4.heap.size 0 (rdbC es' ps D')) := Go.WW.Below.putRow hb5' hb4.size
       go_wp2_with fail
       refine hK _ _ (since_of hb5') ?_
       clear hK K
       repeat (first | (refine text_skip (by rfl) ?_) | (refine text_look (by rfl) (by rfl) (fun K hK => ?_); go_big_quiet_op; refine hK _ ?_; clear hK K))
       refine text_act (by rfl) (by rfl) (fun K hK => ?_)
       go_wp2_with fail
       refine hK _ _ (since_of hbV) ?_
       clear hK K
       repeat (first | (refine text_skip (by rfl) ?_) | (refine text_look (by rfl) (by rfl) (fun K hK => ?_); go_big_quiet_op; refine hK _ ?_; clear hK K))
       refine text_nil ?_
       have hge : wr.heap.size ≤ w4.heap.size := hb4.size
       have hnew := putRow_blk (o := 0) (cs := rdbC es' ps D') hZ5 (by simp [rdbC_size])
       rw [splice_whole (by simp [rdbC_size])] at hnew
       have hrV := (hr5.on ((But.refl _ w5).put (g := w4.heap.size) (o := 0) (cs := rdbC es' ps D') (.inr rfl))).less (S' := fun j => ofDb b n e p j ∨ j = w0.heap.size ∨ j = T9 ∨ S0 j) (fun j hj => .inl hj)
       clear hcp5 hZ5
       generalize (putRow w5 w4.heap.size 0 (rdbC es' ps D')) = V at *
       generalize w4.heap.size = T at *
       skip
       refine ⟨by first | rfl | trivial, T, no, es', D', X', rfl, hbV, hge, hnew, hrV, hst⟩
     case h2 =>
      rintro T no es' D' X' V ⟨hbV, hTge, hbT, hrV, hst⟩
      try clear xc xf xr xl
      have hrowV := (bcell hbV).2.2 bB
      obtain ⟨tc, tf, tr, tl⟩ := box_facts hbT
      try dsimp only
      have hrow2 : row? V bB _ _ = _ := (hrowV _ _ hbB).trans hrow
      clear hrowV
      go_wp2_with fail
      refine (dbPut_c _ b n e p re82 s NL E P D D' X X' no r0 d0 V (hm.prog.later hbV) re82_ne hm.re hm.rel hst (HKE.out.out.later hbV) (fun j hj => by have := hm.ltP j hj; have := hbV.size; omega) (by have := hm.n1; omega) hm.s0 (by have := hm.s1; omega)).mono ?_
      rintro z V2 ⟨rfl, hbu, s', NL', E', hs1, hs2, hp2, hrel2⟩
      obtain ⟨g1, g2, g3, g4, g5, -, -⟩ := entStep_rest hst
      have HNX := Lib.hid (hm.next hbV hbu hrV hp2 hrel2 g2 hs1 hs2 g3 g4 g5 (by rw [g1]; omega))
      have hbT2 : V2.heap[T]? = some (.cells (rdbC es' ps D') 50) := (hbu.block _ tl (fun hj => by have := hm.prog.lt _ hj; omega)).trans hbT
      have hb92 : V2.heap[T9]? = some (.cells (rdbC es ps D) 50) := (hbu.block _ (by have := hm.lt9; have := hbV.size; omega) (fun hj => (hm.fr _ hj).2.2 rfl)).trans (still_blk hbV hm.box)
      clear tc tf tr tl hrow2
      obtain ⟨tc, tf, tr, tl⟩ := box_facts hbT2
      have hcp9 : canPut V2 T9 0 4 = true := canPut_of_cells hb92 (by simp [rdbC_size])
      try dsimp only
      go_wp2_with fail
      refine (num_c _ _).mono ?_
      rintro z w' ⟨rfl, rfl⟩
      dsimp only
      go_wp2_with fail
      go_roundw
      case rel => exact ⟨k + 1, by omega, by go_num, es', ps, D', X', s', NL', E', P, HNX.out⟩
      case measure => simp [intOf]; omega
    ·obtain rfl : k = X0.length := by omega
     go_wp2_with fail
     obtain ⟨xc, xf, xr, xl⟩ := box_facts hm.box
     have hcp5 := canPut_of_cells (o := 0) (n := 4) hm.res (by simp [rdbC_size])
     have hl5 := hm.lt5
     have n95 := not_one hm.n59.symm
     have hfin := Lib.hid hm.fin
     have hbut := Lib.hid hm.last.1
     have hrowF := Lib.hid hm.last.2
     have hm' := hm
     clear hm
     refine wp_region_sinceB (one w0.heap.size) (But.refl _ _) (by kernel_rfl) (by kernel_rfl) ?_
     repeat (first | (refine text_skip (by rfl) ?_) | (refine textN_look (by rfl) (by rfl) (fun K hK => ?_); go_big_quiet_op; refine hK _ ?_; clear hK K))
     refine textN_act (by rfl) (by rfl) (fun K hK => ?_)
     go_wp2_with fail
     refine hK _ _ (sinceB_of hbut.out) ?_
     clear hK K
     repeat (first | (refine text_skip (by rfl) ?_) | (refine textN_look (by rfl) (by rfl) (fun K hK => ?_); go_big_quiet_op; refine hK _ ?_; clear hK K))
     refine text_nil ?_
     go_wp2_with fail
     exact bodyPost_ret (results_trt (a := 4) (t := 5) (c := 6) (by rfl) Tryz.underlying50 rfl (by kernel_rfl) rfl hrowF.out) rfl (hfin.out)
theorem made_c (S0 : Nat → Prop) (a a2 : Option Addr) (cap cap2 : Nat) (PL : List Policy) (X0 : List EE) (w0 : World) (h0 : ∀ j, S0 j → j < w0.heap.size) (hp : PolsAt w0 a PL) (hx : Keeps S0 w0 (fun y => RowsXE y a2 X0)) (h1 : PL.length ≤ 4) (h2 : X0.length ≤ 6) :
  Calls Tryz.prog 16 #[.slice a PL.length cap, .slice a2 X0.length cap2] w0 (MadePost S0 w0 (PL.length + X0.length)) := by
 rcases RowsAt.addr hp with n1 | ⟨b, o, rfl, -⟩ <;> rcases RowsAt.addr hx.out.rows with n2 | ⟨b2, o2, rfl, -⟩
 ·obtain rfl := List.eq_nil_of_length_eq_zero n1
  obtain rfl := List.eq_nil_of_length_eq_zero n2
  exact made_00 S0 _ _ _ _ _ h0
 ·obtain rfl := List.eq_nil_of_length_eq_zero n1
  exact made_01 S0 _ _ _ _ _ _ _ h0 hx h2
 ·obtain rfl := List.eq_nil_of_length_eq_zero n2
  exact made_10 S0 _ _ _ _ _ _ _ h0 hp h1
 ·exact made_11 S0 _ _ _ _ _ _ _ _ _ h0 hp hx h1 h2
end Go.Proofs.YtnpddjmjdpgohaaGreatDoor
