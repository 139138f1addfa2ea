/- Part S of the proof about watchword's lockout: texts M4 M5. -/
import Derived.Test.YtnpddjmjdpgohaaGreatDoorGR

namespace Go.WW
open Go.RowKit
theorem wp_append_n {P : Program} {o : Oper} {a : Act} {w : World} {K : Act → World → Prop} {Q : Exit → Act → World → Prop} (x y : Operand) (t : TypeId) (ho : o.op = .call { callee := .builtin .append, args := #[x, y], argTypes := #[t, t] })
    {e : TypeId} {k bytes : Nat} (he : ElemOk P t e k bytes) {base : Nat} {s : Sl} {n : Nat} {rows : List (Array Value)} (hx : a.eval x = .slice s.a n s.cap) (hn : n = rows.length) (h : Own w base e k s rows) {A : Option Addr} {news : List (Array Value)} {m c : Nat}
    (hy : a.eval y = .slice A m c) (hm : m = news.length) (hs : SrcRows w k A news) (hlen : (rows.length + news.length) * (bytes + 1) ≤ 140737488355328) (hbase : base ≤ w.heap.size)
    (hK : ∀ (s' : Sl) w', Own w' base e k s' (rows ++ news) → w.grownBy w' s.blk → (s'.blk = s.blk ∨ s'.blk = some w.heap.size) → K (a.put o.dst (.slice s'.a (n + m) s'.cap)) w') : o.wp P a w K Q := by
  subst hn hm
  exact wp_append_rows x y t ho he hx h hy rfl hs hlen hbase hK
def SomeBool (w : World) (e : Ending) (w' : World) : Prop := ∃ b, e = .returned (.bool b) ∧ Below w.heap.size w w'
def RP (l : List Prin) (w : World) (i : Nat) (cs : Array Value) : Prop := ∃ p s, l[i]? = some p ∧ cs = prinC s p ∧ PrinAt w s p
theorem own_below {W w w' : World} {E : TypeId} {k : Nat} {s : Sl} {rows : List (Array Value)} (h : Own w W.heap.size E k s rows) (hb : Below W.heap.size W w) (hg : w.grownBy w' s.blk) : Below W.heap.size W w' := hb.grown hg hb.size (fun _ e => (h.base e).1)
end Go.WW
namespace Go.Proofs.YtnpddjmjdpgohaaGreatDoor
open Go.RowKit Go.WW
set_option maxRecDepth 100000 in
set_option maxHeartbeats 4000000 in
theorem large_c (r : ERaw) (d : Entry) (w : World) (he : EntAt w r d) : Calls Tryz.prog 5 #[.agg (entC r d)] w (SomeBool w) := by
  have hB : Below w.heap.size w (w.alloc (.cells (entC r d) 31)) := (Below.refl _ _).alloc (Nat.le_refl _) _
  obtain ⟨rA, lA, sA, qA⟩ := RowsAt.src he.aliases prinR_ok
  obtain ⟨rT, lT, sT, qT⟩ := RowsAt.src he.targets prinR_ok
  obtain ⟨rD, lD, sD, qD⟩ := RowsAt.src he.delegates prinR_ok
  have nA : d.aliases.length ≤ 4294967000 := he.aliases.1
  have nT : d.targets.length ≤ 4294967000 := he.targets.1
  have nD : d.delegates.length ≤ 4294967000 := he.delegates.1
  have nK : d.keys.length ≤ 4294967000 := he.keys.1
  have nP : d.policy.size ≤ 4294967000 := he.policy
  have nH : d.history.length ≤ 4294967000 := he.history.1
  have LA := Lib.hid lA
  have LT := Lib.hid lT
  have LD := Lib.hid lD
  have QA := Lib.hid qA
  have QT := Lib.hid qT
  have QD := Lib.hid qD
  clear lA lT lD qA qT qD
  go_enter Tryz.func5, Tryz.ntmps5
  go_wp2_with fail
  refine wp_region_since (Below.refl _ (w.alloc (.cells (entC r d) 31))) (by kernel_rfl) (by kernel_rfl) ?_
  intro w1 hb1
  obtain ⟨hc, hf, hr⟩ := bcell hb1
  have hsz : w.heap.size < w1.heap.size := by have := hb1.size; simp at this; omega
  repeat (first | (refine text_skip (by rfl) ?_) | (refine text_look (by rfl) (by rfl) (fun K hK => ?_); go_big_quiet_op; refine hK _ ?_; clear hK K))
  refine text_act (by rfl) (by rfl) (fun K hK => ?_)
  go_wp2_with fail
  have hb2 := below_new hb1 (.cells (prinC r.parts d.name) 24)
  have hown : Go.WW.Own (w1.alloc (.cells (prinC r.parts d.name) 24)) (w.alloc (.cells (entC r d) 31)).heap.size 24 2 ⟨some ⟨w1.heap.size, 0, none⟩, 1⟩ [prinC r.parts d.name] := by
    have h := Own.one w1 (prinC r.parts d.name) 24 2 (prinC_size _ _)
    exact ⟨⟨h.own.1, h.own.2.imp id fun ⟨g, cap, cur, h1, h2, h3⟩ => ⟨g, cap, cur, h1, Nat.le_trans hb1.size h2, h3⟩⟩, h.size⟩
  refine hK _ _ (since_of hb2) ?_
  clear hK K
  repeat (first | (refine text_skip (by rfl) ?_) | (refine text_look (by rfl) (by rfl) (fun K hK => ?_); go_big_quiet_op; refine hK _ ?_; clear hK K))
  refine text_act (by rfl) (by rfl) (fun K hK => ?_)
  refine wp_append_n (.tmp 9) (.tmp 11) _ rfl elemPrin (n := 1) (s := ⟨some ⟨w1.heap.size, 0, none⟩, 1⟩) rfl rfl hown rfl LA.out.symm (sA.later (below_step hB hb2)) (by rw [LA.out]; simp; omega) (by have := hb2.size; exact this) ?_
  intro s3 w3 hown3 hg3 hat3
  have hb3 := own_below hown hb2 hg3
  go_wp2_with fail
  refine hK _ _ (since_of hb3) ?_
  clear hK K
  repeat (first | (refine text_skip (by rfl) ?_) | (refine text_look (by rfl) (by rfl) (fun K hK => ?_); go_big_quiet_op; refine hK _ ?_; clear hK K))
  refine text_act (by rfl) (by rfl) (fun K hK => ?_)
  refine wp_append_n (.tmp 12) (.tmp 14) _ rfl elemPrin (n := 1 + d.aliases.length) (s := s3) rfl (by have := LA.out; simp [this]; omega) hown3 rfl LT.out.symm (sT.later (below_step hB hb3)) (by have := LA.out; rw [LT.out]; simp [this]; omega) (by have := hb3.size; exact this) ?_
  intro s4 w4 hown4 hg4 hat4
  have hb4 := own_below hown3 hb3 hg4
  go_wp2_with fail
  refine hK _ _ (since_of hb4) ?_
  clear hK K
  repeat (first | (refine text_skip (by rfl) ?_) | (refine text_look (by rfl) (by rfl) (fun K hK => ?_); go_big_quiet_op; refine hK _ ?_; clear hK K))
  refine text_act (by rfl) (by rfl) (fun K hK => ?_)
  refine wp_append_n (.tmp 15) (.tmp 17) _ rfl elemPrin (n := 1 + d.aliases.length + d.targets.length) (s := s4) rfl (by have := LA.out; have := LT.out; simp [*]; omega) hown4 rfl LD.out.symm (sD.later (below_step hB hb4)) (by have h1 := LA.out; have h2 := LT.out; rw [LD.out]; simp [h1, h2]; omega) (by have := hb4.size; exact this) ?_
  intro s5 w5 hown5 hg5 hat5
  have hb5 := own_below hown4 hb4 hg5
  go_wp2_with fail
  refine hK _ _ (since_of hb5) ?_
  clear hK K
  repeat (first | (refine text_skip (by rfl) ?_) | (refine text_look (by rfl) (by rfl) (fun K hK => ?_); go_big_quiet_op; refine hK _ ?_; clear hK K))
  refine text_nil ?_
  have hB5 := below_step hB hb5
  have hBW : Below (w.alloc (.cells (entC r d) 31)).heap.size (w.alloc (.cells (entC r d) 31)) w5 := hb5
  obtain ⟨N, hN⟩ : ∃ N, N = 1 + d.aliases.length + d.targets.length + d.delegates.length := ⟨_, rfl⟩
  rw [← hN]
  have hlr : ((([prinC r.parts d.name] ++ rA) ++ rT) ++ rD).length = N := by have h1 := LA.out; have h2 := LT.out; have h3 := LD.out; simp [h1, h2, h3]; omega
  have HLR := Lib.hid hlr
  have HN := Lib.hid hN
  clear hlr hN hc hf hr hsz hown hown3 hown4 hg3 hg4 hg5 hat3 hat4 hat5
  obtain ⟨hc, hf, hr⟩ := bcell hBW
  have hsz : w.heap.size < w5.heap.size := by have := hBW.size; simp at this; omega
  by_cases hbig : 13 < N
  · have hbig' : (13 : Int) < (N : Int) := by omega
    go_wp2_with fail
    all_goals go_ret
    all_goals exact ⟨_, rfl, hB5⟩
  have hbig' : ¬ (13 : Int) < (N : Int) := by omega
  have hall : ∀ cs ∈ (([prinC r.parts d.name] ++ rA) ++ rT) ++ rD, ∃ p s, cs = prinC s p ∧ PrinAt w5 s p := by
    intro cs hcs
    simp only [List.mem_append, List.mem_singleton] at hcs
    rcases hcs with ((rfl | h) | h) | h
    · exact ⟨d.name, r.parts, rfl, he.name.later hB5⟩
    · obtain ⟨i, hi, rfl⟩ := List.mem_iff_getElem.1 h
      obtain ⟨p, s, _, e, hp⟩ := QA.out i hi
      exact ⟨p, s, e, hp.later hB5⟩
    · obtain ⟨i, hi, rfl⟩ := List.mem_iff_getElem.1 h
      obtain ⟨p, s, _, e, hp⟩ := QT.out i hi
      exact ⟨p, s, e, hp.later hB5⟩
    · obtain ⟨i, hi, rfl⟩ := List.mem_iff_getElem.1 h
      obtain ⟨p, s, _, e, hp⟩ := QD.out i hi
      exact ⟨p, s, e, hp.later hB5⟩
  have hP : RowsAt w5 2 s5.a N (fun _ cs => ∃ p s, cs = prinC s p ∧ PrinAt w5 s p) := RowsAt.of_own hown5 HLR.out (by unfold lim; omega) (fun i hi => hall _ (List.getElem_mem hi))
  have hN1 : 0 < N := by have := HN.out; omega
  obtain ⟨g, o, -, ha, -⟩ := hP.2 0 hN1
  obtain ⟨s5a, s5c⟩ := s5
  dsimp only at ha
  subst ha
  have hrows : ∀ k, k < N → ∃ p s, w5.cell? ⟨g, o + k * 2, none⟩ = some (.slice s.a p.parts.length s.cap) ∧ w5.cell? ⟨g, o + k * 2 + 1, none⟩ = some (.string p.realm) ∧ PrinAt w5 s p := fun k hk => by
    obtain ⟨b', o', cs, ha', hr', p, s, rfl, hp⟩ := hP.2 k hk
    cases ha'
    exact ⟨p, s, by have := row?_cell hr' 0 (by omega); simpa [go_sem] using this, by have := row?_cell hr' 1 (by omega); simpa [go_sem] using this, hp⟩
  have HR := Lib.hid hrows
  have hkeys := he.keys.later hB5
  clear hrows hP hall hown5
  go_wp2_with fail
  all_goals first
    | (go_ret; exact ⟨_, rfl, hB5⟩)
    | skip
  go_loop [4] (fun i => ∃ k : Nat, k ≤ N ∧ i = .int .i64 k) (fun i => N - (intOf i).toNat)
  case atStart => exact ⟨0, Nat.zero_le _, rfl⟩
  case round =>
    obtain ⟨k, hk, rfl⟩ := hrel
    by_cases hlt : k < N
    · obtain ⟨p, s, hq0, hq1, hp⟩ := HR.out k hlt
      have hpl : p.parts.length ≤ 4294967000 := hp.1.1
      have hpr : p.realm.size ≤ 4294967000 := hp.2
      have hgb : g < w5.heap.size := World.block_lt_of_cell? w5 _ hq0
      have hltI : (k : Int) < (N : Int) := by omega
      go_wp2_with fail
      all_goals first
        | (go_ret; exact ⟨_, rfl, hB5⟩)
        | skip
      go_loop [5] (fun i => ∃ j : Nat, j ≤ p.parts.length ∧ i = .int .i64 j) (fun i => p.parts.length - (intOf i).toNat)
      case atStart => exact ⟨0, Nat.zero_le _, rfl⟩
      case round =>
        obtain ⟨j, hj, rfl⟩ := hrel
        by_cases hjt : j < p.parts.length
        · obtain ⟨b2, o2, ha2, hc2, hs2⟩ := hp.1.get j hjt
          have hs2' : p.parts[j].size ≤ 4294967000 := hs2
          have hgb2 : b2 < w5.heap.size := World.block_lt_of_cell? w5 _ hc2
          rw [ha2] at hq0
          go_wp2_with fail
          all_goals first
            | (go_ret; exact ⟨_, rfl, hB5⟩)
            | (go_round
               case rel => exact ⟨j + 1, by omega, by go_num⟩
               case measure => simp [intOf]; omega)
        · go_wp2_with fail
          go_round
          case rel => exact ⟨k + 1, by omega, by go_num⟩
          case measure => simp [intOf]; omega
    · go_wp2_with fail
      go_loop [6] (fun i => ∃ k : Nat, k ≤ d.keys.length ∧ i = .int .i64 k) (fun i => d.keys.length - (intOf i).toNat)
      case atStart => exact ⟨0, Nat.zero_le _, rfl⟩
      case round =>
        obtain ⟨j, hj, rfl⟩ := hrel
        by_cases hjt : j < d.keys.length
        · obtain ⟨b2, o2, s2, ha2, hr2, hs2⟩ := hkeys.get j hjt
          have hgb2 : b2 < w5.heap.size := row?_lt hr2
          have hy1 : w5.cell? ⟨b2, o2 + j * 5 + 1, none⟩ = some (.slice s2.a d.keys[j].keys.length s2.cap) := by have := row?_cell hr2 1 (by omega); simpa [go_sem] using this
          have hy2 : w5.cell? ⟨b2, o2 + j * 5 + 2, none⟩ = some (.string d.keys[j].salt) := by have := row?_cell hr2 2 (by omega); simpa [go_sem] using this
          have hkl : d.keys[j].keys.length ≤ 4294967000 := hs2.1.1
          have hsl : d.keys[j].salt.size ≤ 4294967000 := hs2.2
          go_wp2_with fail
          all_goals first
            | (go_ret; exact ⟨_, rfl, hB5⟩)
            | (go_round
               case rel => exact ⟨j + 1, by omega, by go_num⟩
               case measure => simp [intOf]; omega)
        · go_wp2_with fail
          go_ret
          exact ⟨_, rfl, hB5⟩
end Go.Proofs.YtnpddjmjdpgohaaGreatDoor

namespace Go.Proofs.YtnpddjmjdpgohaaGreatDoor
open Go.RowKit Go.WW
section
variable (r : ERaw) (d : Entry) (p : Policy) (now : Int) (w : World) (he : EntAt w r d) (hs : p.name.size ≤ lim)
include he hs
end
end Go.Proofs.YtnpddjmjdpgohaaGreatDoor
