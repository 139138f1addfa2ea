/- math/bits.RotateLeft32 and sha.turned. -/
import Derived.Test.YtpibcnchkndejaaGreatDoorXH
import Derived.Test.YtpibcnchkndejaaGreatDoorKC
import Derived.Test.YtpibcnchkndejaaGreatDoorKB
import Derived.Lib.LaidTab
import Derived.Test.YtpibcnchkndejaaGreatDoorXN
namespace Go.WW
open Go.RowKit
def rotF (x : Int) (n : Nat) : Int := bits .or .u32 (x * 2 ^ n % 4294967296) (x / 2 ^ (32 - n))
def turnF (x : Int) (ps : List Nat) : Int := ps.foldl (fun y p => bits .xor .u32 y (rotF x (32 - p))) 0
theorem turnF_step (x : Int) (ps : List Nat) (k : Nat) (h : k < ps.length) : turnF x (ps.take (k + 1)) = bits .xor .u32 (turnF x (ps.take k)) (rotF x (32 - ps[k])) := by
  unfold turnF
  rw [List.take_succ_eq_append_getElem h, List.foldl_append]; rfl
theorem negs31 : ∀ p : Fin 31, bits .and .u64 (IntKind.u64.wrap (-((p.val : Int) + 1))) 31 = ((31 - p.val : Nat) : Int) := by decide +kernel
theorem negs (p : Nat) (h : 1 ≤ p ∧ p ≤ 31) : bits .and .u64 (IntKind.u64.wrap (-(p : Int))) 31 = ((32 - p : Nat) : Int) := by
  have := negs31 ⟨p - 1, by omega⟩
  have e : ((p - 1 : Nat) : Int) + 1 = (p : Int) := by omega
  simp only [e] at this
  rw [this]; congr 1; omega
end Go.WW
namespace Go.Proofs.YtpibcnchkndejaaGreatDoor
open Go.RowKit Go.WW
theorem rot_c (x k : Int) (n : Nat) (hn : n ≤ 31) (hk : bits .and .u64 (IntKind.u64.wrap k) 31 = (n : Int)) (w : World) : Calls Tryz.prog 264 #[.int .u32 x, .int .i64 k] w fun e w' => e = .returned (.int .u32 (rotF x n)) ∧ w = w' := by
  have h0 : (0 : Int) ≤ (n : Int) := by omega
  have h1 : (n : Int) ≤ 32 := by omega
  have h2 : (0 : Int) ≤ 32 - (n : Int) := by omega
  have h3 : (32 : Int) - (n : Int) ≤ 32 := by omega
  go_enter Tryz.func264, Tryz.ntmps264
  go_wp2
  go_ret
  exact ⟨rfl, rfl⟩
set_option maxHeartbeats 1000000 in
theorem turned_c (x : Int) (b o cap : Nat) (ps : List Nat) (hp : ∀ p ∈ ps, 1 ≤ p ∧ p ≤ 31) (hl : ps.length ≤ 64) (w : World) (hc : ∀ i (h : i < ps.length), w.cell? ⟨b, o + i, none⟩ = some (.int .i64 (ps[i] : Nat))) :
    Calls Tryz.prog 250 #[.int .u32 x, .slice (some ⟨b, o, none⟩) ps.length cap] w fun e w' => e = .returned (.int .u32 (turnF x ps)) ∧ w = w' := by
  have HC := Lib.hid hc
  have HP := Lib.hid hp
  clear hc hp
  go_enter Tryz.func250, Tryz.ntmps250
  go_wp2_with fail
  go_loop [4, 9] (fun y i => ∃ k : Nat, k ≤ ps.length ∧ i = .int .i64 k ∧ y = .int .u32 (turnF x (ps.take k))) (fun _ i => ps.length - (intOf i).toNat)
  case atStart => exact ⟨0, Nat.zero_le _, rfl, rfl⟩
  case round =>
    obtain ⟨k, hk, rfl, rfl⟩ := hrel
    by_cases hlt : k < ps.length
    · have hcell := HC.out k hlt
      have hpk := HP.out ps[k] (List.getElem_mem hlt)
      have HS := Lib.hid (turnF_step x ps k hlt)
      have hgb : b < w.heap.size := World.block_lt_of_cell? w _ hcell
      have HN := Lib.hid (negs ps[k] hpk)
      go_wp2_with (go_at_call 264; refine (rot_c _ _ (32 - ps[k]) (by omega) HN.out _).mono ?_; rintro e w' ⟨rfl, rfl⟩)
      go_round
      case rel => exact ⟨k + 1, by omega, by go_num, by rw [HS.out]⟩
      case measure => simp [intOf]; omega
    · have HE := Lib.hid (show turnF x (ps.take k) = turnF x ps by rw [List.take_of_length_le (by omega)])
      go_wp2_with fail
      go_ret
      exact ⟨by rw [← HE.out]; rfl, rfl⟩
end Go.Proofs.YtpibcnchkndejaaGreatDoor
/- The choice of sha's add. -/
namespace Go.Proofs.YtpibcnchkndejaaGreatDoor
open Go.RowKit Go.WW
theorem choice_c (x y z : Int) (w : World) : Calls Tryz.prog 251 #[.int .u32 x, .int .u32 y, .int .u32 z] w fun e w' => e = .returned (.int .u32 (bits .xor .u32 (bits .and .u32 x y) (bits .and .u32 (bits .xor .u32 IntKind.u32.max x) z))) ∧ w = w' := by
  go_enter Tryz.func251, Tryz.ntmps251
  go_wp2
  go_ret
  exact ⟨rfl, rfl⟩
end Go.Proofs.YtpibcnchkndejaaGreatDoor
/- law27.known returns true. -/
namespace Go.Proofs.YtpibcnchkndejaaGreatDoor
open Go.RowKit Go.WW Go.Mini Go.MiniT
theorem join_c : JoinC Tryz.prog 76 := fun bk o c xs sep w h1 h2 h3 h4 h5 => Tryz.strings_Join bk o c xs sep w h1 h2 h3 h4 h5
theorem turn_is : TurnC := fun x b o cap ps hp hl w' hc => turned_c x b o cap ps hp hl w' hc
theorem choice_is : ChoiceC := fun x y z w => choice_c x y z w
/-- What the variables that are read hold. -/
structure VarsAt (w : World) : Prop where
  s0 : w.heap[shaT.s0]? = some (.cells ((shaT.l0.map fun (n : Nat) => Value.int .u32 n).toArray) shaT.t0 (0, 0))
  s1 : w.heap[shaT.s1]? = some (.cells ((shaT.l1.map fun (n : Nat) => Value.int .u32 n).toArray) shaT.t1 (0, 0))
  max : ∃ m : Int, w.cell? ⟨0, 0, none⟩ = some (.int .i64 m)
theorem VarsAt.kept {W w : World} (h : VarsAt W) (hb : Below W.heap.size W w) : VarsAt w := by
  obtain ⟨h0, h1, m, hm⟩ := h
  refine ⟨?_, ?_, m, ?_⟩
  · rw [hb.block _ (Array.getElem?_eq_some_iff.1 h0).1]; exact h0
  · rw [hb.block _ (Array.getElem?_eq_some_iff.1 h1).1]; exact h1
  · have hlt := World.block_lt_of_cell? W _ hm
    rw [hb.cell (p := ⟨0, 0, none⟩) hlt]; exact hm
theorem index_c {W : World} (h : VarsAt W) (s t : ByteArray) (w : World) (hb : Kept (· < W.heap.size) W w) (hs : s.size < 4294967281) :
    Calls Tryz.prog 215 #[.string s, .string t] w (fun e w' => e = .returned (.int .i64 (Lib.index s.data.toList t.data.toList)) ∧ w' = w) := by
  obtain ⟨m, hm⟩ := (h.kept hb.below).max
  exact Any.stringslite_Index { Tryz.laysM219 with } s t m w hs hm
theorem known_c (w : World) (h : VarsAt w) : Calls Tryz.prog 6 #[] w fun e w' => e = .returned (.bool true) ∧ Below w.heap.size w w' := by
  letI O : Opq := noOpq
  have hW : ∀ k, k < w.heap.size → k < w.heap.size := fun _ hk => hk
  have hO : OrcOk knownE Tryz.prog (· < w.heap.size) w :=
    orcOk_of (orcIs_or (orcFn_ok (fn_facts turn_is choice_is) rfl hW) (orcIs_or (orcJoin_ok hW join_c) (orcIndex_ok hW (fun s t w1 hb hs => index_c h s t w1 hb hs))))
  have hS := startOk_sha (G := knownE.G) shaT (w := w) (show 5 ≤ 40 by omega) (show shaT.s0 < 5 by decide) (show shaT.s1 < 5 by decide) (f0 := (0, 0)) (f1 := (0, 0)) rfl rfl h.s0 h.s1
  have hl := law_of (envW 40 knownO) hO hS (args := []) (by simp only [wfs]) known_run
  simp only [embs] at hl
  exact hl
end Go.Proofs.YtpibcnchkndejaaGreatDoor
/- law27.PasswordPurges, the walk. -/
namespace Go.WW
open Go.RowKit
theorem wp_append_n {P : Program} {o : Oper} {a : Act} {w : World} {K : Act → World → Prop} {Q : Exit → Act → World → Prop} (x y : Operand) (t : TypeId) (ho : o.op = .call { callee := .builtin .append, args := #[x, y], argTypes := #[t, t] })
    {e : TypeId} {k bytes : Nat} (he : ElemOk P t e k bytes) {base : Nat} {s : Sl} {n : Nat} {rows : List (Array Value)} (hx : a.eval x = .slice s.a n s.cap) (hn : n = rows.length) (h : Own w base e k s rows) {A : Option Addr} {news : List (Array Value)} {m c : Nat}
    (hy : a.eval y = .slice A m c) (hm : m = news.length) (hs : SrcRows w k A news) (hlen : (rows.length + news.length) * (bytes + 1) ≤ 140737488355328) (hbase : base ≤ w.heap.size)
    (hK : ∀ (s' : Sl) w', Own w' base e k s' (rows ++ news) → w.grownBy w' s.blk → (s'.blk = s.blk ∨ s'.blk = some w.heap.size) → K (a.put o.dst (.slice s'.a (n + m) s'.cap)) w') : o.wp P a w K Q := by
  subst hn hm
  exact wp_append_rows x y t ho he hx h hy rfl hs hlen hbase hK
theorem Own.blockI {w : World} {base : Nat} {e : TypeId} {k : Nat} {s : Sl} {rows : List (Array Value)} (h : Own w base e k s rows) (hn : 0 < rows.length) :
    ∃ g cur, s.a = some ⟨g, 0, none⟩ ∧ base ≤ g ∧ w.heap[g]? = some (.cells cur e) ∧ rows.length * k ≤ cur.size := by
  rcases h.own.2 with ⟨_, hn'⟩ | ⟨g, cap, cur, hv, h1, hg, hle, _, hsz, htake⟩
  · omega
  · have ha : s.a = some ⟨g, 0, none⟩ := by injection hv
    refine ⟨g, cur, ha, h1, hg, ?_⟩
    rw [hsz]
    exact Nat.mul_le_mul_right _ hle
theorem canPut_cells {w : World} {b o n : Nat} {c : Array Value} {t : TypeId} (h : w.heap[b]? = some (.cells c t)) (hn : o + n ≤ c.size) : canPut w b o n = true := by
  unfold canPut; rw [h]; simp [hn]
end Go.WW
namespace Go.Proofs.YtpibcnchkndejaaGreatDoor
open Go.RowKit Go.WW
theorem elemSet27 : ElemOk Tryz.prog 28 39 5 64 := ElemOk.of Tryz.underlying28 (by kernel_rfl)
theorem setR_ok27 {w : World} {l : List KeySet} (i : Nat) (cs : Array Value) (h : ∃ p s, l[i]? = some p ∧ cs = setC s p ∧ SetAt w s p) : cs.size = 5 ∧ allOne cs = true := by
  obtain ⟨p, s, _, rfl, _⟩ := h; exact ⟨setC_size s p, setC_one s p⟩
theorem entC_keysR (r : ERaw) (d : Entry) (s : Sl) : (entC r d).setIfInBounds 5 (.slice s.a d.keys.length s.cap) = entC { r with keys := s } d := by kernel_rfl
set_option maxRecDepth 100000 in
set_option maxHeartbeats 2000000 in
theorem purges_c (r : ERaw) (d : Entry) (now life many : Int) (w : World) (he : EntAt w r d) (hv : VarsAt w) :
    Calls Tryz.prog 3 #[.agg (entC r d), .int .i64 now, .int .i64 life, .int .i64 many] w fun e w' => e = .returned (.bool true) ∧ Below w.heap.size w w' := by
  obtain ⟨W0, hW0⟩ : ∃ W0, W0 = w.alloc (.cells (entC r d) 31) := ⟨_, rfl⟩
  have hB : Below w.heap.size w W0 := by rw [hW0]; exact below_box _ _
  have hs0 : W0.heap.size = w.heap.size + 1 := by rw [hW0]; simp
  have hbx : W0.heap[w.heap.size]? = some (.cells (entC r d) 31) := by rw [hW0]; exact World.alloc_heap_new _ _
  have HE := Lib.hid he
  have HV := Lib.hid hv
  clear he hv
  go_enter Tryz.func3, Tryz.ntmps3
  go_wp2_with fail
  rw [← hW0]
  clear hW0
  refine (small27_c r d W0 (HE.out.later hB)).mono ?_
  rintro e w1 ⟨⟨c, rfl⟩, hb1⟩
  have hB1 := below_step hB hb1
  have hbx1 := still_blk hb1 hbx
  cases c
  · go_wp2_with fail
    refine (known_c w1 (HV.out.kept hB1)).mono ?_
    rintro e w2 ⟨rfl, hb2⟩
    go_wp2_with fail
    go_ret
    exact ⟨rfl, below_step hB1 hb2⟩
  obtain ⟨bc, bf, br, bl⟩ := box_facts hbx1
  obtain ⟨rows, lR, sR, qR⟩ := RowsAt.src HE.out.keys setR_ok27
  have hB12 : Below w1.heap.size w1 (w1.alloc (.cells (entC r d) 31)) := below_box _ _
  have hown0 := World.alloc_heap_new w1 (.cells (entC r d) 31)
  have hn : d.keys.length ≤ 4294967000 := HE.out.keys.1
  have hownN : Go.WW.Own ((w1.alloc (.cells (entC r d) 31)).alloc (.cells #[] 39)) (w1.alloc (.cells (entC r d) 31)).heap.size 39 5 ⟨some ⟨w1.heap.size + 1, 0, none⟩, 0⟩ [] := by
    have : Go.WW.Own ((w1.alloc (.cells (entC r d) 31)).alloc (.cells #[] 39)) (w1.alloc (.cells (entC r d) 31)).heap.size 39 5 ⟨some ⟨(w1.alloc (.cells (entC r d) 31)).heap.size, 0, none⟩, 0⟩ [] := ⟨World.ownsRow_made _ #[] 0 (Nat.le_refl _) (by unfold maxLen; omega) (by simp), by simp⟩
    simpa using this
  have hB2e : Below (w1.alloc (.cells (entC r d) 31)).heap.size (w1.alloc (.cells (entC r d) 31)) ((w1.alloc (.cells (entC r d) 31)).alloc (.cells #[] 39)) := below_box _ _
  have hsR : SrcRows ((w1.alloc (.cells (entC r d) 31)).alloc (.cells #[] 39)) 5 r.keys.a rows := ⟨sR.size, sR.one, fun i hi => by
    obtain ⟨b, o, h1, h2⟩ := sR.at_ i hi
    exact ⟨b, o, h1, by rw [row?_of_block (((below_step hB1 hB12).trans (hB2e.mono (by have := hB1.size; simp; omega))).block b (row?_lt h2))]; exact h2⟩⟩
  have HLR := Lib.hid lR
  have HQR := Lib.hid qR
  clear lR qR sR
  go_wp2_with (at_builtin; go_loud (refine wpList_append_n rfl (.tmp 18) (.tmp 20) _ rfl elemSet27 (n := 0) (s := ⟨some ⟨w1.heap.size + 1, 0, none⟩, 0⟩) rfl rfl hownN rfl HLR.out.symm hsR (by rw [HLR.out]; simp; omega) (by have := hB2e.size; exact this) ?_); intro s3 w3 hown3 hg3 hat3
               have hb3 := own_belowI hownN hB2e hg3
               have hown3b := still_blk hb3 hown0
               obtain ⟨oc, of_, or_, ol⟩ := box_facts hown3b
               have hs4 : (w3.setCell ⟨w1.heap.size, 5, none⟩ (.slice s3.a d.keys.length s3.cap)).heap[w1.heap.size]? = some (.cells (entC { r with keys := s3 } d) 31) := by
                 simp only [World.setCell]; rw [Array.getElem?_modify, if_pos rfl, hown3b]; simp only [Option.map_some]; rw [← entC_keysR]; rfl
               have hrow4 : row? (w3.setCell ⟨w1.heap.size, 5, none⟩ (.slice s3.a d.keys.length s3.cap)) w1.heap.size 0 17 = some (entC { r with keys := s3 } d) := by
                 rw [row?_of_cells hs4]; exact subRow_whole (entC_size _ _))
  have hszA : (w1.alloc (.cells (entC r d) 31)).heap.size = w1.heap.size + 1 := by simp
  rw [hszA] at hown3 hb3
  have hle3 := hb3.size
  rw [hszA] at hle3
  have hb13 : Below w1.heap.size w1 w3 := hB12.trans (hb3.mono (by omega))
  obtain ⟨w4, hw4⟩ : ∃ w4, w4 = w3.setCell ⟨w1.heap.size, 5, none⟩ (.slice s3.a d.keys.length s3.cap) := ⟨_, rfl⟩
  have hs34 : w4.heap.size = w3.heap.size := by rw [hw4]; simp [World.setCell]
  have hb14 : Below w1.heap.size w1 w4 := by rw [hw4]; exact hb13.setCell (p := ⟨w1.heap.size, 5, none⟩) (Nat.le_refl _) _
  have hB4 := below_step hB1 hb14
  have hown4 : Go.WW.Own w4 (w1.heap.size + 1) 39 5 s3 rows := by
    rw [hw4]
    refine hown3.kept fun g hg => Below.heap_setCell _ _ _ _ ?_
    have := (hown3.base hg).1
    show g ≠ w1.heap.size
    omega
  rw [← hw4] at hs4 hrow4 ⊢
  have hE4 : EntAt w4 { r with keys := s3 } d := by
    have h := HE.out.later hB4
    exact ⟨h.name, h.aliases, RowsAt.of_own hown4 HLR.out (by unfold lim; omega) (fun i hi => by
      obtain ⟨k, s, h1, h2, h3⟩ := HQR.out i hi
      exact ⟨k, s, h1, h2, h3.later hB4⟩), h.targets, h.delegates, h.history, h.policy, h.attrs⟩
  clear hown3 hg3 hat3 hownN hsR hB2e hw4 oc of_ or_ ol hown3b hb3
  refine (purgeable_c _ d now life w4 hE4).mono ?_
  rintro e w5 ⟨bq, sq, rfl, hb5, hbq, hq5, hd5⟩
  have hB5 := below_step hB4 hb5
  have hs5 := still_blk hb5 hs4
  obtain ⟨oc, of_, or_, ol⟩ := box_facts hs5
  have HD5 := Lib.hid hd5
  have HQ5 := Lib.hid hq5
  have HOW := Lib.hid (hown4.kept (w' := w5) (fun g hg => hb5.block g (hown4.base hg).2))
  have HE4 := Lib.hid hE4
  have hgw := Lib.hid (show ∀ g, s3.blk = some g → g < w4.heap.size from fun g hg => (hown4.base hg).2)
  clear hd5 hq5 hown4 hE4 hs4 hrow4 bc bf br bl
  have hbx5 := still_blk (below_step hb14 hb5) hbx1
  obtain ⟨bc, bf, br, bl⟩ := box_facts hbx5
  go_wp2_with fail
  rcases Nat.eq_zero_or_pos d.keys.length with hz | hz
  · have hz' : ¬ (0 : Int) < (d.keys.length : Int) := by omega
    refine wp_loop_rounds 1 ?_
    rw [rounds_succ]
    have hqX := HQ5.out
    have hdX : IntsAt w5 sq.a (wantL d now life) := HD5.out w5 (fun _ _ => rfl)
    go_wp2_with fail
    refine (refPurg_c r d now life w5 (HE.out.later hB5)).mono ?_
    rintro e w6 ⟨sw, rfl, hb6, hd6⟩
    have hw6 : IntsAt w6 sw.a (wantL d now life) := hd6 w6 (fun _ _ => rfl)
    have hq6 := still_blk hb6 hqX
    have ha6 := hdX.later hb6
    have hB6 := below_step hB5 hb6
    clear hd6
    go_wp2_with fail
    refine (over_c bq sq.cap sq.a _ sw.a sw.cap many w6 hq6 ha6 hw6).mono ?_
    rintro e w7 ⟨rfl, hb7⟩
    go_wp2_with fail
    refine (over_c bq sq.cap sq.a _ sw.a sw.cap 99 w7 (still_blk hb7 hq6) (ha6.later hb7) (hw6.later hb7)).mono ?_
    rintro e w8 ⟨rfl, hb8⟩
    have hB8 := below_step (below_step hB6 hb7) hb8
    go_wp2_with fail
    refine (known_c w8 (HV.out.kept hB8)).mono ?_
    rintro e w9 ⟨rfl, hb9⟩
    go_wp2_with fail
    go_ret
    exact ⟨rfl, below_step hB8 hb9⟩
  obtain ⟨g, cur, hga, hgb, hgc, hgs⟩ := HOW.out.blockI (by rw [HLR.out]; exact hz)
  rw [HLR.out] at hgs
  rw [hga]
  have hgl : g < w5.heap.size := (Array.getElem?_eq_some_iff.1 hgc).1
  go_loopw [11] (fun iv wr => ∃ k : Nat, k ≤ d.keys.length ∧ iv = .int .i64 k ∧ But (fun j => j = g) w5 wr ∧ ∃ C, wr.heap[g]? = some (.cells C 39) ∧ d.keys.length * 5 ≤ C.size) (fun iv _ => d.keys.length - (intOf iv).toNat)
  case atStart => exact ⟨0, Nat.zero_le _, rfl, But.refl _ _, cur, hgc, hgs⟩
  case round =>
    obtain ⟨k, hk, rfl, hbu, C, hC, hCs⟩ := hrel
    have hsr := (hbu.block _ ol (by omega)).trans hs5
    clear oc of_ or_
    obtain ⟨oc, of_, or_, ol⟩ := box_facts hsr
    by_cases hlt : k < d.keys.length
    · have hltI : (k : Int) < (d.keys.length : Int) := by omega
      have hput : canPut wr g (0 + k * 5) 5 = true := canPut_cells hC (by omega)
      have hput' : canPut wr g (k * 5) 5 = true := canPut_cells hC (by omega)
      have z1 : allOne (#[.int .i64 0, .slice none 0 0, .string ⟨#[]⟩, .int .i64 0, .int .i64 0] : Array Value) = true := by simp [allOne, Value.oneCell']
      go_wp2_with fail
      go_roundw
      case rel =>
        refine ⟨k + 1, by omega, by go_num, hbu.trans ⟨(Below.putRow (Below.refl 0 wr) (Nat.zero_le _)).os, (Below.putRow (Below.refl 0 wr) (Nat.zero_le _)).tape, (Below.putRow (Below.refl 0 wr) (Nat.zero_le _)).output, by rw [putRow_size]; exact Nat.le_refl _, fun j _ hj => putRow_other hj⟩, _, putRow_blk hC (by simp; omega), ?_⟩
        rw [splice_size (by simp; omega)]; exact hCs
      case measure => simp [intOf]; omega
    · have hltI : ¬ (k : Int) < (d.keys.length : Int) := by omega
      have hw1s := hB1.size
      have hw5s := hB5.size
      have hg4 : g < w4.heap.size := hgw.out g (by simp [Sl.blk, hga])
      have hBX : Below w.heap.size w wr := hB5.trans ⟨hbu.os, hbu.tape, hbu.output, hbu.size, fun j hj => hbu.block j (by omega) (by omega)⟩
      have hqX := (hbu.block _ (Array.getElem?_eq_some_iff.1 HQ5.out).1 (by omega)).trans HQ5.out
      have hdX : IntsAt wr sq.a (wantL d now life) := HD5.out wr (fun j hj => hbu.block j hj.2 (by have := hj.1; omega))
      have hbxX := (hbu.block _ bl (by omega)).trans hbx5
      clear bc bf br
      obtain ⟨bc, bf, br, bl2⟩ := box_facts hbxX
      go_wp2_with fail
      refine (refPurg_c r d now life wr (HE.out.later hBX)).mono ?_
      rintro e w6 ⟨sw, rfl, hb6, hd6⟩
      have hw6 : IntsAt w6 sw.a (wantL d now life) := hd6 w6 (fun _ _ => rfl)
      have hq6 := still_blk hb6 hqX
      have ha6 := hdX.later hb6
      have hB6 := below_step hBX hb6
      clear hd6
      go_wp2_with fail
      refine (over_c bq sq.cap sq.a _ sw.a sw.cap many w6 hq6 ha6 hw6).mono ?_
      rintro e w7 ⟨rfl, hb7⟩
      go_wp2_with fail
      refine (over_c bq sq.cap sq.a _ sw.a sw.cap 99 w7 (still_blk hb7 hq6) (ha6.later hb7) (hw6.later hb7)).mono ?_
      rintro e w8 ⟨rfl, hb8⟩
      have hB8 := below_step (below_step hB6 hb7) hb8
      go_wp2_with fail
      refine (known_c w8 (HV.out.kept hB8)).mono ?_
      rintro e w9 ⟨rfl, hb9⟩
      go_wp2_with fail
      go_ret
      exact ⟨rfl, below_step hB8 hb9⟩
end Go.Proofs.YtpibcnchkndejaaGreatDoor
