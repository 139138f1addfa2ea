/- name.special, name.Text. -/
import Derived.Test.YtpibcnchkndejaaGreatDoorXE
import Derived.Test.YtpibcnchkndejaaGreatDoorXG
import Derived.OwnWalk
import Derived.Laws.BytesString
import Derived.RangeFuncOwn
namespace Go.WW
open Go.RowKit
def bytesRows (l : List UInt8) : List (Array Value) := l.map fun c => #[.int .u8 c.toNat]
theorem bytesRows_snoc (l : List UInt8) (c : UInt8) : bytesRows l ++ [#[.int .u8 c.toNat]] = bytesRows (l ++ [c]) := by simp [bytesRows]
theorem bytesRows_len (l : List UInt8) : (bytesRows l).length = l.length := by simp [bytesRows]
theorem esc_len (l : List UInt8) : (esc l).length ≤ 2 * l.length := by
  induction l with
  | nil => simp [esc]
  | cons c l ih => rw [esc_cons, List.length_append, List.length_cons]; have : (escOne c).length ≤ 2 := by unfold escOne; split <;> simp
                   omega
theorem tail_len {l : List ByteArray} (h : ∀ s ∈ l, s.size ≤ 32) : (partsTail l).length ≤ 65 * l.length := by
  induction l with
  | nil => simp [partsTail]
  | cons s l ih =>
    have e : partsTail (s :: l) = 47 :: esc s.data.toList ++ partsTail l := by simp [partsTail]
    have h1 := h s (by simp)
    have h2 := esc_len s.data.toList
    have h3 := ih (fun x hx => h x (by simp [hx]))
    have h4 : s.data.toList.length = s.size := by simp
    rw [e, List.length_append, List.length_cons, List.length_cons]
    omega
theorem text_len {l : List ByteArray} (h : ∀ s ∈ l, s.size ≤ 32) : (partsText l).length ≤ 65 * l.length := by
  cases l with
  | nil => simp [partsText]
  | cons s l =>
    have h1 := h s (by simp)
    have h2 := esc_len s.data.toList
    have h3 := tail_len (l := l) (fun x hx => h x (by simp [hx]))
    have h4 : s.data.toList.length = s.size := by simp
    rw [partsText, List.length_append, List.length_cons]
    omega
theorem prinOk_sizes {p : Prin} (h : prinOk p = true) : p.parts.length ≤ 4 ∧ (∀ s ∈ p.parts, s.size ≤ 32) ∧ p.realm.size ≤ 32 := by
  simp only [prinOk, Bool.and_eq_true, List.all_eq_true, decide_eq_true_eq] at h
  refine ⟨by omega, fun s hs => ?_, ?_⟩
  · have := h.1.1.1 s hs
    simp only [isPart, sized, Bool.and_eq_true, decide_eq_true_eq] at this
    omega
  · have := h.2
    simp only [realmOk, sized, Bool.and_eq_true, decide_eq_true_eq] at this
    omega
theorem parts_first (l : List ByteArray) (k : Nat) (hk : k < l.length) (h0 : k = 0) : partsText (l.take k) ++ esc [] = [] := by subst h0; simp [partsText, esc]
theorem take_snoc' (s : ByteArray) (j : Nat) (h : j < s.size) : s.data.toList.take (j + 1) = s.data.toList.take j ++ [s[j]] := by
  rw [List.take_succ_eq_append_getElem (by simpa using h)]; rfl
end Go.WW
namespace Go.Proofs.YtpibcnchkndejaaGreatDoor
open Go.RowKit Go.WW
theorem special_c (c : UInt8) (w : World) : Calls Tryz.prog 153 #[.int .u8 c.toNat] w fun e w' => e = .returned (.bool (specialB c)) ∧ w = w' := by
  go_enter Tryz.func153, Tryz.ntmps153
  cases c1 : ((c.toNat : Int) == 47)
  · cases c2 : ((c.toNat : Int) == 64)
    · have HN := Lib.hid (show specialB c = ((c.toNat : Int) == 92) by rw [specialB, c1, c2]; rfl)
      go_wp2_with fail
      go_ret
      exact ⟨by rw [HN.out]; rfl, rfl⟩
    · have HN := Lib.hid (show specialB c = true by rw [specialB, c1, c2]; rfl)
      go_wp2_with fail
      go_ret
      exact ⟨by rw [HN.out]; rfl, rfl⟩
  · have HN := Lib.hid (show specialB c = true by rw [specialB, c1]; rfl)
    go_wp2_with fail
    go_ret
    exact ⟨by rw [HN.out]; rfl, rfl⟩
theorem elemByte : ElemOk Tryz.prog 44 5 1 1 := ElemOk.of Tryz.underlying44 (by kernel_rfl)
end Go.Proofs.YtpibcnchkndejaaGreatDoor
/- string(bytes); append where the length is spelled otherwise. -/
namespace Go.WW
open Go.RowKit
theorem foldl_push (l : List UInt8) : ∀ (acc : List UInt8), ((l.map fun c => ((c.toNat : Nat) : Int)).foldl (fun (r : ByteArray) n => r.push (UInt8.ofNat n.toNat)) ⟨acc.toArray⟩) = ⟨(acc ++ l).toArray⟩ := by
  induction l with
  | nil => intro acc; simp
  | cons c l ih =>
    intro acc
    rw [List.map_cons, List.foldl_cons]
    have e : (ByteArray.mk acc.toArray).push (UInt8.ofNat ((c.toNat : Nat) : Int).toNat) = ⟨(acc ++ [c]).toArray⟩ := by
      simp [ByteArray.push]
    rw [e, ih]
    simp
theorem run_bytes_text {P : Program} (w : World) (src dst e : TypeId) (hs : P.underlying src = some (.slice e)) (he : P.underlying e = some (.int .u8)) (hd : P.underlying dst = some .string) (b o cap : Nat) (l : List UInt8)
    (h : ∀ i (hi : i < l.length), w.cell? ⟨b, o + i, none⟩ = some (.int .u8 l[i].toNat)) : (convert src dst (.slice (some ⟨b, o, none⟩) l.length cap)).run P w = .ok (.string ⟨l.toArray⟩) w := by
  rw [run_convert_bytes_string w src dst e _ _ _ hs he hd]
  have hl : (loadCells ⟨b, o, none⟩ l.length).run P w = .ok ((l.map fun c => ((c.toNat : Nat) : Int)).map (Value.int .u8)).toArray w := by
    have := run_loadCells_list (P := P) w ⟨b, o, none⟩ ((l.map fun c => ((c.toNat : Nat) : Int)).map (Value.int .u8)) (fun j v hv => by
      have hj : j < l.length := by have := (List.getElem?_eq_some_iff.1 hv).1; simpa using this
      have hadd : (⟨b, o, none⟩ : Addr).add j = ⟨b, o + j, none⟩ := by unfold Addr.add; split <;> simp_all
      rw [hadd, h j hj]
      simp [hj] at hv
      rw [← hv])
    simpa using this
  rw [run_bytesToString w _ _ _ _ hl]
  have e0 : ByteArray.empty = ⟨([] : List UInt8).toArray⟩ := rfl
  rw [e0, foldl_push, List.nil_append]
theorem wpList_append_n {P : Program} {ops : Array Oper} {rest : List Oper} {o : Oper} {a : Act} {w : World} {Q : Exit → Act → World → Prop} (hgd : o.guard = none) (x y : Operand) (t : TypeId) (ho : o.op = .call { callee := .builtin .append, args := #[x, y], argTypes := #[t, t] })
    {e : TypeId} {k bytes : Nat} (he : ElemOk P t e k bytes) {base : Nat} {s : Sl} {n : Nat} {rows : List (Array Value)} (hx : a.eval x = .slice s.a n s.cap) (hn : n = rows.length) (h : Own w base e k s rows) {A : Option Addr} {news : List (Array Value)} {m c : Nat}
    (hy : a.eval y = .slice A m c) (hm : m = news.length) (hs : SrcRows w k A news) (hlen : (rows.length + news.length) * (bytes + 1) ≤ 140737488355328) (hbase : base ≤ w.heap.size)
    (hK : ∀ (s' : Sl) w', Own w' base e k s' (rows ++ news) → w.grownBy w' s.blk → (s'.blk = s.blk ∨ s'.blk = some w.heap.size) → wpList P ops Q rest (a.put o.dst (.slice s'.a (n + m) s'.cap)) w') : wpList P ops Q (o :: rest) a w := by
  subst hn hm
  exact wpList_append_rows hgd x y t ho he hx h hy rfl hs hlen hbase hK
end Go.WW
/- name.Text. Printed by wip/src/gentext.py. -/
namespace Go.Proofs.YtpibcnchkndejaaGreatDoor
open Go.RowKit Go.WW
/-- The bytes written so far. -/
structure TextR (W wr : World) (sb : Sl) (l : List UInt8) : Prop where
  b : Below W.heap.size W wr
  own : Go.WW.Own wr W.heap.size 5 1 sb (bytesRows l)
theorem TextR.app {W wr w' : World} {sb s' : Sl} {l : List UInt8} {c : UInt8} {o : Obj} (h : TextR W wr sb l) (hown : Go.WW.Own w' W.heap.size 5 1 s' (bytesRows l ++ [#[.int .u8 c.toNat]])) (hg : (wr.alloc o).grownBy w' sb.blk) : TextR W w' s' (l ++ [c]) :=
  ⟨(h.b.alloc h.b.size _).grown hg (by have := h.b.size; simp; omega) (fun k e => (h.own.base e).1), by rw [← bytesRows_snoc]; exact hown⟩
theorem TextR.up {W wr : World} {sb : Sl} {l : List UInt8} (h : TextR W wr sb l) (o : Obj) : Go.WW.Own (wr.alloc o) W.heap.size 5 1 sb (bytesRows l) := h.own.kept fun g hg => Below.heap_alloc wr o g (h.own.base hg).2
theorem TextR.sz {W wr : World} {sb : Sl} {l : List UInt8} (h : TextR W wr sb l) (o : Obj) : W.heap.size ≤ (wr.alloc o).heap.size := by have := h.b.size; simp; omega


theorem partsText_pos {p : Prin} (h : prinOk p = true) : 0 < (partsText p.parts).length := by
  have hne := prinOk_ne h
  simp only [prinOk, Bool.and_eq_true, List.all_eq_true] at h
  cases hl : p.parts with
  | nil => exact absurd hl hne
  | cons q l =>
    have := h.1.1.1 q (by rw [hl]; simp)
    simp only [isPart, sized, Bool.and_eq_true, decide_eq_true_eq] at this
    have h1 : 0 < q.data.toList.length := by have h2 : q.data.toList.length = q.size := by simp
                                             omega
    cases hd : q.data.toList with
    | nil => rw [hd] at h1; simp at h1
    | cons c d =>
      rw [partsText, hd, esc_cons, List.length_append, List.length_append]
      have : 0 < (escOne c).length := by unfold escOne; split <;> simp
      omega
theorem text_end {p : Prin} {L : List UInt8} (h : L = partsText p.parts) : textOf p = (ByteArray.mk L.toArray ++ ByteArray.mk #[64]) ++ p.realm := by
  obtain ⟨pp, ⟨⟨r⟩⟩⟩ := p
  subst h
  have e1 := ByteArray.mk_append_mk (partsText pp) [64]
  have e2 := ByteArray.mk_append_mk (partsText pp ++ [64]) r
  rw [show (ByteArray.mk #[64]) = ByteArray.mk ([64] : List UInt8).toArray from rfl, e1]
  show _ = ByteArray.mk (partsText pp ++ [64]).toArray ++ ByteArray.mk r.toArray
  rw [e2]
  simp [textOf, textL]
theorem partsText_next (l : List ByteArray) (k : Nat) (h : k < l.length) : partsText (l.take (k + 1)) = (if k = 0 then [] else partsText (l.take k) ++ [47]) ++ esc l[k].data.toList := by
  rw [List.take_succ_eq_append_getElem h, partsText_snoc]
  have e : (l.take k).length = k := by simp; omega
  rw [e]
set_option maxRecDepth 100000 in
set_option maxHeartbeats 4000000 in
theorem nameText_c (s : Sl) (p : Prin) (w : World) (hp : PrinAt w s p) (hok : prinOk p = true) : Calls Tryz.prog 118 #[.agg (prinC s p)] w fun e w' => e = .returned (.tuple #[.string (textOf p), .int .i64 0]) ∧ Below w.heap.size w w' := by
  obtain ⟨hlen, hsizes, hrl⟩ := prinOk_sizes hok
  have hp0 : 0 < p.parts.length := List.length_pos_iff.2 (prinOk_ne hok)
  have hB0 : Below w.heap.size w (w.alloc (.cells (prinC s p) 24)) := (Below.refl _ w).alloc (Nat.le_refl _) _
  obtain ⟨sa, scap⟩ := s
  obtain ⟨b, o, ha, -, -⟩ := hp.1.get 0 hp0
  dsimp only at ha
  subst ha
  have hpL := hp.later hB0
  go_enter Tryz.func118, Tryz.ntmps118
  go_wp2_with fail
  refine (nameValid_c _ _ _ hpL).mono ?_
  rintro e w1 ⟨rfl, hb1⟩
  rw [hok]
  obtain ⟨hcc, hff, hrr⟩ := bcell hb1
  have hsz : w.heap.size < w1.heap.size := by have := hb1.size; simp at this; omega
  go_wp2_with fail
  clear hcc hff hrr hsz
  have HS := Lib.hid hsizes
  clear hsizes
  have hc1 : (w.alloc (.cells (prinC ⟨some ⟨b, o, none⟩, scap⟩ p) 24)).cell? ⟨w.heap.size, 1, none⟩ = some (.string p.realm) := by simp [go_sem]
  have hW : w.heap.size < (w.alloc (.cells (prinC ⟨some ⟨b, o, none⟩, scap⟩ p) 24)).heap.size := by simp
  generalize w.alloc (.cells (prinC ⟨some ⟨b, o, none⟩, scap⟩ p) 24) = W0 at *
  go_loopw [4, 14] (fun bv i wr => ∃ (k : Nat) (sb : Sl), k ≤ p.parts.length ∧ i = .int .i64 k ∧ bv = .slice sb.a (partsText (p.parts.take k)).length sb.cap ∧ TextR W0 wr sb (partsText (p.parts.take k))) (fun _ i _ => p.parts.length - (intOf i).toNat)
  case atStart => exact ⟨0, ⟨none, 0⟩, Nat.zero_le _, rfl, rfl, hb1, Go.WW.Own.nil _ _ _ _⟩
  case round =>
    obtain ⟨k, sb, hk, rfl, rfl, hR⟩ := hrel
    by_cases hlt : k < p.parts.length
    · obtain ⟨hcc, hss⟩ := (hpL.later hR.b).1.at k hlt
      have hbb : b < wr.heap.size := World.block_lt_of_cell? wr _ hcc
      have hps : p.parts[k].size ≤ 32 := HS.out _ (List.getElem_mem hlt)
      have hlt4 : (partsText (p.parts.take k)).length ≤ 260 := by
        have h1 := text_len (l := p.parts.take k) (fun x hx => HS.out x (List.mem_of_mem_take hx))
        have h2 : (p.parts.take k).length ≤ k := List.length_take_le _ _
        omega
      by_cases hk0 : k = 0
      · obtain ⟨L1, hL1⟩ : ∃ L : List UInt8, L = [] := ⟨_, rfl⟩
        have hL1n : L1.length ≤ 261 := by rw [hL1]; simp
        have HL := Lib.hid (show L1 ++ esc p.parts[k].data.toList = partsText (p.parts.take (k + 1)) by rw [partsText_next _ _ hlt, if_pos hk0, hL1])
        have HK := Lib.hid (show partsText (p.parts.take k) = L1 ++ esc (p.parts[k].data.toList.take 0) by subst hk0; subst hL1; simp [partsText, esc])
        have hk1 : decide (0 < k) = false := by simp [hk0]
        have hk2 : ¬ (0 : Int) < (k : Int) := by omega
        clear hL1 hk0
        go_wp2_with fail
        go_loopw [4, 26] (fun bv i wr => ∃ (j : Nat) (sb : Sl), j ≤ p.parts[k].size ∧ i = .int .i64 j ∧ bv = .slice sb.a (L1 ++ esc (p.parts[k].data.toList.take j)).length sb.cap ∧ TextR W0 wr sb (L1 ++ esc (p.parts[k].data.toList.take j))) (fun _ i _ => p.parts[k].size - (intOf i).toNat)
        case atStart => exact ⟨0, sb, Nat.zero_le _, rfl, by rw [HK.out], by rw [← HK.out]; exact hR⟩
        case round =>
          clear hR
          obtain ⟨j, sc, hj, rfl, hbv, hI⟩ := hrel
          obtain ⟨Lj, hLj⟩ : ∃ L, L = L1 ++ esc (p.parts[k].data.toList.take j) := ⟨_, rfl⟩
          rw [← hLj] at hbv hI
          subst hbv
          have HJ := Lib.hid hLj
          clear hLj
          by_cases hjt : j < p.parts[k].size
          · have hee := esc_len (p.parts[k].data.toList.take j)
            have hel : (p.parts[k].data.toList.take j).length ≤ j := List.length_take_le _ _
            have hLL : Lj.length ≤ 1000 := by rw [HJ.out, List.length_append]; omega
            have HT := Lib.hid (take_snoc' p.parts[k] j hjt)
            cases hsp : specialB p.parts[k][j]
            · have HN := Lib.hid (show escOne p.parts[k][j] = [p.parts[k][j]] by rw [escOne, hsp]; rfl)
              go_wp2_with (first | (go_at_call 153; refine (special_c _ _).mono ?_; rintro e w' ⟨rfl, rfl⟩; rw [hsp]) | (at_builtin; refine wpList_append_n rfl (.tmp 36) (.tmp 40) _ rfl elemByte rfl (bytesRows_len _).symm (hI.up _) rfl rfl (SrcRows.new _ #[.int .u8 p.parts[k][j].toNat] _ _ rfl (by simp [allOne, Value.oneCell'])) (by rw [bytesRows_len]; simp; omega) (hI.sz _) ?_; intro s2 w2 hown hg hat; have hR2 := hI.app (c := p.parts[k][j]) hown hg; clear hown hg hat))
              go_roundw
              case rel => exact ⟨j + 1, s2, by omega, by go_num, by rw [HT.out, esc_snoc, HN.out, ← List.append_assoc, ← HJ.out]; simp, by rw [HT.out, esc_snoc, HN.out, ← List.append_assoc, ← HJ.out]; exact hR2⟩
              case measure => simp [intOf]; omega
            · have HN := Lib.hid (show escOne p.parts[k][j] = [92, p.parts[k][j]] by rw [escOne, hsp]; rfl)
              go_wp2_with (first | (go_at_call 153; refine (special_c _ _).mono ?_; rintro e w' ⟨rfl, rfl⟩; rw [hsp]) | (at_builtin; refine wpList_append_n rfl (.tmp 33) (.tmp 34) _ rfl elemByte rfl (bytesRows_len _).symm (hI.up _) rfl rfl (SrcRows.new _ #[.int .u8 92] _ _ rfl (by simp [allOne, Value.oneCell'])) (by rw [bytesRows_len]; simp; omega) (hI.sz _) ?_; intro s2 w2 hown hg hat; have hR2 := hI.app (c := 92) hown hg; clear hown hg hat) | (at_builtin; refine wpList_append_n rfl (.tmp 36) (.tmp 40) _ rfl elemByte rfl (by rw [bytesRows_len]; simp) (hR2.up _) rfl rfl (SrcRows.new _ #[.int .u8 p.parts[k][j].toNat] _ _ rfl (by simp [allOne, Value.oneCell'])) (by rw [bytesRows_len]; simp; omega) (hR2.sz _) ?_; intro s3 w3 hown hg hat; have hR3 := hR2.app (c := p.parts[k][j]) hown hg; clear hown hg hat))
              go_roundw
              case rel => exact ⟨j + 1, s3, by omega, by go_num, by rw [HT.out, esc_snoc, HN.out, ← List.append_assoc, ← HJ.out]; simp, by rw [HT.out, esc_snoc, HN.out, ← List.append_assoc, ← HJ.out]; simpa using hR3⟩
              case measure => simp [intOf]; omega
          · have HE := Lib.hid (show Lj = partsText (p.parts.take (k + 1)) by
              rw [HJ.out, List.take_of_length_le (by simp; omega)]; exact HL.out)
            go_wp2_with fail
            go_roundw
            case rel => exact ⟨k + 1, sc, by omega, by go_num, by rw [HE.out], by rw [← HE.out]; exact hI⟩
            case measure => simp [intOf]; omega
      · obtain ⟨L1, hL1⟩ : ∃ L : List UInt8, L = partsText (p.parts.take k) ++ [47] := ⟨_, rfl⟩
        have hL1n : L1.length ≤ 261 := by rw [hL1, List.length_append]; simp; omega
        have HL := Lib.hid (show L1 ++ esc p.parts[k].data.toList = partsText (p.parts.take (k + 1)) by rw [partsText_next _ _ hlt, if_neg hk0, hL1])
        have hk1 : decide (0 < k) = true := by simp; omega
        have hk2 : (0 : Int) < (k : Int) := by omega
        have HK := Lib.hid hL1
        clear hL1
        go_wp2_with (at_builtin; refine wpList_append_n rfl (.tmp 21) (.tmp 22) _ rfl elemByte rfl (bytesRows_len _).symm (hR.up _) rfl rfl (SrcRows.new _ #[.int .u8 47] _ _ rfl (by simp [allOne, Value.oneCell'])) (by rw [bytesRows_len]; simp; omega) (hR.sz _) ?_; intro s1 w1' hown hg hat; have hR1 := hR.app (c := 47) hown hg; clear hown hg hat)
        go_loopw [4, 26] (fun bv i wr => ∃ (j : Nat) (sb : Sl), j ≤ p.parts[k].size ∧ i = .int .i64 j ∧ bv = .slice sb.a (L1 ++ esc (p.parts[k].data.toList.take j)).length sb.cap ∧ TextR W0 wr sb (L1 ++ esc (p.parts[k].data.toList.take j))) (fun _ i _ => p.parts[k].size - (intOf i).toNat)
        case atStart => exact ⟨0, s1, Nat.zero_le _, rfl, by rw [HK.out]; simp [esc], by simp only [List.take_zero, esc_nil, List.append_nil]; rw [HK.out]; exact hR1⟩
        case round =>
          clear hR
          obtain ⟨j, sc, hj, rfl, hbv, hI⟩ := hrel
          obtain ⟨Lj, hLj⟩ : ∃ L, L = L1 ++ esc (p.parts[k].data.toList.take j) := ⟨_, rfl⟩
          rw [← hLj] at hbv hI
          subst hbv
          have HJ := Lib.hid hLj
          clear hLj
          by_cases hjt : j < p.parts[k].size
          · have hee := esc_len (p.parts[k].data.toList.take j)
            have hel : (p.parts[k].data.toList.take j).length ≤ j := List.length_take_le _ _
            have hLL : Lj.length ≤ 1000 := by rw [HJ.out, List.length_append]; omega
            have HT := Lib.hid (take_snoc' p.parts[k] j hjt)
            cases hsp : specialB p.parts[k][j]
            · have HN := Lib.hid (show escOne p.parts[k][j] = [p.parts[k][j]] by rw [escOne, hsp]; rfl)
              go_wp2_with (first | (go_at_call 153; refine (special_c _ _).mono ?_; rintro e w' ⟨rfl, rfl⟩; rw [hsp]) | (at_builtin; refine wpList_append_n rfl (.tmp 36) (.tmp 40) _ rfl elemByte rfl (bytesRows_len _).symm (hI.up _) rfl rfl (SrcRows.new _ #[.int .u8 p.parts[k][j].toNat] _ _ rfl (by simp [allOne, Value.oneCell'])) (by rw [bytesRows_len]; simp; omega) (hI.sz _) ?_; intro s2 w2 hown hg hat; have hR2 := hI.app (c := p.parts[k][j]) hown hg; clear hown hg hat))
              go_roundw
              case rel => exact ⟨j + 1, s2, by omega, by go_num, by rw [HT.out, esc_snoc, HN.out, ← List.append_assoc, ← HJ.out]; simp, by rw [HT.out, esc_snoc, HN.out, ← List.append_assoc, ← HJ.out]; exact hR2⟩
              case measure => simp [intOf]; omega
            · have HN := Lib.hid (show escOne p.parts[k][j] = [92, p.parts[k][j]] by rw [escOne, hsp]; rfl)
              go_wp2_with (first | (go_at_call 153; refine (special_c _ _).mono ?_; rintro e w' ⟨rfl, rfl⟩; rw [hsp]) | (at_builtin; refine wpList_append_n rfl (.tmp 33) (.tmp 34) _ rfl elemByte rfl (bytesRows_len _).symm (hI.up _) rfl rfl (SrcRows.new _ #[.int .u8 92] _ _ rfl (by simp [allOne, Value.oneCell'])) (by rw [bytesRows_len]; simp; omega) (hI.sz _) ?_; intro s2 w2 hown hg hat; have hR2 := hI.app (c := 92) hown hg; clear hown hg hat) | (at_builtin; refine wpList_append_n rfl (.tmp 36) (.tmp 40) _ rfl elemByte rfl (by rw [bytesRows_len]; simp) (hR2.up _) rfl rfl (SrcRows.new _ #[.int .u8 p.parts[k][j].toNat] _ _ rfl (by simp [allOne, Value.oneCell'])) (by rw [bytesRows_len]; simp; omega) (hR2.sz _) ?_; intro s3 w3 hown hg hat; have hR3 := hR2.app (c := p.parts[k][j]) hown hg; clear hown hg hat))
              go_roundw
              case rel => exact ⟨j + 1, s3, by omega, by go_num, by rw [HT.out, esc_snoc, HN.out, ← List.append_assoc, ← HJ.out]; simp, by rw [HT.out, esc_snoc, HN.out, ← List.append_assoc, ← HJ.out]; simpa using hR3⟩
              case measure => simp [intOf]; omega
          · have HE := Lib.hid (show Lj = partsText (p.parts.take (k + 1)) by
              rw [HJ.out, List.take_of_length_le (by simp; omega)]; exact HL.out)
            go_wp2_with fail
            go_roundw
            case rel => exact ⟨k + 1, sc, by omega, by go_num, by rw [HE.out], by rw [← HE.out]; exact hI⟩
            case measure => simp [intOf]; omega
    · have hE : p.parts.take k = p.parts := List.take_of_length_le (by omega)
      rw [hE] at hR ⊢
      clear hE
      have hT := text_len (l := p.parts) (fun x hx => HS.out x hx)
      have hpos := partsText_pos hok
      obtain ⟨L, hL⟩ : ∃ L, L = partsText p.parts := ⟨_, rfl⟩
      rw [← hL] at hR hT hpos ⊢
      have HX := Lib.hid (text_end hL)
      clear hL
      obtain ⟨g, hga, -, -⟩ := hR.own.row 0 (by rw [bytesRows_len]; exact hpos)
      obtain ⟨sba, sbc⟩ := sb
      dsimp only at hga
      subst hga
      have hcv := run_bytes_text (P := Tryz.prog) wr 44 9 5 Tryz.underlying44 Tryz.underlying5 Tryz.underlying9 g 0 sbc L (fun i hi => by
        obtain ⟨g', hg', -, hrow⟩ := hR.own.row i (by rw [bytesRows_len]; exact hi)
        cases hg'
        have hcell := row?_cell hrow 0 (by omega)
        simpa [bytesRows] using hcell)
      have hrc : wr.cell? ⟨w.heap.size, 1, none⟩ = some (.string p.realm) := (hR.b.cell (p := ⟨w.heap.size, 1, none⟩) hW).trans hc1
      have hb260 : L.length ≤ 260 := by omega
      have HB := Lib.hid (hB0.trans (hR.b.mono hB0.size))
      have hw9 : w.heap.size < wr.heap.size := World.block_lt_of_cell? wr _ hrc
      clear hR hT hpos hW hc1
      go_wp2_with fail
      go_ret2
      exact ⟨by rw [HX.out]; rfl, HB.out⟩
end Go.Proofs.YtpibcnchkndejaaGreatDoor
/- Maps from strings to counts. -/
namespace Go.WW
open Go.RowKit
theorem find_str (s : ByteArray) (es : List MapEntry) (keys : List ByteArray) (h : es.map (·.key) = keys.map Value.string) :
    (hasKey keys s = false ∧ Instr.findNow .string (.string s) es 0 = some none) ∨
    (hasKey keys s = true ∧ ∃ j e, Instr.findNow .string (.string s) es 0 = some (some (0 + j, e.val)) ∧ es[j]? = some e ∧ e.key = .string s) := by
  have hm : ∀ x ∈ es, ∃ k ∈ keys, x.key = .string k := fun x hx => by
    have : x.key ∈ es.map (·.key) := List.mem_map.2 ⟨x, hx, rfl⟩
    rw [h, List.mem_map] at this
    obtain ⟨k, hk, e⟩ := this
    exact ⟨k, hk, e.symm⟩
  rcases MapKept.findNow_spec (d := .string) (k := .string s) trivial es 0 (fun x hx => by obtain ⟨k, _, e⟩ := hm x hx; rw [e]; trivial) with ⟨h1, h2⟩ | ⟨j, e, h1, h2, h3⟩
  · refine .inl ⟨?_, h1⟩
    cases hk : hasKey keys s with
    | false => rfl
    | true =>
      have := (hasKey_iff keys s).1 hk
      have : Value.string s ∈ es.map (·.key) := by rw [h]; exact List.mem_map.2 ⟨s, this, rfl⟩
      obtain ⟨x, hx, e⟩ := List.mem_map.1 this
      exact absurd e (h2 x hx)
  · refine .inr ⟨?_, j, e, h1, h2, h3⟩
    obtain ⟨k, hk, e'⟩ := hm e (List.mem_of_getElem? h2)
    rw [h3] at e'
    obtain rfl : s = k := by injection e'
    exact (hasKey_iff keys s).2 hk
theorem run_mapSet {P : Program} {w : World} {mty kt et : TypeId} {d : TypeDesc} {r clock i : Nat} {es : Array MapEntry} {e : MapEntry} {v0 : Value} (v : Value) (hm : P.underlying mty = some (.map kt et)) (hd : P.underlying kt = some d) (hk : MapKept.IsKey d e.key)
    (hf : Instr.findNow d e.key es.toList 0 = some (some (i, v0))) (hi : es[i]? = some e) (hb : w.heap[r]? = some (.map es clock)) :
    (Instr.mapUpdate mty (.map (some r)) e.key v).run P w = .ok () (w.putObj r (.map (es.modify i fun e => { e with val := v }) clock)) := by
  have hc : (Instr.checkKey false 10000 kt e.key).run P w = .ok () w := MapKept.run_checkKey hd hk false 9999
  have hx : (es.modify i fun x => { x with key := e.key, val := v }) = es.modify i fun e => { e with val := v } := by
    apply Array.ext_getElem?
    intro j
    rw [Array.getElem?_modify, Array.getElem?_modify]
    split
    · rename_i hij; subst hij; rw [hi]; rfl
    · rfl
  simp [Instr.mapUpdate, run_underlying hm, MapKept.run_getObj_map hb, hc, MapKept.run_findKey hd hf, hi, MapKept.run_keyThatStays hk, MapKept.run_setObj_map _ hb, Result.andThen, World.putObj, hx]
/-- The map at block r holds the keys, each with a count of at most k. -/
def CountAt (w : World) (r : Nat) (keys : List ByteArray) (k : Nat) : Prop :=
  ∃ es clock, w.heap[r]? = some (.map es clock) ∧ es.toList.map (·.key) = keys.map Value.string ∧ ∀ e ∈ es.toList, ∃ n : Nat, e.val = .int .i64 n ∧ n ≤ k
theorem CountAt.size {w : World} {r k : Nat} {keys : List ByteArray} (h : CountAt w r keys k) : ∃ es clock, w.heap[r]? = some (.map es clock) ∧ es.size = keys.length := by
  obtain ⟨es, clock, h1, h2, _⟩ := h
  refine ⟨es, clock, h1, ?_⟩
  have := congrArg List.length h2
  simpa using this
theorem CountAt.lt {w : World} {r k : Nat} {keys : List ByteArray} (h : CountAt w r keys k) : r < w.heap.size := by
  obtain ⟨es, clock, h1, _⟩ := h
  exact (Array.getElem?_eq_some_iff.1 h1).1
/-- count[s]++ -/
theorem CountAt.step {P : Program} {w : World} {mty kt et : TypeId} {r k : Nat} {keys : List ByteArray} (h : CountAt w r keys k) (hm : P.underlying mty = some (.map kt et)) (hd : P.underlying kt = some .string)
    (hz : ∀ w, (zeroValue et).run P w = .ok (.int .i64 0) w) (s : ByteArray) :
    ∃ (n : Nat) (w' : World), n ≤ k ∧ (Instr.lookup mty (.map (some r)) (.string s) false).run P w = .ok (.int .i64 n) w ∧
      (Instr.mapUpdate mty (.map (some r)) (.string s) (.int .i64 ((n : Int) + 1))).run P w = .ok () w' ∧ CountAt w' r (addKey keys s) (k + 1) ∧ w.grownBy w' (some r) := by
  obtain ⟨es, clock, h1, h2, h3⟩ := h
  rcases find_str s es.toList keys h2 with ⟨hk, hf⟩ | ⟨hk, j, e, hf, he, hes⟩
  · refine ⟨0, _, Nat.zero_le _, run_mapGet false hm hd (k := .string s) trivial hf (hz w) h1, run_mapAdd _ hm hd (k := .string s) trivial hf h1, ⟨_, _, World.putObj_heap_same (Array.getElem?_eq_some_iff.1 h1).1, ?_, ?_⟩, grownBy_putObj' _ _ _⟩
    · simp [addKey, hk, h2]
    · intro x hx
      rw [Array.toList_push, List.mem_append] at hx
      rcases hx with hx | hx
      · obtain ⟨n, h4, h5⟩ := h3 x hx; exact ⟨n, h4, by omega⟩
      · simp at hx; subst hx; exact ⟨1, by simp, by omega⟩
  · have hj : es[j]? = some e := by simpa using he
    obtain ⟨n, hn, hnk⟩ := h3 e (List.mem_of_getElem? he)
    rw [Nat.zero_add] at hf
    rw [← hes]
    rw [← hes] at hf
    have hik : MapKept.IsKey .string e.key := by rw [hes]; trivial
    have hg := run_mapGet false hm hd (k := e.key) hik hf (hz w) h1
    refine ⟨n, _, hnk, by rw [hg]; simp [lookOut, hn], run_mapSet _ hm hd hik hf hj h1, ⟨_, _, World.putObj_heap_same (Array.getElem?_eq_some_iff.1 h1).1, ?_, ?_⟩, grownBy_putObj' _ _ _⟩
    · rw [addKey, hk, if_pos rfl, ← h2]
      apply List.ext_getElem?
      intro i
      simp only [List.getElem?_map, Array.getElem?_toList, Array.getElem?_modify]
      split
      · cases es[i]? <;> rfl
      · rfl
    · intro x hx
      obtain ⟨i, hi, rfl⟩ := List.mem_iff_getElem.1 hx
      simp only [Array.length_toList, Array.size_modify] at hi
      rw [Array.getElem_toList, Array.getElem_modify]
      split
      · exact ⟨n + 1, by simp, by omega⟩
      · obtain ⟨m, h4, h5⟩ := h3 es[i] (by simp); exact ⟨m, h4, by omega⟩
end Go.WW
/- entry.distinct, entry.principals. -/
namespace Go.WW
theorem keysOf_take (l : List Prin) (k : Nat) (h : k < l.length) : keysOf ((l.take (k + 1)).map textOf) = addKey (keysOf ((l.take k).map textOf)) (textOf l[k]) := by
  rw [List.take_succ_eq_append_getElem h, List.map_append, List.map_cons, List.map_nil, keysOf_snoc]
theorem len_map_ww {P : Program} {w : World} {r clock : Nat} {es : Array MapEntry} {t k e : TypeId} (ht : P.underlying t = some (.map k e)) (ty : TypeId) (hb : w.heap[r]? = some (.map es clock)) : (Builtin.len_ #[t] ty #[.map (some r)]).run P w = .ok (.int .i64 es.size) w := by
  simp [Builtin.len_, run_underlying ht, MapKept.run_getObj_map hb, Result.andThen, goInt]
end Go.WW
namespace Go.Proofs.YtpibcnchkndejaaGreatDoor
open Go.RowKit Go.WW
theorem zeroInt (w : World) : (zeroValue 3).run Tryz.prog w = .ok (.int .i64 0) w := by kernel_rfl
set_option maxRecDepth 100000 in
set_option maxHeartbeats 1000000 in
theorem distinct_nil (a : Option Addr) (cap : Nat) (w : World) : Calls Tryz.prog 129 #[.slice a 0 cap] w fun e w' => e = .returned (.bool true) ∧ Below w.heap.size w w' := by
  have hmm := @run_makeMap Tryz.prog
  have hm1 := fun ty => len_map_ww (P := Tryz.prog) Tryz.underlying200 ty (World.alloc_heap_new w (.map #[] 0))
  go_enter Tryz.func129, Tryz.ntmps129
  go_wp2_with fail
  refine wp_loop_rounds 1 ?_
  rw [rounds_succ]
  go_wp2_with fail
  go_ret
  exact ⟨rfl, (Below.refl _ _).alloc (Nat.le_refl _) _⟩
set_option maxRecDepth 100000 in
set_option maxHeartbeats 1000000 in
theorem distinct_c (a : Option Addr) (cap : Nat) (l : List Prin) (w : World) (hl : PrinsAt w a l) (hok : l.all prinOk = true) : Calls Tryz.prog 129 #[.slice a l.length cap] w fun e w' => e = .returned (.bool (distinctP l)) ∧ Below w.heap.size w w' := by
  have hn : l.length ≤ 4294967000 := hl.1
  rcases RowsAt.addr hl with h0 | ⟨b, o, rfl, hb⟩
  · obtain rfl : l = [] := List.eq_nil_of_length_eq_zero h0
    exact distinct_nil a cap w
  have hmm := @run_makeMap Tryz.prog
  have HO := Lib.hid hok
  clear hok
  go_enter Tryz.func129, Tryz.ntmps129
  go_wp2_with fail
  go_loopw [11] (fun i wr => ∃ k : Nat, k ≤ l.length ∧ i = .int .i64 k ∧ Below w.heap.size w wr ∧ CountAt wr w.heap.size (keysOf ((l.take k).map textOf)) k) (fun i _ => l.length - (intOf i).toNat)
  case atStart => exact ⟨0, Nat.zero_le _, rfl, (Below.refl _ _).alloc (Nat.le_refl _) _, #[], 0, World.alloc_heap_new w (.map #[] 0), rfl, by simp⟩
  case round =>
    clear hmm
    obtain ⟨k, hk, rfl, hbr, hC⟩ := hrel
    by_cases hlt : k < l.length
    · obtain ⟨t, hc, hp⟩ := hl.at k hlt
      obtain ⟨hcc, hff, hrr⟩ := bcell hbr
      go_wp2_with fail
      have hb1 := below_new hbr (.cells (prinC t l[k]) 24)
      refine (nameText_c _ _ _ (hp.later hb1) (List.all_eq_true.1 HO.out _ (List.getElem_mem hlt))).mono ?_
      rintro e w1 ⟨rfl, hb2⟩
      have hb3 := below_step hb1 hb2
      have hr := hC.lt
      have hC1 : CountAt w1 w.heap.size (keysOf ((l.take k).map textOf)) k := by
        obtain ⟨es, clock, h1, h2⟩ := hC
        exact ⟨es, clock, (hb2.block _ (by simp; omega)).trans ((Below.heap_alloc wr _ _ hr).trans h1), h2⟩
      obtain ⟨n, w2, hnk, hlk, hup, hC2, hg⟩ := hC1.step (P := Tryz.prog) Tryz.underlying200 Tryz.underlying9 zeroInt (textOf l[k])
      rw [← keysOf_take l k hlt] at hC2
      have hb4 : Below w.heap.size w w2 := hb3.grown hg hb3.size (fun g e => by cases e; omega)
      clear hcc hff hrr hC1 hC hbr
      go_wp2_with fail
      clear hlk hup
      go_roundw
      case rel => exact ⟨k + 1, by omega, by go_num, hb4, hC2⟩
      case measure => simp [intOf]; omega
    · have hE : l.take k = l := List.take_of_length_le (by omega)
      rw [hE] at hC
      obtain ⟨es, clock, hm, hs⟩ := hC.size
      have hkl := keysOf_len (l.map textOf)
      have HN := Lib.hid (show distinctP l = decide ((es.size : Int) = (l.length : Int)) by rw [distinctP, hs])
      have hsl : es.size ≤ 4294967000 := by rw [hs]; simp at hkl; omega
      have hln := fun ty => len_map_ww (P := Tryz.prog) Tryz.underlying200 ty hm
      clear hE hkl hs hm
      go_wp2_with fail
      go_ret
      exact ⟨by rw [HN.out]; first | rfl | (congr 2), hbr⟩
end Go.Proofs.YtpibcnchkndejaaGreatDoor
/- entry.validSet, validKeys, principals. -/
namespace Go.WW
def salted (x : KeySet) : Bool := decide (0 < x.iterations) || x.salt.toList.isEmpty
theorem setEnd_cut {x : KeySet} (h1 : btw x.version 1 65535 = true) (h2 : btw x.keys.length 1 4 = true) : setEnd x = (decide ((x.salt.size : Int) ≤ 256) && btw x.iterations 0 65536 && salted x && btw x.created 0 1099511627776) := by
  rw [setEnd, h1, h2, salted]; rfl
end Go.WW
namespace Go.Proofs.YtpibcnchkndejaaGreatDoor
open Go.RowKit Go.WW
set_option maxRecDepth 100000 in
set_option maxHeartbeats 4000000 in
theorem validSet_c (s : Sl) (x : KeySet) (m : Int) (w : World) (hx : SetAt w s x) : Calls Tryz.prog 132 #[.agg (setC s x), .int .i64 m] w fun e w' => e = .returned (.bool (setOk m x)) ∧ Below w.heap.size w w' := by
  have hn : x.keys.length ≤ 4294967000 := hx.1.1
  have hs : x.salt.size ≤ 4294967000 := hx.2
  have hB : Below w.heap.size w ((w.alloc (.cells (setC s x) 39)).alloc (.cells #[.int .i64 m] 3)) := ((Below.refl _ w).alloc (Nat.le_refl _) _).alloc (by simp) _
  have hxB := hx.later hB
  have g0 : ((w.alloc (.cells (setC s x) 39)).alloc (.cells #[.int .i64 m] 3)).cell? ⟨w.heap.size, 0, none⟩ = some (.int .i64 x.version) := by simp [go_sem]
  have g1 : ((w.alloc (.cells (setC s x) 39)).alloc (.cells #[.int .i64 m] 3)).cell? ⟨w.heap.size + 1, 0, none⟩ = some (.int .i64 m) := by simp [go_sem]
  have hlim : ∀ k ∈ x.keys, k.bytes.length ≤ lim := fun k hk => by
    obtain ⟨i, hi, rfl⟩ := List.mem_iff_getElem.1 hk
    obtain ⟨_, _, _, _, _, h3⟩ := hx.1.get i hi
    exact h3.1
  have HF := Lib.hid (everyKey2_c s.a s.cap 157 4 x.keys w.heap.size (w.heap.size + 1) (keyFits m x.version) _ keyFn_enters hxB.1 (fun y t p hp _ => keyFn_c t p _ _ m x.version y.w (hlim p hp) ((y.b.cell (p := ⟨w.heap.size, 0, none⟩) (by simp; omega)).trans g0) ((y.b.cell (p := ⟨w.heap.size + 1, 0, none⟩) (by simp)).trans g1)))
  have HL := Lib.hid hlim
  clear g0 g1 hlim
  go_enter Tryz.func132, Tryz.ntmps132
  cases c1 : btw x.version 1 65535
  · have HN := Lib.hid (set_no1 (m := m) c1)
    go_wp2_with (go_at_call 80; refine (between_c _ _ _ _).mono ?_; rintro e w' ⟨rfl, rfl⟩)
    go_ret
    exact ⟨by rw [HN.out]; rfl, hB⟩
  cases c2 : decide (1 ≤ (x.keys.length : Int))
  · have HN := Lib.hid (set_no2 (m := m) c2)
    have c2' : decide (1 ≤ x.keys.length) = false := by rw [decide_eq_false_iff_not] at c2 ⊢; omega
    go_wp2_with (go_at_call 80; refine (between_c _ _ _ _).mono ?_; rintro e w' ⟨rfl, rfl⟩)
    go_ret
    exact ⟨by rw [HN.out]; rfl, hB⟩
  have c2' : decide (1 ≤ x.keys.length) = true := by rw [decide_eq_true_eq] at c2 ⊢; omega
  go_wp2_with (go_at_call 80; refine (between_c _ _ _ _).mono ?_; rintro e w' ⟨rfl, rfl⟩)
  refine (HF.out).mono ?_
  rintro e w1 ⟨rfl, hb1⟩
  have hB1 := below_step hB hb1
  obtain ⟨hcc, hff, hrr⟩ := bcell hb1
  have hsz : w.heap.size + 1 < w1.heap.size := by have := hb1.size; simp at this; omega
  cases c3 : (decide ((x.keys.length : Int) ≤ 4) && x.keys.all (keyFits m x.version))
  · have HN := Lib.hid (set_no3 c3)
    go_wp2_with fail
    go_ret
    exact ⟨by rw [HN.out]; rfl, hB1⟩
  go_wp2_with fail
  refine (ordKey_c _ _ _ _ (hx.1.later hB1)).mono ?_
  rintro e w2 ⟨rfl, hb2⟩
  have hB2 := below_step hB1 hb2
  clear hcc hff hrr
  have hbb : Below ((w.alloc (.cells (setC s x) 39)).alloc (.cells #[.int .i64 m] 3)).heap.size ((w.alloc (.cells (setC s x) 39)).alloc (.cells #[.int .i64 m] 3)) w2 := below_step hb1 hb2
  obtain ⟨hcc, hff, hrr⟩ := bcell hbb
  have hsz2 : w.heap.size + 1 < w2.heap.size := by have := hbb.size; simp at this; omega
  cases c4 : ordered profLt x.keys
  · have HN := Lib.hid (set_no4 (m := m) c4)
    go_wp2_with fail
    go_ret
    exact ⟨by rw [HN.out]; rfl, hB2⟩
  obtain ⟨hy1, hy2⟩ := set_yes c2 c3 c4
  have HN := Lib.hid (hy1.trans (setEnd_cut c1 hy2))
  clear hy1 hy2 hxB hx hb1 hb2 hbb hB1 hB
  cases c5 : decide ((x.salt.size : Int) ≤ 256)
  · have c5' : decide (x.salt.size ≤ 256) = false := by rw [decide_eq_false_iff_not] at c5 ⊢; omega
    go_wp2_with fail
    go_ret
    exact ⟨by rw [HN.out, c5]; rfl, hB2⟩
  have c5' : decide (x.salt.size ≤ 256) = true := by rw [decide_eq_true_eq] at c5 ⊢; omega
  cases c6 : btw x.iterations 0 65536
  · go_wp2_with (go_at_call 80; refine (between_c _ _ _ _).mono ?_; rintro e w' ⟨rfl, rfl⟩)
    go_ret
    exact ⟨by rw [HN.out, c5, c6]; rfl, hB2⟩
  cases c7 : decide (0 < x.iterations)
  · cases c8 : x.salt.toList.isEmpty
    · have c8' : ¬ x.salt.toList = [] := by simpa using c8
      go_wp2_with (go_at_call 80; refine (between_c _ _ _ _).mono ?_; rintro e w' ⟨rfl, rfl⟩)
      go_ret
      exact ⟨by rw [HN.out, c5, c6, salted, c7, c8]; rfl, hB2⟩
    · have c8' : x.salt.toList = [] := by simpa using c8
      go_wp2_with (go_at_call 80; refine (between_c _ _ _ _).mono ?_; rintro e w' ⟨rfl, rfl⟩)
      go_ret
      exact ⟨by rw [HN.out, c5, c6, salted, c7, c8]; rfl, hB2⟩
  · go_wp2_with (go_at_call 80; refine (between_c _ _ _ _).mono ?_; rintro e w' ⟨rfl, rfl⟩)
    go_ret
    exact ⟨by rw [HN.out, c5, c6, salted, c7]; rfl, hB2⟩
theorem setFn_c (s : Sl) (x : KeySet) (B : Nat) (m : Int) (w : World) (hx : SetAt w s x) (h : w.cell? ⟨B, 4, none⟩ = some (.int .i64 m)) : Calls Tryz.prog 131 #[.agg (setC s x), .pointer (some ⟨B, 0, none⟩)] w fun e w' => e = .returned (.bool (setOk m x)) ∧ Below w.heap.size w w' := by
  have hb : B < w.heap.size := World.block_lt_of_cell? w _ h
  have hB : Below w.heap.size w (w.alloc (.cells (setC s x) 39)) := (Below.refl _ w).alloc (Nat.le_refl _) _
  go_enter Tryz.func131, Tryz.ntmps131
  go_wp2_with fail
  refine (validSet_c _ _ _ _ (hx.later hB)).mono ?_
  rintro e w1 ⟨rfl, hb1⟩
  go_wp2_with fail
  go_ret
  exact ⟨rfl, below_step hB hb1⟩
theorem setFn_enters : Enters 131 := ⟨fun args w => by kernel_rfl⟩
def keysOk (d : Entry) : Bool := (decide ((d.keys.length : Int) ≤ 16) && d.keys.all (setOk d.master)) && ordered setGt d.keys
set_option maxRecDepth 100000 in
set_option maxHeartbeats 1000000 in
theorem validKeys_c (r : ERaw) (d : Entry) (w : World) (he : EntAt w r d) : Calls Tryz.prog 82 #[.agg (entC r d)] w fun e w' => e = .returned (.bool (keysOk d)) ∧ Below w.heap.size w w' := by
  have hB : Below w.heap.size w (w.alloc (.cells (entC r d) 31)) := (Below.refl _ w).alloc (Nat.le_refl _) _
  have hk := he.keys.later hB
  have g : (w.alloc (.cells (entC r d) 31)).cell? ⟨w.heap.size, 4, none⟩ = some (.int .i64 d.master) := by simp [go_sem]
  have HF := Lib.hid (everySet1_c r.keys.a r.keys.cap 131 16 d.keys w.heap.size (setOk d.master) _ setFn_enters hk (fun y t p _ hp => setFn_c t p _ d.master y.w hp ((y.b.cell (p := ⟨w.heap.size, 4, none⟩) (by simp)).trans g)))
  clear g hk
  go_enter Tryz.func82, Tryz.ntmps82
  go_wp2_with fail
  refine (HF.out).mono ?_
  rintro e w1 ⟨rfl, hb1⟩
  have hB1 := below_step hB hb1
  obtain ⟨hcc, hff, hrr⟩ := bcell hb1
  have hsz : w.heap.size < w1.heap.size := by have := hb1.size; simp at this; omega
  cases c1 : (decide ((d.keys.length : Int) ≤ 16) && d.keys.all (setOk d.master))
  · have HN := Lib.hid (show keysOk d = false by rw [keysOk, c1]; rfl)
    go_wp2_with fail
    go_ret
    exact ⟨by rw [HN.out]; rfl, hB1⟩
  · have HN := Lib.hid (show keysOk d = ordered setGt d.keys by rw [keysOk, c1]; rfl)
    go_wp2_with fail
    refine (ordSet_c _ _ _ _ (he.keys.later hB1)).mono ?_
    rintro e w2 ⟨rfl, hb2⟩
    go_wp2_with fail
    go_ret
    exact ⟨by rw [HN.out]; rfl, below_step hB1 hb2⟩
theorem nameFn_enters : Enters 34 := ⟨fun args w => by kernel_rfl⟩
set_option maxRecDepth 100000 in
theorem principals_c (a : Option Addr) (cap : Nat) (l : List Prin) (w : World) (hl : PrinsAt w a l) : Calls Tryz.prog 84 #[.slice a l.length cap] w fun e w' => e = .returned (.bool (different l)) ∧ Below w.heap.size w w' := by
  have HF := Lib.hid (everyPrin0_c a cap 34 16 l prinOk _ nameFn_enters hl (fun y t p _ hp => nameValid_c t p y.w hp))
  have HE := Lib.hid (principals_eq l)
  go_enter Tryz.func84, Tryz.ntmps84
  go_wp2_with fail
  refine (HF.out).mono ?_
  rintro e w1 ⟨rfl, hb1⟩
  cases c1 : (decide ((l.length : Int) ≤ 16) && l.all prinOk)
  · have HN := Lib.hid (show different l = false by rw [← HE.out, c1]; rfl)
    go_wp2_with fail
    go_ret
    exact ⟨by rw [HN.out]; rfl, hb1⟩
  · have HN := Lib.hid (show different l = distinctP l by rw [← HE.out, c1]; rfl)
    have hall : l.all prinOk = true := by rw [Bool.and_eq_true] at c1; exact c1.2
    have HA := Lib.hid hall
    clear hall
    go_wp2_with fail
    refine (distinct_c _ _ _ _ (hl.later hb1) HA.out).mono ?_
    rintro e w2 ⟨rfl, hb2⟩
    go_wp2_with fail
    go_ret
    exact ⟨by rw [HN.out]; rfl, below_step hb1 hb2⟩
end Go.Proofs.YtpibcnchkndejaaGreatDoor
/- From lists in memory to rows, and back. -/
namespace Go.WW
open Go.RowKit
theorem RowsAt.src {w : World} {k n : Nat} {a : Option Addr} {R : Nat → Array Value → Prop} (h : RowsAt w k a n R) (hR : ∀ i cs, R i cs → cs.size = k ∧ allOne cs = true) :
    ∃ rows, rows.length = n ∧ SrcRows w k a rows ∧ ∀ i (hi : i < rows.length), R i rows[i] := by
  rcases Nat.eq_zero_or_pos n with h0 | h0
  · subst h0; exact ⟨[], rfl, ⟨by simp, by simp, fun i hi => by simp at hi⟩, fun i hi => by simp at hi⟩
  · obtain ⟨b, o, _, ha, _⟩ := h.2 0 h0
    have key : ∀ i, i < n → ∃ cs, row? w b (o + i * k) k = some cs ∧ R i cs := fun i hi => by
      obtain ⟨b', o', cs, ha', hr, hc⟩ := h.2 i hi
      rw [ha] at ha'; cases ha'
      exact ⟨cs, hr, hc⟩
    have hg : ∀ i (hi : i < ((List.range n).map fun i => (row? w b (o + i * k) k).getD #[]).length), ∃ cs, ((List.range n).map fun i => (row? w b (o + i * k) k).getD #[])[i] = cs ∧ row? w b (o + i * k) k = some cs ∧ R i cs := fun i hi => by
      have hi' : i < n := by simpa using hi
      obtain ⟨cs, h1, h2⟩ := key i hi'
      exact ⟨cs, by simp [h1], h1, h2⟩
    refine ⟨(List.range n).map fun i => (row? w b (o + i * k) k).getD #[], by simp, ⟨fun r hr => ?_, fun r hr => ?_, fun i hi => ?_⟩, fun i hi => ?_⟩
    · obtain ⟨i, hi, rfl⟩ := List.mem_iff_getElem.1 hr
      obtain ⟨cs, e, _, h2⟩ := hg i hi
      rw [e]; exact (hR i cs h2).1
    · obtain ⟨i, hi, rfl⟩ := List.mem_iff_getElem.1 hr
      obtain ⟨cs, e, _, h2⟩ := hg i hi
      rw [e]; exact (hR i cs h2).2
    · obtain ⟨cs, e, h1, _⟩ := hg i hi
      exact ⟨b, o, ha, by rw [e]; exact h1⟩
    · obtain ⟨cs, e, _, h2⟩ := hg i hi
      rw [e]; exact h2
theorem RowsAt.of_own {w : World} {base k n : Nat} {e : TypeId} {s : Sl} {rows : List (Array Value)} {R : Nat → Array Value → Prop} (h : Own w base e k s rows) (hl : rows.length = n) (hn : n ≤ lim) (hR : ∀ i (hi : i < rows.length), R i rows[i]) : RowsAt w k s.a n R := by
  subst hl
  refine ⟨hn, fun i hi => ?_⟩
  obtain ⟨g, ha, _, hrow⟩ := h.row i hi
  exact ⟨g, 0, rows[i], ha, hrow, hR i hi⟩
theorem row?_one {w : World} {b o : Nat} {v : Value} (h : w.cell? ⟨b, o, none⟩ = some v) : row? w b o 1 = some #[v] := by
  have hlt := World.block_lt_of_cell? w _ h
  unfold row?
  cases hb : w.heap[b]? with
  | none => exfalso; simp [World.cell?, hb] at h
  | some ob =>
    cases ob with
    | cells c t f =>
      rw [cell_of_row w b o c t f hb] at h
      have ho := (Array.getElem?_eq_some_iff.1 h).1
      show (if o + 1 ≤ c.size then _ else _) = _
      rw [if_pos (by omega)]
      congr 1
      apply Array.ext_getElem?
      intro j
      rw [Array.getElem?_extract]
      by_cases hj : j = 0
      · subst hj; rw [if_pos (by omega)]; simpa using h
      · rw [if_neg (by omega)]; simp; omega
    | _ => exfalso; simp [World.cell?, hb] at h
theorem CellsAt.src {w : World} {n : Nat} {a : Option Addr} {R : Nat → Value → Prop} (h : CellsAt w a n R) (hR : ∀ i v, R i v → v.oneCell' = true) :
    ∃ rows, rows.length = n ∧ SrcRows w 1 a rows ∧ ∀ i (hi : i < rows.length), ∃ v, rows[i] = #[v] ∧ R i v := by
  have h' : RowsAt w 1 a n (fun i cs => ∃ v, cs = #[v] ∧ R i v) := ⟨h.1, fun i hi => by
    obtain ⟨b, o, v, ha, hc, hr⟩ := h.2 i hi
    exact ⟨b, o, #[v], ha, by rw [Nat.mul_one]; exact row?_one hc, v, rfl, hr⟩⟩
  obtain ⟨rows, h1, h2, h3⟩ := h'.src (fun i cs ⟨v, e, hr⟩ => by subst e; exact ⟨rfl, by simp [allOne, hR i v hr]⟩)
  exact ⟨rows, h1, h2, h3⟩
theorem CellsAt.of_own {w : World} {base n : Nat} {e : TypeId} {s : Sl} {rows : List (Array Value)} {R : Nat → Value → Prop} (h : Own w base e 1 s rows) (hl : rows.length = n) (hn : n ≤ lim) (hR : ∀ i (hi : i < rows.length), ∃ v, rows[i] = #[v] ∧ R i v) : CellsAt w s.a n R := by
  subst hl
  refine ⟨hn, fun i hi => ?_⟩
  obtain ⟨g, ha, _, hrow⟩ := h.row i hi
  obtain ⟨v, e, hr⟩ := hR i hi
  refine ⟨g, 0, v, ha, ?_, hr⟩
  have := row?_cell hrow 0 (by omega)
  rw [e, Nat.mul_one] at this
  simpa using this
theorem wpList_append_w {P : Program} {ops : Array Oper} {rest : List Oper} {o : Oper} {a : Act} {w : World} {Q : Exit → Act → World → Prop} (hw : Region.wanted o (yielded ops a.tmps) = true) (x y : Operand) (t : TypeId) (ho : o.op = .call { callee := .builtin .append, args := #[x, y], argTypes := #[t, t] })
    {e : TypeId} {k bytes : Nat} (he : ElemOk P t e k bytes) {base : Nat} {s : Sl} {n : Nat} {rows : List (Array Value)} (hx : a.eval x = .slice s.a n s.cap) (hn : n = rows.length) (h : Own w base e k s rows) {A : Option Addr} {news : List (Array Value)} {m c : Nat}
    (hy : a.eval y = .slice A m c) (hm : m = news.length) (hs : SrcRows w k A news) (hlen : (rows.length + news.length) * (bytes + 1) ≤ 140737488355328) (hbase : base ≤ w.heap.size)
    (hK : ∀ (s' : Sl) w', Own w' base e k s' (rows ++ news) → w.grownBy w' s.blk → (s'.blk = s.blk ∨ s'.blk = some w.heap.size) → wpList P ops Q rest (a.put o.dst (.slice s'.a (n + m) s'.cap)) w') : wpList P ops Q (o :: rest) a w := by
  subst hn hm
  refine wpList_step fun K hK' => ?_
  rw [if_pos hw]
  exact wp_append_rows x y t ho he hx h hy rfl hs hlen hbase fun s' w' h2 h3 h4 => hK' _ _ (hK s' w' h2 h3 h4)
/-- A slice just made, with one row. -/
theorem Own.one (w : World) (cs : Array Value) (t : TypeId) (k : Nat) (hs : cs.size = k) : Own (w.alloc (.cells cs t)) w.heap.size t k ⟨some ⟨w.heap.size, 0, none⟩, 1⟩ [cs] := by
  refine ⟨⟨by simp [flat, hs], .inr ⟨w.heap.size, 1, cs, rfl, Nat.le_refl _, World.alloc_heap_new w _, Nat.le_refl _, by unfold maxLen; omega, by simp [hs], ?_⟩⟩, by simpa using hs⟩
  simp only [flat, List.flatMap_cons, List.flatMap_nil, List.append_nil, List.length_singleton, Nat.one_mul]
  exact List.take_of_length_le (by simp [hs])
theorem prinR_ok {w : World} {l : List Prin} (i : Nat) (cs : Array Value) (h : ∃ p s, l[i]? = some p ∧ cs = prinC s p ∧ PrinAt w s p) : cs.size = 2 ∧ allOne cs = true := by
  obtain ⟨p, s, _, rfl, _⟩ := h; exact ⟨prinC_size s p, prinC_one s p⟩
end Go.WW
/- entry.validNames. -/
namespace Go.Proofs.YtpibcnchkndejaaGreatDoor
open Go.RowKit Go.WW
theorem aliasFn_enters : Enters 127 := ⟨fun args w => by kernel_rfl⟩
set_option maxRecDepth 100000 in
theorem aliasFn_c (s : Sl) (p n : Prin) (B : Nat) (w : World) (hp : PrinAt w s p) (h : w.cell? ⟨B, 1, none⟩ = some (.string n.realm)) : Calls Tryz.prog 127 #[.agg (prinC s p), .pointer (some ⟨B, 0, none⟩)] w fun e w' => e = .returned (.bool (aliasFits n p)) ∧ Below w.heap.size w w' := by
  have hb : B < w.heap.size := World.block_lt_of_cell? w _ h
  have hB : Below w.heap.size w (w.alloc (.cells (prinC s p) 24)) := (Below.refl _ w).alloc (Nat.le_refl _) _
  go_enter Tryz.func127, Tryz.ntmps127
  go_wp2_with fail
  refine (nameValid_c _ _ _ (hp.later hB)).mono ?_
  rintro e w1 ⟨rfl, hb1⟩
  have hB1 := below_step hB hb1
  obtain ⟨hcc, hff, hrr⟩ := bcell hb1
  have hsz : w.heap.size < w1.heap.size := by have := hb1.size; simp at this; omega
  cases c1 : prinOk p
  · have HN := Lib.hid (show aliasFits n p = false by rw [aliasFits, c1]; rfl)
    go_wp2_with fail
    go_ret
    exact ⟨by rw [HN.out]; rfl, hB1⟩
  · have HN := Lib.hid (show aliasFits n p = (p.realm.toList == n.realm.toList) by
      rw [aliasFits, c1]
      by_cases h' : p.realm = n.realm
      · rw [str_eq _ _ h']; simp [h']
      · rw [str_ne _ _ h']; simp [h'])
    go_wp2_with fail
    go_ret
    exact ⟨by rw [HN.out]; rfl, hB1⟩
theorem elemPrin : ElemOk Tryz.prog 25 24 2 40 := ElemOk.of Tryz.underlying25 (by kernel_rfl)
theorem SrcRows.alloc {w : World} {k : Nat} {A : Option Addr} {rows : List (Array Value)} (h : SrcRows w k A rows) (ob : Obj) : SrcRows (w.alloc ob) k A rows :=
  ⟨h.size, h.one, fun i hi => by obtain ⟨b, o, h1, h2⟩ := h.at_ i hi; exact ⟨b, o, h1, by rw [row?_alloc_past (row?_lt h2)]; exact h2⟩⟩
set_option maxRecDepth 100000 in
set_option maxHeartbeats 2000000 in
theorem validNames_c (r : ERaw) (d : Entry) (w : World) (he : EntAt w r d) : Calls Tryz.prog 81 #[.agg (entC r d)] w fun e w' => e = .returned (.bool (namesOk d)) ∧ Below w.heap.size w w' := by
  have hB : Below w.heap.size w (w.alloc (.cells (entC r d) 31)) := (Below.refl _ w).alloc (Nat.le_refl _) _
  have hA := he.aliases.later hB
  have hal : d.aliases.length ≤ 4294967000 := he.aliases.1
  have g : (w.alloc (.cells (entC r d) 31)).cell? ⟨w.heap.size, 1, none⟩ = some (.string d.name.realm) := by simp [go_sem]
  have HF := Lib.hid (fun (w1 : World) (hb1 : Below (w.alloc (.cells (entC r d) 31)).heap.size (w.alloc (.cells (entC r d) 31)) w1) => everyPrin1_c r.aliases.a r.aliases.cap 127 16 d.aliases w.heap.size (aliasFits d.name) w1 aliasFn_enters (hA.later hb1) (fun y t p _ hp => aliasFn_c t p d.name _ y.w hp (((below_step hb1 y.b).cell (p := ⟨w.heap.size, 1, none⟩) (by simp)).trans g)))
  clear g hA
  go_enter Tryz.func81, Tryz.ntmps81
  go_wp2_with fail
  refine (nameValid_c _ _ _ (he.name.later hB)).mono ?_
  rintro e w1 ⟨rfl, hb1⟩
  have hB1 := below_step hB hb1
  obtain ⟨hcc, hff, hrr⟩ := bcell hb1
  have hsz : w.heap.size < w1.heap.size := by have := hb1.size; simp at this; omega
  cases c1 : prinOk d.name
  · have HN := Lib.hid (show namesOk d = false by rw [namesOk, c1]; rfl)
    go_wp2_with fail
    go_ret
    exact ⟨by rw [HN.out]; rfl, hB1⟩
  go_wp2_with fail
  refine (HF.out w1 hb1).mono ?_
  rintro e w2 ⟨rfl, hb2⟩
  have hb2' := below_step hb1 hb2
  have hB2 := below_step hB1 hb2
  clear hcc hff hrr hsz
  obtain ⟨hcc, hff, hrr⟩ := bcell hb2'
  have hsz : w.heap.size < w2.heap.size := by have := hb2'.size; simp at this; omega
  cases c2 : (decide ((d.aliases.length : Int) ≤ 16) && d.aliases.all (aliasFits d.name))
  · have HN := Lib.hid (show namesOk d = false by rw [namesOk, c1, c2]; rfl)
    go_wp2_with fail
    go_ret
    exact ⟨by rw [HN.out]; rfl, hB2⟩
  have HN := Lib.hid (show namesOk d = distinctP (d.name :: d.aliases) by rw [namesOk, c1, c2]; rfl)
  have HO := Lib.hid (show (d.name :: d.aliases).all prinOk = true by
    rw [Bool.and_eq_true, List.all_eq_true] at c2
    rw [List.all_cons, c1, Bool.true_and, List.all_eq_true]
    intro a ha
    have := c2.2 a ha
    rw [aliasFits, Bool.and_eq_true] at this
    exact this.1)
  obtain ⟨rows, hlr, hsr, hrR⟩ := RowsAt.src (he.aliases.later hB2) prinR_ok
  have HLR := Lib.hid hlr
  have HRR := Lib.hid hrR
  have hsr' := SrcRows.alloc hsr (.cells (prinC r.parts d.name) 24)
  have hown := Own.one w2 (prinC r.parts d.name) 24 2 (prinC_size _ _)
  clear hlr hrR
  go_wp2_with (at_builtin; refine wpList_append_w rfl (.tmp 17) (.tmp 19) _ rfl elemPrin (n := 1) (s := ⟨some ⟨w2.heap.size, 0, none⟩, 1⟩) rfl rfl hown rfl HLR.out.symm hsr' (by rw [HLR.out]; simp; omega) (by simp) ?_; intro s3 w3 hown3 hg3 hat3)
  have hb3 : Below w2.heap.size w2 w3 := ((Below.refl _ w2).alloc (Nat.le_refl _) _).grown hg3 (by simp) (fun k e => by cases e; exact Nat.le_refl _)
  have hal16 : d.aliases.length ≤ 16 := by rw [Bool.and_eq_true, decide_eq_true_eq] at c2; omega
  have hP3 : PrinsAt w3 s3.a (d.name :: d.aliases) := by
    refine RowsAt.of_own hown3 (by have := HLR.out; simp; omega) (by unfold lim; simp; omega) ?_
    intro i hi
    cases i with
    | zero => exact ⟨d.name, r.parts, rfl, rfl, (he.name.later hB2).later hb3⟩
    | succ i =>
      have hi' : i < rows.length := by simpa using hi
      obtain ⟨p, s, h1, h2, h3⟩ := HRR.out i hi'
      exact ⟨p, s, by simpa using h1, by simpa using h2, h3.later hb3⟩
  have HD := distinct_c s3.a s3.cap _ _ hP3 HO.out
  rw [List.length_cons, Nat.add_comm] at HD
  refine HD.mono ?_
  rintro e w4 ⟨rfl, hb4⟩
  clear hcc hff hrr hsr hsr' hown hown3 hg3 hat3
  go_wp2_with fail
  go_ret
  exact ⟨by rw [HN.out]; rfl, below_step (below_step hB2 hb3) hb4⟩
end Go.Proofs.YtpibcnchkndejaaGreatDoor
