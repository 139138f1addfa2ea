/- law27.short. -/
import Derived.Test.YtpibcnchkndejaaGreatDoorXH
import Derived.Test.YtpibcnchkndejaaGreatDoorXM
namespace Go.WW
open Go.RowKit
/-- At most 6 components and a realm, each of at most 40 bytes. -/
def shortP (p : Prin) : Prop := (∀ i (h : i < p.parts.length), p.parts[i].size ≤ 40) ∧ p.parts.length ≤ 6 ∧ p.realm.size ≤ 40
noncomputable def boolOf (p : Prop) : Bool := @decide p (Classical.propDecidable p)
theorem boolOf_t {p : Prop} (h : p) : boolOf p = true := @decide_eq_true p (Classical.propDecidable p) h
theorem boolOf_f {p : Prop} (h : ¬ p) : boolOf p = false := @decide_eq_false p (Classical.propDecidable p) h
theorem below_box {w : World} (cs : Array Value) (t : TypeId) : Below w.heap.size w (w.alloc (.cells cs t)) := (Below.refl _ _).alloc (Nat.le_refl _) _
end Go.WW
namespace Go.Proofs.YtpibcnchkndejaaGreatDoor
open Go.RowKit Go.WW
set_option maxRecDepth 100000 in
theorem short_c (s : Sl) (p : Prin) (w : World) (hp : PrinAt w s p) : Calls Tryz.prog 16 #[.agg (prinC s p)] w fun e w' => e = .returned (.bool (boolOf (shortP p))) ∧ Below w.heap.size w w' := by
  have hB : Below w.heap.size w (w.alloc (.cells (prinC s p) 24)) := below_box _ _
  have hn : p.parts.length ≤ 9223372036854775807 := Nat.le_trans hp.1.1 (by unfold lim; omega)
  have hr : p.realm.size ≤ 9223372036854775807 := Nat.le_trans hp.2 (by unfold lim; omega)
  go_enter Tryz.func16, Tryz.ntmps16
  go_wp2_with fail
  go_loop [3] (fun i => ∃ k : Nat, k ≤ p.parts.length ∧ i = .int .i64 k ∧ Hid (∀ j (h : j < p.parts.length), j < k → p.parts[j].size ≤ 40)) (fun i => p.parts.length - (intOf i).toNat)
  case atStart => exact ⟨0, Nat.zero_le _, rfl, fun j h hj => absurd hj (Nat.not_lt_zero _)⟩
  case round =>
    obtain ⟨k, hk, rfl, hall⟩ := hrel
    by_cases hlt : k < p.parts.length
    · obtain ⟨b2, o2, ha2, hc2, hs2⟩ := hp.1.get k hlt
      have hs2' : p.parts[k].size ≤ 9223372036854775807 := Nat.le_trans hs2 (by unfold lim; omega)
      have hgb2 : b2 < w.heap.size := World.block_lt_of_cell? w _ hc2
      obtain ⟨sa, sc⟩ := s
      dsimp only at ha2
      subst ha2
      go_wp2_with fail
      all_goals first
        | (go_ret; exact ⟨by rw [boolOf_f (fun h => by have := h.1 k hlt; omega)]; rfl, hB⟩)
        | (go_round
           case rel => exact ⟨k + 1, by omega, by go_num, fun j h hj => by
             rcases Nat.lt_or_ge j k with h1 | h1
             · exact hall.out j h h1
             · obtain rfl : j = k := by omega
               omega⟩
           case measure => simp [intOf]; omega)
    · by_cases h6 : p.parts.length ≤ 6
      · have h6' : (p.parts.length : Int) ≤ 6 := by omega
        by_cases h40 : p.realm.size ≤ 40
        · have h40' : (p.realm.size : Int) ≤ 40 := by omega
          have e := Lib.hid (boolOf_t (p := shortP p) ⟨fun i h => hall.out i h (by omega), h6, h40⟩)
          go_wp2_with fail
          go_ret
          exact ⟨by rw [e.out]; first | rfl | (simp [h40']), hB⟩
        · have h40' : ¬ (p.realm.size : Int) ≤ 40 := by omega
          have e := Lib.hid (boolOf_f (p := shortP p) (fun h => h40 h.2.2))
          go_wp2_with fail
          go_ret
          exact ⟨by rw [e.out]; first | rfl | (simp [h40']), hB⟩
      · have h6' : ¬ (p.parts.length : Int) ≤ 6 := by omega
        have e := Lib.hid (boolOf_f (p := shortP p) (fun h => h6 h.2.1))
        go_wp2_with fail
        all_goals go_ret
        all_goals exact ⟨by rw [e.out]; first | rfl | (simp [h6']), hB⟩
def planP (n : Nat) (it : Int) : Prop := n ≤ 6 ∧ (it ≤ 16 ∨ it > 65536)
theorem plan_c (a : Option Addr) (n cap : Nat) (it : Int) (w : World) (_hn : n ≤ 9223372036854775807) : Calls Tryz.prog 32 #[.agg #[.slice a n cap, .int .i64 it]] w fun e w' => e = .returned (.bool (boolOf (planP n it))) ∧ Below w.heap.size w w' := by
  have hB : Below w.heap.size w (w.alloc (.cells #[.slice a n cap, .int .i64 it] 46)) := below_box _ _
  go_enter Tryz.func32, Tryz.ntmps32
  by_cases h1 : n ≤ 6
  · have h1' : (n : Int) ≤ 6 := by omega
    by_cases h2 : it ≤ 16
    · have e := Lib.hid (boolOf_t (p := planP n it) ⟨h1, .inl h2⟩)
      go_wp2_with fail
      all_goals go_ret
      all_goals exact ⟨by rw [e.out]; first | rfl | (simp [h1', h2]), hB⟩
    · by_cases h3 : it > 65536
      · have e := Lib.hid (boolOf_t (p := planP n it) ⟨h1, .inr h3⟩)
        go_wp2_with fail
        all_goals go_ret
        all_goals exact ⟨by rw [e.out]; first | rfl | (simp [h1', h3]), hB⟩
      · have e := Lib.hid (boolOf_f (p := planP n it) (fun h => by rcases h.2 with h | h <;> omega))
        go_wp2_with fail
        all_goals go_ret
        all_goals exact ⟨by rw [e.out]; first | rfl | (simp [h2, h3]), hB⟩
  · have h1' : ¬ (n : Int) ≤ 6 := by omega
    have e := Lib.hid (boolOf_f (p := planP n it) (fun h => h1 h.1))
    go_wp2_with fail
    all_goals go_ret
    all_goals exact ⟨by rw [e.out]; first | rfl | (simp [h1']), hB⟩
/-- The cells of an act. -/
structure ActD where
  kind : Int
  s : Sl
  p : Prin
  o : Sl
  lo : Nat
  n : Sl
  ln : Nat
  now : Int
  life : Int
  pr : Sl
  lp : Nat
  it : Int
  must : Bool
  ks : Sl
  keys : List Key
def actD (x : ActD) : Array Value := #[.int .u8 x.kind, .slice x.s.a x.p.parts.length x.s.cap, .string x.p.realm, .slice x.o.a x.lo x.o.cap, .slice x.n.a x.ln x.n.cap, .int .i64 x.now, .int .i64 x.life, .slice x.pr.a x.lp x.pr.cap, .int .i64 x.it, .bool x.must, .slice x.ks.a x.keys.length x.ks.cap]
structure ActAt (w : World) (x : ActD) : Prop where
  name : PrinAt w x.s x.p
  lo : x.lo ≤ 9223372036854775807
  ln : x.ln ≤ 9223372036854775807
  lp : x.lp ≤ 9223372036854775807
  keys : KeysAt w x.ks.a x.keys
def fitsP (x : ActD) : Prop := (∀ i (h : i < x.keys.length), x.keys[i].bytes.length ≤ 100) ∧ shortP x.p ∧ x.lo ≤ 100 ∧ x.ln ≤ 100 ∧ planP x.lp x.it ∧ x.keys.length ≤ 6
set_option maxRecDepth 100000 in
set_option maxHeartbeats 2000000 in
theorem fits_c (x : ActD) (w : World) (hx : ActAt w x) : Calls Tryz.prog 10 #[.agg (actD x)] w fun e w' => e = .returned (.bool (boolOf (fitsP x))) ∧ Below w.heap.size w w' := by
  have hB : Below w.heap.size w (w.alloc (.cells (actD x) 48)) := below_box _ _
  obtain ⟨hname, hlo, hln, hlp, hkeys⟩ := hx
  have hnk : x.keys.length ≤ 9223372036854775807 := Nat.le_trans hkeys.1 (by unfold lim; omega)
  have HNO := Lib.hid (show ¬ fitsP x → boolOf (fitsP x) = false from boolOf_f)
  have HYES := Lib.hid (show fitsP x → boolOf (fitsP x) = true from boolOf_t)
  obtain ⟨Q, hQ⟩ : ∃ Q, Q = boolOf (fitsP x) := ⟨_, rfl⟩
  rw [← hQ] at HNO HYES ⊢
  clear hQ
  unfold fitsP at HNO HYES
  unfold actD at hB ⊢
  obtain ⟨kd, s, p, o, lo, n, ln, now, life, pr, lp, it, must, ⟨ka, kc⟩, keys⟩ := x
  dsimp only at hname hlo hln hlp hkeys hnk HNO HYES hB ⊢
  have HK := Lib.hid hkeys
  have HN := Lib.hid hname
  clear hkeys hname
  go_enter Tryz.func10, Tryz.ntmps10
  go_wp2_with fail
  go_loop [3] (fun i => ∃ k : Nat, k ≤ keys.length ∧ i = .int .i64 k ∧ Hid (∀ j (h : j < keys.length), j < k → keys[j].bytes.length ≤ 100)) (fun i => keys.length - (intOf i).toNat)
  case atStart => exact ⟨0, Nat.zero_le _, rfl, fun j h hj => absurd hj (Nat.not_lt_zero _)⟩
  case round =>
    obtain ⟨k, hk, rfl, hall⟩ := hrel
    by_cases hlt : k < keys.length
    · obtain ⟨b2, o2, s2, ha2, hq2, hs2⟩ := HK.out.get k hlt
      have hgb2 := row?_lt hq2
      have hy3 : w.cell? ⟨b2, o2 + k * 3 + 2, none⟩ = some (.slice s2.a keys[k].bytes.length s2.cap) := by have := row?_cell hq2 2 (by omega); simpa [go_sem] using this
      have hbl : keys[k].bytes.length ≤ 9223372036854775807 := Nat.le_trans hs2.1 (by unfold lim; omega)
      subst ha2
      by_cases h100 : keys[k].bytes.length ≤ 100
      · have h100' : ¬ (keys[k].bytes.length : Int) > 100 := by omega
        go_wp2_with fail
        go_round
        case rel => exact ⟨k + 1, by omega, by go_num, fun j h hj => by
          rcases Nat.lt_or_ge j k with h1 | h1
          · exact hall.out j h h1
          · obtain rfl : j = k := by omega
            exact h100⟩
        case measure => simp [intOf]; omega
      · have h100' : (keys[k].bytes.length : Int) > 100 := by omega
        have e := Lib.hid (HNO.out (fun h => h100 (h.1 k hlt)))
        go_wp2_with fail
        go_ret
        exact ⟨by rw [e.out]; rfl, hB⟩
    · have hlt' : ¬ (k : Int) < (keys.length : Int) := by omega
      have hA := Lib.hid (show ∀ i (h : i < keys.length), keys[i].bytes.length ≤ 100 from fun i h => hall.out i h (by omega))
      clear hall
      have hrow : row? (w.alloc (.cells #[.int .u8 kd, .slice s.a p.parts.length s.cap, .string p.realm, .slice o.a lo o.cap, .slice n.a ln n.cap, .int .i64 now, .int .i64 life, .slice pr.a lp pr.cap, .int .i64 it, .bool must, .slice ka keys.length kc] 48)) w.heap.size 1 2 = some (prinC s p) := (row?_alloc_at rfl).trans (by kernel_rfl)
      go_wp2_with fail
      refine (short_c s p _ (HN.out.later hB)).mono ?_
      rintro e w1 ⟨rfl, hb1⟩
      have hB1 := below_step hB hb1
      obtain ⟨hcc, hff, hrr⟩ := bcell hb1
      have hsz : w.heap.size < w1.heap.size := by have := hb1.size; simp at this; omega
      by_cases c1 : shortP p
      case neg =>
        have e := Lib.hid (HNO.out (fun h => c1 h.2.1))
        rw [boolOf_f c1]
        go_wp2_with fail
        go_ret
        exact ⟨by rw [e.out]; rfl, hB1⟩
      rw [boolOf_t c1]
      by_cases c2 : lo ≤ 100
      case neg =>
        have c2' : ¬ (lo : Int) ≤ 100 := by omega
        have e := Lib.hid (HNO.out (fun h => c2 h.2.2.1))
        go_wp2_with fail
        go_ret
        exact ⟨by rw [e.out]; first | rfl | simp [c2'], hB1⟩
      have c2' : (lo : Int) ≤ 100 := by omega
      by_cases c3 : ln ≤ 100
      case neg =>
        have c3' : ¬ (ln : Int) ≤ 100 := by omega
        have e := Lib.hid (HNO.out (fun h => c3 h.2.2.2.1))
        go_wp2_with fail
        go_ret
        exact ⟨by rw [e.out]; first | rfl | simp [c3'], hB1⟩
      have c3' : (ln : Int) ≤ 100 := by omega
      go_wp2_with fail
      refine (plan_c _ _ _ _ _ hlp).mono ?_
      rintro e w2 ⟨rfl, hb2⟩
      have hB2 := below_step hB1 hb2
      have hb2' := below_step hb1 hb2
      clear hcc hff hrr hsz
      obtain ⟨hcc, hff, hrr⟩ := bcell hb2'
      have hsz : w.heap.size < w2.heap.size := by have := hb2'.size; simp at this; omega
      by_cases c4 : planP lp it
      case neg =>
        have e := Lib.hid (HNO.out (fun h => c4 h.2.2.2.2.1))
        rw [boolOf_f c4]
        go_wp2_with fail
        go_ret
        exact ⟨by rw [e.out]; rfl, hB2⟩
      rw [boolOf_t c4]
      by_cases c5 : keys.length ≤ 6
      · have c5' : (keys.length : Int) ≤ 6 := by omega
        have e := Lib.hid (HYES.out ⟨hA.out, c1, c2, c3, c4, c5⟩)
        go_wp2_with fail
        go_ret
        exact ⟨by rw [e.out]; first | rfl | simp [c5'], hB2⟩
      · have c5' : ¬ (keys.length : Int) ≤ 6 := by omega
        have e := Lib.hid (HNO.out (fun h => c5 h.2.2.2.2.2))
        go_wp2_with fail
        go_ret
        exact ⟨by rw [e.out]; first | rfl | simp [c5'], hB2⟩
end Go.Proofs.YtpibcnchkndejaaGreatDoor
/- law27.small: some bool. -/
namespace Go.WW
open Go.RowKit
def AnyBool (w : World) (e : Ending) (w' : World) : Prop := (∃ b : Bool, e = .returned (.bool b)) ∧ Below w.heap.size w w'
end Go.WW
namespace Go.Proofs.YtpibcnchkndejaaGreatDoor
open Go.RowKit Go.WW
set_option maxRecDepth 100000 in
set_option maxHeartbeats 2000000 in
theorem small27_c (r : ERaw) (d : Entry) (w : World) (he : EntAt w r d) : Calls Tryz.prog 5 #[.agg (entC r d)] w (AnyBool w) := by
  have hB : Below w.heap.size w (w.alloc (.cells (entC r d) 31)) := below_box _ _
  have hn : d.keys.length ≤ 4294967000 := he.keys.1
  have l1 : d.aliases.length ≤ 4294967000 := he.aliases.1
  have l2 : d.targets.length ≤ 4294967000 := he.targets.1
  have l3 : d.delegates.length ≤ 4294967000 := he.delegates.1
  have l4 : d.history.length ≤ 4294967000 := he.history.1
  have HK := Lib.hid he.keys
  have HN := Lib.hid he.name
  clear he
  have yes : ∀ b w', Below w.heap.size w w' → AnyBool w (.returned (.bool b)) w' := fun b w' h => ⟨⟨b, rfl⟩, h⟩
  have YES := Lib.hid yes
  clear yes
  go_enter Tryz.func5, Tryz.ntmps5
  go_wp2_with fail
  go_loop [3] (fun i => ∃ k : Nat, k ≤ d.keys.length ∧ i = .int .i64 k) (fun i => d.keys.length - (intOf i).toNat)
  case atStart => exact ⟨0, Nat.zero_le _, rfl⟩
  case round =>
    obtain ⟨k, hk, rfl⟩ := hrel
    by_cases hlt : k < d.keys.length
    · have hltI : (k : Int) < (d.keys.length : Int) := by omega
      obtain ⟨b2, o2, s2, ha2, hq2, hs2⟩ := HK.out.get k hlt
      have hgb2 := row?_lt hq2
      have hy1 : w.cell? ⟨b2, o2 + k * 5 + 1, none⟩ = some (.slice s2.a d.keys[k].keys.length s2.cap) := by have := row?_cell hq2 1 (by omega); simpa [go_sem] using this
      have hy2 : w.cell? ⟨b2, o2 + k * 5 + 2, none⟩ = some (.string d.keys[k].salt) := by have := row?_cell hq2 2 (by omega); simpa [go_sem] using this
      have hy3 : w.cell? ⟨b2, o2 + k * 5 + 3, none⟩ = some (.int .i64 d.keys[k].iterations) := by have := row?_cell hq2 3 (by omega); simpa [go_sem] using this
      generalize d.keys[k] = K at *
      have e0 : k = 0 → ∀ j, o2 + k * 5 + j = o2 + j := fun h j => by subst h; omega
      have hz1 : k = 0 → w.cell? ⟨b2, o2 + 1, none⟩ = some (.slice s2.a K.keys.length s2.cap) := fun h => by have := e0 h 1; rw [this] at hy1; exact hy1
      have hz2 : k = 0 → w.cell? ⟨b2, o2 + 2, none⟩ = some (.string K.salt) := fun h => by have := e0 h 2; rw [this] at hy2; exact hy2
      have hz3 : k = 0 → w.cell? ⟨b2, o2 + 3, none⟩ = some (.int .i64 K.iterations) := fun h => by have := e0 h 3; rw [this] at hy3; exact hy3
      clear e0
      have hkl : K.keys.length ≤ 4294967000 := hs2.1.1
      have hsl : K.salt.size ≤ 4294967000 := hs2.2
      have HS := Lib.hid hs2
      clear hs2 hq2
      by_cases q1 : K.keys.length ≤ 3
      case neg =>
        have q1' : ((K.keys.length : Int) > 3) := by omega
        go_wp2_with fail
        go_ret
        exact YES.out _ _ hB
      have q1' : ¬ ((K.keys.length : Int) > 3) := by omega
      by_cases q2 : K.salt.size ≤ 300
      case neg =>
        have q2' : ((K.salt.size : Int) > 300) := by omega
        go_wp2_with fail
        go_ret
        exact YES.out _ _ hB
      have q2' : ¬ ((K.salt.size : Int) > 300) := by omega
      go_wp2_with fail
      all_goals first
        | (go_ret; exact YES.out _ _ hB)
        | skip
      all_goals
        go_loop [4] (fun i => ∃ m : Nat, m ≤ K.keys.length ∧ i = .int .i64 m) (fun i => K.keys.length - (intOf i).toNat)
        case atStart => exact ⟨0, Nat.zero_le _, rfl⟩
        case round =>
          obtain ⟨m, hm, rfl⟩ := hrel
          by_cases hmt : m < K.keys.length
          · obtain ⟨b3, o3, s3, ha3, hq3, hs3⟩ := HS.out.1.get m hmt
            have hgb3 := row?_lt hq3
            have hz : w.cell? ⟨b3, o3 + m * 3 + 2, none⟩ = some (.slice s3.a K.keys[m].bytes.length s3.cap) := by have := row?_cell hq3 2 (by omega); simpa [go_sem] using this
            have hbl : K.keys[m].bytes.length ≤ 4294967000 := hs3.1
            have hmI : (m : Int) < (K.keys.length : Int) := by omega
            rw [ha3] at hy1 hz1
            clear hq3 hs3
            go_wp2_with fail
            all_goals first
              | (go_ret; exact YES.out _ _ hB)
              | (go_round
                 case rel => exact ⟨m + 1, by omega, by go_num⟩
                 case measure => simp [intOf]; omega)
          · have hmI : ¬ (m : Int) < (K.keys.length : Int) := by omega
            go_wp2_with fail
            go_round
            case rel => exact ⟨k + 1, by omega, by go_num⟩
            case measure => simp [intOf]; omega
    · have hltI : ¬ (k : Int) < (d.keys.length : Int) := by omega
      go_wp2_with fail
      refine (short_c _ _ _ (HN.out.later hB)).mono ?_
      rintro e w1 ⟨rfl, hb1⟩
      have hB1 := below_step hB hb1
      obtain ⟨hcc, hff, hrr⟩ := bcell hb1
      have hsz : w.heap.size < w1.heap.size := by have := hb1.size; simp at this; omega
      generalize boolOf (shortP d.name) = c1
      cases c1
      · go_wp2_with fail
        go_ret
        exact YES.out _ _ hB1
      · go_wp2_with fail
        all_goals go_ret
        all_goals exact YES.out _ _ hB1
end Go.Proofs.YtpibcnchkndejaaGreatDoor
