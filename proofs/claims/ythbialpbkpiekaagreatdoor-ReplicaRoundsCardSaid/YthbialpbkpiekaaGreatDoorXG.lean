/- math/bits.RotateLeft32 and sha.turned. -/
import Derived.Test.YthbialpbkpiekaaGreatDoorXC
import Derived.Shelf.LaysM
import Derived.Shelf.Strings.OnBuilder
import Derived.Shelf.Strings.Shaped
import Derived.Test.YthbialpbkpiekaaGreatDoorProg
import Derived.Test.YthbialpbkpiekaaGreatDoorXA
import Derived.Shelf.SlMaps.Clone
import Derived.Laws.Externs
import Derived.Test.YthbialpbkpiekaaGreatDoorKB
import Derived.Lib.LaidTab
namespace Go.WW
open Go.RowKit
def rotF (x : Int) (n : Nat) : Int := bits .or .u32 (x * 2 ^ n % 4294967296) (x / 2 ^ (32 - n))
def turnF (x : Int) (ps : List Nat) : Int := ps.foldl (fun y p => bits .xor .u32 y (rotF x (32 - p))) 0
theorem turnF_step (x : Int) (ps : List Nat) (k : Nat) (h : k < ps.length) : turnF x (ps.take (k + 1)) = bits .xor .u32 (turnF x (ps.take k)) (rotF x (32 - ps[k])) := by
  unfold turnF
  rw [List.take_succ_eq_append_getElem h, List.foldl_append]; rfl
theorem negs31 : ∀ p : Fin 31, bits .and .u64 (IntKind.u64.wrap (-((p.val : Int) + 1))) 31 = ((31 - p.val : Nat) : Int) := by decide +kernel
theorem negs (p : Nat) (h : 1 ≤ p ∧ p ≤ 31) : bits .and .u64 (IntKind.u64.wrap (-(p : Int))) 31 = ((32 - p : Nat) : Int) := by
  have := negs31 ⟨p - 1, by omega⟩
  have e : ((p - 1 : Nat) : Int) + 1 = (p : Int) := by omega
  simp only [e] at this
  rw [this]; congr 1; omega
end Go.WW
namespace Go.Proofs.YthbialpbkpiekaaGreatDoor
open Go.RowKit Go.WW
theorem rot_c (x k : Int) (n : Nat) (hn : n ≤ 31) (hk : bits .and .u64 (IntKind.u64.wrap k) 31 = (n : Int)) (w : World) : Calls Tryz.prog 143 #[.int .u32 x, .int .i64 k] w fun e w' => e = .returned (.int .u32 (rotF x n)) ∧ w = w' := by
  have h0 : (0 : Int) ≤ (n : Int) := by omega
  have h1 : (n : Int) ≤ 32 := by omega
  have h2 : (0 : Int) ≤ 32 - (n : Int) := by omega
  have h3 : (32 : Int) - (n : Int) ≤ 32 := by omega
  go_enter Tryz.func143, Tryz.ntmps143
  go_wp2
  go_ret
  exact ⟨rfl, rfl⟩
set_option maxHeartbeats 1000000 in
theorem turned_c (x : Int) (b o cap : Nat) (ps : List Nat) (hp : ∀ p ∈ ps, 1 ≤ p ∧ p ≤ 31) (hl : ps.length ≤ 64) (w : World) (hc : ∀ i (h : i < ps.length), w.cell? ⟨b, o + i, none⟩ = some (.int .i64 (ps[i] : Nat))) :
    Calls Tryz.prog 88 #[.int .u32 x, .slice (some ⟨b, o, none⟩) ps.length cap] w fun e w' => e = .returned (.int .u32 (turnF x ps)) ∧ w = w' := by
  have HC := Lib.hid hc
  have HP := Lib.hid hp
  clear hc hp
  go_enter Tryz.func88, Tryz.ntmps88
  go_wp2_with fail
  go_loop [4, 9] (fun y i => ∃ k : Nat, k ≤ ps.length ∧ i = .int .i64 k ∧ y = .int .u32 (turnF x (ps.take k))) (fun _ i => ps.length - (intOf i).toNat)
  case atStart => exact ⟨0, Nat.zero_le _, rfl, rfl⟩
  case round =>
    obtain ⟨k, hk, rfl, rfl⟩ := hrel
    by_cases hlt : k < ps.length
    · have hcell := HC.out k hlt
      have hpk := HP.out ps[k] (List.getElem_mem hlt)
      have HS := Lib.hid (turnF_step x ps k hlt)
      have hgb : b < w.heap.size := World.block_lt_of_cell? w _ hcell
      have HN := Lib.hid (negs ps[k] hpk)
      go_wp2_with (go_at_call 143; refine (rot_c _ _ (32 - ps[k]) (by omega) HN.out _).mono ?_; rintro e w' ⟨rfl, rfl⟩)
      go_round
      case rel => exact ⟨k + 1, by omega, by go_num, by rw [HS.out]⟩
      case measure => simp [intOf]; omega
    · have HE := Lib.hid (show turnF x (ps.take k) = turnF x ps by rw [List.take_of_length_le (by omega)])
      go_wp2_with fail
      go_ret
      exact ⟨by rw [← HE.out]; rfl, rfl⟩
end Go.Proofs.YthbialpbkpiekaaGreatDoor
/- The choice of sha's add. -/
namespace Go.Proofs.YthbialpbkpiekaaGreatDoor
open Go.RowKit Go.WW
theorem choice_c (x y z : Int) (w : World) : Calls Tryz.prog 89 #[.int .u32 x, .int .u32 y, .int .u32 z] w fun e w' => e = .returned (.int .u32 (bits .xor .u32 (bits .and .u32 x y) (bits .and .u32 (bits .xor .u32 IntKind.u32.max x) z))) ∧ w = w' := by
  go_enter Tryz.func89, Tryz.ntmps89
  go_wp2
  go_ret
  exact ⟨rfl, rfl⟩
end Go.Proofs.YthbialpbkpiekaaGreatDoor
/- strings.Join and stringslite.Index, laid by the shelf's own program. -/
namespace Go.Proofs
open Go.Shelf
def Tryz.lays156_ren : Go.Shelf.Ren := ⟨fun | 156 => 170 | 165 => 213 | 166 => 214 | 169 => 215 | 240 => 262 | 241 => 263 | 276 => 328 | 277 => 329 | n => n, fun | 31 => 35 | 9 => 9 | 3 => 3 | 4 => 4 | 0 => 0 | 20 => 20 | 72 => 283 | 76 => 253 | 70 => 281 | 37 => 57 | 75 => 252 | 127 => 335 | 164 => 384 | 5 => 5 | 80 => 79 | n => n, fun | n => n⟩
theorem Tryz.lays156 : Go.Proofs.Lays.n156 Tryz.prog Tryz.lays156_ren := {
  mixed := by kernel_rfl
  f156 := Tryz.func170.trans (congrArg some (by kernel_rfl))
  f165 := Tryz.func213.trans (congrArg some (by kernel_rfl))
  f166 := Tryz.func214.trans (congrArg some (by kernel_rfl))
  f169 := Tryz.func215.trans (congrArg some (by kernel_rfl))
  f240 := Tryz.func262.trans (congrArg some (by kernel_rfl))
  f241 := Tryz.func263.trans (congrArg some (by kernel_rfl))
  f276 := Tryz.func328.trans (congrArg some (by kernel_rfl))
  f277 := Tryz.func329.trans (congrArg some (by kernel_rfl))
  t0 := Tryz.underlying0
  a0 := Tryz.isAgg0
  z0 := Tryz.sizeOf0
  v0 := Tryz.zeroValue0
  t3 := Tryz.underlying3
  a3 := Tryz.isAgg3
  z3 := Tryz.sizeOf3
  v3 := Tryz.zeroValue3
  t4 := Tryz.underlying4
  a4 := Tryz.isAgg4
  z4 := Tryz.sizeOf4
  v4 := Tryz.zeroValue4
  t9 := Tryz.underlying9
  a9 := Tryz.isAgg9
  z9 := Tryz.sizeOf9
  v9 := Tryz.zeroValue9
  t20 := Tryz.underlying20
  a20 := Tryz.isAgg20
  z20 := Tryz.sizeOf20
  v20 := Tryz.zeroValue20
  t31 := Tryz.underlying35
  a31 := Tryz.isAgg35
  z31 := Tryz.sizeOf35
  v31 := Tryz.zeroValue35
  t37 := Tryz.underlying57
  a37 := Tryz.isAgg57
  z37 := Tryz.sizeOf57
  v37 := Tryz.zeroValue57
  t70 := Tryz.underlying281
  a70 := Tryz.isAgg281
  z70 := Tryz.sizeOf281
  v70 := Tryz.zeroValue281
  t72 := Tryz.underlying283
  a72 := Tryz.isAgg283
  z72 := Tryz.sizeOf283
  v72 := Tryz.zeroValue283
  t75 := Tryz.underlying252
  a75 := Tryz.isAgg252
  z75 := Tryz.sizeOf252
  v75 := Tryz.zeroValue252
  t76 := Tryz.underlying253
  a76 := Tryz.isAgg253
  z76 := Tryz.sizeOf253
  v76 := Tryz.zeroValue253
  t127 := Tryz.underlying335
  a127 := Tryz.isAgg335
  z127 := Tryz.sizeOf335
  v127 := Tryz.zeroValue335
  t164 := Tryz.underlying384
  a164 := Tryz.isAgg384
  z164 := Tryz.sizeOf384
  v164 := Tryz.zeroValue384 }
theorem Tryz.Builder_Extra_156 : Builder.Extra Tryz.prog Tryz.lays156_ren := {
  sizeBuilder := by kernel_rfl
  liesBuilder := by kernel_rfl
  t5 := Tryz.underlying5
  a5 := Tryz.isAgg5
  z5 := Tryz.sizeOf5
  v5 := Tryz.zeroValue5
  infoByte := by kernel_rfl
  cellsByte := by kernel_rfl
  sizeByte := by kernel_rfl
  neB5 := by decide }
open Go.RowKit in
/-- strings.Join: "Join concatenates the elements of its first argument to create a single string. The separator string sep is placed between elements in the resulting string.": HOWEVER MANY ELEMENTS. Below the heap's end the world is as it was. (LAID: no walk: one application.) -/
theorem Tryz.strings_Join (bk o c : Nat) (xs : List ByteArray) (sep : ByteArray) (w : World) (hcells : ∀ (j : Nat) x, xs[j]? = some x → w.cell? ⟨bk, o + j, none⟩ = some (.string x)) (hbk : bk < w.heap.size) (hN : xs.length ≤ 140737488355328) (hcap : xs.length ≤ c) (hlen : (Lib.join (xs.map (·.data.toList)) sep.data.toList).length ≤ 140737488355328) :
    Calls Tryz.prog 170 #[.slice (some ⟨bk, o, none⟩) xs.length c, .string sep] w fun e w' => e = .returned (.string ⟨(Lib.join (xs.map (·.data.toList)) sep.data.toList).toArray⟩) ∧ Below w.heap.size w w' := Any.strings_Join Tryz.lays156 Tryz.Builder_Extra_156 bk o c xs sep w hcells hbk hN hcap hlen
def Tryz.laysM219_ren : Go.Shelf.Ren := ⟨fun | 219 => 209 | 217 => 248 | 225 => 249 | 224 => 250 | 267 => 251 | 266 => 321 | 314 => 322 | n => n, fun | 9 => 9 | 3 => 3 | 4 => 4 | 5 => 5 | 46 => 161 | 146 => 377 | 51 => 39 | n => n, fun | 1 => 2 | n => n⟩
theorem Tryz.laysM219 : Go.Proofs.LaysM.n219 Tryz.prog Tryz.laysM219_ren := {
  mixed := by kernel_rfl
  f217 := Tryz.func248.trans (congrArg some (by kernel_rfl))
  f219 := Tryz.func209.trans (congrArg some (by kernel_rfl))
  f224 := Tryz.func250.trans (congrArg some (by kernel_rfl))
  f225 := Tryz.func249.trans (congrArg some (by kernel_rfl))
  f266 := Tryz.func321.trans (congrArg some (by kernel_rfl))
  f267 := Tryz.func251.trans (congrArg some (by kernel_rfl))
  f314 := Tryz.func322.trans (congrArg some (by kernel_rfl))
  t3 := Tryz.underlying3
  a3 := Tryz.isAgg3
  z3 := Tryz.sizeOf3
  v3 := Tryz.zeroValue3
  t4 := Tryz.underlying4
  a4 := Tryz.isAgg4
  z4 := Tryz.sizeOf4
  v4 := Tryz.zeroValue4
  t5 := Tryz.underlying5
  a5 := Tryz.isAgg5
  z5 := Tryz.sizeOf5
  v5 := Tryz.zeroValue5
  t9 := Tryz.underlying9
  a9 := Tryz.isAgg9
  z9 := Tryz.sizeOf9
  v9 := Tryz.zeroValue9
  t46 := Tryz.underlying161
  a46 := Tryz.isAgg161
  z46 := Tryz.sizeOf161
  v46 := Tryz.zeroValue161
  t51 := Tryz.underlying39
  a51 := Tryz.isAgg39
  z51 := Tryz.sizeOf39
  v51 := Tryz.zeroValue39
  t146 := Tryz.underlying377
  a146 := Tryz.isAgg377
  z146 := Tryz.sizeOf377
  v146 := Tryz.zeroValue377
  g1 := by kernel_rfl
  i3 := by kernel_rfl
  i4 := by kernel_rfl
  i5 := by kernel_rfl
  i9 := by kernel_rfl
  i46 := by kernel_rfl
  i51 := by kernel_rfl
  i146 := by kernel_rfl
  m1 := by kernel_rfl
  s1_3 := fun w h => Go.Proofs.cell_of_shapedOpen_int (zero := #[.int .i64 0]) (t := 3) h (of_decide_eq_true (by kernel_rfl)) (by kernel_rfl) rfl (by kernel_rfl) (by kernel_rfl) Tryz.underlying3 }
open Go.RowKit Go.Lib in
theorem Tryz.stringslite_Index_shaped (s sub : ByteArray) (w : World) (h : w.ShapedOpen Tryz.prog) (hs : s.size < 4294967281) :
    Calls Tryz.prog 209 #[.string s, .string sub] w fun e w' => e = .returned (.int .i64 (Lib.index s.data.toList sub.data.toList)) ∧ w' = w := Any.stringslite_Index_shaped Tryz.laysM219 s sub w h hs
end Go.Proofs
/- maps.Clone at the three maps of a database. -/
namespace Go.Proofs
open Go.RowKit
set_option maxRecDepth 100000 in
set_option maxHeartbeats 2000000 in
theorem Tryz.cloneS (b : Nat) (es : Array MapEntry) (clock : Nat) (w : World) (hb : w.heap[b]? = some (.map es clock)) :
    Calls Tryz.prog 125 #[.map (some b)] w fun e w' => e = .returned (.map (some w.heap.size)) ∧ w' = w.alloc (.map es clock) := by
  have hq := fun w => run_eql_map_nil_sl (P := Tryz.prog) w 108 _ _ (some b) Tryz.underlying108
  go_enter Tryz.func125, Tryz.ntmps125
  go_wp2
  rw [run_callFunc_extern Tryz.func164 (by kernel_rfl) (by kernel_rfl) (by kernel_rfl) (e := Extern.MapsClone.clone) (by kernel_rfl), run_maps_clone_sl w 108 hb]
  simp only [Result.andThen]
  rw [Oper.upon_value]
  go_wp2
  rw [run_typeAssert_map_sl _ 108 20 _ _ _ Tryz.underlying108]
  simp only [Result.andThen]
  rw [Oper.upon_value]
  go_wp2
  go_ret
  exact ⟨rfl, rfl⟩
set_option maxRecDepth 100000 in
set_option maxHeartbeats 2000000 in
theorem Tryz.cloneE (b : Nat) (es : Array MapEntry) (clock : Nat) (w : World) (hb : w.heap[b]? = some (.map es clock)) :
    Calls Tryz.prog 126 #[.map (some b)] w fun e w' => e = .returned (.map (some w.heap.size)) ∧ w' = w.alloc (.map es clock) := by
  have hq := fun w => run_eql_map_nil_sl (P := Tryz.prog) w 109 _ _ (some b) Tryz.underlying109
  go_enter Tryz.func126, Tryz.ntmps126
  go_wp2
  rw [run_callFunc_extern Tryz.func164 (by kernel_rfl) (by kernel_rfl) (by kernel_rfl) (e := Extern.MapsClone.clone) (by kernel_rfl), run_maps_clone_sl w 109 hb]
  simp only [Result.andThen]
  rw [Oper.upon_value]
  go_wp2
  rw [run_typeAssert_map_sl _ 109 20 _ _ _ Tryz.underlying109]
  simp only [Result.andThen]
  rw [Oper.upon_value]
  go_wp2
  go_ret
  exact ⟨rfl, rfl⟩
set_option maxRecDepth 100000 in
set_option maxHeartbeats 2000000 in
theorem Tryz.cloneP (b : Nat) (es : Array MapEntry) (clock : Nat) (w : World) (hb : w.heap[b]? = some (.map es clock)) :
    Calls Tryz.prog 127 #[.map (some b)] w fun e w' => e = .returned (.map (some w.heap.size)) ∧ w' = w.alloc (.map es clock) := by
  have hq := fun w => run_eql_map_nil_sl (P := Tryz.prog) w 110 _ _ (some b) Tryz.underlying110
  go_enter Tryz.func127, Tryz.ntmps127
  go_wp2
  rw [run_callFunc_extern Tryz.func164 (by kernel_rfl) (by kernel_rfl) (by kernel_rfl) (e := Extern.MapsClone.clone) (by kernel_rfl), run_maps_clone_sl w 110 hb]
  simp only [Result.andThen]
  rw [Oper.upon_value]
  go_wp2
  rw [run_typeAssert_map_sl _ 110 20 _ _ _ Tryz.underlying110]
  simp only [Result.andThen]
  rw [Oper.upon_value]
  go_wp2
  go_ret
  exact ⟨rfl, rfl⟩
end Go.Proofs
/- law30.known returns true. -/
namespace Go.MiniT
open Go Go.Mini
abbrev noOpq : Opq := opqOf [] (fun _ h => by cases h)
theorem blocks_facts : ∀ p ∈ blocksT, AddFact p.1 p.2.1 p.2.2 := by
  unfold blocksT
  intro p hp
  simp only [List.mem_cons, List.not_mem_nil, or_false] at hp
  rcases hp with rfl | rfl | rfl | rfl | rfl | rfl | rfl | rfl | rfl | rfl | rfl | rfl | rfl | rfl | rfl | rfl
  · exact a0
  · exact a1
  · exact a2
  · exact a3
  · exact a4
  · exact a5
  · exact a6
  · exact a7
  · exact a8
  · exact a9
  · exact a10
  · exact a11
  · exact a12
  · exact a13
  · exact a14
  · exact a15
end Go.MiniT
namespace Go.Proofs.YthbialpbkpiekaaGreatDoor
open Go.RowKit Go.WW Go.Mini Go.MiniT
theorem join_c : JoinC Tryz.prog 170 := fun bk o c xs sep w h1 h2 h3 h4 h5 => Tryz.strings_Join bk o c xs sep w h1 h2 h3 h4 h5
theorem turn_is : TurnC := fun x b o cap ps hp hl w' hc => turned_c x b o cap ps hp hl w' hc
theorem choice_is : ChoiceC := fun x y z w => choice_c x y z w
/-- What the variables that are read hold. -/
structure VarsAt (w : World) : Prop where
  s0 : w.heap[shaT.s0]? = some (.cells ((shaT.l0.map fun (n : Nat) => Value.int .u32 n).toArray) shaT.t0 (0, 0))
  s1 : w.heap[shaT.s1]? = some (.cells ((shaT.l1.map fun (n : Nat) => Value.int .u32 n).toArray) shaT.t1 (0, 0))
  max : ∃ m : Int, w.cell? ⟨2, 0, none⟩ = some (.int .i64 m)
theorem VarsAt.kept {W w : World} (h : VarsAt W) (hb : Below W.heap.size W w) : VarsAt w := by
  obtain ⟨h0, h1, m, hm⟩ := h
  refine ⟨?_, ?_, m, ?_⟩
  · rw [hb.block _ (Array.getElem?_eq_some_iff.1 h0).1]; exact h0
  · rw [hb.block _ (Array.getElem?_eq_some_iff.1 h1).1]; exact h1
  · have hlt := World.block_lt_of_cell? W _ hm
    rw [hb.cell (p := ⟨2, 0, none⟩) hlt]; exact hm
theorem index_c {W : World} (h : VarsAt W) (s t : ByteArray) (w : World) (hb : Kept (· < W.heap.size) W w) (hs : s.size < 4294967281) :
    Calls Tryz.prog 209 #[.string s, .string t] w (fun e w' => e = .returned (.int .i64 (Lib.index s.data.toList t.data.toList)) ∧ w' = w) := by
  obtain ⟨m, hm⟩ := (h.kept hb.below).max
  exact Any.stringslite_Index { Tryz.laysM219 with } s t m w hs hm
theorem inner_ok [O : Opq] (w : World) (h : VarsAt w) (hW : ∀ k, k < w.heap.size → k < w.heap.size) : OrcOk innerE Tryz.prog (· < w.heap.size) w :=
  orcOk_of (orcIs_or (orcAdd_ok turn_is choice_is blocks_facts rfl hW) (orcIs_or (orcPolicies_ok hW) (orcIs_or (orcJoin_ok hW join_c) (orcIs_or (orcIndex_ok hW (fun s t w1 hb hs => index_c h s t w1 hb hs)) (orcIs_or (orcClone_ok hW Tryz.cloneS) (orcIs_or (orcClone_ok hW Tryz.cloneE) (orcClone_ok hW Tryz.cloneP)))))))
theorem known_c (w : World) (h : VarsAt w) : Calls Tryz.prog 5 #[] w fun e w' => e = .returned (.bool true) ∧ Below w.heap.size w w' := by
  letI O : Opq := noOpq
  have hW : ∀ k, k < w.heap.size → k < w.heap.size := fun _ hk => hk
  have hI := inner_ok w h hW
  have hE : EnvOk innerE Tryz.prog := envW 40 innerO
  have hO : OrcOk knownE Tryz.prog (· < w.heap.size) w :=
    orcOk_of (orcIs_or hI (orcIs_or (orcTakeErr_ok (E := innerE) hE hW) (orcIs_or (orcTake_ok hE hI hW takeBy2) (orcTake_ok hE hI hW takeBy3))))
  have hS := startOk_sha (G := knownE.G) shaT (w := w) (show 10 ≤ 40 by omega) (show shaT.s0 < 10 by decide) (show shaT.s1 < 10 by decide) (f0 := (0, 0)) (f1 := (0, 0)) rfl rfl h.s0 h.s1
  have hl := law_of (envW 40 knownO) hO hS (args := []) (by simp only [wfs]) known_run
  simp only [embs] at hl
  exact hl
end Go.Proofs.YthbialpbkpiekaaGreatDoor
