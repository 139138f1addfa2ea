/- The calls of derive.Password and derive.KDF: contracts. -/
import Derived.Test.YtpibcnchkndejaaGreatDoorKA
import Derived.Laws.Externs
import Derived.Shelf.LaysM
import Derived.Shelf.Strings.OnBuilder
import Derived.Shelf.Strings.Shaped
import Derived.Test.YtpibcnchkndejaaGreatDoorProg
namespace Go.MiniT
open Go Go.Mini
abbrev noOpq : Opq := opqOf [] (fun _ h => by cases h)
theorem p0f : ∀ p ∈ p0t, AddFact p.1 p.2.1 p.2.2 := by
  intro p hp
  simp only [p0t, List.mem_cons, List.not_mem_nil, or_false] at hp
  rcases hp with rfl | rfl | rfl | rfl | rfl | rfl | rfl | rfl | rfl | rfl
  · exact a0
  · exact a1
  · exact a2
  · exact a3
  · exact a4
  · exact a5
  · exact a6
  · exact a7
  · exact a8
  · exact a9
theorem p0c (hT : TurnC) (hC : ChoiceC) : FnC Go.Proofs.Tryz.prog 143 [p0x, p0y] [.int .i64 4, .int .i64 16] p0o :=
  letI O : Opq := noOpq
  fact_c (E := p0E) (tail := [.int .i64 4, .int .i64 16]) (envW _ _) rfl (fun _ => orcAdd_ok hT hC p0f rfl (fun _ hk => hk)) (by decide) (by decide) (by decide) (fun _ _ => by simp only [wfs, wf, and_self]) (fun _ => by simp only [embs, emb]) p0r
theorem p1f : ∀ p ∈ p1t, AddFact p.1 p.2.1 p.2.2 := by
  intro p hp
  simp only [p1t, List.mem_cons, List.not_mem_nil, or_false] at hp
  rcases hp with rfl | rfl | rfl | rfl
  · exact a10
  · exact a11
  · exact a12
  · exact a13
theorem p1c (hT : TurnC) (hC : ChoiceC) : FnC Go.Proofs.Tryz.prog 144 [p1x, p1y] [.slice none 0 0, .int .i64 16] p1o :=
  letI O : Opq := noOpq
  fact_c (E := p1E) (tail := [.nilS, .int .i64 16]) (envW _ _) rfl (fun _ => orcAdd_ok hT hC p1f rfl (fun _ hk => hk)) (by decide) (by decide) (by decide) (fun _ _ => by simp only [wfs, wf, and_self]) (fun _ => by simp only [embs, emb]) p1r
theorem p2f : ∀ p ∈ p2t, AddFact p.1 p.2.1 p.2.2 := by
  intro p hp
  simp only [p2t, List.mem_cons, List.not_mem_nil, or_false] at hp
  rcases hp with rfl | rfl | rfl | rfl | rfl | rfl | rfl | rfl | rfl | rfl
  · exact a14
  · exact a15
  · exact a16
  · exact a17
  · exact a18
  · exact a19
  · exact a20
  · exact a21
  · exact a22
  · exact a23
theorem p2c (hT : TurnC) (hC : ChoiceC) : FnC Go.Proofs.Tryz.prog 143 [p2x, p2y] [.int .i64 4, .int .i64 16] p2o :=
  letI O : Opq := noOpq
  fact_c (E := p2E) (tail := [.int .i64 4, .int .i64 16]) (envW _ _) rfl (fun _ => orcAdd_ok hT hC p2f rfl (fun _ hk => hk)) (by decide) (by decide) (by decide) (fun _ _ => by simp only [wfs, wf, and_self]) (fun _ => by simp only [embs, emb]) p2r
theorem p3f : ∀ p ∈ p3t, AddFact p.1 p.2.1 p.2.2 := by
  intro p hp
  simp only [p3t, List.mem_cons, List.not_mem_nil, or_false] at hp
  rcases hp with rfl | rfl | rfl | rfl
  · exact a24
  · exact a25
  · exact a26
  · exact a27
theorem p3c (hT : TurnC) (hC : ChoiceC) : FnC Go.Proofs.Tryz.prog 144 [p3x, p3y] [.slice none 0 0, .int .i64 16] p3o :=
  letI O : Opq := noOpq
  fact_c (E := p3E) (tail := [.nilS, .int .i64 16]) (envW _ _) rfl (fun _ => orcAdd_ok hT hC p3f rfl (fun _ hk => hk)) (by decide) (by decide) (by decide) (fun _ _ => by simp only [wfs, wf, and_self]) (fun _ => by simp only [embs, emb]) p3r
theorem p4f : ∀ p ∈ p4t, AddFact p.1 p.2.1 p.2.2 := by
  intro p hp
  simp only [p4t, List.mem_cons, List.not_mem_nil, or_false] at hp
  rcases hp with rfl | rfl | rfl | rfl | rfl | rfl | rfl | rfl | rfl | rfl | rfl | rfl | rfl | rfl | rfl | rfl | rfl | rfl | rfl | rfl | rfl | rfl | rfl | rfl | rfl | rfl | rfl | rfl | rfl | rfl | rfl | rfl | rfl | rfl
  · exact a14
  · exact a28
  · exact a16
  · exact a29
  · exact a30
  · exact a31
  · exact a32
  · exact a33
  · exact a34
  · exact a35
  · exact a36
  · exact a37
  · exact a38
  · exact a39
  · exact a40
  · exact a41
  · exact a42
  · exact a43
  · exact a44
  · exact a45
  · exact a46
  · exact a47
  · exact a48
  · exact a49
  · exact a50
  · exact a51
  · exact a52
  · exact a53
  · exact a54
  · exact a55
  · exact a56
  · exact a57
  · exact a58
  · exact a59
theorem p4c (hT : TurnC) (hC : ChoiceC) : FnC Go.Proofs.Tryz.prog 143 [p4x, p4y] [.int .i64 16, .int .i64 16] p4o :=
  letI O : Opq := noOpq
  fact_c (E := p4E) (tail := [.int .i64 16, .int .i64 16]) (envW _ _) rfl (fun _ => orcAdd_ok hT hC p4f rfl (fun _ hk => hk)) (by decide) (by decide) (by decide) (fun _ _ => by simp only [wfs, wf, and_self]) (fun _ => by simp only [embs, emb]) p4r
theorem p5f : ∀ p ∈ p5t, AddFact p.1 p.2.1 p.2.2 := by
  intro p hp
  simp only [p5t, List.mem_cons, List.not_mem_nil, or_false] at hp
  rcases hp with rfl | rfl | rfl | rfl | rfl | rfl | rfl | rfl | rfl | rfl | rfl | rfl | rfl | rfl | rfl | rfl | rfl | rfl | rfl | rfl | rfl | rfl | rfl | rfl | rfl | rfl | rfl | rfl | rfl | rfl | rfl | rfl | rfl | rfl
  · exact a0
  · exact a60
  · exact a2
  · exact a61
  · exact a62
  · exact a63
  · exact a64
  · exact a65
  · exact a66
  · exact a67
  · exact a68
  · exact a69
  · exact a70
  · exact a71
  · exact a72
  · exact a73
  · exact a74
  · exact a75
  · exact a76
  · exact a77
  · exact a78
  · exact a79
  · exact a80
  · exact a81
  · exact a82
  · exact a83
  · exact a84
  · exact a85
  · exact a86
  · exact a87
  · exact a88
  · exact a89
  · exact a90
  · exact a91
theorem p5c (hT : TurnC) (hC : ChoiceC) : FnC Go.Proofs.Tryz.prog 143 [p5x, p5y] [.int .i64 16, .int .i64 16] p5o :=
  letI O : Opq := noOpq
  fact_c (E := p5E) (tail := [.int .i64 16, .int .i64 16]) (envW _ _) rfl (fun _ => orcAdd_ok hT hC p5f rfl (fun _ hk => hk)) (by decide) (by decide) (by decide) (fun _ _ => by simp only [wfs, wf, and_self]) (fun _ => by simp only [embs, emb]) p5r
theorem p6f : ∀ p ∈ p6t, AddFact p.1 p.2.1 p.2.2 := by
  intro p hp
  simp only [p6t, List.mem_cons, List.not_mem_nil, or_false] at hp
  rcases hp with rfl | rfl | rfl | rfl | rfl | rfl | rfl | rfl | rfl | rfl
  · exact a92
  · exact a93
  · exact a94
  · exact a95
  · exact a96
  · exact a97
  · exact a98
  · exact a99
  · exact a100
  · exact a101
theorem p6c (hT : TurnC) (hC : ChoiceC) : FnC Go.Proofs.Tryz.prog 143 [p6x, p6y] [.int .i64 4, .int .i64 16] p6o :=
  letI O : Opq := noOpq
  fact_c (E := p6E) (tail := [.int .i64 4, .int .i64 16]) (envW _ _) rfl (fun _ => orcAdd_ok hT hC p6f rfl (fun _ hk => hk)) (by decide) (by decide) (by decide) (fun _ _ => by simp only [wfs, wf, and_self]) (fun _ => by simp only [embs, emb]) p6r
theorem p7f : ∀ p ∈ p7t, AddFact p.1 p.2.1 p.2.2 := by
  intro p hp
  simp only [p7t, List.mem_cons, List.not_mem_nil, or_false] at hp
  rcases hp with rfl | rfl | rfl | rfl
  · exact a102
  · exact a103
  · exact a104
  · exact a105
theorem p7c (hT : TurnC) (hC : ChoiceC) : FnC Go.Proofs.Tryz.prog 144 [p7x, p7y] [.slice none 0 0, .int .i64 16] p7o :=
  letI O : Opq := noOpq
  fact_c (E := p7E) (tail := [.nilS, .int .i64 16]) (envW _ _) rfl (fun _ => orcAdd_ok hT hC p7f rfl (fun _ hk => hk)) (by decide) (by decide) (by decide) (fun _ _ => by simp only [wfs, wf, and_self]) (fun _ => by simp only [embs, emb]) p7r
theorem fn_facts [Opq] (hT : TurnC) (hC : ChoiceC) : ∀ r ∈ fnTab, ∀ σ, FnC Go.Proofs.Tryz.prog r.f [r.x, r.y] (embs σ r.tail) r.out := by
  intro r hr σ
  simp only [fnTab, List.mem_cons, List.not_mem_nil, or_false] at hr
  rcases hr with rfl | rfl | rfl | rfl | rfl | rfl | rfl | rfl
  · exact p0c hT hC
  · exact p1c hT hC
  · exact p2c hT hC
  · exact p3c hT hC
  · exact p4c hT hC
  · exact p5c hT hC
  · exact p6c hT hC
  · exact p7c hT hC
end Go.MiniT
/- strings.Join and stringslite.Index, laid by the shelf's own program. -/
namespace Go.Proofs
open Go.Shelf
def Tryz.lays156_ren : Go.Shelf.Ren := ⟨fun | 156 => 76 | 165 => 124 | 166 => 125 | 169 => 126 | 240 => 155 | 241 => 156 | 276 => 186 | 277 => 187 | n => n, fun | 31 => 22 | 9 => 9 | 3 => 3 | 4 => 4 | 0 => 0 | 20 => 20 | 72 => 160 | 76 => 164 | 70 => 158 | 37 => 44 | 75 => 163 | 127 => 199 | 164 => 232 | 5 => 5 | 80 => 127 | n => n, fun | n => n⟩
theorem Tryz.lays156 : Go.Proofs.Lays.n156 Tryz.prog Tryz.lays156_ren := {
  mixed := by kernel_rfl
  f156 := Tryz.func76.trans (congrArg some (by kernel_rfl))
  f165 := Tryz.func124.trans (congrArg some (by kernel_rfl))
  f166 := Tryz.func125.trans (congrArg some (by kernel_rfl))
  f169 := Tryz.func126.trans (congrArg some (by kernel_rfl))
  f240 := Tryz.func155.trans (congrArg some (by kernel_rfl))
  f241 := Tryz.func156.trans (congrArg some (by kernel_rfl))
  f276 := Tryz.func186.trans (congrArg some (by kernel_rfl))
  f277 := Tryz.func187.trans (congrArg some (by kernel_rfl))
  t0 := Tryz.underlying0
  a0 := Tryz.isAgg0
  z0 := Tryz.sizeOf0
  v0 := Tryz.zeroValue0
  t3 := Tryz.underlying3
  a3 := Tryz.isAgg3
  z3 := Tryz.sizeOf3
  v3 := Tryz.zeroValue3
  t4 := Tryz.underlying4
  a4 := Tryz.isAgg4
  z4 := Tryz.sizeOf4
  v4 := Tryz.zeroValue4
  t9 := Tryz.underlying9
  a9 := Tryz.isAgg9
  z9 := Tryz.sizeOf9
  v9 := Tryz.zeroValue9
  t20 := Tryz.underlying20
  a20 := Tryz.isAgg20
  z20 := Tryz.sizeOf20
  v20 := Tryz.zeroValue20
  t31 := Tryz.underlying22
  a31 := Tryz.isAgg22
  z31 := Tryz.sizeOf22
  v31 := Tryz.zeroValue22
  t37 := Tryz.underlying44
  a37 := Tryz.isAgg44
  z37 := Tryz.sizeOf44
  v37 := Tryz.zeroValue44
  t70 := Tryz.underlying158
  a70 := Tryz.isAgg158
  z70 := Tryz.sizeOf158
  v70 := Tryz.zeroValue158
  t72 := Tryz.underlying160
  a72 := Tryz.isAgg160
  z72 := Tryz.sizeOf160
  v72 := Tryz.zeroValue160
  t75 := Tryz.underlying163
  a75 := Tryz.isAgg163
  z75 := Tryz.sizeOf163
  v75 := Tryz.zeroValue163
  t76 := Tryz.underlying164
  a76 := Tryz.isAgg164
  z76 := Tryz.sizeOf164
  v76 := Tryz.zeroValue164
  t127 := Tryz.underlying199
  a127 := Tryz.isAgg199
  z127 := Tryz.sizeOf199
  v127 := Tryz.zeroValue199
  t164 := Tryz.underlying232
  a164 := Tryz.isAgg232
  z164 := Tryz.sizeOf232
  v164 := Tryz.zeroValue232 }
theorem Tryz.Builder_Extra_156 : Builder.Extra Tryz.prog Tryz.lays156_ren := {
  sizeBuilder := by kernel_rfl
  liesBuilder := by kernel_rfl
  t5 := Tryz.underlying5
  a5 := Tryz.isAgg5
  z5 := Tryz.sizeOf5
  v5 := Tryz.zeroValue5
  infoByte := by kernel_rfl
  cellsByte := by kernel_rfl
  sizeByte := by kernel_rfl
  neB5 := by decide }
open Go.RowKit in
/-- strings.Join: "Join concatenates the elements of its first argument to create a single string. The separator string sep is placed between elements in the resulting string.": HOWEVER MANY ELEMENTS. Below the heap's end the world is as it was. (LAID: no walk: one application.) -/
theorem Tryz.strings_Join (bk o c : Nat) (xs : List ByteArray) (sep : ByteArray) (w : World) (hcells : ∀ (j : Nat) x, xs[j]? = some x → w.cell? ⟨bk, o + j, none⟩ = some (.string x)) (hbk : bk < w.heap.size) (hN : xs.length ≤ 140737488355328) (hcap : xs.length ≤ c) (hlen : (Lib.join (xs.map (·.data.toList)) sep.data.toList).length ≤ 140737488355328) :
    Calls Tryz.prog 76 #[.slice (some ⟨bk, o, none⟩) xs.length c, .string sep] w fun e w' => e = .returned (.string ⟨(Lib.join (xs.map (·.data.toList)) sep.data.toList).toArray⟩) ∧ Below w.heap.size w w' := Any.strings_Join Tryz.lays156 Tryz.Builder_Extra_156 bk o c xs sep w hcells hbk hN hcap hlen
def Tryz.laysM219_ren : Go.Shelf.Ren := ⟨fun | 219 => 215 | 217 => 233 | 225 => 234 | 224 => 235 | 267 => 236 | 266 => 253 | 314 => 254 | n => n, fun | 9 => 9 | 3 => 3 | 4 => 4 | 5 => 5 | 46 => 250 | 146 => 300 | 51 => 26 | n => n, fun | 1 => 0 | n => n⟩
theorem Tryz.laysM219 : Go.Proofs.LaysM.n219 Tryz.prog Tryz.laysM219_ren := {
  mixed := by kernel_rfl
  f217 := Tryz.func233.trans (congrArg some (by kernel_rfl))
  f219 := Tryz.func215.trans (congrArg some (by kernel_rfl))
  f224 := Tryz.func235.trans (congrArg some (by kernel_rfl))
  f225 := Tryz.func234.trans (congrArg some (by kernel_rfl))
  f266 := Tryz.func253.trans (congrArg some (by kernel_rfl))
  f267 := Tryz.func236.trans (congrArg some (by kernel_rfl))
  f314 := Tryz.func254.trans (congrArg some (by kernel_rfl))
  t3 := Tryz.underlying3
  a3 := Tryz.isAgg3
  z3 := Tryz.sizeOf3
  v3 := Tryz.zeroValue3
  t4 := Tryz.underlying4
  a4 := Tryz.isAgg4
  z4 := Tryz.sizeOf4
  v4 := Tryz.zeroValue4
  t5 := Tryz.underlying5
  a5 := Tryz.isAgg5
  z5 := Tryz.sizeOf5
  v5 := Tryz.zeroValue5
  t9 := Tryz.underlying9
  a9 := Tryz.isAgg9
  z9 := Tryz.sizeOf9
  v9 := Tryz.zeroValue9
  t46 := Tryz.underlying250
  a46 := Tryz.isAgg250
  z46 := Tryz.sizeOf250
  v46 := Tryz.zeroValue250
  t51 := Tryz.underlying26
  a51 := Tryz.isAgg26
  z51 := Tryz.sizeOf26
  v51 := Tryz.zeroValue26
  t146 := Tryz.underlying300
  a146 := Tryz.isAgg300
  z146 := Tryz.sizeOf300
  v146 := Tryz.zeroValue300
  g1 := by kernel_rfl
  i3 := by kernel_rfl
  i4 := by kernel_rfl
  i5 := by kernel_rfl
  i9 := by kernel_rfl
  i46 := by kernel_rfl
  i51 := by kernel_rfl
  i146 := by kernel_rfl
  m1 := by kernel_rfl
  s1_3 := fun w h => Go.Proofs.cell_of_shapedOpen_int (zero := #[.int .i64 0]) (t := 3) h (of_decide_eq_true (by kernel_rfl)) (by kernel_rfl) rfl (by kernel_rfl) (by kernel_rfl) Tryz.underlying3 }
open Go.RowKit Go.Lib in
theorem Tryz.stringslite_Index_shaped (s sub : ByteArray) (w : World) (h : w.ShapedOpen Tryz.prog) (hs : s.size < 4294967281) :
    Calls Tryz.prog 215 #[.string s, .string sub] w fun e w' => e = .returned (.int .i64 (Lib.index s.data.toList sub.data.toList)) ∧ w' = w := Any.stringslite_Index_shaped Tryz.laysM219 s sub w h hs
end Go.Proofs
