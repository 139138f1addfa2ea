/- A part of the proof. -/
import Derived.Test.YtidadlcknkeodaaGreatDoorA16
import Derived.Test.YtidadlcknkeodaaGreatDoorA18
import Derived.Test.YtidadlcknkeodaaGreatDoorCards
import Derived.Test.YtidadlcknkeodaaGreatDoorTie
import Derived.Lib.LaidTab
import Derived.Lib.LaidPrint
import Derived.Stop.LaidErr
import Derived.ChangeMaps5
import Derived.Deep.DeepWitnessRowRef
set_option maxRecDepth 2000000
/- ReplicaNone is true of every realm and update whose reading is of bulk at most 1048576, and the arguments read afterwards as they read before. Conditions: that bulk; the listed package-level variables hold what the program's text lays (the given tie). -/
namespace Go.Proofs.YtidadlcknkeodaaGreatDoor
open Go.ChangeShapes Go.WideShapes Go.ChangeAt Go.RowKit Go.WW Go.Deep
theorem readStr : Tryz.prog.readableRec 9 = true := by kernel_rfl
theorem ltStr : 9 < Tryz.prog.types.size := of_decide_eq_true (by kernel_rfl)
theorem own : ownKnob Tryz.prog.godebug = none := by kernel_rfl
theorem bulk_of {H : Type} {ds : List (DataW H)} (h : Rows.uptoSmall H ds = true) : Rows.uptoBulkAll ds ≤ 1048576 := of_decide_eq_true h
def lit1 : DataW Unit → Value
  | .lit (.int k n) => .int k n
  | _ => undef
def flat1 : DataW Unit → List Value
  | .agg l => l.map lit1
  | _ => []
def flat2 : DataW Unit → List Value
  | .agg l => l.flatMap flat1
  | _ => []
def setTo (cs : List Value) : Obj → Obj
  | .cells _ t frozen => .cells cs.toArray t frozen
  | o => o
def refTo (t : TypeId) (b : Nat) : Obj → Obj
  | .cells _ u frozen => .cells #[.iface t (.pointer (some ⟨b, 0, none⟩))] u frozen
  | o => o
def flatS : DataW Unit → List Value
  | .slice l _ => l.map lit1
  | _ => []
def errBlocks : Array Obj := #[.cells #[.string ⟨#[118, 97, 108, 117, 101, 32, 111, 117, 116, 32, 111, 102, 32, 114, 97, 110, 103, 101]⟩] 454, .cells #[.string ⟨#[105, 110, 118, 97, 108, 105, 100, 32, 115, 121, 110, 116, 97, 120]⟩] 454, .cells (flatS Rows.laid_watchword_watchwordref04_constants).toArray 3]
noncomputable def laidWorld (os : Os) : World :=
  { World.holding Tryz.prog os ⟨errBlocks, #[], []⟩ with heap := ((((((((World.holding Tryz.prog os ⟨errBlocks, #[], []⟩).heap.modify 4 (setTo (flat1 Rows.laid_unicode_utf8_first))).modify 5 (setTo (flat2 Rows.laid_unicode_utf8_acceptRanges))).modify 0 (setTo (flat1 Rows.laid_watchword_sha_start))).modify 1 (setTo (flat1 Rows.laid_watchword_sha_constants))).modify 9 (setTo (flat1 Rows.laid_math_bits_deBruijn32tab))).modify 10 (setTo (flat1 Rows.laid_math_bits_deBruijn64tab))).modify 6 (setTo (flat1 Rows.laid_internal_strconv_uint64pow10))).modify 8 (refTo 452 (World.settled Tryz.prog os).heap.size) |>.modify 7 (refTo 452 ((World.settled Tryz.prog os).heap.size + 1)) |>.modify 2 (setTo [.slice (some ⟨(World.settled Tryz.prog os).heap.size + 2, 0, none⟩) 64 64]) }
theorem glob_cell {W : World} (hsh : W.ShapedOpen Tryz.prog) {name : String} {g : Nat} {zero arr : Array Value} {t : TypeId} (hg : Tryz.prog.globalNamed name = some g) (hlt : g < Tryz.prog.globals.size) (hz : ((begin Tryz.prog (fun _ _ => 0) default).world.heap[g]?).bind Obj.row? = some (zero, t)) (hv : W.var? Tryz.prog name = some arr) :
    W.heap[g]? = some (.cells arr t (0, 0)) := by
  obtain ⟨cs, h1, -, -⟩ := hsh.1 g zero t hlt hz
  unfold World.var? at hv
  rw [hg] at hv
  simp only [Option.bind_some, h1, Option.some.injEq] at hv
  subst hv; exact h1
theorem varsAt_of {W : World} (hlaid : laidMet Tryz.prog Rows.replicaNoneUptoRow.laid W) (hshape : W.ShapedOpen Tryz.prog) : VarsAt W := by
  have h0 : laidMet Tryz.prog Rows.replicaNoneUptoRow.laid W := hlaid
  have h4 := h0.tail.tail.tail.tail.tail.tail.tail
  have t0 := Lib.tabIs_of_head (P := Tryz.prog) (W := W) (name := "watchword/sha.start") (k := .u32) (zs := MiniT.shaT.l0.map fun (n : Nat) => (n : Int)) (g := 0) (t := 157) (e := 27) (n := 8) (by kernel_rfl) (by kernel_rfl) (by kernel_rfl) (by kernel_rfl) (by kernel_rfl) (by kernel_rfl) h4
  have t1 := Lib.tabIs_of_head (P := Tryz.prog) (W := W) (name := "watchword/sha.constants") (k := .u32) (zs := MiniT.shaT.l1.map fun (n : Nat) => (n : Int)) (g := 1) (t := 205) (e := 27) (n := 64) (by kernel_rfl) (by kernel_rfl) (by kernel_rfl) (by kernel_rfl) (by kernel_rfl) (by kernel_rfl) h4.tail
  unfold Lib.TabIs at t0 t1
  rw [List.map_map] at t0 t1
  exact ⟨glob_cell (zero := Array.replicate 8 (.int .u32 0)) hshape (by kernel_rfl) (of_decide_eq_true (by kernel_rfl)) (by kernel_rfl) t0, glob_cell (zero := Array.replicate 64 (.int .u32 0)) hshape (by kernel_rfl) (of_decide_eq_true (by kernel_rfl)) (by kernel_rfl) t1, Tryz.laysM219.s1_3 W hshape⟩
def k04 : List Nat := (flatS Rows.laid_watchword_watchwordref04_constants).map fun v => match v with | .int _ n => n.toNat | _ => 0
theorem consts04_of {W : World} (hlaid : laidMet Tryz.prog Rows.replicaNoneUptoRow.laid W) : Consts04 W := by
  have h0 : laidMet Tryz.prog Rows.replicaNoneUptoRow.laid W := hlaid
  have hr := Lib.laidMet.reads h0 (n := "watchword/watchwordref04.constants") (d := Rows.laid_watchword_watchwordref04_constants) (.tail _ (.tail _ (.tail _ (.tail _ (.head _)))))
  have hd : (Rows.laid_watchword_watchwordref04_constants : DataW Unit) = Lib.sliceData .i64 k04 := by kernel_rfl
  rw [hd] at hr
  have hl : k04.length = 64 := by kernel_rfl
  obtain ⟨R, o, c, h1, h2⟩ := Lib.tabSlice_of_reads (g := 2) (t := 208) (e := 3) (by kernel_rfl) (by kernel_rfl) Tryz.underlying208 Tryz.underlying3 (by kernel_rfl) (by rw [hl]; decide) hr
  rw [hl] at h1 h2
  exact ⟨R, o, c, h1, fun i hi => ⟨_, h2 i hi⟩⟩
end Go.Proofs.YtidadlcknkeodaaGreatDoor
namespace Go.Proofs.YtidadlcknkeodaaGreatDoor.ReplicaNone
open Go.ChangeShapes Go.WideShapes Go.ChangeAt Go.RowKit Go.WW Go.Deep
theorem contract (H : Type) (enc : TypeId × Value → H) (W : World) (base : Nat) (args : Array Value) (ds gs : List (DataW H)) (before : List MemPlace)
    (hval : ∀ (j : Nat) t v, Tryz.f3.params[j]? = some t → args[j]? = some v → Value.okWide Tryz.prog W .any base t v)
    (hW : DataW.Whole enc Tryz.prog Tryz.f3.params.toList Rows.replicaNoneSpec.vars false W args.toList ds gs before) (hcond : Rows.uptoSmall H (ds ++ gs) = true) (hlaid : laidMet Tryz.prog Rows.replicaNoneUptoRow.laid W) (hshape : W.ShapedOpen Tryz.prog) :
    Calls Tryz.prog 3 args W fun e W' => ∃ v, e = .returned v ∧ Rows.replicaNoneSpec.post enc Tryz.prog Tryz.f3 false true false false W args v W' := by
  have hW' := hW
  obtain ⟨p, q, hA0, hV, rfl, hfz, hnd⟩ := hW
  have hA : DataW.TrodAll enc Tryz.prog W 0 (fun _ => true) true Tryz.f3.params.toList args.toList ds p := hA0
  rw [Tryz.params3] at hA hval
  obtain ⟨v0, vs0, d0, ds0, p0, q0, hargs, rfl, rfl, h0, r0⟩ := trodAll_cons hA
  obtain ⟨v1, vs1, d1, ds1, p1, q1, rfl, rfl, rfl, h1, r1⟩ := trodAll_cons r0
  obtain ⟨rfl, rfl, rfl⟩ := trodAll_nil r1
  obtain rfl : args = #[v0, v1] := by cases args; simp_all
  obtain ⟨rfl, rfl⟩ := trodVars_none hV
  have hb := bulk_of hcond
  simp only [List.append_nil, Rows.uptoBulkAll] at hb
  have g0 := h0
  obtain ⟨re, rfl, rfl, -, -⟩ := ChangeMaps.open_string Tryz.underlying9 (hval 0 9 v0 rfl rfl) h0
  obtain ⟨_, _, _, rfl, mh1⟩ := arg_upd (hval 1 36 v1 rfl rfl) h1 (by omega)
  have hs : re.size ≤ lim := by
    simp only [Rows.uptoBulk, Array.length_toList] at hb
    have e : re.size = re.data.size := rfl
    unfold lim; omega
  refine (repNoneLaw_c re _ _ _ _ _ _ _ _ _ _ _ _ _ W hs mh1.1 mh1.2.1 mh1.2.2.1 mh1.2.2.2 (varsAt_of hlaid hshape) (consts04_of hlaid)).mono fun e W' ⟨he', hbel⟩ => ?_
  subst he'
  have hlt := hW'.lt
  refine ⟨_, rfl, law_post hW' (fun _ _ _ => trodAll_cons_mk (shut_bool Tryz.underlying4 _) trodAll_mk0) (fun sp hsp => ?_) (fun _ => rfl) hbel (ok_one (by kernel_rfl) rfl (okWide_bool_mk Tryz.underlying4 _))⟩
  rw [Tryz.params3]
  have hT := trodAll_cons_mk (stays readStr ltStr g0 hbel (fun x hx => hlt x (by simp [hx])) (fun x hx => hsp x (by simp [hx]))) (trodAll_cons_mk (stays readUpd ltUpd h1 hbel (fun x hx => hlt x (by simp [hx])) (fun x hx => hsp x (by simp [hx]))) trodAll_mk0)
  rw [show (p0 ++ (p1 ++ [])) ++ [] = p0 ++ (p1 ++ []) from List.append_nil _]
  exact hT
def wargs : Array Value := #[.string ⟨#[]⟩, .agg #[.int .i64 0, .int .i64 0, .int .i64 0, .int .i64 0, .slice none 0 0, .string ⟨#[]⟩, .slice none 0 0, .string ⟨#[]⟩, .slice none 0 0, .int .u32 0, .int .i64 0, .slice none 0 0, .string ⟨#[]⟩, .int .i64 0, .int .i64 0, .int .i64 0, .int .i64 0, .int .i64 0, .int .i64 0, .int .i64 0, .slice none 0 0, .slice none 0 0, .slice none 0 0, .string ⟨#[]⟩, .int .i64 0, .int .i64 0, .int .i64 0, .int .i64 0, .int .i64 0, .int .i64 0, .int .i64 0, .int .i64 0, .int .i64 0, .string ⟨#[]⟩, .int .i64 0, .int .i64 0, .int .i64 0]]
theorem laid_met (os : Os) : laidMet Tryz.prog Rows.replicaNoneUptoRow.laid ((laidWorld os).forCall (fun _ _ => 0) ⟨#[], wargs, []⟩).memory :=
  laidMet_of_run' 8 (by kernel_rfl) (by kernel_rfl)
def wdata {H : Type} : List (DataW H) := [.lit (.string []), .agg [.lit (.int .i64 0), .lit (.int .i64 0), .lit (.int .i64 0), .lit (.int .i64 0), .agg [.nil, .lit (.string [])], .agg [.agg [.nil, .lit (.string [])], .nil, .lit (.int .u32 0), .lit (.int .i64 0), .nil, .lit (.string []), .lit (.int .i64 0), .lit (.int .i64 0), .lit (.int .i64 0), .lit (.int .i64 0), .lit (.int .i64 0), .lit (.int .i64 0), .lit (.int .i64 0), .nil, .nil, .nil], .agg [.lit (.string []), .lit (.int .i64 0), .lit (.int .i64 0), .lit (.int .i64 0), .lit (.int .i64 0), .lit (.int .i64 0), .lit (.int .i64 0), .lit (.int .i64 0), .lit (.int .i64 0), .lit (.int .i64 0)], .lit (.string []), .lit (.int .i64 0), .lit (.int .i64 0), .lit (.int .i64 0)]]
theorem reads (os : Os) {H : Type} (enc : TypeId × Value → H) : ∃ places, DataW.whole enc Tryz.prog ((laidWorld os).forCall (fun _ _ => 0) ⟨#[], wargs, []⟩).memory Tryz.f3.params.toList Rows.replicaNoneSpec.vars false wargs.toList 8 = some (wdata, [], places) :=
  ⟨[], by kernel_rfl⟩
theorem liftedUpto (os : Os) (started : os.Started) (H : Type) (enc : TypeId × Value → H) (F : Stop.Interp) :
    ReturnsInHanded {} Tryz.checked os 3 .any ((Rows.OpenSpec.upto Rows.replicaNoneSpec).preRow enc Tryz.prog Tryz.f3 Rows.replicaNoneUptoRow.domain false Rows.replicaNoneUptoRow.laid) (((Rows.OpenSpec.upto Rows.replicaNoneSpec).at F).post enc Tryz.prog Tryz.f3 false true false false) := by
  obtain ⟨places, hx⟩ := reads os enc
  refine returnsInHanded_of_row (C := Tryz.checked) (s := Rows.OpenSpec.upto Rows.replicaNoneSpec) own started (by kernel_rfl) Tryz.func3
    (witness_row_atRef (enc := enc) (C := Tryz.checked) false (laidWorld os) wargs rfl (by kernel_rfl) (by kernel_rfl) (by kernel_rfl)
      (OpenSpec.preRow_of_cond 8 hx (by kernel_rfl) (fun k hk => by cases hk; kernel_rfl) (by kernel_rfl) (laid_met os))) ?_
  intro W base args ds gs before hval hW _ hcond _ hlaid hshape _
  exact contract H enc W base args ds gs before hval hW (hcond _ rfl) hlaid hshape
theorem saidUpto : Rows.ReplicaNoneUptoSaid :=
  OpenClaim.holds_of_cond 3 Tryz.f3 rfl rfl rfl rfl rfl rfl rfl ⟨rfl, rfl, rfl, rfl, rfl⟩ rfl rfl rfl rfl rfl (by kernel_rfl) Tryz.func3 Facts.closed
    (of_decide_eq_true (by kernel_rfl)) (by unfold Func.isWrapper; first | (rw [if_pos (by decide +kernel)]; kernel_rfl) | (rw [if_neg (by decide +kernel)]; exact ⟨rfl, rfl⟩))
    (fun os started H enc _ F => by rw [OpenClaim.pre_eq_preRow]; exact liftedUpto os started H enc F)
theorem plain (f : FuncId) (fn : Func) (hf : Tryz.pinned.checked.prog.funcNamed "watchword/watchwordlaw30.ReplicaNone" = some f) (hfn : Tryz.pinned.checked.prog.funcs[f]? = some fn) :
    true = Tryz.pinned.checked.prog.looks [] ∧ ∀ (j : Nat) t, fn.params[j]? = some t → Tryz.pinned.checked.prog.wantsStandIn t = false := by
  obtain rfl : f = 3 := Option.some.inj ((show Tryz.prog.funcNamed "watchword/watchwordlaw30.ReplicaNone" = some 3 by kernel_rfl).symm.trans hf) |>.symm
  obtain rfl : fn = Tryz.f3 := (Option.some.inj (Tryz.func3.symm.trans hfn)).symm
  refine ⟨by kernel_rfl, fun j t ht => ?_⟩
  rw [Tryz.params3] at ht
  have hm := Array.mem_of_getElem? ht
  have : t = 9 ∨ t = 36 := by simpa using hm
  rcases this with rfl | rfl
  · exact (show Tryz.prog.wantsStandIn 9 = false by kernel_rfl)
  · exact (show Tryz.prog.wantsStandIn 36 = false by kernel_rfl)
end Go.Proofs.YtidadlcknkeodaaGreatDoor.ReplicaNone
