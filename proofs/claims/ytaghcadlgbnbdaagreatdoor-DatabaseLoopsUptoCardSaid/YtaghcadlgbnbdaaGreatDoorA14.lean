/- A part of the proof. -/
import Derived.Test.YtaghcadlgbnbdaaGreatDoorA13
import Derived.Lib.Strings
import Derived.Lib.Slices
import Derived.Lib.Walk
namespace Go.Dz
open Go Go.aY Go.Proofs
set_option maxRecDepth 1000000
theorem ty1:Gv.jE.map (fun x=>Tryz.prog.info? x.1)=Gv.jE.map (fun x=>some x.2.info):=by kernel_rfl
theorem ty2:Gv.jE.map (fun x=>Tryz.prog.underlying x.1)=Gv.jE.map (fun x=>some x.2.und):=by kernel_rfl
theorem Gj:KY.jE.map (fun x=>Tryz.prog.funcs[x.1]?)=KY.jE.map (fun x=>some x.2):=by kernel_rfl
theorem fn2:KY.jE.all (fun x=>!decide (x.2.name = "runtime.NumGoroutine"))=true:=by kernel_rfl
theorem cm:bQ.jE.all (fun x=>!Tryz.prog.eqGuardType Tryz.prog.depth x.1&&!Tryz.prog.stoodInHeld x.1)=true:=by kernel_rfl
theorem mx:Tryz.prog.follows .mixedOrders=true:=by kernel_rfl
theorem apE[dO](s:List Nat)(c:Nat)(σ:Sg)(w:World):(callFunc 331 ⟨aH σ [.str s,.int .u8 (.ofNat c)]⟩).run Tryz.prog w=.ok (.value (.int .i64 (Lib.indexByte (bytesV s).data.toList (UInt8.ofNat c)))) w:=by
 have:=Lib.run_indexByteString (P:=Tryz.prog) (bytesV s) (.ofNat c) w
 rw[run_callFunc_extern Tryz.func331 (by kernel_rfl) (by kernel_rfl) (by kernel_rfl) (e:=Extern.BytealgIndexByte.indexByte) (by kernel_rfl)]
 simp only[aH,af]
 rw[this]
 rfl
theorem apF[dO](ro:Nat)(kQ:FuncId→List MV→MH→Option (MV×MH))(bo:BinOp→TypeId→MV→MV→Option MV)(co:TypeId→TypeId→MV→Option MV):∀f k,(DC ro kQ bo co).ext f=some k→∀σ V args v,BX k args=some (.val v)→wfs σ V args→wf σ V v∧∀w,(callFunc f ⟨aH σ args⟩).run Tryz.prog w=.ok (.value (af σ v)) w:=by
 intro f k hk σ V args v ho hw
 have hf:f=331:=by
  cases hb:Nat.beq f 331 with
  |true=>exact Nat.eq_of_beq_eq_true hb
  |false=>
   have:(DC ro kQ bo co).ext f=none:=by show cond (Nat.beq f 331) _ _=_;rw[hb];rfl
   rw[this]at hk;cases hk
 subst hf
 unfold BX at ho
 split at ho
 ·rename_i s c
  cases hc:Nat.blt c 256 with
  |false=>rw[hc]at ho;cases ho
  |true=>
   rw[hc]at ho
   cases ho
   have hs:∀b∈s,b<256:=by simp only[wfs,wf]at hw;exact hw.1
   refine⟨by simp only[wf],fun w=>?_⟩
   rw[idx_eq c (sS hc) s hs 0]
   refine(apE s c σ w).trans ?_
   have e:(bytesV s).data.toList=s.map UInt8.ofNat:=by simp[bytesV]
   rw[e]
   simp only[af]
   split
   ·rename_i h;rw[h]
   ·simp
 ·cases ho
theorem apG[dO](ro:Nat)(kQ:FuncId→List MV→MH→Option (MV×MH))(bo:BinOp→TypeId→MV→MV→Option MV)(co:TypeId→TypeId→MV→Option MV)
  (hb:∀op t x y v,bo op t x y=some v→∀(σ:Sg) (V:Nat→Prop),wf σ V x→wf σ V y→wf σ V v∧(af σ x≠.nilIface∧∀c,af σ x≠.agg c)∧∀w,(binOp op t (af σ x) (af σ y)).run Tryz.prog w=.ok (af σ v) w)
  (hc:∀s d x v,co s d x=some v→∀(σ:Sg) (V:Nat→Prop),wf σ V x→wf σ V v∧∀w,(convert s d (af σ x)).run Tryz.prog w=.ok (af σ v) w):bM (DC ro kQ bo co) Tryz.prog:=
 ⟨apt (E:=DC ro kQ bo co) ty1 ty2,apu (E:=DC ro kQ bo co) Gj fn2,apF ro kQ bo co,fun t ht=>apv cm t (by
 have ht:(Option.rec false (fun _=>true) (bQ.get t):Bool)=true:=ht
 cases h:bQ.get t with
 |none=>rw[h]at ht;cases ht
 |some u=>rfl),mx,hb,hc⟩
theorem apH[dO](ro:Nat)(kQ:FuncId→List MV→MH→Option (MV×MH)):bM (EEw ro kQ) Tryz.prog:=apG ro kQ _ _ (fun _ _ _ _ _ h=>by cases h) (fun _ _ _ _ h=>by cases h)
end Go.Dz
