/- A part of the proof. -/
import Derived.Test.YtaghcadlgbnbdaaGreatDoorA02
set_option maxRecDepth 100000
set_option maxHeartbeats 8000000
namespace Go.Proofs.YtaghcadlgbnbdaaGreatDoor
open Go.RowKit Go.WW
theorem MZ(p:ah)(w:World)(hs:p.name.size≤lim):Calls Tryz.prog 60 #[.agg (az p)] w fun e w'=>e=.returned (.bool (dN p))∧Below w.heap.size w w':=by
 go_enter Tryz.func60,Tryz.ntmps60
 go_wp2_with fail
 refine(ad3 _ _ hs).mono ?_
 rintro e w' ⟨rfl,rfl⟩
 cases h1:oV p.name
 ·have HN:=Lib.hid (Uu p (by simp[h1]))
  go_wp2_with fail
  all_goals go_ret
  all_goals exact⟨by rw[HN.out];rfl,(Below.refl _ _).alloc (Nat.le_refl _) _⟩
 go_wp2_with fail
 refine(xu _ _ _ _).mono ?_
 rintro e w' ⟨rfl,rfl⟩
 cases h2:au p.length 1 64
 ·have HN:=Lib.hid (Uw p (by simp[h2]))
  go_wp2_with fail
  all_goals go_ret
  all_goals exact⟨by rw[HN.out];rfl,(Below.refl _ _).alloc (Nat.le_refl _) _⟩
 go_wp2_with fail
 refine(xu _ _ _ _).mono ?_
 rintro e w' ⟨rfl,rfl⟩
 cases h3:au p.classes 1 5
 ·have HN:=Lib.hid (Ux p (by simp[h3]))
  go_wp2_with fail
  all_goals go_ret
  all_goals exact⟨by rw[HN.out];rfl,(Below.refl _ _).alloc (Nat.le_refl _) _⟩
 go_wp2_with fail
 refine(xu _ _ _ _).mono ?_
 rintro e w' ⟨rfl,rfl⟩
 cases h4:au p.distinct 0 p.length
 ·have HN:=Lib.hid (Uy p (by simp[h4]))
  go_wp2_with fail
  all_goals go_ret
  all_goals exact⟨by rw[HN.out];rfl,(Below.refl _ _).alloc (Nat.le_refl _) _⟩
 go_wp2_with fail
 refine(xu _ _ _ _).mono ?_
 rintro e w' ⟨rfl,rfl⟩
 cases h5:au p.history 0 16
 ·have HN:=Lib.hid (Uz p (by simp[h5]))
  go_wp2_with fail
  all_goals go_ret
  all_goals exact⟨by rw[HN.out];rfl,(Below.refl _ _).alloc (Nat.le_refl _) _⟩
 go_wp2_with fail
 refine(AX _ _).mono ?_
 rintro e w' ⟨rfl,rfl⟩
 cases h6:au p.jy 0 1099511627776
 ·have HN:=Lib.hid (UA p (by simp[h6]))
  go_wp2_with fail
  all_goals go_ret
  all_goals exact⟨by rw[HN.out];rfl,(Below.refl _ _).alloc (Nat.le_refl _) _⟩
 go_wp2_with fail
 refine(AX _ _).mono ?_
 rintro e w' ⟨rfl,rfl⟩
 cases h7:au p.fD 0 1099511627776
 ·have HN:=Lib.hid (UB p (by simp[h7]))
  go_wp2_with fail
  all_goals go_ret
  all_goals exact⟨by rw[HN.out];rfl,(Below.refl _ _).alloc (Nat.le_refl _) _⟩
 by_cases hz:p.fD=0
 ·have hz':(p.fD == 0)=true:=by simp[hz]
  have h8:(p.fD == 0)=true∨p.jy≤p.fD:=.inl hz'
  clear hz
  go_wp2_with fail
  refine(xu _ _ _ _).mono ?_
  rintro e w' ⟨rfl,rfl⟩
  cases h9:au p.fails 0 1000
  ·have HN:=Lib.hid (MS p (by simp[h9]))
   go_wp2_with fail
   all_goals go_ret
   all_goals exact⟨by rw[HN.out];rfl,(Below.refl _ _).alloc (Nat.le_refl _) _⟩
  go_wp2_with fail
  refine(AX _ _).mono ?_
  rintro e w' ⟨rfl,rfl⟩
  cases h10:au p.window 0 1099511627776
  ·have HN:=Lib.hid (MW p (by simp[h10]))
   go_wp2_with fail
   all_goals go_ret
   all_goals exact⟨by rw[HN.out];rfl,(Below.refl _ _).alloc (Nat.le_refl _) _⟩
  go_wp2_with fail
  refine(AX _ _).mono ?_
  rintro e w' ⟨rfl,rfl⟩
  have HN:=Lib.hid (H9 p h1 h2 h3 h4 h5 h6 h7 h8 h9 h10)
  go_wp2_with fail
  all_goals go_ret
  all_goals exact⟨by rw[HN.out];rfl,(Below.refl _ _).alloc (Nat.le_refl _) _⟩
 have hz':(p.fD == 0)=false:=by simp[hz]
 by_cases hm:p.jy≤p.fD
 ·have h8:(p.fD == 0)=true∨p.jy≤p.fD:=.inr hm
  clear hz
  go_wp2_with fail
  refine(xu _ _ _ _).mono ?_
  rintro e w' ⟨rfl,rfl⟩
  cases h9:au p.fails 0 1000
  ·have HN:=Lib.hid (MS p (by simp[h9]))
   go_wp2_with fail
   all_goals go_ret
   all_goals exact⟨by rw[HN.out];rfl,(Below.refl _ _).alloc (Nat.le_refl _) _⟩
  go_wp2_with fail
  refine(AX _ _).mono ?_
  rintro e w' ⟨rfl,rfl⟩
  cases h10:au p.window 0 1099511627776
  ·have HN:=Lib.hid (MW p (by simp[h10]))
   go_wp2_with fail
   all_goals go_ret
   all_goals exact⟨by rw[HN.out];rfl,(Below.refl _ _).alloc (Nat.le_refl _) _⟩
  go_wp2_with fail
  refine(AX _ _).mono ?_
  rintro e w' ⟨rfl,rfl⟩
  have HN:=Lib.hid (H9 p h1 h2 h3 h4 h5 h6 h7 h8 h9 h10)
  go_wp2_with fail
  all_goals go_ret
  all_goals exact⟨by rw[HN.out];rfl,(Below.refl _ _).alloc (Nat.le_refl _) _⟩
 have HN:=Lib.hid (UE p hz (by omega))
 clear hz
 go_wp2_with fail
 all_goals go_ret
 all_goals exact⟨by rw[HN.out];rfl,(Below.refl _ _).alloc (Nat.le_refl _) _⟩
end Go.Proofs.YtaghcadlgbnbdaaGreatDoor
