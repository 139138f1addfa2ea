/- A call of derive.Password. -/
import Derived.Test.YtpibcnchkndejaaGreatDoorTE
import Derived.Test.YtpibcnchkndejaaGreatDoorBE
namespace Go.MiniT
open Go Go.Mini
def p6x : List Nat := [120]
def p6y : List Nat := [97, 101, 115, 49, 50, 56, 45, 99, 116, 115, 45, 104, 109, 97, 99, 45, 115, 104, 97, 50, 53, 54, 45, 49, 50, 56, 0, 82, 97]
def p6o : List Nat := [158, 165, 11, 178, 143, 229, 145, 103, 169, 146, 159, 136, 110, 153, 212, 116]
def p6t : AddTab := [(a92w, a92b, a92o), (a93w, a93b, a93o), (a94w, a94b, a94o), (a95w, a95b, a95o), (a96w, a96b, a96o), (a97w, a97b, a97o), (a98w, a98b, a98o), (a99w, a99b, a99o), (a100w, a100b, a100o), (a101w, a101b, a101o)]
noncomputable def p6E : Env := EEw 7 (orcAdd 228 5 7 p6t)
set_option maxRecDepth 1000000 in
theorem p6r : FnFact p6E 143 60 5 [p6x, p6y] [.int .i64 4, .int .i64 16] p6o := by
  unfold FnFact
  kernel_rfl
end Go.MiniT
/- A call of derive.KDF. -/
namespace Go.MiniT
open Go Go.Mini
def p7x : List Nat := [158, 165, 11, 178, 143, 229, 145, 103, 169, 146, 159, 136, 110, 153, 212, 116]
def p7y : List Nat := [107, 101, 114, 98, 101, 114, 111, 115]
def p7o : List Nat := [56, 13, 132, 5, 77, 52, 35, 76, 3, 172, 233, 82, 2, 159, 37, 209]
def p7t : AddTab := [(a102w, a102b, a102o), (a103w, a103b, a103o), (a104w, a104b, a104o), (a105w, a105b, a105o)]
noncomputable def p7E : Env := EEw 7 (orcAdd 228 5 7 p7t)
set_option maxRecDepth 1000000 in
theorem p7r : FnFact p7E 144 60 5 [p7x, p7y] [.nilS, .int .i64 16] p7o := by
  unfold FnFact
  kernel_rfl
end Go.MiniT
