/- A call of derive.Password. -/
import Derived.Test.YtpibcnchkndejaaGreatDoorTE
import Derived.Test.YtpibcnchkndejaaGreatDoorBA
import Derived.Test.YtpibcnchkndejaaGreatDoorBB
namespace Go.MiniT
open Go Go.Mini
def p2x : List Nat := [112, 97, 115, 115, 50]
def p2y : List Nat := [97, 101, 115, 49, 50, 56, 45, 99, 116, 115, 45, 104, 109, 97, 99, 45, 115, 104, 97, 50, 53, 54, 45, 49, 50, 56, 0, 82, 97]
def p2o : List Nat := [228, 81, 42, 5, 128, 9, 101, 243, 198, 205, 106, 134, 92, 60, 158, 86]
def p2t : AddTab := [(a14w, a14b, a14o), (a15w, a15b, a15o), (a16w, a16b, a16o), (a17w, a17b, a17o), (a18w, a18b, a18o), (a19w, a19b, a19o), (a20w, a20b, a20o), (a21w, a21b, a21o), (a22w, a22b, a22o), (a23w, a23b, a23o)]
noncomputable def p2E : Env := EEw 7 (orcAdd 228 5 7 p2t)
set_option maxRecDepth 1000000 in
theorem p2r : FnFact p2E 143 60 5 [p2x, p2y] [.int .i64 4, .int .i64 16] p2o := by
  unfold FnFact
  kernel_rfl
end Go.MiniT
/- A call of derive.KDF. -/
namespace Go.MiniT
open Go Go.Mini
def p3x : List Nat := [228, 81, 42, 5, 128, 9, 101, 243, 198, 205, 106, 134, 92, 60, 158, 86]
def p3y : List Nat := [107, 101, 114, 98, 101, 114, 111, 115]
def p3o : List Nat := [162, 20, 12, 243, 254, 40, 74, 3, 192, 161, 66, 242, 106, 89, 147, 61]
def p3t : AddTab := [(a24w, a24b, a24o), (a25w, a25b, a25o), (a26w, a26b, a26o), (a27w, a27b, a27o)]
noncomputable def p3E : Env := EEw 7 (orcAdd 228 5 7 p3t)
set_option maxRecDepth 1000000 in
theorem p3r : FnFact p3E 144 60 5 [p3x, p3y] [.nilS, .int .i64 16] p3o := by
  unfold FnFact
  kernel_rfl
end Go.MiniT
