/- A call of derive.Password. -/
import Derived.Test.YtpibcnchkndejaaGreatDoorTE
import Derived.Test.YtpibcnchkndejaaGreatDoorBA
namespace Go.MiniT
open Go Go.Mini
def p0x : List Nat := [112, 97, 115, 115, 49]
def p0y : List Nat := [97, 101, 115, 49, 50, 56, 45, 99, 116, 115, 45, 104, 109, 97, 99, 45, 115, 104, 97, 50, 53, 54, 45, 49, 50, 56, 0, 82, 97]
def p0o : List Nat := [36, 189, 148, 86, 126, 63, 253, 91, 39, 229, 83, 244, 220, 234, 98, 104]
def p0t : AddTab := [(a0w, a0b, a0o), (a1w, a1b, a1o), (a2w, a2b, a2o), (a3w, a3b, a3o), (a4w, a4b, a4o), (a5w, a5b, a5o), (a6w, a6b, a6o), (a7w, a7b, a7o), (a8w, a8b, a8o), (a9w, a9b, a9o)]
noncomputable def p0E : Env := EEw 7 (orcAdd 228 5 7 p0t)
set_option maxRecDepth 1000000 in
theorem p0r : FnFact p0E 143 60 5 [p0x, p0y] [.int .i64 4, .int .i64 16] p0o := by
  unfold FnFact
  kernel_rfl
end Go.MiniT
/- A call of derive.KDF. -/
namespace Go.MiniT
open Go Go.Mini
def p1x : List Nat := [36, 189, 148, 86, 126, 63, 253, 91, 39, 229, 83, 244, 220, 234, 98, 104]
def p1y : List Nat := [107, 101, 114, 98, 101, 114, 111, 115]
def p1o : List Nat := [208, 50, 119, 127, 172, 197, 165, 226, 180, 12, 82, 212, 51, 72, 43, 15]
def p1t : AddTab := [(a10w, a10b, a10o), (a11w, a11b, a11o), (a12w, a12b, a12o), (a13w, a13b, a13o)]
noncomputable def p1E : Env := EEw 7 (orcAdd 228 5 7 p1t)
set_option maxRecDepth 1000000 in
theorem p1r : FnFact p1E 144 60 5 [p1x, p1y] [.nilS, .int .i64 16] p1o := by
  unfold FnFact
  kernel_rfl
end Go.MiniT
