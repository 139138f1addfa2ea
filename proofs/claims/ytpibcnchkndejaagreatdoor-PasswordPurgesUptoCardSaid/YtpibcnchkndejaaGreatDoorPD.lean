/- A call of derive.Password. -/
import Derived.Test.YtpibcnchkndejaaGreatDoorTE
import Derived.Test.YtpibcnchkndejaaGreatDoorBA
import Derived.Test.YtpibcnchkndejaaGreatDoorBD
import Derived.Test.YtpibcnchkndejaaGreatDoorBE
namespace Go.MiniT
open Go Go.Mini
def p5x : List Nat := [112, 97, 115, 115, 49]
def p5y : List Nat := [104, 105, 115, 116, 111, 114, 121, 32, 97, 64, 82]
def p5o : List Nat := [161, 239, 175, 210, 185, 117, 228, 130, 49, 119, 176, 244, 16, 214, 164, 86]
def p5t : AddTab := [(a0w, a0b, a0o), (a60w, a60b, a60o), (a2w, a2b, a2o), (a61w, a61b, a61o), (a62w, a62b, a62o), (a63w, a63b, a63o), (a64w, a64b, a64o), (a65w, a65b, a65o), (a66w, a66b, a66o), (a67w, a67b, a67o), (a68w, a68b, a68o), (a69w, a69b, a69o), (a70w, a70b, a70o), (a71w, a71b, a71o), (a72w, a72b, a72o), (a73w, a73b, a73o), (a74w, a74b, a74o), (a75w, a75b, a75o), (a76w, a76b, a76o), (a77w, a77b, a77o), (a78w, a78b, a78o), (a79w, a79b, a79o), (a80w, a80b, a80o), (a81w, a81b, a81o), (a82w, a82b, a82o), (a83w, a83b, a83o), (a84w, a84b, a84o), (a85w, a85b, a85o), (a86w, a86b, a86o), (a87w, a87b, a87o), (a88w, a88b, a88o), (a89w, a89b, a89o), (a90w, a90b, a90o), (a91w, a91b, a91o)]
noncomputable def p5E : Env := EEw 7 (orcAdd 228 5 7 p5t)
set_option maxRecDepth 1000000 in
theorem p5r : FnFact p5E 143 60 5 [p5x, p5y] [.int .i64 16, .int .i64 16] p5o := by
  unfold FnFact
  kernel_rfl
end Go.MiniT
