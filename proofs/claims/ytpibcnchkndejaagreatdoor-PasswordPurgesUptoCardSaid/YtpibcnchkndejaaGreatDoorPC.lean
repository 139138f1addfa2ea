/- A call of derive.Password. -/
import Derived.Test.YtpibcnchkndejaaGreatDoorTE
import Derived.Test.YtpibcnchkndejaaGreatDoorBA
import Derived.Test.YtpibcnchkndejaaGreatDoorBB
import Derived.Test.YtpibcnchkndejaaGreatDoorBC
namespace Go.MiniT
open Go Go.Mini
def p4x : List Nat := [112, 97, 115, 115, 50]
def p4y : List Nat := [104, 105, 115, 116, 111, 114, 121, 32, 97, 64, 82]
def p4o : List Nat := [112, 91, 142, 81, 105, 9, 130, 46, 38, 249, 193, 195, 150, 226, 53, 1]
def p4t : AddTab := [(a14w, a14b, a14o), (a28w, a28b, a28o), (a16w, a16b, a16o), (a29w, a29b, a29o), (a30w, a30b, a30o), (a31w, a31b, a31o), (a32w, a32b, a32o), (a33w, a33b, a33o), (a34w, a34b, a34o), (a35w, a35b, a35o), (a36w, a36b, a36o), (a37w, a37b, a37o), (a38w, a38b, a38o), (a39w, a39b, a39o), (a40w, a40b, a40o), (a41w, a41b, a41o), (a42w, a42b, a42o), (a43w, a43b, a43o), (a44w, a44b, a44o), (a45w, a45b, a45o), (a46w, a46b, a46o), (a47w, a47b, a47o), (a48w, a48b, a48o), (a49w, a49b, a49o), (a50w, a50b, a50o), (a51w, a51b, a51o), (a52w, a52b, a52o), (a53w, a53b, a53o), (a54w, a54b, a54o), (a55w, a55b, a55o), (a56w, a56b, a56o), (a57w, a57b, a57o), (a58w, a58b, a58o), (a59w, a59b, a59o)]
noncomputable def p4E : Env := EEw 7 (orcAdd 228 5 7 p4t)
set_option maxRecDepth 1000000 in
theorem p4r : FnFact p4E 143 60 5 [p4x, p4y] [.int .i64 16, .int .i64 16] p4o := by
  unfold FnFact
  kernel_rfl
end Go.MiniT
