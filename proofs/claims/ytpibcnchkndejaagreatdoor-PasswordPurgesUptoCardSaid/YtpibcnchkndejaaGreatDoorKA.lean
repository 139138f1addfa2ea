/- The run of known. -/
import Derived.Test.YtpibcnchkndejaaGreatDoorTE
import Derived.Test.YtpibcnchkndejaaGreatDoorPA
import Derived.Test.YtpibcnchkndejaaGreatDoorPB
import Derived.Test.YtpibcnchkndejaaGreatDoorPC
import Derived.Test.YtpibcnchkndejaaGreatDoorPD
import Derived.Test.YtpibcnchkndejaaGreatDoorPE
namespace Go.MiniT
open Go Go.Mini
noncomputable def fnTab : List FnRow := [⟨143, p0x, p0y, [.int .i64 4, .int .i64 16], p0o⟩, ⟨144, p1x, p1y, [.nilS, .int .i64 16], p1o⟩, ⟨143, p2x, p2y, [.int .i64 4, .int .i64 16], p2o⟩, ⟨144, p3x, p3y, [.nilS, .int .i64 16], p3o⟩, ⟨143, p4x, p4y, [.int .i64 16, .int .i64 16], p4o⟩, ⟨143, p5x, p5y, [.int .i64 16, .int .i64 16], p5o⟩, ⟨143, p6x, p6y, [.int .i64 4, .int .i64 16], p6o⟩, ⟨144, p7x, p7y, [.nilS, .int .i64 16], p7o⟩]
noncomputable def knownO : Orc := orOrc (orcFn 143 144 5 fnTab) (orOrc (orcJoin 76) (orcIndex 215))
noncomputable def knownE : Env := EEw 40 knownO
end Go.MiniT
