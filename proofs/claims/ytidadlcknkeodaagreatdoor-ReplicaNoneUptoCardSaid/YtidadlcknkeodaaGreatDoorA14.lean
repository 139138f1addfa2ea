/- A part of the proof. -/
import Derived.Test.YtidadlcknkeodaaGreatDoorA10
import Derived.Test.YtidadlcknkeodaaGreatDoorA11
import Derived.Test.YtidadlcknkeodaaGreatDoorA12
import Derived.Test.YtidadlcknkeodaaGreatDoorA13
/- The run of known (law30), for whatever seat. -/
namespace Go.MiniT
open Go Go.Mini
noncomputable def blocksT : AddTab := [(a0w, a0b, a0o), (a1w, a1b, a1o), (a2w, a2b, a2o), (a3w, a3b, a3o), (a4w, a4b, a4o), (a5w, a5b, a5o), (a6w, a6b, a6o), (a7w, a7b, a7o), (a8w, a8b, a8o), (a9w, a9b, a9o), (a10w, a10b, a10o), (a11w, a11b, a11o), (a12w, a12b, a12o), (a13w, a13b, a13o), (a14w, a14b, a14o), (a15w, a15b, a15o)]
noncomputable def innerO : Orc := orOrc (orcAdd 81 11 40 blocksT) (orOrc (orcPolicies 70 34) (orOrc (orcJoin 183) (orOrc (orcIndex 233) (orOrc (orcClone 77) (orOrc (orcClone 78) (orcClone 79))))))
noncomputable def innerE : Env := EEw 40 innerO
noncomputable def knownO : Orc := orOrc innerO (orOrc (orcTakeErr innerE 400 15 51) (orOrc (orcTake innerE 400 15 67 40 45 2) (orcTake innerE 400 15 67 40 46 3)))
noncomputable def knownE : Env := EEw 40 knownO
end Go.MiniT
