/- The run of known. -/
import Derived.Test.YthbialpbkpiekaaGreatDoorXF
import Derived.Test.YthbialpbkpiekaaGreatDoorXE
import Derived.Test.YthbialpbkpiekaaGreatDoorBA
import Derived.Test.YthbialpbkpiekaaGreatDoorBB
namespace Go.MiniT
open Go Go.Mini
noncomputable def blocksT : AddTab := [(a0w, a0b, a0o), (a1w, a1b, a1o), (a2w, a2b, a2o), (a3w, a3b, a3o), (a4w, a4b, a4o), (a5w, a5b, a5o), (a6w, a6b, a6o), (a7w, a7b, a7o), (a8w, a8b, a8o), (a9w, a9b, a9o), (a10w, a10b, a10o), (a11w, a11b, a11o), (a12w, a12b, a12o), (a13w, a13b, a13o), (a14w, a14b, a14o), (a15w, a15b, a15o)]
noncomputable def innerO : Orc := orOrc (orcAdd 49 10 40 blocksT) (orOrc (orcPolicies 80 46) (orOrc (orcJoin 170) (orOrc (orcIndex 209) (orOrc (orcClone 125) (orOrc (orcClone 126) (orcClone 127))))))
noncomputable def innerE : Env := EEw 40 innerO
noncomputable def knownO : Orc := orOrc innerO (orOrc (orcTakeErr innerE 400 15 20) (orOrc (orcTake innerE 400 15 60 29 46 2) (orcTake innerE 400 15 60 29 47 3)))
noncomputable def knownE : Env := EEw 40 knownO
end Go.MiniT
