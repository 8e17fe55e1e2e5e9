/- The closed facts of the row, joined. -/
import Derived.Test.YtmabpnmnppfgaaaGreatDoorFactsA
import Derived.Test.YtmabpnmnppfgaaaGreatDoorFactsB
import Derived.Test.YtmabpnmnppfgaaaGreatDoorFactsC
import Derived.Test.YtmabpnmnppfgaaaGreatDoorFactsD
import Derived.Test.YtmabpnmnppfgaaaGreatDoorFactsE
import Derived.Test.YtmabpnmnppfgaaaGreatDoorReach
import Derived.Test.YtmabpnmnppfgaaaGreatDoorLaidOut
namespace Go.Proofs.YtmabpnmnppfgaaaGreatDoor
open Go
set_option linter.unusedVariables false
set_option maxRecDepth 100000
theorem and2 {a b : Bool} (ha : a = true) (hb : b = true) : (a && b) = true := by rw [ha, hb]; rfl
theorem progIs : Tryz.pinned.checked.prog = Tryz.prog := rfl
theorem joined : joinedFacts Tryz.pinned.checked.prog 3 Tryz.f3 Rows.adminParsesSpec Rows.adminParsesRow = true := by
  rw [progIs]
  unfold joinedFacts
  exact (and2 (and2 (and2 (and2 (and2 (and2 (and2 (and2 (and2 (and2 (and2 (and2 (and2 (and2 (and2 (and2 (and2 (and2 (and2 (and2 (and2 (and2 (and2 (and2 (and2 (and2 (and2 (and2 (and2 (and2 (and2 fact1 laidOut) fact3) fact4) fact5) fact6) fact7) fact8) fact9) fact10) fact11) fact12) fact13) fact14) fact15) fact16) fact17) fact18) fact19) fact20) fact21) fact22) fact23) fact24) fact25) fact26) fact27) fact28) fact29) fact30) fact31) fact32)
end Go.Proofs.YtmabpnmnppfgaaaGreatDoor
