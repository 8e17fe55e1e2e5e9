/- Small words shared by all walks of this seat: what the walk imports, and a few plain lemmas on worlds. No conditions. -/
import Derived.Test.YtjbhlojfmcldjabRows
import Derived.WalkKit
import Derived.WalkSpells
import Derived.WalkLawsBesides
import Derived.Lib.Hide
import Derived.Deep.DeepMust
import Derived.Deep.DeepFit
import Derived.Deep.LoopGhost
namespace Go.Proofs.Ytjbhlojfmcldjab
set_option linter.unusedVariables false
open Go.RowKit
end Go.Proofs.Ytjbhlojfmcldjab
