/-
  The text of an event: the reference's l10Text.
-/
import Derived.Test.YtgkapjjolhnliaaGreatDoorEvtA
import Derived.Test.YtgkapjjolhnliaaGreatDoorDec
namespace Go.Proofs.YtgkapjjolhnliaaGreatDoor
set_option linter.unusedVariables false
set_option linter.unusedSimpArgs false
open Go.RowKit


end Go.Proofs.YtgkapjjolhnliaaGreatDoor
