/-
  loopCode of the program, l11Ask of the reference: the code of a machine and a loop.
-/
import Derived.Test.YtccdnmafakaleaaDoorMcValid
import Derived.Test.YtccdnmafakaleaaDoorMcOkS
import Derived.Test.YtccdnmafakaleaaDoorMcAsk0
namespace Go.Proofs.YtccdnmafakaleaaDoor
set_option linter.unusedVariables false
set_option linter.unusedSimpArgs false
open Go.RowKit


end Go.Proofs.YtccdnmafakaleaaDoor
