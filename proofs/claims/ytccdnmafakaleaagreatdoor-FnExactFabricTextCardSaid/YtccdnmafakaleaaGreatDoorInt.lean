/-
  What the laws' helpers for lists of int64 do: toInt64S, eqInt64S.
-/
import Derived.Test.YtccdnmafakaleaaGreatDoorRows
import Derived.Test.YtccdnmafakaleaaGreatDoorMem
import Derived.Deep.OwnRows
namespace Go.Proofs.YtccdnmafakaleaaGreatDoor
set_option linter.unusedVariables false
set_option linter.unusedSimpArgs false
open Go.RowKit

theorem info_int : (Tryz.prog.info? 2).map (fun i => (i.zero, i.size, i.bytes)) = some (some (.int .i64 0), 1, 8) := by kernel_rfl



end Go.Proofs.YtccdnmafakaleaaGreatDoor
