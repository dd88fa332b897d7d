/-
  What the laws' helpers for lists of int64 do: toInt64S, eqInt64S.
-/
import Derived.Test.YtolcgopfbbmjgaaRows
import Derived.Test.YtolcgopfbbmjgaaMem
import Derived.Deep.OwnRows
namespace Go.Proofs.Ytolcgopfbbmjgaa
set_option linter.unusedVariables false
set_option linter.unusedSimpArgs false
open Go.RowKit

theorem info_int : (Try.prog.info? 2).map (fun i => (i.zero, i.size, i.bytes)) = some (some (.int .i64 0), 1, 8) := by kernel_rfl



end Go.Proofs.Ytolcgopfbbmjgaa
