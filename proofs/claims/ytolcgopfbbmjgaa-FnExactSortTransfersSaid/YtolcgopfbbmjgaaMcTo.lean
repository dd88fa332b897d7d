/-
  Copies of machines: what the laws' toInt64SS, toCarrierS, toInfoS, toMachine do.
-/
import Derived.Test.YtolcgopfbbmjgaaMc
import Derived.Test.YtolcgopfbbmjgaaInt
namespace Go.Proofs.Ytolcgopfbbmjgaa
set_option linter.unusedVariables false
set_option linter.unusedSimpArgs false
open Go.RowKit

theorem info_sl : (Try.prog.info? 39).map (fun i => (i.zero, i.size, i.bytes)) = some (some (.slice none 0 0), 1, 24) := by kernel_rfl


theorem info_car : (Try.prog.info? 74).map (fun i => (i.zero, i.size, i.bytes)) = some (some (.agg #[.bool false, .int .i64 0]), 2, 16) := by kernel_rfl


theorem info_inf : (Try.prog.info? 76).map (fun i => (i.zero, i.size, i.bytes)) = some (some (.agg #[.int .i64 0, .int .i64 0, .int .i64 0, .int .i64 0, .int .i64 0, .slice none 0 0]), 6, 64) := by kernel_rfl


end Go.Proofs.Ytolcgopfbbmjgaa
