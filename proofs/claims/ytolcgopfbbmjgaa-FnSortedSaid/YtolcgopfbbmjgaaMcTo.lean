/-
  Copies of machines: what the laws' toInt64SS, toCarrierS, toInfoS, toMachine do.
-/
import Derived.Test.YtolcgopfbbmjgaaMc
import Derived.Test.YtolcgopfbbmjgaaInt
namespace Go.Proofs.Ytolcgopfbbmjgaa
set_option linter.unusedVariables false
set_option linter.unusedSimpArgs false
open Go.RowKit

theorem info_sl : (Try.prog.info? 39).map (fun i => (i.zero, i.size, i.bytes)) = some (some (.slice none 0 0), 1, 24) := by kernel_rfl


theorem info_car : (Try.prog.info? 74).map (fun i => (i.zero, i.size, i.bytes)) = some (some (.agg #[.bool false, .int .i64 0]), 2, 16) := by kernel_rfl


theorem info_inf : (Try.prog.info? 76).map (fun i => (i.zero, i.size, i.bytes)) = some (some (.agg #[.int .i64 0, .int .i64 0, .int .i64 0, .int .i64 0, .int .i64 0, .slice none 0 0]), 6, 64) := by kernel_rfl

theorem RdLL.up {w w' : World} {B : Nat} {v : Value} {l : List (List Int)} (h : RdLL w B v l) (hb : Below B w w') (hB : B ≤ w'.heap.size) : RdLL w' w'.heap.size v l := RdLL.more (RdLL.below h hb) hB
theorem RdIs.up {w w' : World} {B : Nat} {v : Value} {l : List Inf} (h : RdIs w B v l) (hb : Below B w w') (hB : B ≤ w'.heap.size) : RdIs w' w'.heap.size v l := RdIs.more (RdIs.below h hb) hB
theorem RdCs.up {w w' : World} {B : Nat} {v : Value} {l : List Car} (h : RdCs w B v l) (hb : Below B w w') (hB : B ≤ w'.heap.size) : RdCs w' w'.heap.size v l := RdS.more (RdS.below h hb) hB

end Go.Proofs.Ytolcgopfbbmjgaa
