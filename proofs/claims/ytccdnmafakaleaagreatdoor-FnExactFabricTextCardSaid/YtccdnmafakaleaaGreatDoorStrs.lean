/-
  Rows of strings.
-/
import Derived.Test.YtccdnmafakaleaaGreatDoorTxt0
import Derived.Test.YtccdnmafakaleaaGreatDoorOwn
import Derived.Test.YtccdnmafakaleaaGreatDoorAppend
import Derived.Lib.ItoaLen
import Derived.Lib.Hide
namespace Go.Proofs.YtccdnmafakaleaaGreatDoor
set_option linter.unusedVariables false
set_option linter.unusedSimpArgs false
open Go.RowKit

theorem box_cells {w : World} {us : List Value} {t : TypeId} : CellsAt (w.alloc (.cells us.toArray t)) w.heap.size 0 us := fun i x hi => by
  have h := new_cells w t us i x hi
  have e : (⟨w.heap.size, 0, none⟩ : Addr).add i = ⟨w.heap.size, 0 + i, none⟩ := by unfold Addr.add; split <;> simp_all
  rw [← e]
  exact h
theorem itoa_len (n : Int) (h0 : -1000 ≤ n) (h1 : n ≤ 1000) : (Lib.itoa n).length ≤ 21 := Nat.le_trans (Lib.itoa_length_le n (by omega) (by omega)) (by omega)
/-- A row of strings. -/
def sC (l : List (List UInt8)) : List Value := l.map strV
theorem sC_app (a b : List (List UInt8)) : sC (a ++ b) = sC a ++ sC b := by simp [sC]
theorem sC_one (a : List (List UInt8)) : ∀ u ∈ sC a, u.oneCell' = true := by
  intro u hu
  obtain ⟨x, _, rfl⟩ := List.mem_map.1 hu
  rfl
theorem info_str : (Tryz.prog.info? 9).map (fun i => (i.zero, i.size, i.bytes)) = some (some (.string ⟨#[]⟩), 1, 16) := by kernel_rfl

end Go.Proofs.YtccdnmafakaleaaGreatDoor
