/-
  A number as decimal text: l01Dec of the reference.
-/
import Derived.Test.YtgkapjjolhnliaaGreatDoorTxt
import Derived.Test.YtgkapjjolhnliaaGreatDoorOwn
import Derived.Test.YtgkapjjolhnliaaGreatDoorAppend
import Derived.Laws.IdiomStrings
import Derived.Lib.Slices
import Derived.Lib.Hide
import Derived.Lib.ItoaLen
import Derived.OwnWalk
import Derived.BigCall
namespace Go.Proofs.YtgkapjjolhnliaaGreatDoor
set_option linter.unusedVariables false
set_option linter.unusedSimpArgs false
open Go.RowKit

theorem info_byte : (Tryz.prog.info? 5).map (fun i => (i.zero, i.size, i.bytes)) = some (some (.int .u8 0), 1, 1) := by kernel_rfl
def bC (l : List UInt8) : List Value := Lib.byteCells l
theorem bC_app (a b : List UInt8) : bC (a ++ b) = bC a ++ bC b := by simp [bC, Lib.byteCells]
theorem bC_len (a : List UInt8) : (bC a).length = a.length := by simp [bC, Lib.byteCells]
theorem bC_one (a : List UInt8) : ∀ u ∈ bC a, u.oneCell' = true := by
  intro u hu
  unfold bC Lib.byteCells at hu
  obtain ⟨x, _, rfl⟩ := List.mem_map.1 hu
  rfl
theorem reads_byte (w : World) (x : Int) : Reads (w.alloc (.cells #[.int .u8 x] 5)) (w.heap.size + 1) 1 (some ⟨w.heap.size, 0, none⟩) 1 [.int .u8 x] :=
  ⟨rfl, fun _ => ⟨_, rfl, Nat.lt_succ_self _, new_cells' _ _ rfl⟩⟩
theorem bC_ofNat {m : Nat} (h : m < 256) : bC [UInt8.ofNat m] = [.int .u8 (m : Int)] := by
  simp [bC, Lib.byteCells]
  omega
theorem own_base2 {w : World} {base base' e sz n : Nat} {v : Value} {xs : List Value} (h : w.ownsRow base e sz v n xs) (hb : base' ≤ base) : w.ownsRow base' e sz v n xs := by
  refine ⟨h.1, ?_⟩
  rcases h.2 with h2 | ⟨g, cap, cur, hv, hg', hh, h3⟩
  · exact .inl h2
  · exact .inr ⟨g, cap, cur, hv, by omega, hh, h3⟩
theorem digs_len (n : Nat) (h : n ≤ 9223372036854775807) : (digs n).length ≤ 21 := by
  rcases Nat.eq_zero_or_pos n with h0 | h0
  · subst h0; simp [digs]
  · have h1 := Lib.itoa_length_le (n : Int) (by omega) (by omega)
    rw [itoa_pos (by omega)] at h1
    exact h1

end Go.Proofs.YtgkapjjolhnliaaGreatDoor
