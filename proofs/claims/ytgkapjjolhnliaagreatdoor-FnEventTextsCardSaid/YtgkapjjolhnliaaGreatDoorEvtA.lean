/-
  The text of an event: the program's side.
-/
import Derived.Test.YtgkapjjolhnliaaGreatDoorTxt
import Derived.Test.YtgkapjjolhnliaaGreatDoorOwn
import Derived.Test.YtgkapjjolhnliaaGreatDoorAppend
import Derived.Test.YtgkapjjolhnliaaGreatDoorDecI
import Derived.Lib.ItoaLen
import Derived.Lib.Hide
import Derived.OwnWalk
import Derived.BigCall
import Derived.Deep.RegionHeld3
import Derived.Deep.RegionWith
import Derived.Deep.DeepCutAuto
import Derived.Deep.CutRange
import Derived.Deep.CutBlock
namespace Go.Proofs.YtgkapjjolhnliaaGreatDoor
set_option linter.unusedVariables false
set_option linter.unusedSimpArgs false
open Go.RowKit

theorem box_cells {w : World} {us : List Value} {t : TypeId} : CellsAt (w.alloc (.cells us.toArray t)) w.heap.size 0 us := fun i x hi => by
  have h := new_cells w t us i x hi
  have e : (⟨w.heap.size, 0, none⟩ : Addr).add i = ⟨w.heap.size, 0 + i, none⟩ := by unfold Addr.add; split <;> simp_all
  rw [← e]
  exact h
def wordsL : List Value := [strV [], strV [99, 114, 111, 115, 115], strV [107, 110, 105, 116], strV [116, 117, 99, 107], strV [100, 114, 111, 112], strV [115, 112, 108, 105, 116]]
theorem words_at (k : Nat) (h1 : 1 ≤ k) (h5 : k ≤ 5) : wordsL[k]? = some (strV (wordK (k : Int))) := by
  have : k = 1 ∨ k = 2 ∨ k = 3 ∨ k = 4 ∨ k = 5 := by omega
  rcases this with rfl | rfl | rfl | rfl | rfl <;> rfl
theorem itoa_len (n : Int) (h0 : -1000 ≤ n) (h1 : n ≤ 1000) : (Lib.itoa n).length ≤ 21 := Nat.le_trans (Lib.itoa_length_le n (by omega) (by omega)) (by omega)
theorem wordK_len (k : Int) : (wordK k).length ≤ 5 := by
  unfold wordK
  repeat' split
  all_goals simp
theorem evT_len (e : Ev) (hp : -1000 ≤ e.p ∧ e.p ≤ 1000) (hc : -1000 ≤ e.c ∧ e.c ≤ 1000) (hy : -1000 ≤ e.y ∧ e.y ≤ 1000) : (evT e).length ≤ 1000 := by
  have h1 := itoa_len e.p hp.1 hp.2
  have h2 := itoa_len e.c hc.1 hc.2
  have h3 := itoa_len e.y hy.1 hy.2
  have h4 := wordK_len e.k
  unfold evT yarnT
  simp only [List.length_append, List.length_cons]
  have h5 : (if e.k = 3 then ([] : List UInt8) else 32 :: Lib.itoa e.c).length ≤ 22 := by
    split
    · simp
    · simp; omega
  have h6 : (if e.y = 0 then ([] : List UInt8) else 32 :: (if e.b = 2 then 98 else 102) :: (if e.d = -1 then 45 else 43) :: Lib.itoa e.y).length ≤ 24 := by
    split
    · simp
    · simp; omega
  omega
/-- A row of strings. -/
def sC (l : List (List UInt8)) : List Value := l.map strV
theorem sC_app (a b : List (List UInt8)) : sC (a ++ b) = sC a ++ sC b := by simp [sC]
theorem sC_one (a : List (List UInt8)) : ∀ u ∈ sC a, u.oneCell' = true := by
  intro u hu
  obtain ⟨x, _, rfl⟩ := List.mem_map.1 hu
  rfl
theorem info_str : (Tryz.prog.info? 9).map (fun i => (i.zero, i.size, i.bytes)) = some (some (.string ⟨#[]⟩), 1, 16) := by kernel_rfl
def WordsRes (w : World) (e : Ending) (w' : World) : Prop := ∃ g, e = .returned (.slice (some ⟨g, 0, none⟩) 6 6) ∧ w.heap.size ≤ g ∧ CellsAt w' g 0 wordsL ∧ Below w.heap.size w w'
set_option maxHeartbeats 4000000 in
set_option maxRecDepth 100000 in
theorem eventWords_any (w : World) : Calls Tryz.prog 16 #[] w (WordsRes w) := by
  go_enter Tryz.func16, Tryz.ntmps16
  go_wp2
  go_ret
  exact ⟨_, rfl, Nat.le_refl _, box_cells (us := wordsL), (Below.refl _ _).alloc (Nat.le_refl _) _⟩

end Go.Proofs.YtgkapjjolhnliaaGreatDoor
