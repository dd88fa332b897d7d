/-
  The text of an event: the program's side.
-/
import Derived.Test.YtccdnmafakaleaaGreatDoorTxt
import Derived.Test.YtccdnmafakaleaaGreatDoorStrs
import Derived.Test.YtccdnmafakaleaaGreatDoorOwn
import Derived.Test.YtccdnmafakaleaaGreatDoorAppend
import Derived.Test.YtccdnmafakaleaaGreatDoorDecI
import Derived.Lib.ItoaLen
import Derived.Lib.Hide
import Derived.OwnWalk
import Derived.BigCall
import Derived.Deep.RegionHeld3
import Derived.Deep.RegionWith
import Derived.Deep.DeepCutAuto
import Derived.Deep.CutRange
import Derived.Deep.CutBlock
namespace Go.Proofs.YtccdnmafakaleaaGreatDoor
set_option linter.unusedVariables false
set_option linter.unusedSimpArgs false
open Go.RowKit

def wordsL : List Value := [strV [], strV [99, 114, 111, 115, 115], strV [107, 110, 105, 116], strV [116, 117, 99, 107], strV [100, 114, 111, 112], strV [115, 112, 108, 105, 116]]
theorem words_at (k : Nat) (h1 : 1 ≤ k) (h5 : k ≤ 5) : wordsL[k]? = some (strV (wordK (k : Int))) := by
  have : k = 1 ∨ k = 2 ∨ k = 3 ∨ k = 4 ∨ k = 5 := by omega
  rcases this with rfl | rfl | rfl | rfl | rfl <;> rfl
theorem wordK_len (k : Int) : (wordK k).length ≤ 5 := by
  unfold wordK
  repeat' split
  all_goals simp
theorem evT_len (e : Ev) (hp : -1000 ≤ e.p ∧ e.p ≤ 1000) (hc : -1000 ≤ e.c ∧ e.c ≤ 1000) (hy : -1000 ≤ e.y ∧ e.y ≤ 1000) : (evT e).length ≤ 1000 := by
  have h1 := itoa_len e.p hp.1 hp.2
  have h2 := itoa_len e.c hc.1 hc.2
  have h3 := itoa_len e.y hy.1 hy.2
  have h4 := wordK_len e.k
  unfold evT yarnT
  simp only [List.length_append, List.length_cons]
  have h5 : (if e.k = 3 then ([] : List UInt8) else 32 :: Lib.itoa e.c).length ≤ 22 := by
    split
    · simp
    · simp; omega
  have h6 : (if e.y = 0 then ([] : List UInt8) else 32 :: (if e.b = 2 then 98 else 102) :: (if e.d = -1 then 45 else 43) :: Lib.itoa e.y).length ≤ 24 := by
    split
    · simp
    · simp; omega
  omega
def WordsRes (w : World) (e : Ending) (w' : World) : Prop := ∃ g, e = .returned (.slice (some ⟨g, 0, none⟩) 6 6) ∧ w.heap.size ≤ g ∧ CellsAt w' g 0 wordsL ∧ Below w.heap.size w w'
set_option maxHeartbeats 4000000 in
set_option maxRecDepth 100000 in
theorem eventWords_any (w : World) : Calls Tryz.prog 29 #[] w (WordsRes w) := by
  go_enter Tryz.func29, Tryz.ntmps29
  go_wp2
  go_ret
  exact ⟨_, rfl, Nat.le_refl _, box_cells (us := wordsL), (Below.refl _ _).alloc (Nat.le_refl _) _⟩
set_option maxHeartbeats 4000000 in
set_option maxRecDepth 100000 in
theorem l10Words_any (w : World) : Calls Tryz.prog 24 #[] w (WordsRes w) := by
  go_enter Tryz.func24, Tryz.ntmps24
  go_wp2
  go_ret
  exact ⟨_, rfl, Nat.le_refl _, box_cells (us := wordsL), (Below.refl _ _).alloc (Nat.le_refl _) _⟩

end Go.Proofs.YtccdnmafakaleaaGreatDoor
