/-
  BraidEvents: l03Ok, l10Letters, wordEvents, BraidEvents of program and reference.
-/
import Derived.Test.YtccdnmafakaleaaGreatDoorBraidV
import Derived.Test.YtccdnmafakaleaaGreatDoorStitches
import Derived.Test.YtccdnmafakaleaaGreatDoorAppend
import Derived.Test.YtccdnmafakaleaaGreatDoorOwn
namespace Go.Proofs.YtccdnmafakaleaaGreatDoor
set_option linter.unusedVariables false
set_option linter.unusedSimpArgs false
open Go.RowKit

def letE (k : Int) : Ev := ⟨1, (if k < 0 then -k else k) - 1, (if k < 0 then -1 else 1), 0, 0, 0⟩
def letsE (l : List Int) : List Ev := l.map letE
theorem letE_neg {k : Int} (h : k < 0) : letE k = ⟨1, -k - 1, -1, 0, 0, 0⟩ := by simp [letE, h]
theorem letE_pos {k : Int} (h : ¬ k < 0) : letE k = ⟨1, k - 1, 1, 0, 0, 0⟩ := by simp [letE, h]

/-- Letters that are letters on at most 12 strands. -/
def Lets (l : List Int) : Prop := ∀ x ∈ l, x ≠ 0 ∧ -11 ≤ x ∧ x ≤ 11
theorem lets_of {b : Br} (h : okBr b = true) : Lets b.w ∧ b.w.length ≤ 40 ∧ 0 ≤ b.n ∧ b.n ≤ 12 := by
  unfold okBr at h
  simp [-List.any_eq_true, -List.any_eq_false] at h
  obtain ⟨⟨h0, h1⟩, h2, h3⟩ := h
  refine ⟨fun x hx => ?_, h2, h0, h1⟩
  have := List.any_eq_false.1 h3 x hx
  unfold badL at this
  simp at this
  omega

theorem lets_snoc {l : List Int} {acc : List Ev} {k : Nat} {x : Int} (h : letsE l = acc ++ letsE (l.drop k)) (hx : l[k]? = some x) : letsE l = (acc ++ [letE x]) ++ letsE (l.drop (k + 1)) := by
  rw [h, drop_of_get hx, List.append_assoc]
  rfl

theorem l03Abs_any (k : Int) (h0 : -11 ≤ k) (h1 : k ≤ 11) (w : World) : Calls Tryz.prog 45 #[.int .i64 k] w fun e w' => e = .returned (.int .i64 (if k < 0 then -k else k)) ∧ w = w' := by
  by_cases h : k < 0
  all_goals
    go_enter Tryz.func45, Tryz.ntmps45
    go_wp2
    go_ret
    exact ⟨ret_int (by simp [h]), rfl⟩

theorem size_any (k : Int) (h0 : -11 ≤ k) (h1 : k ≤ 11) (w : World) : Calls Tryz.prog 66 #[.int .i64 k] w fun e w' => e = .returned (.int .i64 (if k < 0 then -k else k)) ∧ w = w' := by
  have hm : max k (-k) = if k < 0 then -k else k := by split <;> omega
  by_cases h : k < 0
  all_goals
    go_enter Tryz.func66, Tryz.ntmps66
    go_wp2
    all_goals go_ret
    all_goals exact ⟨ret_int (by first | rfl | omega | (split <;> omega)), rfl⟩



def braidL (b : Br) : List Ev := if okBr b = true then letsE b.w else []


end Go.Proofs.YtccdnmafakaleaaGreatDoor
