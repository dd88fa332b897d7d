/-
  The small tables of stitches: what ColumnsMade, ColumnsTaken, SymbolOf and MirrorStitch of program and reference return.
-/
import Derived.Test.YtmgicdcpeblpnaaRows
import Derived.Test.YtmgicdcpeblpnaaBase
namespace Go.Proofs.Ytmgicdcpeblpnaa
set_option linter.unusedVariables false
set_option linter.unusedSimpArgs false
open Go.RowKit

theorem l00In_any (n lo hi : Int) (w : World) :
    Calls Try.prog 82 #[.int .i64 n, .int .i64 lo, .int .i64 hi] w fun e w' => e = .returned (.bool (decide (lo ≤ n) && decide (n ≤ hi))) ∧ w = w' := by
  go_enter Try.func82, Try.ntmps82
  go_wp2
  all_goals go_ret
  all_goals exact ⟨ret_bool (by simp [*]; try omega), rfl⟩

theorem within_any (n lo hi : Int) (w : World) :
    Calls Try.prog 114 #[.int .i64 n, .int .i64 lo, .int .i64 hi] w fun e w' => e = .returned (.bool (decide (lo ≤ n) && decide (n ≤ hi))) ∧ w = w' := by
  go_enter Try.func114, Try.ntmps114
  go_wp2
  all_goals go_ret
  all_goals exact ⟨ret_bool (by simp [*]; try omega), rfl⟩

def okKind (k : Int) : Bool := decide (1 ≤ k) && decide (k ≤ 11)

theorem l14Kind_any (k : Int) (w : World) :
    Calls Try.prog 96 #[.int .i64 k] w fun e w' => e = .returned (.bool (okKind k)) ∧ w = w' := by
  go_enter Try.func96, Try.ntmps96
  go_wp2_with (go_at_call 82; refine (l00In_any _ _ _ _).mono ?_; rintro e w' ⟨rfl, rfl⟩)
  all_goals go_ret
  all_goals exact ⟨rfl, rfl⟩

theorem isStitch_any (k : Int) (w : World) :
    Calls Try.prog 99 #[.int .i64 k] w fun e w' => e = .returned (.bool (okKind k)) ∧ w = w' := by
  go_enter Try.func99, Try.ntmps99
  go_wp2_with (go_at_call 114; refine (within_any _ _ _ _).mono ?_; rintro e w' ⟨rfl, rfl⟩)
  all_goals go_ret
  all_goals exact ⟨rfl, rfl⟩

theorem okKind_cases {k : Int} (h : okKind k = true) : k = 1 ∨ k = 2 ∨ k = 3 ∨ k = 4 ∨ k = 5 ∨ k = 6 ∨ k = 7 ∨ k = 8 ∨ k = 9 ∨ k = 10 ∨ k = 11 := by
  unfold okKind at h
  simp at h
  omega

def tabl (l : List Int) (d k : Int) : Int := if okKind k = true then l.getD (k - 1).toNat 0 else d
def colMade (k : Int) : Int := tabl [1, 1, 1, 1, 1, 1, 1, 2, 2, 4, 4] (-1) k
def colTaken (k : Int) : Int := tabl [1, 1, 0, 2, 2, 1, 1, 2, 2, 4, 4] (-1) k
def mirrorS (k : Int) : Int := tabl [1, 2, 3, 5, 4, 6, 7, 9, 8, 11, 10] 0 k

theorem tabl_no {l : List Int} {d k : Int} (h : okKind k = false) : tabl l d k = d := by simp [tabl, h]

set_option maxHeartbeats 4000000 in
theorem specTaken_any (k : Int) (w : World) :
    Calls Try.prog 53 #[.int .i64 k] w fun e w' => e = .returned (.int .i64 (colTaken k)) ∧ Below w.heap.size w w' := by
  rcases h : okKind k
  · have hd : (decide (1 ≤ k) && decide (k ≤ 11)) = false := h
    have hk : colTaken k = _ := tabl_no h
    have h4 : (k == 4) = false := by simp at hd ⊢; omega
    have h5 : (k == 5) = false := by simp at hd ⊢; omega
    have h8 : (k == 8) = false := by simp at hd ⊢; omega
    have h9 : (k == 9) = false := by simp at hd ⊢; omega
    have h10 : (k == 10) = false := by simp at hd ⊢; omega
    have h11 : (k == 11) = false := by simp at hd ⊢; omega
    have HK := Lib.hid hk
    clear hk hd
    go_enter Try.func53, Try.ntmps53
    go_wp2_with (go_at_call 96; refine (l14Kind_any _ _).mono ?_; rintro e w' ⟨rfl, rfl⟩)
    all_goals go_ret
    all_goals exact ⟨ret_int HK.out.symm, Below.refl _ _⟩
  · rcases okKind_cases h with rfl | rfl | rfl | rfl | rfl | rfl | rfl | rfl | rfl | rfl | rfl
    all_goals
      clear h
      go_enter Try.func53, Try.ntmps53
      go_wp2
      go_ret
      exact ⟨rfl, by first | exact Below.refl _ _ | exact (Below.refl _ _).alloc (Nat.le_refl _) _⟩
set_option maxHeartbeats 4000000 in
theorem implTaken_any (k : Int) (w : World) :
    Calls Try.prog 100 #[.int .i64 k] w fun e w' => e = .returned (.int .i64 (colTaken k)) ∧ Below w.heap.size w w' := by
  rcases h : okKind k
  · have hd : (decide (1 ≤ k) && decide (k ≤ 11)) = false := h
    have hk : colTaken k = _ := tabl_no h
    have h4 : (k == 4) = false := by simp at hd ⊢; omega
    have h5 : (k == 5) = false := by simp at hd ⊢; omega
    have h8 : (k == 8) = false := by simp at hd ⊢; omega
    have h9 : (k == 9) = false := by simp at hd ⊢; omega
    have h10 : (k == 10) = false := by simp at hd ⊢; omega
    have h11 : (k == 11) = false := by simp at hd ⊢; omega
    have HK := Lib.hid hk
    clear hk hd
    go_enter Try.func100, Try.ntmps100
    go_wp2_with (go_at_call 99; refine (isStitch_any _ _).mono ?_; rintro e w' ⟨rfl, rfl⟩)
    all_goals go_ret
    all_goals exact ⟨ret_int HK.out.symm, Below.refl _ _⟩
  · rcases okKind_cases h with rfl | rfl | rfl | rfl | rfl | rfl | rfl | rfl | rfl | rfl | rfl
    all_goals
      clear h
      go_enter Try.func100, Try.ntmps100
      go_wp2
      go_ret
      exact ⟨rfl, by first | exact Below.refl _ _ | exact (Below.refl _ _).alloc (Nat.le_refl _) _⟩

end Go.Proofs.Ytmgicdcpeblpnaa
