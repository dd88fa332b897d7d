/-
  The small tables of stitches: what ColumnsMade, ColumnsTaken, SymbolOf and MirrorStitch of program and reference return.
-/
import Derived.Test.YtmjjlajpcbickaaRows
import Derived.Test.YtmjjlajpcbickaaBase
namespace Go.Proofs.Ytmjjlajpcbickaa
open Go.RowKit

theorem l00In_any (n lo hi : Int) (w : World) :
    Calls Try.prog 34 #[.int .i64 n, .int .i64 lo, .int .i64 hi] w fun e w' => e = .returned (.bool (decide (lo ≤ n) && decide (n ≤ hi))) ∧ w = w' := by
  go_enter Try.func34, Try.ntmps34
  go_wp2
  all_goals go_ret
  all_goals exact ⟨ret_bool (by simp [*]; try omega), rfl⟩

theorem within_any (n lo hi : Int) (w : World) :
    Calls Try.prog 35 #[.int .i64 n, .int .i64 lo, .int .i64 hi] w fun e w' => e = .returned (.bool (decide (lo ≤ n) && decide (n ≤ hi))) ∧ w = w' := by
  go_enter Try.func35, Try.ntmps35
  go_wp2
  all_goals go_ret
  all_goals exact ⟨ret_bool (by simp [*]; try omega), rfl⟩

def okKind (k : Int) : Bool := decide (1 ≤ k) && decide (k ≤ 11)

theorem l14Kind_any (k : Int) (w : World) :
    Calls Try.prog 26 #[.int .i64 k] w fun e w' => e = .returned (.bool (okKind k)) ∧ w = w' := by
  go_enter Try.func26, Try.ntmps26
  go_wp2_with (go_at_call 34; refine (l00In_any _ _ _ _).mono ?_; rintro e w' ⟨rfl, rfl⟩)
  all_goals go_ret
  all_goals exact ⟨rfl, rfl⟩

theorem isStitch_any (k : Int) (w : World) :
    Calls Try.prog 27 #[.int .i64 k] w fun e w' => e = .returned (.bool (okKind k)) ∧ w = w' := by
  go_enter Try.func27, Try.ntmps27
  go_wp2_with (go_at_call 35; refine (within_any _ _ _ _).mono ?_; rintro e w' ⟨rfl, rfl⟩)
  all_goals go_ret
  all_goals exact ⟨rfl, rfl⟩

theorem okKind_cases {k : Int} (h : okKind k = true) : k = 1 ∨ k = 2 ∨ k = 3 ∨ k = 4 ∨ k = 5 ∨ k = 6 ∨ k = 7 ∨ k = 8 ∨ k = 9 ∨ k = 10 ∨ k = 11 := by
  unfold okKind at h
  simp at h
  omega

def tabl (l : List Int) (d k : Int) : Int := if okKind k = true then l.getD (k - 1).toNat 0 else d
def colMade (k : Int) : Int := tabl [1, 1, 1, 1, 1, 1, 1, 2, 2, 4, 4] (-1) k
def colTaken (k : Int) : Int := tabl [1, 1, 0, 2, 2, 1, 1, 2, 2, 4, 4] (-1) k
def mirrorS (k : Int) : Int := tabl [1, 2, 3, 5, 4, 6, 7, 9, 8, 11, 10] 0 k

theorem tabl_no {l : List Int} {d k : Int} (h : okKind k = false) : tabl l d k = d := by simp [tabl, h]

set_option maxHeartbeats 4000000 in
theorem specMade_any (k : Int) (w : World) :
    Calls Try.prog 9 #[.int .i64 k] w fun e w' => e = .returned (.int .i64 (colMade k)) ∧ Below w.heap.size w w' := by
  rcases h : okKind k
  · have hd : (decide (1 ≤ k) && decide (k ≤ 11)) = false := h
    have hk : colMade k = _ := tabl_no h
    have h4 : (k == 4) = false := by simp at hd ⊢; omega
    have h5 : (k == 5) = false := by simp at hd ⊢; omega
    have h8 : (k == 8) = false := by simp at hd ⊢; omega
    have h9 : (k == 9) = false := by simp at hd ⊢; omega
    have h10 : (k == 10) = false := by simp at hd ⊢; omega
    have h11 : (k == 11) = false := by simp at hd ⊢; omega
    have HK := Lib.hid hk
    clear hk hd
    go_enter Try.func9, Try.ntmps9
    go_wp2_with (go_at_call 26; refine (l14Kind_any _ _).mono ?_; rintro e w' ⟨rfl, rfl⟩)
    all_goals go_ret
    all_goals exact ⟨ret_int HK.out.symm, Below.refl _ _⟩
  · rcases okKind_cases h with rfl | rfl | rfl | rfl | rfl | rfl | rfl | rfl | rfl | rfl | rfl
    all_goals
      clear h
      go_enter Try.func9, Try.ntmps9
      go_wp2
      go_ret
      exact ⟨rfl, by first | exact Below.refl _ _ | exact (Below.refl _ _).alloc (Nat.le_refl _) _⟩
set_option maxHeartbeats 4000000 in
theorem specTaken_any (k : Int) (w : World) :
    Calls Try.prog 11 #[.int .i64 k] w fun e w' => e = .returned (.int .i64 (colTaken k)) ∧ Below w.heap.size w w' := by
  rcases h : okKind k
  · have hd : (decide (1 ≤ k) && decide (k ≤ 11)) = false := h
    have hk : colTaken k = _ := tabl_no h
    have h4 : (k == 4) = false := by simp at hd ⊢; omega
    have h5 : (k == 5) = false := by simp at hd ⊢; omega
    have h8 : (k == 8) = false := by simp at hd ⊢; omega
    have h9 : (k == 9) = false := by simp at hd ⊢; omega
    have h10 : (k == 10) = false := by simp at hd ⊢; omega
    have h11 : (k == 11) = false := by simp at hd ⊢; omega
    have HK := Lib.hid hk
    clear hk hd
    go_enter Try.func11, Try.ntmps11
    go_wp2_with (go_at_call 26; refine (l14Kind_any _ _).mono ?_; rintro e w' ⟨rfl, rfl⟩)
    all_goals go_ret
    all_goals exact ⟨ret_int HK.out.symm, Below.refl _ _⟩
  · rcases okKind_cases h with rfl | rfl | rfl | rfl | rfl | rfl | rfl | rfl | rfl | rfl | rfl
    all_goals
      clear h
      go_enter Try.func11, Try.ntmps11
      go_wp2
      go_ret
      exact ⟨rfl, by first | exact Below.refl _ _ | exact (Below.refl _ _).alloc (Nat.le_refl _) _⟩
set_option maxHeartbeats 4000000 in
theorem specMirror_any (k : Int) (w : World) :
    Calls Try.prog 15 #[.int .i64 k] w fun e w' => e = .returned (.int .i64 (mirrorS k)) ∧ Below w.heap.size w w' := by
  rcases h : okKind k
  · have hd : (decide (1 ≤ k) && decide (k ≤ 11)) = false := h
    have hk : mirrorS k = _ := tabl_no h
    have h4 : (k == 4) = false := by simp at hd ⊢; omega
    have h5 : (k == 5) = false := by simp at hd ⊢; omega
    have h8 : (k == 8) = false := by simp at hd ⊢; omega
    have h9 : (k == 9) = false := by simp at hd ⊢; omega
    have h10 : (k == 10) = false := by simp at hd ⊢; omega
    have h11 : (k == 11) = false := by simp at hd ⊢; omega
    have HK := Lib.hid hk
    clear hk hd
    go_enter Try.func15, Try.ntmps15
    go_wp2_with (go_at_call 26; refine (l14Kind_any _ _).mono ?_; rintro e w' ⟨rfl, rfl⟩)
    all_goals go_ret
    all_goals exact ⟨ret_int HK.out.symm, Below.refl _ _⟩
  · rcases okKind_cases h with rfl | rfl | rfl | rfl | rfl | rfl | rfl | rfl | rfl | rfl | rfl
    all_goals
      clear h
      go_enter Try.func15, Try.ntmps15
      go_wp2
      go_ret
      exact ⟨rfl, by first | exact Below.refl _ _ | exact (Below.refl _ _).alloc (Nat.le_refl _) _⟩
set_option maxHeartbeats 4000000 in
theorem implMade_any (k : Int) (w : World) :
    Calls Try.prog 10 #[.int .i64 k] w fun e w' => e = .returned (.int .i64 (colMade k)) ∧ Below w.heap.size w w' := by
  rcases h : okKind k
  · have hd : (decide (1 ≤ k) && decide (k ≤ 11)) = false := h
    have hk : colMade k = _ := tabl_no h
    have h4 : (k == 4) = false := by simp at hd ⊢; omega
    have h5 : (k == 5) = false := by simp at hd ⊢; omega
    have h8 : (k == 8) = false := by simp at hd ⊢; omega
    have h9 : (k == 9) = false := by simp at hd ⊢; omega
    have h10 : (k == 10) = false := by simp at hd ⊢; omega
    have h11 : (k == 11) = false := by simp at hd ⊢; omega
    have HK := Lib.hid hk
    clear hk hd
    go_enter Try.func10, Try.ntmps10
    go_wp2_with (go_at_call 27; refine (isStitch_any _ _).mono ?_; rintro e w' ⟨rfl, rfl⟩)
    all_goals go_ret
    all_goals exact ⟨ret_int HK.out.symm, Below.refl _ _⟩
  · rcases okKind_cases h with rfl | rfl | rfl | rfl | rfl | rfl | rfl | rfl | rfl | rfl | rfl
    all_goals
      clear h
      go_enter Try.func10, Try.ntmps10
      go_wp2
      go_ret
      exact ⟨rfl, by first | exact Below.refl _ _ | exact (Below.refl _ _).alloc (Nat.le_refl _) _⟩
set_option maxHeartbeats 4000000 in
theorem implTaken_any (k : Int) (w : World) :
    Calls Try.prog 12 #[.int .i64 k] w fun e w' => e = .returned (.int .i64 (colTaken k)) ∧ Below w.heap.size w w' := by
  rcases h : okKind k
  · have hd : (decide (1 ≤ k) && decide (k ≤ 11)) = false := h
    have hk : colTaken k = _ := tabl_no h
    have h4 : (k == 4) = false := by simp at hd ⊢; omega
    have h5 : (k == 5) = false := by simp at hd ⊢; omega
    have h8 : (k == 8) = false := by simp at hd ⊢; omega
    have h9 : (k == 9) = false := by simp at hd ⊢; omega
    have h10 : (k == 10) = false := by simp at hd ⊢; omega
    have h11 : (k == 11) = false := by simp at hd ⊢; omega
    have HK := Lib.hid hk
    clear hk hd
    go_enter Try.func12, Try.ntmps12
    go_wp2_with (go_at_call 27; refine (isStitch_any _ _).mono ?_; rintro e w' ⟨rfl, rfl⟩)
    all_goals go_ret
    all_goals exact ⟨ret_int HK.out.symm, Below.refl _ _⟩
  · rcases okKind_cases h with rfl | rfl | rfl | rfl | rfl | rfl | rfl | rfl | rfl | rfl | rfl
    all_goals
      clear h
      go_enter Try.func12, Try.ntmps12
      go_wp2
      go_ret
      exact ⟨rfl, by first | exact Below.refl _ _ | exact (Below.refl _ _).alloc (Nat.le_refl _) _⟩
set_option maxHeartbeats 4000000 in
theorem implMirror_any (k : Int) (w : World) :
    Calls Try.prog 16 #[.int .i64 k] w fun e w' => e = .returned (.int .i64 (mirrorS k)) ∧ Below w.heap.size w w' := by
  rcases h : okKind k
  · have hd : (decide (1 ≤ k) && decide (k ≤ 11)) = false := h
    have hk : mirrorS k = _ := tabl_no h
    have h4 : (k == 4) = false := by simp at hd ⊢; omega
    have h5 : (k == 5) = false := by simp at hd ⊢; omega
    have h8 : (k == 8) = false := by simp at hd ⊢; omega
    have h9 : (k == 9) = false := by simp at hd ⊢; omega
    have h10 : (k == 10) = false := by simp at hd ⊢; omega
    have h11 : (k == 11) = false := by simp at hd ⊢; omega
    have HK := Lib.hid hk
    clear hk hd
    go_enter Try.func16, Try.ntmps16
    go_wp2_with (go_at_call 27; refine (isStitch_any _ _).mono ?_; rintro e w' ⟨rfl, rfl⟩)
    all_goals go_ret
    all_goals exact ⟨ret_int HK.out.symm, Below.refl _ _⟩
  · rcases okKind_cases h with rfl | rfl | rfl | rfl | rfl | rfl | rfl | rfl | rfl | rfl | rfl
    all_goals
      clear h
      go_enter Try.func16, Try.ntmps16
      go_wp2
      go_ret
      exact ⟨rfl, by first | exact Below.refl _ _ | exact (Below.refl _ _).alloc (Nat.le_refl _) _⟩

end Go.Proofs.Ytmjjlajpcbickaa
