/-
  SymbolOf of program and reference.
-/
import Derived.Test.YtmgicdcpeblpnaaStitch
namespace Go.Proofs.Ytmgicdcpeblpnaa
set_option linter.unusedVariables false
set_option linter.unusedSimpArgs false
open Go.RowKit

def symB (k : Int) : ByteArray := if okKind k = true then ⟨#[([107, 112, 111, 100, 101, 116, 115, 120, 121, 88, 89] : List UInt8).getD (k - 1).toNat 0]⟩ else ⟨#[]⟩
theorem symB_no {k : Int} (h : okKind k = false) : symB k = ⟨#[]⟩ := by simp [symB, h]

set_option maxHeartbeats 4000000 in
theorem specSym_any (k : Int) (w : World) :
    Calls Try.prog 58 #[.int .i64 k] w fun e w' => e = .returned (.string (symB k)) ∧ Below w.heap.size w w' := by
  rcases h : okKind k
  · have hk : symB k = _ := symB_no h
    have HH := Lib.hid h
    rw [hk]
    clear h hk
    go_enter Try.func58, Try.ntmps58
    go_wp2_with (go_at_call 96; refine (l14Kind_any _ _).mono ?_; rintro e w' ⟨rfl, rfl⟩; rw [HH.out])
    go_ret
    exact ⟨rfl, Below.refl _ _⟩
  · rcases okKind_cases h with rfl | rfl | rfl | rfl | rfl | rfl | rfl | rfl | rfl | rfl | rfl
    all_goals
      clear h
      go_enter Try.func58, Try.ntmps58
      go_wp2
      go_ret
      exact ⟨rfl, Below.refl _ _⟩
set_option maxHeartbeats 4000000 in
theorem implSym_any (k : Int) (w : World) :
    Calls Try.prog 101 #[.int .i64 k] w fun e w' => e = .returned (.string (symB k)) ∧ Below w.heap.size w w' := by
  rcases h : okKind k
  · have hk : symB k = _ := symB_no h
    have HH := Lib.hid h
    rw [hk]
    clear h hk
    go_enter Try.func101, Try.ntmps101
    go_wp2_with (go_at_call 99; refine (isStitch_any _ _).mono ?_; rintro e w' ⟨rfl, rfl⟩; rw [HH.out])
    go_ret
    exact ⟨rfl, Below.refl _ _⟩
  · rcases okKind_cases h with rfl | rfl | rfl | rfl | rfl | rfl | rfl | rfl | rfl | rfl | rfl
    all_goals
      clear h
      go_enter Try.func101, Try.ntmps101
      go_wp2
      go_ret
      exact ⟨rfl, Below.refl _ _⟩

end Go.Proofs.Ytmgicdcpeblpnaa
