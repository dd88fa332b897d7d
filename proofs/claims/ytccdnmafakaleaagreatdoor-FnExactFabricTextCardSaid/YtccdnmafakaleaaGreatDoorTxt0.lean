/-
  Numbers as text, strings of bytes (plain).
-/
import Derived.Test.YtccdnmafakaleaaGreatDoorBase
import Derived.Test.YtccdnmafakaleaaGreatDoorRows
import Derived.Test.YtccdnmafakaleaaGreatDoorChecked
import Derived.Lib.ItoaNum
import Derived.Lib.Join
namespace Go.Proofs.YtccdnmafakaleaaGreatDoor
set_option linter.unusedVariables false
set_option linter.unusedSimpArgs false

/-- Digits of a number, none for 0. -/
def digs (u : Nat) : List UInt8 := if u = 0 then [] else Lib.decDigits u
theorem digs_step {u : Nat} (h : u ≠ 0) : digs u = digs (u / 10) ++ [UInt8.ofNat (48 + u % 10)] := by
  unfold digs
  rw [if_neg h]
  by_cases h10 : u < 10
  · rw [Lib.decDigits, dif_pos h10, if_pos (by omega)]
    simp
    congr 1
    omega
  · rw [Lib.decDigits, dif_neg h10, if_neg (by omega)]
theorem itoa_zero : Lib.itoa 0 = [48] := by unfold Lib.itoa; rw [if_neg (by omega), Lib.decDigits]; rfl
theorem itoa_pos {n : Int} (h : 0 < n) : Lib.itoa n = digs n.natAbs := by
  unfold Lib.itoa digs
  rw [if_neg (by omega), if_neg (by omega)]
  congr 1
  omega
theorem itoa_neg {n : Int} (h : n < 0) : Lib.itoa n = 45 :: digs n.natAbs := by
  unfold Lib.itoa digs
  rw [if_pos h, if_neg (by omega)]
/-- A string of bytes. -/
def strV (l : List UInt8) : Value := .string ⟨l.toArray⟩
theorem str_app (a b : List UInt8) : (⟨a.toArray⟩ ++ ⟨b.toArray⟩ : ByteArray) = ⟨(a ++ b).toArray⟩ := by
  apply ByteArray.ext
  simp

end Go.Proofs.YtccdnmafakaleaaGreatDoor
