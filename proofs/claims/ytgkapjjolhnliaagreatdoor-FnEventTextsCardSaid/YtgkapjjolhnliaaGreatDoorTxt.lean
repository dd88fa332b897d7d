/-
  The text of an event, as bytes (plain).
-/
import Derived.Test.YtgkapjjolhnliaaGreatDoorEv
import Derived.Lib.ItoaNum
import Derived.Lib.Join
namespace Go.Proofs.YtgkapjjolhnliaaGreatDoor
set_option linter.unusedVariables false
set_option linter.unusedSimpArgs false

/-- Digits of a number, none for 0. -/
def digs (u : Nat) : List UInt8 := if u = 0 then [] else Lib.decDigits u
theorem digs_step {u : Nat} (h : u ≠ 0) : digs u = digs (u / 10) ++ [UInt8.ofNat (48 + u % 10)] := by
  unfold digs
  rw [if_neg h]
  by_cases h10 : u < 10
  · rw [Lib.decDigits, dif_pos h10, if_pos (by omega)]
    simp
    congr 1
    omega
  · rw [Lib.decDigits, dif_neg h10, if_neg (by omega)]
theorem itoa_zero : Lib.itoa 0 = [48] := by unfold Lib.itoa; rw [if_neg (by omega), Lib.decDigits]; rfl
theorem itoa_pos {n : Int} (h : 0 < n) : Lib.itoa n = digs n.natAbs := by
  unfold Lib.itoa digs
  rw [if_neg (by omega), if_neg (by omega)]
  congr 1
  omega
theorem itoa_neg {n : Int} (h : n < 0) : Lib.itoa n = 45 :: digs n.natAbs := by
  unfold Lib.itoa digs
  rw [if_pos h, if_neg (by omega)]
def wordK (k : Int) : List UInt8 := if k = 1 then [99, 114, 111, 115, 115] else if k = 2 then [107, 110, 105, 116] else if k = 3 then [116, 117, 99, 107] else if k = 4 then [100, 114, 111, 112] else [115, 112, 108, 105, 116]
/-- The word of a bed, a direction and a carrier. -/
def yarnT (e : Ev) : List UInt8 := (if e.b = 2 then 98 else 102) :: (if e.d = -1 then 45 else 43) :: Lib.itoa e.y
/-- The text of an event. -/
def evT (e : Ev) : List UInt8 := wordK e.k ++ (32 :: Lib.itoa e.p) ++ (if e.k = 3 then [] else 32 :: Lib.itoa e.c) ++ (if e.y = 0 then [] else 32 :: yarnT e)
/-- The words of an event. -/
def evW (e : Ev) : List (List UInt8) := [wordK e.k, Lib.itoa e.p] ++ (if e.k = 3 then [] else [Lib.itoa e.c]) ++ (if e.y = 0 then [] else [yarnT e])
theorem evT_join (e : Ev) : Lib.join (evW e) [32] = evT e := by
  unfold evW evT
  by_cases h3 : e.k = 3 <;> by_cases hy : e.y = 0 <;> simp [h3, hy, Lib.join_cons, Lib.joinTail]
/-- A string of bytes. -/
def strV (l : List UInt8) : Value := .string ⟨l.toArray⟩
theorem str_app (a b : List UInt8) : (⟨a.toArray⟩ ++ ⟨b.toArray⟩ : ByteArray) = ⟨(a ++ b).toArray⟩ := by
  apply ByteArray.ext
  simp

end Go.Proofs.YtgkapjjolhnliaaGreatDoor
