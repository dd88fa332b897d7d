/-
  Reading a number back: plain laws.
-/
import Derived.Test.YtgkapjjolhnliaaGreatDoorRdP
namespace Go.Proofs.YtgkapjjolhnliaaGreatDoor
set_option linter.unusedVariables false
set_option linter.unusedSimpArgs false

/-- A digit more. -/
def decS (a : Nat) (x : UInt8) : Nat := 10 * a + (x.toNat - 48)
/-- The digits' number, behind what stands read. -/
def decV (a : Nat) (l : List UInt8) : Nat := l.foldl decS a
theorem decV_nil (a : Nat) : decV a [] = a := rfl
theorem decV_cons (a : Nat) (x : UInt8) (xs : List UInt8) : decV a (x :: xs) = decV (10 * a + (x.toNat - 48)) xs := by
  unfold decV
  rw [List.foldl_cons]
  rfl
theorem decV_app (l r : List UInt8) (a : Nat) : decV a (l ++ r) = decV (decV a l) r := by
  unfold decV
  rw [List.foldl_append]
theorem decV_one (a : Nat) (x : UInt8) : decV a [x] = 10 * a + (x.toNat - 48) := rfl
theorem decV_digits (u : Nat) : decV 0 (Lib.decDigits u) = u := by
  induction u using Nat.strongRecOn with
  | ind u ih =>
    rw [Lib.decDigits]
    split
    · rename_i h
      have : (UInt8.ofNat (48 + u)).toNat = 48 + u := by rw [UInt8.toNat_ofNat']; omega
      rw [decV_one]
      omega
    · rename_i h
      have : (UInt8.ofNat (48 + u % 10)).toNat = 48 + u % 10 := by rw [UInt8.toNat_ofNat']; omega
      rw [decV_app, ih (u / 10) (by omega), decV_one]
      omega
theorem decDigits_len (k : Nat) : ∀ u, u < 10 ^ (k + 1) → 1 ≤ (Lib.decDigits u).length ∧ (Lib.decDigits u).length ≤ k + 1 := by
  induction k with
  | zero =>
    intro u h
    rw [Lib.decDigits, dif_pos (by omega)]
    simp
  | succ k ih =>
    intro u h
    rw [Lib.decDigits]
    split
    · simp
    · have := ih (u / 10) (by rw [Nat.pow_succ] at h; omega)
      simp
      omega
/-- What stands behind the sign. -/
def absT (s : List UInt8) : List UInt8 := if s.head? = some 45 then s.drop 1 else s
theorem absT_itoa (m : Int) : absT (Lib.itoa m) = Lib.decDigits m.natAbs := by
  unfold Lib.itoa absT
  split
  · rename_i h
    simp
  · rename_i h
    have h1 : (Lib.decDigits m.toNat).head? ≠ some 45 := by
      intro e
      have := decDigits_dig m.toNat 45 (List.mem_of_mem_head? (by rw [e]; rfl))
      simp at this
    rw [if_neg h1]
    congr 1
    omega
theorem sgn_itoa (m : Int) : (Lib.itoa m).head? = some 45 ↔ m < 0 := by
  unfold Lib.itoa
  split
  · rename_i h; simp [h]
  · rename_i h
    constructor
    · intro e
      have := decDigits_dig m.toNat 45 (List.mem_of_mem_head? (by rw [e]; rfl))
      simp at this
    · intro e; exact absurd e h
def isDig (x : UInt8) : Bool := decide (48 ≤ x.toNat) && decide (x.toNat ≤ 57)
theorem decV_lt (l : List UInt8) : ∀ a k, a < 10 ^ k → (∀ x ∈ l, isDig x = true) → decV a l < 10 ^ (k + l.length) := by
  induction l with
  | nil => intro a k h _; exact h
  | cons x xs ih =>
    intro a k h hd
    have h1 := hd x (by simp)
    unfold isDig at h1
    simp at h1
    have h3 : 10 * a + (x.toNat - 48) < 10 ^ (k + 1) := by rw [Nat.pow_succ]; omega
    have h2 := ih (10 * a + (x.toNat - 48)) (k + 1) h3 (fun y hy => hd y (by simp [hy]))
    rw [decV_cons, List.length_cons, show k + (xs.length + 1) = k + 1 + xs.length by omega]
    exact h2
/-- The number of a text. -/
def numV (s : List UInt8) : Int := if s.head? = some 45 then -((decV 0 (absT s) : Nat) : Int) else ((decV 0 (absT s) : Nat) : Int)
theorem numV_itoa (m : Int) : numV (Lib.itoa m) = m := by
  unfold numV
  rw [absT_itoa, decV_digits]
  by_cases h : m < 0
  · rw [if_pos ((sgn_itoa m).2 h)]; omega
  · rw [if_neg (fun e => h ((sgn_itoa m).1 e))]; omega
theorem itoa_abs {m : Int} (h0 : -999999999 ≤ m) (h1 : m ≤ 999999999) : (1 ≤ (absT (Lib.itoa m)).length ∧ (absT (Lib.itoa m)).length ≤ 9) ∧ ∀ x ∈ absT (Lib.itoa m), isDig x = true := by
  rw [absT_itoa]
  refine ⟨decDigits_len 8 _ (by omega), fun x hx => ?_⟩
  have := decDigits_dig _ x hx
  unfold isDig
  simp
  omega
theorem itoa_inj {m n : Int} (h : Lib.itoa m = Lib.itoa n) : m = n := by rw [← numV_itoa m, h, numV_itoa n]
/-- What is read of a number's word. -/
structure NumR (l : List UInt8) (n : Int) : Prop where
  lo : -999999999 ≤ n
  hi : n ≤ 999999999
  eq : ∀ m : Int, -999999999 ≤ m → m ≤ 999999999 → l = Lib.itoa m → n = m
theorem numR_zero {l : List UInt8} (h : ∀ m : Int, -999999999 ≤ m → m ≤ 999999999 → l = Lib.itoa m → False) : NumR l 0 := ⟨by omega, by omega, fun m a b c => (h m a b c).elim⟩
theorem numR_len {l : List UInt8} (h : ¬ (1 ≤ (absT l).length ∧ (absT l).length ≤ 9)) : NumR l 0 := numR_zero fun m a b c => by subst c; exact h (itoa_abs a b).1
theorem numR_dig {l : List UInt8} {x : UInt8} (h : x ∈ absT l) (hx : isDig x = false) : NumR l 0 := numR_zero fun m a b c => by
  subst c
  have := (itoa_abs a b).2 x h
  rw [hx] at this
  cases this
theorem numR_val {l : List UInt8} {n : Int} (h : n = numV l) (h1 : -999999999 ≤ n) (h2 : n ≤ 999999999) : NumR l n := ⟨h1, h2, fun m _ _ c => by subst c; rw [h, numV_itoa]⟩
theorem numR_not {l : List UInt8} {n : Int} (h : n = numV l) (h1 : Lib.itoa n ≠ l) : NumR l 0 := numR_zero fun m _ _ c => h1 (by subst c; rw [h, numV_itoa])
theorem numV_bd {l : List UInt8} (h1 : (absT l).length ≤ 9) (h2 : ∀ x ∈ absT l, isDig x = true) : decV 0 (absT l) ≤ 999999999 := by
  have h := decV_lt (absT l) 0 0 (by omega) h2
  have : 10 ^ (0 + (absT l).length) ≤ 10 ^ 9 := Nat.pow_le_pow_right (by omega) (by omega)
  omega
theorem decV_take (l : List UInt8) (i : Nat) (h : i < l.length) : decV 0 (l.take (i + 1)) = 10 * decV 0 (l.take i) + (l[i].toNat - 48) := by
  rw [List.take_add_one, List.getElem?_eq_getElem h, decV_app]
  exact decV_one _ _
end Go.Proofs.YtgkapjjolhnliaaGreatDoor
