/-
  Operations on machines as plain data: the code, and the machine behind an operation.
-/
import Derived.Test.YtogaellhkjjeaaaMcFab
import Derived.Test.YtogaellhkjjeaaaOpL
import Derived.Test.YtogaellhkjjeaaaPlc
import Derived.Test.YtogaellhkjjeaaaMv
namespace Go.Proofs.Ytogaellhkjjeaaa
set_option linter.unusedVariables false
set_option linter.unusedSimpArgs false
open Go.RowKit

abbrev Opr.f (o : Opr) : Int × Int := (o.fb, o.fa)
abbrev Opr.t (o : Opr) : Int × Int := (o.tb, o.ta)
def carAt (m : Mc) (c : Int) : Car := m.cs.getD (c - 1).toNat ⟨false, 0⟩
def setC (m : Mc) (c : Int) (x : Car) : Mc := { m with cs := m.cs.set (c - 1).toNat x }
def plcO (m : Mc) (o : Opr) : Int := plc o.fb o.fa m.rk
/-- The carrier is in, and on the right side. -/
def carOk (m : Mc) (o : Opr) : Bool := (carAt m o.c).i && (!(decide (o.d = 1) && decide (plcO m o < (carAt m o.c).p)) && !(decide (o.d = -1) && decide ((carAt m o.c).p < plcO m o + 1)))
def carTo (m : Mc) (o : Opr) : Mc := setC m o.c ⟨(carAt m o.c).i, if o.d = 1 then plcO m o + 1 else plcO m o⟩
def addLp (m : Mc) (o : Opr) (ps : List Int) : Mc := { m with ls := m.ls ++ [⟨o.k, o.c, o.fb, o.fa, o.d, ps⟩] }
def mvCode (m : Mc) (o : Opr) : Int :=
  if plc o.fb o.fa m.rk ≠ plc o.tb o.ta m.rk then 8 else if (onL m o.f).length = 0 then 7 else if 4 < (onL m o.f).length + (onL m o.t).length then 5 else 0
def mvL (m : Mc) (o : Opr) : List Int := if o.tb = 2 then onL m o.f ++ onL m o.t else onL m o.t ++ onL m o.f
def mvTo (m : Mc) (o : Opr) : Mc := setL (setL m o.t (mvL m o)) o.f []
def fmCode (m : Mc) (o : Opr) : Int :=
  if carOk m o = false then 9 else if 300 ≤ m.ls.length then 5 else if o.k = 1 then 0 else if o.k = 2 then (if 4 ≤ (onL m o.f).length then 5 else 0) else mvCode m o
def fmTo (m : Mc) (o : Opr) : Mc :=
  if o.k = 1 then setL (addLp (carTo m o) o (onL m o.f)) o.f [(m.ls.length : Int)]
  else if o.k = 2 then setL (addLp (carTo m o) o []) o.f (onL m o.f ++ [(m.ls.length : Int)])
  else setL (addLp (mvTo (carTo m o) o) o (onL m o.f)) o.f [(m.ls.length : Int)]
/-- A number is put to its place among rising ones, once. -/
def putI : List Int → Int → List Int
  | [], n => [n]
  | x :: t, n => if n ≤ x then (if n < x then n :: x :: t else x :: t) else x :: putI t n
def putAll (l : List Int) (ns : List Int) : List Int := ns.foldl putI l
def doCode (m : Mc) (o : Opr) : Int :=
  if o.k = 1 ∨ o.k = 2 ∨ o.k = 5 then fmCode m o
  else if o.k = 3 then (if carOk m o = false then 9 else 0)
  else if o.k = 4 then mvCode m o
  else if o.k = 6 then (if (onL m o.f).length = 0 then 7 else 0)
  else if o.k = 7 then 0
  else if (carAt m o.c).i = decide (o.k = 8) then 9 else 0
def doTo (m : Mc) (o : Opr) : Mc :=
  if o.k = 1 ∨ o.k = 2 ∨ o.k = 5 then fmTo m o
  else if o.k = 3 then carTo m o
  else if o.k = 4 then mvTo m o
  else if o.k = 6 then setL { m with dr := putAll m.dr (onL m o.f) } o.f []
  else if o.k = 7 then { m with rk := o.r }
  else setC m o.c (if o.k = 8 then ⟨true, if o.d = -1 then m.wd + 3 else -3⟩ else ⟨false, 0⟩)

/-! ### What a valid operation names -/
theorem ndB_iff {b a : Int} : ndB b a = true ↔ (b = 1 ∨ b = 2) ∧ 0 ≤ a ∧ a ≤ 23 := by
  unfold ndB bedM
  simp only [Bool.and_eq_true, decide_eq_true_eq, inB_iff]
theorem dirM_iff {d : Int} : dirM d = true ↔ d = 1 ∨ d = -1 := by simp [dirM]
/-- What each kind of a valid operation has. -/
theorem okOp_kinds {o : Opr} (h : okOp o = true) :
    ((o.k = 1 ∨ o.k = 2 ∨ o.k = 3) ∧ (o.d = 1 ∨ o.d = -1) ∧ ndB o.fb o.fa = true ∧ 1 ≤ o.c ∧ o.c ≤ 4 ∧ o.tb = 0 ∧ o.ta = 0 ∧ o.r = 0) ∨
    (o.k = 4 ∧ ndB o.fb o.fa = true ∧ ndB o.tb o.ta = true ∧ o.fb ≠ o.tb ∧ o.d = 0 ∧ o.c = 0 ∧ o.r = 0) ∨
    (o.k = 5 ∧ ndB o.fb o.fa = true ∧ ndB o.tb o.ta = true ∧ o.fb ≠ o.tb ∧ (o.d = 1 ∨ o.d = -1) ∧ 1 ≤ o.c ∧ o.c ≤ 4 ∧ o.r = 0) ∨
    (o.k = 6 ∧ ndB o.fb o.fa = true ∧ o.d = 0 ∧ o.tb = 0 ∧ o.ta = 0 ∧ o.c = 0 ∧ o.r = 0) ∨
    (o.k = 7 ∧ -3 ≤ o.r ∧ o.r ≤ 3 ∧ o.d = 0 ∧ o.fb = 0 ∧ o.fa = 0 ∧ o.tb = 0 ∧ o.ta = 0 ∧ o.c = 0) ∨
    (o.k = 8 ∧ (o.d = 1 ∨ o.d = -1) ∧ 1 ≤ o.c ∧ o.c ≤ 4 ∧ o.fb = 0 ∧ o.fa = 0 ∧ o.tb = 0 ∧ o.ta = 0 ∧ o.r = 0) ∨
    (o.k = 9 ∧ 1 ≤ o.c ∧ o.c ≤ 4 ∧ o.d = 0 ∧ o.fb = 0 ∧ o.fa = 0 ∧ o.tb = 0 ∧ o.ta = 0 ∧ o.r = 0) := by
  obtain ⟨k, d, fb, fa, tb, ta, c, r⟩ := o
  unfold okOp at h
  simp only at h ⊢
  split at h
  · rename_i hk
    simp only [Bool.and_eq_true, decide_eq_true_eq, dirM_iff, inB_iff] at h
    obtain ⟨h1, h2, h3, h4, h5⟩ := h
    exact .inl ⟨hk, h1, h2, h3.1, h3.2, h4.1, h4.2, h5⟩
  split at h
  · rename_i hk1 hk
    simp only [Bool.and_eq_true, decide_eq_true_eq] at h
    obtain ⟨⟨h1, h2, h3⟩, h4, h5, h6⟩ := h
    exact .inr (.inl ⟨hk, h1, h2, h3, h4, h5, h6⟩)
  split at h
  · rename_i hk1 hk2 hk
    simp only [Bool.and_eq_true, decide_eq_true_eq, dirM_iff, inB_iff] at h
    obtain ⟨⟨h1, h2, h3⟩, h4, h5, h6⟩ := h
    exact .inr (.inr (.inl ⟨hk, h1, h2, h3, h4, h5.1, h5.2, h6⟩))
  split at h
  · rename_i hk1 hk2 hk3 hk
    simp only [Bool.and_eq_true, decide_eq_true_eq, Opr.mk.injEq] at h
    obtain ⟨h1, h2⟩ := h
    exact .inr (.inr (.inr (.inl ⟨hk, h1, by omega, by omega, by omega, by omega, by omega⟩)))
  split at h
  · rename_i hk1 hk2 hk3 hk4 hk
    simp only [Bool.and_eq_true, decide_eq_true_eq, inB_iff, Opr.mk.injEq] at h
    exact .inr (.inr (.inr (.inr (.inl ⟨hk, by omega, by omega, by omega, by omega, by omega, by omega, by omega, by omega⟩))))
  split at h
  · rename_i hk1 hk2 hk3 hk4 hk5 hk
    simp only [Bool.and_eq_true, decide_eq_true_eq, dirM_iff, inB_iff, Opr.mk.injEq] at h
    obtain ⟨h1, h2, h3⟩ := h
    exact .inr (.inr (.inr (.inr (.inr (.inl ⟨hk, h1, h2.1, h2.2, by omega, by omega, by omega, by omega, by omega⟩)))))
  split at h
  · rename_i hk1 hk2 hk3 hk4 hk5 hk6 hk
    simp only [Bool.and_eq_true, decide_eq_true_eq, inB_iff, Opr.mk.injEq] at h
    exact .inr (.inr (.inr (.inr (.inr (.inr ⟨hk, by omega, by omega, by omega, by omega, by omega, by omega, by omega, by omega⟩)))))
  · simp at h
theorem okOpW_iff {wd : Int} {o : Opr} : okOpW wd o = true ↔ okOp o = true ∧ o.fa < wd ∧ o.ta < wd := by simp [okOpW]

end Go.Proofs.Ytogaellhkjjeaaa
