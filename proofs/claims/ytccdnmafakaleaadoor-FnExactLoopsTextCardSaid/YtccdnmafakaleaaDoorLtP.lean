/-
  The text of loops, as bytes (plain).
-/
import Derived.Test.YtccdnmafakaleaaDoorTxt0
import Derived.Test.YtccdnmafakaleaaDoorMc
namespace Go.Proofs.YtccdnmafakaleaaDoor
set_option linter.unusedVariables false
set_option linter.unusedSimpArgs false

/-- The word of a loop's operation. -/
def opW (k : Int) : List UInt8 := if k = 1 then [107, 110, 105, 116] else if k = 2 then [116, 117, 99, 107] else [115, 112, 108, 105, 116]
/-- The word of a loop's state. -/
def stW (s : Int) : List UInt8 := if s = 1 then [104, 101, 108, 100] else if s = 2 then [108, 105, 118, 101] else if s = 3 then [100, 114, 111, 112, 112, 101, 100] else [108, 111, 111, 115, 101]
def sideW (d : Int) : List UInt8 := if d = 1 then [114, 105, 103, 104, 116] else [108, 101, 102, 116]
def ndW (b p : Int) : List UInt8 := (if b = 1 then 102 else 98) :: Lib.itoa p
/-- Numbers, each behind a blank. -/
def numsT (l : List Int) : List UInt8 := l.flatMap (fun n => 32 :: Lib.itoa n)
/-- A loop's words. -/
def ltW (i : Nat) (x : Inf) (s : Int) : List (List UInt8) := [Lib.itoa i, opW x.k, ndW x.b x.p, 121 :: Lib.itoa x.y, sideW x.d, stW s] ++ (if x.ps = [] then [] else [[111, 102], Lib.join (x.ps.map Lib.itoa) [32]])
/-- A loop's line. -/
def ltT (i : Nat) (x : Inf) (s : Int) : List UInt8 := Lib.itoa i ++ 32 :: opW x.k ++ 32 :: ndW x.b x.p ++ [32, 121] ++ Lib.itoa x.y ++ 32 :: sideW x.d ++ 32 :: stW s ++ (if x.ps = [] then [] else [32, 111, 102] ++ numsT x.ps)
theorem join_nums (a : Int) (l : List Int) : 32 :: Lib.join ((a :: l).map Lib.itoa) [32] = numsT (a :: l) := by
  rw [List.map_cons, Lib.join_cons]
  unfold Lib.joinTail numsT
  rw [List.flatMap_cons]
  have : (List.map (fun x => [32] ++ x) (List.map Lib.itoa l)).flatten = l.flatMap (fun n => 32 :: Lib.itoa n) := by
    rw [List.map_map, List.flatMap_def]
    rfl
  first
    | (rw [this]; rfl)
    | (simp only [List.cons_append, List.nil_append] at this ⊢; rw [this])
theorem ltW_join (i : Nat) (x : Inf) (s : Int) : Lib.join (ltW i x s) [32] = ltT i x s := by
  unfold ltW ltT
  cases h : x.ps with
  | nil => simp [Lib.join_cons, Lib.joinTail]
  | cons a l =>
    rw [if_neg (by simp), if_neg (by simp), ← join_nums a l]
    simp [Lib.join_cons, Lib.joinTail]
/-- The lines of loops, from number i on, with their states. -/
def ltsT : Nat → List Inf → (Nat → Int) → List UInt8
  | _, [], _ => []
  | i, x :: xs, f => ltT i x (f i) ++ 10 :: ltsT (i + 1) xs f

end Go.Proofs.YtccdnmafakaleaaDoor
