/-
  The text of an event, as bytes (plain).
-/
import Derived.Test.YtccdnmafakaleaaGreatDoorEv
import Derived.Test.YtccdnmafakaleaaGreatDoorTxt0
import Derived.Lib.ItoaNum
import Derived.Lib.Join
namespace Go.Proofs.YtccdnmafakaleaaGreatDoor
set_option linter.unusedVariables false
set_option linter.unusedSimpArgs false

def wordK (k : Int) : List UInt8 := if k = 1 then [99, 114, 111, 115, 115] else if k = 2 then [107, 110, 105, 116] else if k = 3 then [116, 117, 99, 107] else if k = 4 then [100, 114, 111, 112] else [115, 112, 108, 105, 116]
/-- The word of a bed, a direction and a carrier. -/
def yarnT (e : Ev) : List UInt8 := (if e.b = 2 then 98 else 102) :: (if e.d = -1 then 45 else 43) :: Lib.itoa e.y
/-- The text of an event. -/
def evT (e : Ev) : List UInt8 := wordK e.k ++ (32 :: Lib.itoa e.p) ++ (if e.k = 3 then [] else 32 :: Lib.itoa e.c) ++ (if e.y = 0 then [] else 32 :: yarnT e)
/-- The words of an event. -/
def evW (e : Ev) : List (List UInt8) := [wordK e.k, Lib.itoa e.p] ++ (if e.k = 3 then [] else [Lib.itoa e.c]) ++ (if e.y = 0 then [] else [yarnT e])
theorem evT_join (e : Ev) : Lib.join (evW e) [32] = evT e := by
  unfold evW evT
  by_cases h3 : e.k = 3 <;> by_cases hy : e.y = 0 <;> simp [h3, hy, Lib.join_cons, Lib.joinTail]
end Go.Proofs.YtccdnmafakaleaaGreatDoor
