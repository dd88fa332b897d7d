/-
  ValidEvents and StrandsOf of the program.
-/
import Derived.Test.YtccdnmafakaleaaGreatDoorStrands
namespace Go.Proofs.YtccdnmafakaleaaGreatDoor
set_option linter.unusedVariables false
set_option linter.unusedSimpArgs false
open Go.RowKit

def okEvs (l : List Ev) : Bool := (cntE 0 l).isSome && decide (l.length ≤ 2000)

set_option maxHeartbeats 1000000 in
theorem implValidEvents_any (v : Value) (l : List Ev) (w : World) (B : Nat) (hl : RdE w B v l) (hB : B ≤ w.heap.size) :
    Calls Tryz.prog 25 #[v] w fun e w' => e = .returned (.bool (okEvs l)) ∧ Below w.heap.size w w' := by
  have HL := Lib.hid hl
  obtain ⟨A, n, c, rfl, hln, hl, gl⟩ := hl
  have hok : okEvs l = ((cntE 0 l).isSome && decide ((n : Int) ≤ 2000)) := by unfold okEvs; rw [hl.out, Bool.eq_iff_iff]; simp; omega
  rw [hok]
  clear hok gl
  cases hR : cntE 0 l
  all_goals
    have HR := Lib.hid hR
    clear hR
    go_enter Tryz.func25, Tryz.ntmps25
    go_wp2_with fail
    refine (strandsAfter_any _ l 0 (by omega) (by omega) _ _ HL.out hB).mono ?_
    rintro e w1 ⟨he, hb1⟩
    rw [HR.out] at he
    unfold cntR at he
    subst he
    have HB1 := Lib.hid hb1
    clear hb1
    go_wp2
    go_ret
    exact ⟨rfl, HB1.out⟩

def str0 (l : List Ev) : Int := if okEvs l = true then (cntE 0 l).getD 0 else 0
def str1 (l : List Ev) : Int := if okEvs l = true then 0 else 1
def strandsR (l : List Ev) (e : Ending) : Prop := e = .returned (.tuple #[.int .i64 (str0 l), .int .i64 (str1 l)])


end Go.Proofs.YtccdnmafakaleaaGreatDoor
