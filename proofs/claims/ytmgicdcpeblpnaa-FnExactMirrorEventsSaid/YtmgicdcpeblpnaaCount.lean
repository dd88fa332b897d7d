/-
  l10Count; ValidEvents and StrandsOf of program and reference.
-/
import Derived.Test.YtmgicdcpeblpnaaL10e
namespace Go.Proofs.Ytmgicdcpeblpnaa
set_option linter.unusedVariables false
set_option linter.unusedSimpArgs false
open Go.RowKit

def okEvs (l : List Ev) : Bool := (cntE 0 l).isSome && decide (l.length ≤ 2000)

set_option maxHeartbeats 4000000 in
set_option maxRecDepth 100000 in
theorem l10Count_any (v : Value) (l : List Ev) (w : World) (B : Nat) (hl : RdE w B v l) (hB : B ≤ w.heap.size) :
    Calls Try.prog 65 #[v] w fun e w' => e = .returned (.tuple #[.int .i64 ((cntE 0 l).getD 0), .bool (okEvs l)]) ∧ Below w.heap.size w w' := by
  obtain ⟨A, n, c, rfl, hln, hl, gl⟩ := hl
  have hok : okEvs l = ((cntE 0 l).isSome && decide ((n : Int) ≤ 2000)) := by unfold okEvs; rw [hl.out, Bool.eq_iff_iff]; simp; omega
  rw [hok]
  clear hok
  generalize hR : cntE 0 l = R
  have HR := Lib.hid hR
  clear hR
  go_enter Try.func65, Try.ntmps65
  go_wp2
  go_loopw [4, 5] (fun t i wr => ∃ (k : Nat) (m : Int), k ≤ n ∧ i = .int .i64 k ∧ t = .int .i64 m ∧ 0 ≤ m ∧ m ≤ 12 ∧ Hid (cntE 0 l = cntE m (l.drop k)) ∧ Below w.heap.size w wr) (fun _ i _ => n - (intOf i).toNat)
  case atStart => exact ⟨0, 0, Nat.zero_le _, rfl, rfl, by omega, by omega, rfl, Below.refl _ _⟩
  case round =>
    rename_i wr
    obtain ⟨k, m, hk, rfl, rfl, m0, m1, hd, hb⟩ := hrel
    by_cases hlt : k < n
    · obtain ⟨b, off, x, rfl, hbb, hlk, hc⟩ := gl k hlt
      have HC := Lib.hid (hc.below hb (Nat.lt_of_lt_of_le hbb hB))
      have HB := Lib.hid hb
      have Hl := Lib.hid hlk
      clear hc hb hlk gl
      rcases hv : valE m x
      · have HV := Lib.hid hv
        clear hv
        have HN := Lib.hid (HR.out.symm.trans (drop_cnt_no hd.out Hl.out (by rw [HV.out]; simp)))
        go_wp2_with fail
        refine (l10Event_any x m m0 m1 _ _ _ HC.out).mono ?_
        rintro e w1 ⟨q, rfl, hq, hb1⟩
        rw [HV.out]
        have HB1 := Lib.hid (HB.out.trans (hb1.mono HB.out.size))
        clear hb1 hq
        go_wp2
        go_ret2
        exact ⟨by rw [HN.out]; rfl, HB1.out⟩
      · have HV := Lib.hid hv
        clear hv
        obtain ⟨a0, a1⟩ := aft_bounds m0 m1 HV.out
        by_cases ha : aftE m x ≤ 12
        · have HD := Lib.hid (drop_cnt_yes hd.out Hl.out HV.out ha)
          go_wp2_with fail
          refine (l10Event_any x m m0 m1 _ _ _ HC.out).mono ?_
          rintro e w1 ⟨q, rfl, hq, hb1⟩
          rw [HV.out]
          obtain rfl := hq HV.out
          have HB1 := Lib.hid (HB.out.trans (hb1.mono HB.out.size))
          clear hb1 hq
          go_wp2
          exact ⟨⟨k + 1, _, by omega, by go_num, rfl, a0, ha, HD.out, HB1.out⟩, by simp [intOf]; omega⟩
        · have HN := Lib.hid (HR.out.symm.trans (drop_cnt_no hd.out Hl.out (fun h => ha h.2)))
          go_wp2_with fail
          refine (l10Event_any x m m0 m1 _ _ _ HC.out).mono ?_
          rintro e w1 ⟨q, rfl, hq, hb1⟩
          rw [HV.out]
          obtain rfl := hq HV.out
          have HB1 := Lib.hid (HB.out.trans (hb1.mono HB.out.size))
          clear hb1 hq
          go_wp2
          go_ret2
          exact ⟨by rw [HN.out]; rfl, HB1.out⟩
    · have HB := Lib.hid hb
      have HN := Lib.hid (show R = some m by rw [← HR.out, hd.out, List.drop_of_length_le (by have := hl.out; omega)]; rfl)
      clear hb gl
      go_wp2
      go_ret2
      exact ⟨by rw [HN.out]; rfl, HB.out⟩

set_option maxHeartbeats 1000000 in
theorem implValidEvents_any (v : Value) (l : List Ev) (w : World) (B : Nat) (hl : RdE w B v l) (hB : B ≤ w.heap.size) :
    Calls Try.prog 30 #[v] w fun e w' => e = .returned (.bool (okEvs l)) ∧ Below w.heap.size w w' := by
  have HL := Lib.hid hl
  obtain ⟨A, n, c, rfl, hln, hl, gl⟩ := hl
  have hok : okEvs l = ((cntE 0 l).isSome && decide ((n : Int) ≤ 2000)) := by unfold okEvs; rw [hl.out, Bool.eq_iff_iff]; simp; omega
  rw [hok]
  clear hok gl
  cases hR : cntE 0 l
  all_goals
    have HR := Lib.hid hR
    clear hR
    go_enter Try.func30, Try.ntmps30
    go_wp2_with fail
    refine (strandsAfter_any _ l 0 (by omega) (by omega) _ _ HL.out hB).mono ?_
    rintro e w1 ⟨he, hb1⟩
    rw [HR.out] at he
    unfold cntR at he
    subst he
    have HB1 := Lib.hid hb1
    clear hb1
    go_wp2
    go_ret
    exact ⟨rfl, HB1.out⟩

theorem specValidEvents_any (v : Value) (l : List Ev) (w : World) (B : Nat) (hl : RdE w B v l) (hB : B ≤ w.heap.size) :
    Calls Try.prog 29 #[v] w fun e w' => e = .returned (.bool (okEvs l)) ∧ Below w.heap.size w w' := by
  have HL := Lib.hid hl
  clear hl
  go_enter Try.func29, Try.ntmps29
  go_wp2_with fail
  refine (l10Count_any _ l _ _ HL.out hB).mono ?_
  rintro e w1 ⟨rfl, hb1⟩
  have HB1 := Lib.hid hb1
  clear hb1
  go_wp2
  go_ret
  exact ⟨rfl, HB1.out⟩

def str0 (l : List Ev) : Int := if okEvs l = true then (cntE 0 l).getD 0 else 0
def str1 (l : List Ev) : Int := if okEvs l = true then 0 else 1
def strandsR (l : List Ev) (e : Ending) : Prop := e = .returned (.tuple #[.int .i64 (str0 l), .int .i64 (str1 l)])

set_option maxHeartbeats 1000000 in
theorem implStrandsOf_any (v : Value) (l : List Ev) (w : World) (hl : RdE w w.heap.size v l) :
    Calls Try.prog 32 #[v] w fun e w' => strandsR l e ∧ Below w.heap.size w w' := by
  have HL := Lib.hid hl
  clear hl
  cases hok : okEvs l
  · have HO := Lib.hid hok
    clear hok
    go_enter Try.func32, Try.ntmps32
    go_wp2_with (go_at_call 30; refine (implValidEvents_any _ l _ _ HL.out (Nat.le_refl _)).mono ?_; rintro e w1 ⟨rfl, hb1⟩; rw [HO.out])
    go_ret2
    exact ⟨by unfold strandsR str0 str1; rw [HO.out]; rfl, hb1⟩
  · have HO := Lib.hid hok
    obtain ⟨m, hm⟩ : ∃ m, cntE 0 l = some m := by
      unfold okEvs at hok
      cases h : cntE 0 l
      · rw [h] at hok; simp at hok
      · exact ⟨_, rfl⟩
    have HM := Lib.hid hm
    clear hok hm
    go_enter Try.func32, Try.ntmps32
    go_wp2_with fail
    refine (implValidEvents_any _ l _ _ HL.out (Nat.le_refl _)).mono ?_
    rintro e w1 ⟨rfl, hb1⟩
    rw [HO.out]
    have HL1 := Lib.hid ((HL.out.below hb1).more hb1.size)
    have HB1 := Lib.hid hb1
    clear hb1
    go_wp2_with fail
    refine (strandsAfter_any _ l 0 (by omega) (by omega) _ _ HL1.out (Nat.le_refl _)).mono ?_
    rintro e w2 ⟨he, hb2⟩
    rw [HM.out] at he
    unfold cntR at he
    subst he
    have HB2 := Lib.hid (HB1.out.trans (hb2.mono HB1.out.size))
    clear hb2
    go_wp2
    go_ret2
    exact ⟨by unfold strandsR str0 str1; rw [HO.out, HM.out]; rfl, HB2.out⟩

set_option maxHeartbeats 1000000 in
theorem specStrandsOf_any (v : Value) (l : List Ev) (w : World) (hl : RdE w w.heap.size v l) :
    Calls Try.prog 31 #[v] w fun e w' => strandsR l e ∧ Below w.heap.size w w' := by
  have HL := Lib.hid hl
  clear hl
  cases hok : okEvs l
  all_goals
    have HO := Lib.hid hok
    clear hok
    go_enter Try.func31, Try.ntmps31
    go_wp2_with (go_at_call 65; refine (l10Count_any _ l _ _ HL.out (Nat.le_refl _)).mono ?_; rintro e w1 ⟨rfl, hb1⟩; rw [HO.out])
    go_ret2
    exact ⟨by unfold strandsR str0 str1; rw [HO.out]; rfl, hb1⟩

end Go.Proofs.Ytmgicdcpeblpnaa
