/-
  EventsOfBlocks of the program and of the reference: the result and the code.
-/
import Derived.Test.YtjhhbdehgklneaaBlkF
import Derived.Test.YtjhhbdehgklneaaOwn
namespace Go.Proofs.Ytjhhbdehgklneaa
set_option linter.unusedVariables false
set_option linter.unusedSimpArgs false
open Go.RowKit

theorem okOne_fit {n : Int} {x : Bk} (h : okOne n x = true) : Lets x.b.w ∧ x.b.w.length ≤ 40 ∧ x.e.length ≤ 2000 := by
  unfold okOne at h
  simp only [Bool.and_eq_true, decide_eq_true_eq] at h
  obtain ⟨h1, h2, h3, h4⟩ := h
  obtain ⟨a, b, c⟩ := lets_of h1
  exact ⟨a, b, h3⟩
theorem blksGo_fit : ∀ (l : List Bk) (n : Int), blksGo n l = true → ∀ x ∈ l, Lets x.b.w ∧ x.b.w.length ≤ 40 ∧ x.e.length ≤ 2000
  | [], n, h, x, hx => by simp at hx
  | y :: ys, n, h, x, hx => by
    rw [blksGo] at h
    cases ho : okOne n y
    · rw [nextBk_no ho] at h
      cases h
    · rw [nextBk_yes ho] at h
      rcases List.mem_cons.1 hx with rfl | hx
      · exact okOne_fit ho
      · cases hc : cntE n y.e
        · rw [hc] at h; cases h
        · rw [hc] at h; exact blksGo_fit ys _ h x hx
theorem okBks_fit {l : List Bk} (h : okBks l = true) : FitEB l := by
  unfold okBks at h
  simp only [Bool.and_eq_true, decide_eq_true_eq] at h
  exact ⟨by omega, blksGo_fit l 0 h.2⟩
theorem evsB_len : ∀ (l : List Bk), (∀ x ∈ l, Lets x.b.w ∧ x.b.w.length ≤ 40 ∧ x.e.length ≤ 2000) → (evsB l).length ≤ l.length * 2040
  | [], h => by simp [evsB]
  | x :: xs, h => by
    have ih := evsB_len xs (fun y hy => h y (List.mem_cons_of_mem _ hy))
    obtain ⟨h1, h2, h3⟩ := h x List.mem_cons_self
    have h4 := letsE_len x.b.w
    have e : evsB (x :: xs) = bkE x ++ evsB xs := rfl
    rw [e, List.length_append, List.length_cons]
    unfold bkE
    rw [List.length_append]
    omega
/-- The code of EventsOfBlocks, and its events. -/
def evbC (l : List Bk) : Int := if okBks l = false then 1 else if 2000 < (evsB l).length then 5 else 0
def evbR (l : List Bk) : List Ev := if evbC l = 0 then evsB l else []
theorem evbC_bad {l : List Bk} (h : okBks l = false) : evbC l = 1 := by simp [evbC, h]
theorem evbC_full {l : List Bk} (h : okBks l = true) (h2 : 2000 < (evsB l).length) : evbC l = 5 := by simp [evbC, h, h2]
theorem evbC_ok {l : List Bk} (h : okBks l = true) (h2 : ¬ 2000 < (evsB l).length) : evbC l = 0 := by simp [evbC, h, h2]
theorem evbR_len (l : List Bk) : (evbR l).length ≤ 1048576 := by
  unfold evbR
  split
  · rename_i h
    unfold evbC at h
    split at h
    · omega
    · split at h
      · omega
      · omega
  · simp
theorem evb_no {w w' : World} {l : List Bk} {c : Int} (h : evbC l = c) (hc : c ≠ 0) (hb : Below w.heap.size w w') : GivesC w 51 6 (evbR l).length (vE (evbR l)) (evbC l) (.returned (.tuple #[.slice none 0 0, .int .i64 c])) w' := by
  have e : evbR l = [] := by unfold evbR; rw [if_neg (by rw [h]; exact hc)]
  rw [e, h]
  exact ⟨_, rfl, OwC.nil, hb⟩
theorem evb_yes {w w' : World} {l : List Bk} {v : Value} (h : evbC l = 0) (ho : OwC w' w.heap.size w'.heap.size 51 6 v (evsB l).length (vE (evsB l))) (hb : Below w.heap.size w w') : GivesC w 51 6 (evbR l).length (vE (evbR l)) (evbC l) (.returned (.tuple #[v, .int .i64 0])) w' := by
  have e : evbR l = evsB l := by unfold evbR; rw [if_pos h]
  rw [e, h]
  exact ⟨_, rfl, ho, hb⟩

/- EventsOfBlocks: spec.EventsOfBlocks function · specEvb name · l13Ok_any the test · l13Events_any the events -/
set_option maxHeartbeats 4000000 in
set_option maxRecDepth 100000 in
theorem specEvb_any (v : Value) (l : List Bk) (w : World) (hl : RdBks w w.heap.size v l) :
    Calls Try.prog 20 #[v] w (GivesC w 51 6 (evbR l).length (vE (evbR l)) (evbC l)) := by
  have HL := Lib.hid hl
  have HV := Lib.hid (l13Ok_any v l w hl)
  obtain ⟨A, cp, rfl⟩ := RdN.shape hl
  clear hl
  cases ho : okBks l
  · have HN := Lib.hid (fun w' hb => evb_no (w := w) (w' := w') (evbC_bad ho) (by decide) hb)
    rw [ho] at HV
    clear ho
    go_enter Try.func20, Try.ntmps20
    go_wp2_with fail
    refine HV.out.mono ?_
    rintro e w1 ⟨rfl, hb⟩
    have HB := Lib.hid hb
    clear hb
    go_wp2
    go_ret2
    exact HN.out _ HB.out
  · have HF := Lib.hid (okBks_fit ho)
    rw [ho] at HV
    have HQ := Lib.hid (fun w1 (hb : Below w.heap.size w w1) => l13Events_any _ l w1 ((HL.out.below hb).more hb.size) HF.out)
    by_cases h2 : 2000 < (evsB l).length
    · have HN := Lib.hid (fun w' hb => evb_no (w := w) (w' := w') (evbC_full ho h2) (by decide) hb)
      have h2' : (2000 : Int) < ((evsB l).length : Int) := by omega
      clear ho
      go_enter Try.func20, Try.ntmps20
      go_wp2_with fail
      refine HV.out.mono ?_
      rintro e w1 ⟨rfl, hb⟩
      have HB := Lib.hid hb
      clear hb
      go_wp2_with fail
      refine (HQ.out _ HB.out).mono ?_
      rintro e w2 ⟨v2, rfl, hw, hb⟩
      obtain ⟨A2, c2, rfl, -⟩ := hw.cells
      have HB2 := Lib.hid (HB.out.trans (hb.mono HB.out.size))
      clear hb hw
      go_wp2
      go_ret2
      exact HN.out _ HB2.out
    · have HN := Lib.hid (fun w' v hw hb => evb_yes (w := w) (w' := w') (v := v) (evbC_ok ho h2) hw hb)
      have h2' : ¬ (2000 : Int) < ((evsB l).length : Int) := by omega
      clear ho
      go_enter Try.func20, Try.ntmps20
      go_wp2_with fail
      refine HV.out.mono ?_
      rintro e w1 ⟨rfl, hb⟩
      have HB := Lib.hid hb
      clear hb
      go_wp2_with fail
      refine (HQ.out _ HB.out).mono ?_
      rintro e w2 ⟨v2, rfl, hw, hb⟩
      obtain ⟨A2, c2, rfl, -⟩ := hw.cells
      have HB2 := Lib.hid (HB.out.trans (hb.mono HB.out.size))
      have HW := Lib.hid (hw.wide HB.out.size (Nat.le_refl _))
      clear hb hw
      go_wp2
      go_ret2
      exact HN.out _ _ HW.out HB2.out
/- EventsOfBlocks: impl.EventsOfBlocks function · implEvb name · areBlocks_any the test · eventsOf_any the events -/
set_option maxHeartbeats 4000000 in
set_option maxRecDepth 100000 in
theorem implEvb_any (v : Value) (l : List Bk) (w : World) (hl : RdBks w w.heap.size v l) :
    Calls Try.prog 21 #[v] w (GivesC w 51 6 (evbR l).length (vE (evbR l)) (evbC l)) := by
  have HL := Lib.hid hl
  have HV := Lib.hid (areBlocks_any v l w hl)
  obtain ⟨A, cp, rfl⟩ := RdN.shape hl
  clear hl
  cases ho : okBks l
  · have HN := Lib.hid (fun w' hb => evb_no (w := w) (w' := w') (evbC_bad ho) (by decide) hb)
    rw [ho] at HV
    clear ho
    go_enter Try.func21, Try.ntmps21
    go_wp2_with fail
    refine HV.out.mono ?_
    rintro e w1 ⟨rfl, hb⟩
    have HB := Lib.hid hb
    clear hb
    go_wp2
    go_ret2
    exact HN.out _ HB.out
  · have HF := Lib.hid (okBks_fit ho)
    rw [ho] at HV
    have HQ := Lib.hid (fun w1 (hb : Below w.heap.size w w1) => eventsOf_any _ l w1 ((HL.out.below hb).more hb.size) HF.out)
    by_cases h2 : 2000 < (evsB l).length
    · have HN := Lib.hid (fun w' hb => evb_no (w := w) (w' := w') (evbC_full ho h2) (by decide) hb)
      have h2' : (2000 : Int) < ((evsB l).length : Int) := by omega
      clear ho
      go_enter Try.func21, Try.ntmps21
      go_wp2_with fail
      refine HV.out.mono ?_
      rintro e w1 ⟨rfl, hb⟩
      have HB := Lib.hid hb
      clear hb
      go_wp2_with fail
      refine (HQ.out _ HB.out).mono ?_
      rintro e w2 ⟨v2, rfl, hw, hb⟩
      obtain ⟨A2, c2, rfl, -⟩ := hw.cells
      have HB2 := Lib.hid (HB.out.trans (hb.mono HB.out.size))
      clear hb hw
      go_wp2
      go_ret2
      exact HN.out _ HB2.out
    · have HN := Lib.hid (fun w' v hw hb => evb_yes (w := w) (w' := w') (v := v) (evbC_ok ho h2) hw hb)
      have h2' : ¬ (2000 : Int) < ((evsB l).length : Int) := by omega
      clear ho
      go_enter Try.func21, Try.ntmps21
      go_wp2_with fail
      refine HV.out.mono ?_
      rintro e w1 ⟨rfl, hb⟩
      have HB := Lib.hid hb
      clear hb
      go_wp2_with fail
      refine (HQ.out _ HB.out).mono ?_
      rintro e w2 ⟨v2, rfl, hw, hb⟩
      obtain ⟨A2, c2, rfl, -⟩ := hw.cells
      have HB2 := Lib.hid (HB.out.trans (hb.mono HB.out.size))
      have HW := Lib.hid (hw.wide HB.out.size (Nat.le_refl _))
      clear hb hw
      go_wp2
      go_ret2
      exact HN.out _ _ HW.out HB2.out

end Go.Proofs.Ytjhhbdehgklneaa
