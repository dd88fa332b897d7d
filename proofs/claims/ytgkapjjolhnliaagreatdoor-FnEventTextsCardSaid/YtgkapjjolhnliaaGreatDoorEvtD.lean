/-
  The text of an event: EventText of both sides.
-/
import Derived.Test.YtgkapjjolhnliaaGreatDoorEvtB
import Derived.Test.YtgkapjjolhnliaaGreatDoorEvtC
import Derived.Test.YtgkapjjolhnliaaGreatDoorValid
import Derived.Test.YtgkapjjolhnliaaGreatDoorL10e
namespace Go.Proofs.YtgkapjjolhnliaaGreatDoor
set_option linter.unusedVariables false
set_option linter.unusedSimpArgs false
open Go.RowKit

/-- The text of an event, nothing if it is none. -/
def txE (e : Ev) : List UInt8 := if valE 12 e = true then evT e else []
theorem val_facts {e : Ev} (h : valE 12 e = true) : (1 ≤ e.k ∧ e.k ≤ 5) ∧ (0 ≤ e.p ∧ e.p ≤ 1000) ∧ (-1000 ≤ e.c ∧ e.c ≤ 1000) ∧ (0 ≤ e.y ∧ e.y ≤ 1000) ∧ (e.b = 0 ↔ e.y = 0) ∧ (e.y ≠ 0 → (e.d = 1 ∨ e.d = -1)) := by
  obtain ⟨k, p, c, b, y, d⟩ := e
  unfold valE at h
  simp only [Bool.and_eq_true, decide_eq_true_eq] at h
  obtain ⟨h0, h⟩ := h
  by_cases k1 : k = 1
  · simp [k1] at h ⊢
    omega
  by_cases k2 : k = 2
  · simp [k2, stitB, stit3, bedB, yarnB, dirB] at h ⊢
    omega
  by_cases k3 : k = 3
  · simp [k3, stitB, stit3, bedB, yarnB, dirB] at h ⊢
    omega
  by_cases k4 : k = 4
  · simp [k4] at h ⊢
    omega
  by_cases k5 : k = 5
  · simp [k5, stitB, stit3, bedB, yarnB, dirB] at h ⊢
    obtain ⟨h1, h2, h3⟩ := h
    by_cases hb : b = 1
    · rw [if_pos hb] at h3
      omega
    · rw [if_neg hb] at h3
      omega
  simp [k1, k2, k3, k4, k5] at h

attribute [local go_sem] strV
set_option maxHeartbeats 8000000 in
set_option maxRecDepth 100000 in
theorem implEventText_any (e : Ev) (B : Nat) (w : World) (hB : B ≤ w.heap.size) (ht : TabW B w) : Calls Tryz.prog 6 #[e.v] w fun x w' => x = .returned (strV (txE e)) ∧ Below w.heap.size w w' := by
  have HV := Lib.hid (valid_any e 12 (by omega) (by omega))
  cases hv : valE 12 e with
  | false =>
    have HT := Lib.hid (show txE e = [] by unfold txE; rw [if_neg (by rw [hv]; decide)])
    rw [hv] at HV
    obtain ⟨k, p, c, b, y, d⟩ := e
    go_enter Tryz.func6, Tryz.ntmps6
    go_wp2_with (go_at_call 19; refine (HV.out _).mono ?_; rintro e1 w1 ⟨rfl, hb1⟩)
    go_ret
    exact ⟨by rw [HT.out]; rfl, ((Below.refl _ _).alloc (Nat.le_refl _) _).trans (hb1.mono (by simp))⟩
  | true =>
    have HT := Lib.hid (show txE e = evT e by unfold txE; rw [if_pos hv])
    have hf := val_facts hv
    rw [hv] at HV
    obtain ⟨k', p, c, b, y, d⟩ := e
    obtain ⟨⟨hk1, hk5⟩, hp, hc, hy, hby, hd⟩ := hf
    obtain ⟨k, rfl⟩ := Int.eq_ofNat_of_zero_le (show 0 ≤ k' by have : 1 ≤ k' := hk1; omega)
    have HE := Lib.hid (fun (W : World) (hT : TabW W.heap.size W) => eventText_any k p c b y d (by have : (1 : Int) ≤ k := hk1; omega) (by have : (k : Int) ≤ 5 := hk5; omega) hp hc hy hby hd W hT)
    have HTB := Lib.hid ht
    clear hk1 hk5 hp hc hy hby hd hv ht
    have hcell : CellsAt (w.alloc (.cells #[.int .i64 k, .int .i64 p, .int .i64 c, .int .i64 b, .int .i64 y, .int .i64 d] 26)) w.heap.size 0 (Ev.cells ⟨k, p, c, b, y, d⟩) := box_cells (us := Ev.cells ⟨k, p, c, b, y, d⟩)
    have HC := Lib.hid hcell
    clear hcell
    go_enter Tryz.func6, Tryz.ntmps6
    go_wp2_with (first
      | (go_at_call 19; refine (HV.out _).mono ?_; rintro e1 w1 ⟨rfl, hb1⟩; have hA1 : Below w.heap.size w w1 := ((Below.refl _ _).alloc (Nat.le_refl _) _).trans (hb1.mono (by simp)); obtain ⟨c0, c1, c2, c3, c4, c5⟩ := (HC.out.below hb1 (by simp)).six)
      | (go_at_call 20; refine (HE.out _ (fun W hW => (HTB.out.on (hA1.mono hB)) W (hW.mono (Nat.le_trans hB hA1.size)))).mono ?_; rintro e2 w2 ⟨rfl, hb2⟩))
    go_ret
    exact ⟨by rw [HT.out]; rfl, hA1.trans (hb2.mono hA1.size)⟩

end Go.Proofs.YtgkapjjolhnliaaGreatDoor
