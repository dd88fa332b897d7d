/-
  Texts joined: Bks5, BlkM2, Kept.
-/
import Derived.Test.YtfeonaocmnpkcaaPk1
import Derived.Test.YtfeonaocmnpkcaaPk2
import Derived.Test.YtfeonaocmnpkcaaPk3
/-
  SameFabric and FirstDifference at the top, of the program and of the reference.
-/
namespace Go.Proofs.Ytfeonaocmnpkcaa
set_option linter.unusedVariables false
set_option linter.unusedSimpArgs false
open Go.RowKit

noncomputable def fdL (a b : List Ev) : Int := fdGo 0 (bksL a) (bksL b)
noncomputable def sfB (a b : List Ev) : Bool := decide (prC a b = 0) && decide (fdL a b < 0)
noncomputable def fdV (a b : List Ev) : Int := if prC a b = 0 then (if fdL a b < 0 then 0 else fdL a b) else 0
noncomputable def fdC (a b : List Ev) : Int := if prC a b = 0 then (if fdL a b < 0 then 3 else 0) else prC a b

noncomputable def sfval (a b : List Ev) : Value := .tuple #[.bool (sfB a b), .int .i64 (prC a b)]
noncomputable def fdval (a b : List Ev) : Value := .tuple #[.int .i64 (fdV a b), .int .i64 (fdC a b)]
theorem sf_neg {a b : List Ev} (hc : prC a b = 0) (hd : fdL a b < 0) : sfval a b = .tuple #[.bool true, .int .i64 0] := by simp [sfval, sfB, hc, hd]
theorem sf_pos {a b : List Ev} (hc : prC a b = 0) (hd : ¬ fdL a b < 0) : sfval a b = .tuple #[.bool false, .int .i64 0] := by
  have : decide (fdL a b < 0) = false := by simpa using hd
  simp [sfval, sfB, hc, this]
theorem sf_no {a b : List Ev} (hc : prC a b ≠ 0) : sfval a b = .tuple #[.bool false, .int .i64 (prC a b)] := by simp [sfval, sfB, hc]
theorem fd_neg {a b : List Ev} (hc : prC a b = 0) (hd : fdL a b < 0) : fdval a b = .tuple #[.int .i64 0, .int .i64 3] := by simp [fdval, fdV, fdC, hc, hd]
theorem fd_pos {a b : List Ev} (hc : prC a b = 0) (hd : ¬ fdL a b < 0) : fdval a b = .tuple #[.int .i64 (fdL a b), .int .i64 0] := by
  unfold fdval fdV fdC
  rw [if_pos hc, if_neg hd, if_pos hc, if_neg hd]
theorem fd_no {a b : List Ev} (hc : prC a b ≠ 0) : fdval a b = .tuple #[.int .i64 0, .int .i64 (prC a b)] := by simp [fdval, fdV, fdC, hc]

-- two lists of events, their blocks, the first place where they differ
set_option maxHeartbeats 4000000 in
set_option maxRecDepth 100000 in
theorem implSameFab_any (u v : Value) (a b : List Ev) (w : World) (hl : RdE w w.heap.size u a) (hm : RdE w w.heap.size v b) : Calls Try.prog 26 #[u, v] w fun e w' => e = .returned (sfval a b) ∧ Below w.heap.size w w' := by
  have HQ := Lib.hid (blockPair_any u v a b w hl hm)
  clear hl hm
  rcases prC_cases a b with hc | hc
  · have HG := Lib.hid (show (∀ x ∈ bksL a, GoodB 2000 x) ∧ (∀ x ∈ bksL b, GoodB 2000 x) from ⟨(good_of (prC_good hc).1.1 (prC_good hc).1.2).1, (good_of (prC_good hc).2.1 (prC_good hc).2.2).1⟩)
    by_cases hd : fdL a b < 0
    · have HV := Lib.hid (sf_neg hc hd)
      have HC := Lib.hid hc
      have hd' : fdGo 0 (bksL a) (bksL b) < 0 := hd
      clear hc hd
      generalize hz : fdGo 0 (bksL a) (bksL b) = z at *
      have HZ := Lib.hid hz
      clear hz
      go_enter Try.func26, Try.ntmps26
      go_wp2_with fail
      refine HQ.out.mono ?_
      rintro e w1 ⟨x, y, rfl, hr, hb1⟩
      rw [HC.out] at hr ⊢
      obtain ⟨h1, h2⟩ := hr rfl
      have H1 := Lib.hid h1
      have H2 := Lib.hid h2
      have HB := Lib.hid hb1
      clear hb1 hr h1 h2
      go_wp2_with fail
      refine (difference_any _ _ _ _ _ H1.out H2.out).mono ?_
      rintro e w2 ⟨rfl, hb2⟩
      rw [HZ.out]
      have HB2 := Lib.hid (HB.out.trans (hb2.mono HB.out.size))
      clear hb2
      go_wp2
      go_ret2
      exact ⟨by rw [HV.out]; rfl, HB2.out⟩
    · have HV := Lib.hid (sf_pos hc hd)
      have HC := Lib.hid hc
      have hd' : ¬ fdGo 0 (bksL a) (bksL b) < 0 := hd
      have HF := Lib.hid (show fdL a b = fdGo 0 (bksL a) (bksL b) from rfl)
      clear hc hd
      generalize hz : fdGo 0 (bksL a) (bksL b) = z at *
      have HZ := Lib.hid hz
      clear hz
      go_enter Try.func26, Try.ntmps26
      go_wp2_with fail
      refine HQ.out.mono ?_
      rintro e w1 ⟨x, y, rfl, hr, hb1⟩
      rw [HC.out] at hr ⊢
      obtain ⟨h1, h2⟩ := hr rfl
      have H1 := Lib.hid h1
      have H2 := Lib.hid h2
      have HB := Lib.hid hb1
      clear hb1 hr h1 h2
      go_wp2_with fail
      refine (difference_any _ _ _ _ _ H1.out H2.out).mono ?_
      rintro e w2 ⟨rfl, hb2⟩
      rw [HZ.out]
      have HB2 := Lib.hid (HB.out.trans (hb2.mono HB.out.size))
      clear hb2
      go_wp2
      go_ret2
      refine ⟨?_, HB2.out⟩
      have e : decide (z < 0) = false := by simp; omega
      rw [HV.out]
      (try rw [HF.out])
      first | rfl | (show Ending.returned (.tuple #[.bool (decide (z < 0)), .int .i64 0]) = _; rw [e])
  · have HV := Lib.hid (sf_no (a := a) (b := b) (by rcases hc with h | h <;> omega))
    rcases hc with hc | hc
    all_goals
      have HC := Lib.hid hc
      clear hc
      go_enter Try.func26, Try.ntmps26
      go_wp2_with fail
      refine HQ.out.mono ?_
      rintro e w1 ⟨x, y, rfl, hr, hb1⟩
      have HB := Lib.hid hb1
      clear hb1 hr
      rw [HC.out]
      go_wp2
      go_ret2
      exact ⟨by rw [HV.out, HC.out]; rfl, HB.out⟩
-- two lists of events, their blocks, the first place where they differ
set_option maxHeartbeats 4000000 in
set_option maxRecDepth 100000 in
theorem specSameFab_any (u v : Value) (a b : List Ev) (w : World) (hl : RdE w w.heap.size u a) (hm : RdE w w.heap.size v b) : Calls Try.prog 25 #[u, v] w fun e w' => e = .returned (sfval a b) ∧ Below w.heap.size w w' := by
  have HQ := Lib.hid (l13Both_any u v a b w hl hm)
  clear hl hm
  rcases prC_cases a b with hc | hc
  · have HG := Lib.hid (show (∀ x ∈ bksL a, GoodB 2000 x) ∧ (∀ x ∈ bksL b, GoodB 2000 x) from ⟨(good_of (prC_good hc).1.1 (prC_good hc).1.2).1, (good_of (prC_good hc).2.1 (prC_good hc).2.2).1⟩)
    by_cases hd : fdL a b < 0
    · have HV := Lib.hid (sf_neg hc hd)
      have HC := Lib.hid hc
      have hd' : fdGo 0 (bksL a) (bksL b) < 0 := hd
      clear hc hd
      generalize hz : fdGo 0 (bksL a) (bksL b) = z at *
      have HZ := Lib.hid hz
      clear hz
      go_enter Try.func25, Try.ntmps25
      go_wp2_with fail
      refine HQ.out.mono ?_
      rintro e w1 ⟨x, y, rfl, hr, hb1⟩
      rw [HC.out] at hr ⊢
      obtain ⟨h1, h2⟩ := hr rfl
      have H1 := Lib.hid h1
      have H2 := Lib.hid h2
      have HB := Lib.hid hb1
      clear hb1 hr h1 h2
      go_wp2_with fail
      refine (l13First_any _ _ _ _ 2000 HG.out.1 HG.out.2 _ H1.out H2.out).mono ?_
      rintro e w2 ⟨rfl, hb2⟩
      rw [HZ.out]
      have HB2 := Lib.hid (HB.out.trans (hb2.mono HB.out.size))
      clear hb2
      go_wp2
      go_ret2
      exact ⟨by rw [HV.out]; rfl, HB2.out⟩
    · have HV := Lib.hid (sf_pos hc hd)
      have HC := Lib.hid hc
      have hd' : ¬ fdGo 0 (bksL a) (bksL b) < 0 := hd
      have HF := Lib.hid (show fdL a b = fdGo 0 (bksL a) (bksL b) from rfl)
      clear hc hd
      generalize hz : fdGo 0 (bksL a) (bksL b) = z at *
      have HZ := Lib.hid hz
      clear hz
      go_enter Try.func25, Try.ntmps25
      go_wp2_with fail
      refine HQ.out.mono ?_
      rintro e w1 ⟨x, y, rfl, hr, hb1⟩
      rw [HC.out] at hr ⊢
      obtain ⟨h1, h2⟩ := hr rfl
      have H1 := Lib.hid h1
      have H2 := Lib.hid h2
      have HB := Lib.hid hb1
      clear hb1 hr h1 h2
      go_wp2_with fail
      refine (l13First_any _ _ _ _ 2000 HG.out.1 HG.out.2 _ H1.out H2.out).mono ?_
      rintro e w2 ⟨rfl, hb2⟩
      rw [HZ.out]
      have HB2 := Lib.hid (HB.out.trans (hb2.mono HB.out.size))
      clear hb2
      go_wp2
      go_ret2
      refine ⟨?_, HB2.out⟩
      have e : decide (z < 0) = false := by simp; omega
      rw [HV.out]
      (try rw [HF.out])
      first | rfl | (show Ending.returned (.tuple #[.bool (decide (z < 0)), .int .i64 0]) = _; rw [e])
  · have HV := Lib.hid (sf_no (a := a) (b := b) (by rcases hc with h | h <;> omega))
    rcases hc with hc | hc
    all_goals
      have HC := Lib.hid hc
      clear hc
      go_enter Try.func25, Try.ntmps25
      go_wp2_with fail
      refine HQ.out.mono ?_
      rintro e w1 ⟨x, y, rfl, hr, hb1⟩
      have HB := Lib.hid hb1
      clear hb1 hr
      rw [HC.out]
      go_wp2
      go_ret2
      exact ⟨by rw [HV.out, HC.out]; rfl, HB.out⟩
-- two lists of events, their blocks, the first place where they differ
set_option maxHeartbeats 4000000 in
set_option maxRecDepth 100000 in
theorem implFirstFab_any (u v : Value) (a b : List Ev) (w : World) (hl : RdE w w.heap.size u a) (hm : RdE w w.heap.size v b) : Calls Try.prog 28 #[u, v] w fun e w' => e = .returned (fdval a b) ∧ Below w.heap.size w w' := by
  have HQ := Lib.hid (blockPair_any u v a b w hl hm)
  clear hl hm
  rcases prC_cases a b with hc | hc
  · have HG := Lib.hid (show (∀ x ∈ bksL a, GoodB 2000 x) ∧ (∀ x ∈ bksL b, GoodB 2000 x) from ⟨(good_of (prC_good hc).1.1 (prC_good hc).1.2).1, (good_of (prC_good hc).2.1 (prC_good hc).2.2).1⟩)
    by_cases hd : fdL a b < 0
    · have HV := Lib.hid (fd_neg hc hd)
      have HC := Lib.hid hc
      have hd' : fdGo 0 (bksL a) (bksL b) < 0 := hd
      clear hc hd
      generalize hz : fdGo 0 (bksL a) (bksL b) = z at *
      have HZ := Lib.hid hz
      clear hz
      go_enter Try.func28, Try.ntmps28
      go_wp2_with fail
      refine HQ.out.mono ?_
      rintro e w1 ⟨x, y, rfl, hr, hb1⟩
      rw [HC.out] at hr ⊢
      obtain ⟨h1, h2⟩ := hr rfl
      have H1 := Lib.hid h1
      have H2 := Lib.hid h2
      have HB := Lib.hid hb1
      clear hb1 hr h1 h2
      go_wp2_with fail
      refine (difference_any _ _ _ _ _ H1.out H2.out).mono ?_
      rintro e w2 ⟨rfl, hb2⟩
      rw [HZ.out]
      have HB2 := Lib.hid (HB.out.trans (hb2.mono HB.out.size))
      clear hb2
      go_wp2
      go_ret2
      exact ⟨by rw [HV.out]; rfl, HB2.out⟩
    · have HV := Lib.hid (fd_pos hc hd)
      have HC := Lib.hid hc
      have hd' : ¬ fdGo 0 (bksL a) (bksL b) < 0 := hd
      have HF := Lib.hid (show fdL a b = fdGo 0 (bksL a) (bksL b) from rfl)
      clear hc hd
      generalize hz : fdGo 0 (bksL a) (bksL b) = z at *
      have HZ := Lib.hid hz
      clear hz
      go_enter Try.func28, Try.ntmps28
      go_wp2_with fail
      refine HQ.out.mono ?_
      rintro e w1 ⟨x, y, rfl, hr, hb1⟩
      rw [HC.out] at hr ⊢
      obtain ⟨h1, h2⟩ := hr rfl
      have H1 := Lib.hid h1
      have H2 := Lib.hid h2
      have HB := Lib.hid hb1
      clear hb1 hr h1 h2
      go_wp2_with fail
      refine (difference_any _ _ _ _ _ H1.out H2.out).mono ?_
      rintro e w2 ⟨rfl, hb2⟩
      rw [HZ.out]
      have HB2 := Lib.hid (HB.out.trans (hb2.mono HB.out.size))
      clear hb2
      go_wp2
      go_ret2
      refine ⟨?_, HB2.out⟩
      have e : decide (z < 0) = false := by simp; omega
      rw [HV.out]
      (try rw [HF.out])
      first | rfl | (show Ending.returned (.tuple #[.bool (decide (z < 0)), .int .i64 0]) = _; rw [e])
  · have HV := Lib.hid (fd_no (a := a) (b := b) (by rcases hc with h | h <;> omega))
    rcases hc with hc | hc
    all_goals
      have HC := Lib.hid hc
      clear hc
      go_enter Try.func28, Try.ntmps28
      go_wp2_with fail
      refine HQ.out.mono ?_
      rintro e w1 ⟨x, y, rfl, hr, hb1⟩
      have HB := Lib.hid hb1
      clear hb1 hr
      rw [HC.out]
      go_wp2
      go_ret2
      exact ⟨by rw [HV.out, HC.out]; rfl, HB.out⟩
-- two lists of events, their blocks, the first place where they differ
set_option maxHeartbeats 4000000 in
set_option maxRecDepth 100000 in
theorem specFirstFab_any (u v : Value) (a b : List Ev) (w : World) (hl : RdE w w.heap.size u a) (hm : RdE w w.heap.size v b) : Calls Try.prog 27 #[u, v] w fun e w' => e = .returned (fdval a b) ∧ Below w.heap.size w w' := by
  have HQ := Lib.hid (l13Both_any u v a b w hl hm)
  clear hl hm
  rcases prC_cases a b with hc | hc
  · have HG := Lib.hid (show (∀ x ∈ bksL a, GoodB 2000 x) ∧ (∀ x ∈ bksL b, GoodB 2000 x) from ⟨(good_of (prC_good hc).1.1 (prC_good hc).1.2).1, (good_of (prC_good hc).2.1 (prC_good hc).2.2).1⟩)
    by_cases hd : fdL a b < 0
    · have HV := Lib.hid (fd_neg hc hd)
      have HC := Lib.hid hc
      have hd' : fdGo 0 (bksL a) (bksL b) < 0 := hd
      clear hc hd
      generalize hz : fdGo 0 (bksL a) (bksL b) = z at *
      have HZ := Lib.hid hz
      clear hz
      go_enter Try.func27, Try.ntmps27
      go_wp2_with fail
      refine HQ.out.mono ?_
      rintro e w1 ⟨x, y, rfl, hr, hb1⟩
      rw [HC.out] at hr ⊢
      obtain ⟨h1, h2⟩ := hr rfl
      have H1 := Lib.hid h1
      have H2 := Lib.hid h2
      have HB := Lib.hid hb1
      clear hb1 hr h1 h2
      go_wp2_with fail
      refine (l13First_any _ _ _ _ 2000 HG.out.1 HG.out.2 _ H1.out H2.out).mono ?_
      rintro e w2 ⟨rfl, hb2⟩
      rw [HZ.out]
      have HB2 := Lib.hid (HB.out.trans (hb2.mono HB.out.size))
      clear hb2
      go_wp2
      go_ret2
      exact ⟨by rw [HV.out]; rfl, HB2.out⟩
    · have HV := Lib.hid (fd_pos hc hd)
      have HC := Lib.hid hc
      have hd' : ¬ fdGo 0 (bksL a) (bksL b) < 0 := hd
      have HF := Lib.hid (show fdL a b = fdGo 0 (bksL a) (bksL b) from rfl)
      clear hc hd
      generalize hz : fdGo 0 (bksL a) (bksL b) = z at *
      have HZ := Lib.hid hz
      clear hz
      go_enter Try.func27, Try.ntmps27
      go_wp2_with fail
      refine HQ.out.mono ?_
      rintro e w1 ⟨x, y, rfl, hr, hb1⟩
      rw [HC.out] at hr ⊢
      obtain ⟨h1, h2⟩ := hr rfl
      have H1 := Lib.hid h1
      have H2 := Lib.hid h2
      have HB := Lib.hid hb1
      clear hb1 hr h1 h2
      go_wp2_with fail
      refine (l13First_any _ _ _ _ 2000 HG.out.1 HG.out.2 _ H1.out H2.out).mono ?_
      rintro e w2 ⟨rfl, hb2⟩
      rw [HZ.out]
      have HB2 := Lib.hid (HB.out.trans (hb2.mono HB.out.size))
      clear hb2
      go_wp2
      go_ret2
      refine ⟨?_, HB2.out⟩
      have e : decide (z < 0) = false := by simp; omega
      rw [HV.out]
      (try rw [HF.out])
      first | rfl | (show Ending.returned (.tuple #[.bool (decide (z < 0)), .int .i64 0]) = _; rw [e])
  · have HV := Lib.hid (fd_no (a := a) (b := b) (by rcases hc with h | h <;> omega))
    rcases hc with hc | hc
    all_goals
      have HC := Lib.hid hc
      clear hc
      go_enter Try.func27, Try.ntmps27
      go_wp2_with fail
      refine HQ.out.mono ?_
      rintro e w1 ⟨x, y, rfl, hr, hb1⟩
      have HB := Lib.hid hb1
      clear hb1 hr
      rw [HC.out]
      go_wp2
      go_ret2
      exact ⟨by rw [HV.out, HC.out]; rfl, HB.out⟩

end Go.Proofs.Ytfeonaocmnpkcaa

/-
  Rows of blocks that were built, marked by the laws, and the marks held.
-/
namespace Go.Proofs.Ytfeonaocmnpkcaa
set_option linter.unusedVariables false
set_option linter.unusedSimpArgs false
open Go.RowKit

def oB (w : World) (a b : Nat → Nat) (f : Nat → Value) (j : Nat) (x : Bk) : Prop :=
  OwC w (a (2 * j + 1)) (b (2 * j + 1)) 2 1 (f (j * 3 + 1)) x.b.w.length (vI x.b.w) ∧ OwC w (a (2 * j + 2)) (b (2 * j + 2)) 61 6 (f (j * 3 + 2)) x.e.length (vE x.e)
def mB (w : World) (a b : Nat → Nat) (f : Nat → Value) (z : Int) (j : Nat) (x : Bk) : Prop :=
  OwC w (a (2 * j + 1)) (b (2 * j + 1)) 2 1 (f (j * 3 + 1)) x.b.w.length (vM (z + 1) (x.b.w.length * 1)) ∧ OwC w (a (2 * j + 2)) (b (2 * j + 2)) 61 6 (f (j * 3 + 2)) x.e.length (vM (z + 1 + (x.b.w.length : Int)) (x.e.length * 6))
theorem oB.only {w w' : World} {a b : Nat → Nat} {f : Nat → Value} {j c d : Nat} {x : Bk} (h : oB w a b f j x) (hw : Only c d w w') (h1 : b (2 * j + 1) ≤ c ∨ d ≤ a (2 * j + 1)) (h2 : b (2 * j + 2) ≤ c ∨ d ≤ a (2 * j + 2)) (h3 : b (2 * j + 1) ≤ w.heap.size) (h4 : b (2 * j + 2) ≤ w.heap.size) : oB w' a b f j x :=
  ⟨h.1.only hw h1 h3, h.2.only hw h2 h4⟩
theorem mB.only {w w' : World} {a b : Nat → Nat} {f : Nat → Value} {z : Int} {j c d : Nat} {x : Bk} (h : mB w a b f z j x) (hw : Only c d w w') (h1 : b (2 * j + 1) ≤ c ∨ d ≤ a (2 * j + 1)) (h2 : b (2 * j + 2) ≤ c ∨ d ≤ a (2 * j + 2)) (h3 : b (2 * j + 1) ≤ w.heap.size) (h4 : b (2 * j + 2) ≤ w.heap.size) : mB w' a b f z j x :=
  ⟨h.1.only hw h1 h3, h.2.only hw h2 h4⟩
/-- A row of blocks of the call's own that has been marked from K on. -/
def OmBl (w : World) (lo hi : Nat) (v : Value) (l : List Bk) (K : Int) : Prop :=
  ∃ (a b : Nat → Nat) (f : Nat → Value), (∀ j, j < 2 * l.length + 1 → lo ≤ a j ∧ b j ≤ hi) ∧ (∀ i j, i < 2 * l.length + 1 → j < 2 * l.length + 1 → i ≠ j → b i ≤ a j ∨ b j ≤ a i) ∧
    OwC w (a 0) (b 0) 33 3 v l.length ((List.range (l.length * 3)).map f) ∧ ∀ k x, l[k]? = some x → f (k * 3) = .int .i64 (K + (bkSum (l.take k) : Int)) ∧ mB w a b f (K + (bkSum (l.take k) : Int)) k x
theorem OmBl.below {w w' : World} {lo hi : Nat} {v : Value} {l : List Bk} {K : Int} (h : OmBl w lo hi v l K) (hb : Below hi w w') : OmBl w' lo hi v l K := by
  obtain ⟨a, b, f, g0, g1, g4, g5⟩ := h
  refine ⟨a, b, f, g0, g1, g4.below (hb.mono (g0 0 (by omega)).2), fun k x hx => ?_⟩
  have hk := (List.getElem?_eq_some_iff.1 hx).1
  obtain ⟨h0, h3, h4⟩ := g5 k x hx
  exact ⟨h0, h3.below (hb.mono (g0 _ (by omega)).2), h4.below (hb.mono (g0 _ (by omega)).2)⟩
theorem OwBl.only {w w' : World} {lo hi c d : Nat} {v : Value} {l : List Bk} (h : OwBl w lo hi v l) (hw : Only c d w w') (hd : hi ≤ c ∨ d ≤ lo) (hs : hi ≤ w.heap.size) : OwBl w' lo hi v l :=
  h.keep fun g h0 h1 => hw.block g (by omega) (by omega)

set_option maxHeartbeats 8000000 in
set_option maxRecDepth 100000 in
theorem markBl_any (v : Value) (l : List Bk) (K : Int) (w : World) (lo hi : Nat) (ho : OwBl w lo hi v l) (hh : hi ≤ w.heap.size) (hK : 0 ≤ K) (hn : K + (bkSum l : Int) ≤ 1000000000000) :
    Calls Try.prog 20 #[v, .int .i64 K] w fun e w' => e = .returned (.int .i64 (K + (bkSum l : Int))) ∧ OmBl w' lo hi v l K ∧ Only lo hi w w' := by
  obtain ⟨a, b, f, g0, g3, g4, g5⟩ := ho
  obtain ⟨r0, r1⟩ := g0 0 (by omega)
  rcases g4.2 with ⟨hl0, A, c, rfl⟩ | ⟨g, cap, cur, rfl, hlo, hhi, hg, hnc, hcap, hsz, hx⟩
  · have hl1 : l = [] := List.eq_nil_of_length_eq_zero hl0
    subst hl1
    go_enter Try.func20, Try.ntmps20
    go_wp2
    go_loopw [1, 5] (fun t i wr => t = .int .i64 K ∧ i = .int .i64 0 ∧ w = wr) (fun _ i _ => 0 - (intOf i).toNat)
    case atStart => exact ⟨rfl, rfl, rfl⟩
    case round =>
      rename_i wr
      obtain ⟨rfl, rfl, rfl⟩ := hrel
      go_wp2
      go_ret
      exact ⟨ret_int (by simp [bkSum]), ⟨a, b, f, g0, g3, by simpa using g4, fun k x hx => by simp at hx⟩, Only.refl _ _ _⟩
  · have hcf : ∀ i, i < l.length * 3 → cur.getD i undef = f i := by
      intro i hi
      have h1 := congrArg (fun xs => xs[i]?) hx
      simp only [List.getElem?_take, if_pos hi, Array.getElem?_toList, List.getElem?_map, List.getElem?_range hi, Option.map_some] at h1
      rw [Array.getD_eq_getD_getElem?, h1]
      rfl
    have hrow0 : w.rowIs g 33 (cap * 3) (fun i => cur.getD i undef) := ⟨cur, hg, hsz, fun i hi => row_getD (by omega)⟩
    have HR0 := Lib.hid hrow0
    have HCF := Lib.hid hcf
    have Hnc := Lib.hid hnc
    have HG := Lib.hid g5
    have H2 := Lib.hid g0
    have H3 := Lib.hid g3
    have HSL := Lib.hid (fun k => bkSum_take_le l k)
    have HSN := Lib.hid (fun (k : Nat) (x : Bk) (hx : l[k]? = some x) => bkSum_next hx)
    have HS0 := Lib.hid (show bkSum (l.take 0) = 0 by simp [bkSum])
    have HSE := Lib.hid (show bkSum (l.take l.length) = bkSum l by rw [List.take_length])
    have hom : ∀ W (F : Nat → Value), OwC W (a 0) (b 0) 33 3 (.slice (some ⟨g, 0, none⟩) l.length cap) l.length ((List.range (l.length * 3)).map F) → (∀ k x, l[k]? = some x → F (k * 3) = .int .i64 (K + (bkSum (l.take k) : Int)) ∧ mB W a b F (K + (bkSum (l.take k) : Int)) k x) → OmBl W lo hi (.slice (some ⟨g, 0, none⟩) l.length cap) l K :=
      fun W F h1 h2 => ⟨a, b, F, g0, g3, h1, h2⟩
    have HOM := Lib.hid hom
    generalize hS : (fun k => bkSum (l.take k)) = S at *
    have hSk : ∀ k, bkSum (l.take k) = S k := fun k => by rw [← hS]
    simp only [hSk] at HSL HSN HS0 HSE HOM
    generalize bkSum l = T at *
    clear g4 g5 g0 g3 hom hSk hS hg hrow0 hcf hx hnc
    have hcap2 : cap ≤ maxLen := hcap
    generalize hl : l.length = n at *
    have HL := Lib.hid hl
    have hnle : n ≤ 9223372036854775807 := by have := Hnc.out; unfold maxLen at hcap; omega
    clear hl
    go_enter Try.func20, Try.ntmps20
    go_wp2
    go_loopw [1, 5] (fun t i wr => ∃ (k : Nat) (F : Nat → Value), k ≤ n ∧ i = .int .i64 k ∧ t = .int .i64 (K + (S k : Int)) ∧ wr.rowIs g 33 (cap * 3) F ∧ Hid (∀ j, j < n → F (j * 3 + 1) = f (j * 3 + 1) ∧ F (j * 3 + 2) = f (j * 3 + 2)) ∧
      Hid (∀ j, j < k → F (j * 3) = .int .i64 (K + (S j : Int))) ∧ Hid (∀ j x, k ≤ j → l[j]? = some x → oB wr a b f j x) ∧ Hid (∀ j x, j < k → l[j]? = some x → mB wr a b f (K + (S j : Int)) j x) ∧ Hid (Only lo hi w wr)) (fun _ i _ => n - (intOf i).toNat)
    case atStart => exact ⟨0, _, Nat.zero_le _, rfl, by rw [HS0.out]; simp, HR0.out, fun j hj => ⟨HCF.out _ (by omega), HCF.out _ (by omega)⟩, fun j hj => absurd hj (by omega), fun j x _ hx => (HG.out j x hx).2, fun j x hj => absurd hj (by omega), Only.refl _ _ _⟩
    case round =>
      rename_i wr
      obtain ⟨k, F, hk, rfl, rfl, hrow, hF, hFk, hgs, hmk, hon⟩ := hrel
      have hsk := HSL.out k
      by_cases hlt : k < n
      · have hx : l[k]? = some (l[k]'(by rw [HL.out]; exact hlt)) := List.getElem?_eq_getElem _
        obtain ⟨x, hxe⟩ : ∃ x, x = l[k]'(by rw [HL.out]; exact hlt) := ⟨_, rfl⟩
        rw [← hxe] at hx
        obtain ⟨hos, hot⟩ := hgs.out k x (Nat.le_refl _) hx
        obtain ⟨A2, c2, hse, -⟩ := hos.cells
        obtain ⟨A3, c3, hte, -⟩ := hot.cells
        have hsn := HSN.out k x hx
        simp only [bkM] at hsn
        have hsk1 := HSL.out (k + 1)
        have hcc := Hnc.out
        obtain ⟨w1, w2⟩ := H2.out (2 * k + 1) (by omega)
        obtain ⟨w3, w4⟩ := H2.out (2 * k + 2) (by omega)
        have dd := H3.out (2 * k + 1) (2 * k + 2) (by omega) (by omega) (by omega)
        have dw := H3.out 0 (2 * k + 1) (by omega) (by omega) (by omega)
        have de := H3.out 0 (2 * k + 2) (by omega) (by omega) (by omega)
        have d0 := hrow.cell (i := k * 3) (by omega)
        have d1 := hrow.cell (i := k * 3 + 1) (by omega)
        have d2 := hrow.cell (i := k * 3 + 2) (by omega)
        have g0' := fun i => hrow.frozen i
        obtain ⟨hF1, hF2⟩ := hF.out k hlt
        rw [hF1, hse] at d1
        rw [hF2, hte] at d2
        have HSE1 := Lib.hid hse
        have HTE1 := Lib.hid hte
        have HR1 := Lib.hid (hrow.set (k * 3) (.int .i64 (K + (S k : Int))))
        have HX := Lib.hid hx
        have HON := Lib.hid (hon.out.setCell (p := ⟨g, k * 3, none⟩) (Nat.le_trans r0 hlo) (Nat.lt_of_lt_of_le hhi r1) (.int .i64 (K + (S k : Int))))
        have hon1 : Only (a 0) (b 0) wr (wr.setCell ⟨g, k * 3, none⟩ (.int .i64 (K + (S k : Int)))) := (Only.refl _ _ _).setCell hlo hhi _
        have hwsz : hi ≤ wr.heap.size := Nat.le_trans hh hon.out.size
        have HOS := Lib.hid (hos.only hon1 (by omega) (by omega))
        have HOT := Lib.hid (hot.only hon1 (by omega) (by omega))
        have HON1 := Lib.hid hon1
        rw [hse] at HOS
        rw [hte] at HOT
        have hz1 : 0 ≤ K + (S k : Int) + 1 := by omega
        have hz2 : K + (S k : Int) + 1 + ((x.b.w.length : Nat) : Int) ≤ 1000000000000 := by omega
        have hz3 : 0 ≤ K + (S k : Int) + 1 + ((x.b.w.length : Nat) : Int) := by omega
        have hz4 : K + (S k : Int) + 1 + ((x.b.w.length : Nat) : Int) + ((x.e.length : Nat) : Int) * 6 ≤ 1000000000000 := by omega
        have HSN2 := Lib.hid (show K + (S k : Int) + 1 + ((x.b.w.length : Nat) : Int) + ((x.e.length : Nat) : Int) * 6 = K + (S (k + 1) : Int) by omega)
        have hgw : g < wr.heap.size := Nat.lt_of_lt_of_le (Nat.lt_of_lt_of_le hhi r1) hwsz
        have hq1 : (wr.setCell ⟨g, k * 3, none⟩ (.int .i64 (K + (S k : Int)))).cell? ⟨g, k * 3 + 1, none⟩ = some (.slice A2 x.b.w.length c2) := by rw [World.cell?_setCell_other _ _ _ _ (by intro e0; injection e0 with _ e2 _; omega)]; exact d1
        have hq2 : (wr.setCell ⟨g, k * 3, none⟩ (.int .i64 (K + (S k : Int)))).cell? ⟨g, k * 3 + 2, none⟩ = some (.slice A3 x.e.length c3) := by rw [World.cell?_setCell_other _ _ _ _ (by intro e0; injection e0 with _ e2 _; omega)]; exact d2
        have HQ2 := Lib.hid hq2
        clear hx hxe hos hot hrow hsn hse hte hon1 hq1 hq2 hF1 hF2 d2
        go_wp2_with fail
        refine (markI_any _ _ _ _ _ _ _ HOS.out hz1 hz2).mono ?_
        rintro e wn ⟨rfl, hmo, hmw⟩
        have hq2n : wn.cell? ⟨g, k * 3 + 2, none⟩ = some (.slice A3 x.e.length c3) := (World.cell?_of_block (a := ⟨g, k * 3 + 2, none⟩) (hmw.block g (by simp; omega) (by omega))).trans HQ2.out
        have HMO := Lib.hid hmo
        have HMW := Lib.hid hmw
        have HOT2 := Lib.hid (HOT.out.only hmw (by omega) (by simp; omega))
        clear hmo hmw d1 d0 g0'
        go_wp2_with fail
        refine (markE_any _ _ _ _ _ _ _ HOT2.out hz3 hz4).mono ?_
        rintro e wm ⟨rfl, hmo2, hmw2⟩
        have hMW := HMW.out
        have hwn : wr.heap.size ≤ wn.heap.size := by have := hMW.size; simpa using this
        have HMKK := Lib.hid (HMO.out.only hmw2 (by omega) (by omega))
        have HROW := Lib.hid ((HR1.out.of_block (hMW.block g (by simp; omega) (by omega))).of_block (hmw2.block g (by omega) (by omega)))
        have HMO2 := Lib.hid hmo2
        have HMW2 := Lib.hid hmw2
        have HONN := Lib.hid ((HON.out.trans (hMW.wide w1 w2)).trans (hmw2.wide w3 w4))
        clear hMW hmo2 hmw2 hq2n
        go_wp2
        refine ⟨⟨k + 1, _, by omega, by go_num, by rw [HSN2.out], HROW.out, fun j hj => ?_, fun j hj => ?_, fun j y hj hy => ?_, fun j y hj hy => ?_, HONN.out⟩, by simp [intOf]; omega⟩
        · obtain ⟨h1, h2⟩ := hF.out j hj
          show (if j * 3 + 1 = k * 3 then _ else F (j * 3 + 1)) = _ ∧ (if j * 3 + 2 = k * 3 then _ else F (j * 3 + 2)) = _
          rw [if_neg (by omega), if_neg (by omega)]
          exact ⟨h1, h2⟩
        · show (if j * 3 = k * 3 then _ else F (j * 3)) = _
          by_cases hjk : j = k
          · subst hjk
            rw [if_pos rfl]
          · rw [if_neg (by omega)]
            exact hFk.out j (by omega)
        · have hjn : j < n := by rw [← HL.out]; exact (List.getElem?_eq_some_iff.1 hy).1
          have h1 := hgs.out j y (by omega) hy
          have k1 := H2.out (2 * j + 1) (by omega)
          have k2 := H2.out (2 * j + 2) (by omega)
          have e1 := H3.out 0 (2 * j + 1) (by omega) (by omega) (by omega)
          have e2 := H3.out 0 (2 * j + 2) (by omega) (by omega) (by omega)
          have e3 := H3.out (2 * k + 1) (2 * j + 1) (by omega) (by omega) (by omega)
          have e4 := H3.out (2 * k + 1) (2 * j + 2) (by omega) (by omega) (by omega)
          have e5 := H3.out (2 * k + 2) (2 * j + 1) (by omega) (by omega) (by omega)
          have e6 := H3.out (2 * k + 2) (2 * j + 2) (by omega) (by omega) (by omega)
          exact ((h1.only HON1.out (by omega) (by omega) (by omega) (by omega)).only HMW.out (by omega) (by omega) (by simp; omega) (by simp; omega)).only HMW2.out (by omega) (by omega) (by omega) (by omega)
        · have hjn : j < n := by rw [← HL.out]; exact (List.getElem?_eq_some_iff.1 hy).1
          by_cases hjk : j = k
          · subst hjk
            have hxy : x = y := by have := HX.out.symm.trans hy; injection this
            subst hxy
            refine ⟨?_, ?_⟩
            · rw [HSE1.out]; exact HMKK.out
            · rw [HTE1.out]; exact HMO2.out
          · have h1 := hmk.out j y (by omega) hy
            have k1 := H2.out (2 * j + 1) (by omega)
            have k2 := H2.out (2 * j + 2) (by omega)
            have e1 := H3.out 0 (2 * j + 1) (by omega) (by omega) (by omega)
            have e2 := H3.out 0 (2 * j + 2) (by omega) (by omega) (by omega)
            have e3 := H3.out (2 * k + 1) (2 * j + 1) (by omega) (by omega) (by omega)
            have e4 := H3.out (2 * k + 1) (2 * j + 2) (by omega) (by omega) (by omega)
            have e5 := H3.out (2 * k + 2) (2 * j + 1) (by omega) (by omega) (by omega)
            have e6 := H3.out (2 * k + 2) (2 * j + 2) (by omega) (by omega) (by omega)
            exact ((h1.only HON1.out (by omega) (by omega) (by omega) (by omega)).only HMW.out (by omega) (by omega) (by simp; omega) (by simp; omega)).only HMW2.out (by omega) (by omega) (by omega) (by omega)
      · have hkn : k = n := by omega
        have HON := Lib.hid hon.out
        have HR := Lib.hid hrow
        have HZ := Lib.hid (show K + (S k : Int) = K + (T : Int) by rw [hkn, HSE.out])
        clear hon hrow
        go_wp2
        go_ret
        refine ⟨ret_int HZ.out, HOM.out wr F ?_ (fun j x hx => ?_), HON.out⟩
        · refine ⟨by simp, .inr ?_⟩
          obtain ⟨cur', h1, h2, h3⟩ := HR.out
          refine ⟨g, cap, cur', rfl, hlo, hhi, h1, Hnc.out, hcap2, h2, ?_⟩
          have hcc := Hnc.out
          apply List.ext_getElem?
          intro i
          by_cases hi : i < n * 3
          · rw [List.getElem?_take, if_pos hi, Array.getElem?_toList, h3 i (by omega)]
            simp [hi]
          · rw [List.getElem?_eq_none (by simp; omega), List.getElem?_eq_none (by simp; omega)]
        · have hjn : j < k := by rw [hkn, ← HL.out]; exact (List.getElem?_eq_some_iff.1 hx).1
          obtain ⟨h1, h2⟩ := hF.out j (by omega)
          refine ⟨hFk.out j hjn, ?_⟩
          have h3 := hmk.out j x hjn hx
          unfold mB at h3 ⊢
          rw [h1, h2]
          exact h3

set_option maxHeartbeats 4000000 in
set_option maxRecDepth 100000 in
theorem heldBl_any (v : Value) (l : List Bk) (K : Int) (w : World) (lo hi : Nat) (ho : OmBl w lo hi v l K) (hK : 0 ≤ K) (hn : K + (bkSum l : Int) ≤ 1000000000000) :
    Calls Try.prog 21 #[v, .int .i64 K] w fun e w' => e = .returned (.int .i64 (K + (bkSum l : Int))) ∧ w = w' := by
  obtain ⟨a, b, f, g0, g3, g4, g5⟩ := ho
  obtain ⟨A, c, rfl, hbig, hcell⟩ := g4.cells
  have HG := Lib.hid g5
  have HCE := Lib.hid hcell
  have HSL := Lib.hid (fun k => bkSum_take_le l k)
  have HSN := Lib.hid (fun (k : Nat) (x : Bk) (hx : l[k]? = some x) => bkSum_next hx)
  have HS0 := Lib.hid (show bkSum (l.take 0) = 0 by simp [bkSum])
  have HSE := Lib.hid (show bkSum (l.take l.length) = bkSum l by rw [List.take_length])
  generalize hS : (fun k => bkSum (l.take k)) = S at *
  have hSk : ∀ k, bkSum (l.take k) = S k := fun k => by rw [← hS]
  simp only [hSk] at HSL HSN HS0 HSE HG
  generalize bkSum l = T at *
  clear g0 g3 g4 g5 hSk hS hcell
  generalize hl : l.length = n at *
  have HL := Lib.hid hl
  clear hl
  go_enter Try.func21, Try.ntmps21
  go_wp2
  go_loop [1, 5] (fun t i => ∃ k : Nat, k ≤ n ∧ i = .int .i64 k ∧ t = .int .i64 (K + (S k : Int))) (fun _ i => n - (intOf i).toNat)
  case atStart => exact ⟨0, Nat.zero_le _, rfl, by rw [HS0.out]; simp⟩
  case round =>
    obtain ⟨k, hk, rfl, rfl⟩ := hrel
    have hsk := HSL.out k
    by_cases hlt : k < n
    · have hx : l[k]? = some (l[k]'(by rw [HL.out]; exact hlt)) := List.getElem?_eq_getElem _
      obtain ⟨x, hxe⟩ : ∃ x, x = l[k]'(by rw [HL.out]; exact hlt) := ⟨_, rfl⟩
      rw [← hxe] at hx
      obtain ⟨hf0, hos, hot⟩ := HG.out k x hx
      obtain ⟨g, rfl, hg0, hg1, -, hcc⟩ := HCE.out k hlt
      have d0 := hcc (k * 3) (f (k * 3)) (by omega) (by rw [List.getElem?_map, List.getElem?_range (by omega)]; rfl)
      have d1 := hcc (k * 3 + 1) (f (k * 3 + 1)) (by omega) (by rw [List.getElem?_map, List.getElem?_range (by omega)]; rfl)
      have d2 := hcc (k * 3 + 2) (f (k * 3 + 2)) (by omega) (by rw [List.getElem?_map, List.getElem?_range (by omega)]; rfl)
      obtain ⟨A2, c2, hse, -⟩ := hos.cells
      obtain ⟨A3, c3, hte, -⟩ := hot.cells
      have hsn := HSN.out k x hx
      simp only [bkM] at hsn
      have hsk1 := HSL.out (k + 1)
      have HOS := Lib.hid hos
      have HOT := Lib.hid hot
      rw [hf0] at d0
      rw [hse] at d1 HOS
      rw [hte] at d2 HOT
      have hz1 : 0 ≤ K + (S k : Int) + 1 := by omega
      have hz2 : K + (S k : Int) + 1 + ((x.b.w.length : Nat) : Int) ≤ 1000000000000 := by omega
      have hz3 : 0 ≤ K + (S k : Int) + 1 + ((x.b.w.length : Nat) : Int) := by omega
      have hz4 : K + (S k : Int) + 1 + ((x.b.w.length : Nat) : Int) + ((x.e.length : Nat) : Int) * 6 ≤ 1000000000000 := by omega
      have HSN2 := Lib.hid (show K + (S k : Int) + 1 + ((x.b.w.length : Nat) : Int) + ((x.e.length : Nat) : Int) * 6 = K + (S (k + 1) : Int) by omega)
      clear hx hxe hos hot hcc hse hte hsn hf0
      go_wp2_with fail
      refine (heldI_any _ _ _ _ _ _ HOS.out hz1 hz2).mono ?_
      rintro e wn ⟨rfl, rfl⟩
      go_wp2_with fail
      refine (heldE_any _ _ _ _ _ _ HOT.out hz3 hz4).mono ?_
      rintro e wn ⟨rfl, rfl⟩
      go_wp2
      exact ⟨⟨k + 1, by omega, by go_num, by rw [HSN2.out]⟩, by simp [intOf]; omega⟩
    · have hkn : k = n := by omega
      have HZ := Lib.hid (show K + (S k : Int) = K + (T : Int) by rw [hkn, HSE.out])
      clear hkn
      go_wp2
      go_ret
      exact ⟨ret_int HZ.out, rfl⟩

/-- The blocks of events fit. -/
theorem bko_fit (l : List Ev) : FitB (bkoL l) := by
  by_cases h : okEvs l = true ∧ bksC l = 0
  · obtain ⟨h1, h2⟩ := good_of h.1 h.2
    rw [(bko_yes h.1).1]
    generalize bksL l = o at *
    refine ⟨by omega, fun x hx => ?_, ?_⟩
    · have := (h1 x hx).wl; have := (h1 x hx).el; simp only [bkL]; omega
    · have : ∀ (q : List Bk), (∀ x ∈ q, GoodB 2000 x) → bkSum q ≤ q.length * 12041 := by
        intro q
        induction q with
        | nil => intro _; simp [bkSum]
        | cons y ys ih =>
          intro hq
          have h3 := ih (fun x hx => hq x (by simp [hx]))
          have h4 := (hq y (by simp)).wl
          have h5 := (hq y (by simp)).el
          simp only [bkSum, List.map_cons, List.sum_cons, List.length_cons, bkM] at h3 ⊢
          omega
      have := this o h1
      omega
  · have hn : bkoL l = [] := by
      cases ho : okEvs l
      · exact (bko_no ho).1
      · rw [(bko_yes ho).1]
        rcases bksC_cases l with h1 | h1
        · exact absurd ⟨ho, h1⟩ h
        · exact bksL_nil h1
    rw [hn]
    exact ⟨by simp, by simp, by simp [bkSum]⟩
theorem rdcL_len (l : List Ev) : (rdcL l).length ≤ 1048576 := by
  unfold rdcL
  have h2 : ∀ (q : List Bk), (evsB q).length ≤ bkSum q := by
    intro q
    induction q with
    | nil => simp [evsB]
    | cons y ys ih =>
      simp only [evsB, List.flatMap_cons, List.length_append, bkSum, List.map_cons, List.sum_cons, bkM, bkE, letsE_len] at ih ⊢
      omega
  by_cases h : okEvs l = true ∧ bksC l = 0
  · obtain ⟨h3, h4⟩ := good_of h.1 h.2
    rw [(bko_yes h.1).1]
    have h5 : ∀ (q : List Bk), (∀ x ∈ q, GoodB 2000 x) → (evsB q).length ≤ q.length * 2040 := by
      intro q
      induction q with
      | nil => simp [evsB]
      | cons y ys ih =>
        intro hq
        have h3 := ih (fun x hx => hq x (by simp [hx]))
        have h4 := (hq y (by simp)).wl
        have h5 := (hq y (by simp)).el
        simp only [evsB, List.flatMap_cons, List.length_append, List.length_cons, bkE, letsE_len] at h3 ⊢
        omega
    have := h5 _ h3
    omega
  · have hn : bkoL l = [] := by
      cases ho : okEvs l
      · exact (bko_no ho).1
      · rw [(bko_yes ho).1]
        rcases bksC_cases l with h1 | h1
        · exact absurd ⟨ho, h1⟩ h
        · exact bksL_nil h1
    rw [hn]
    simp [evsB]

end Go.Proofs.Ytfeonaocmnpkcaa

/-
  A block that a walk leaves as it was.
-/
namespace Go.Proofs.Ytfeonaocmnpkcaa
set_option linter.unusedVariables false
open Go.RowKit

structure Kept (b : Nat) (w w' : World) : Prop where
  lt : b < w'.heap.size
  eq : w'.heap[b]? = w.heap[b]?
theorem Kept.refl {b : Nat} {w : World} (h : b < w.heap.size) : Kept b w w := ⟨h, rfl⟩
theorem Kept.below {b B : Nat} {w w1 w2 : World} (h : Kept b w w1) (hb : Below B w1 w2) (hB : b < B) : Kept b w w2 :=
  ⟨Nat.lt_of_lt_of_le h.lt hb.size, (hb.block b hB).trans h.eq⟩
theorem Kept.next {b : Nat} {w w1 w2 : World} (h : Kept b w w1) (hb : Below w1.heap.size w1 w2) : Kept b w w2 := h.below hb h.lt
theorem Kept.only {b lo hi : Nat} {w w1 w2 : World} (h : Kept b w w1) (hb : Only lo hi w1 w2) (hh : b < lo ∨ hi ≤ b) : Kept b w w2 :=
  ⟨Nat.lt_of_lt_of_le h.lt hb.size, (hb.block b h.lt hh).trans h.eq⟩
theorem Kept.cells {b : Nat} {w w1 : World} {us : List Value} (h : Kept b w w1) (hc : CellsAt w b 0 us) : CellsAt w1 b 0 us :=
  fun i x hi => (World.cell?_of_block (a := ⟨b, 0 + i, none⟩) h.eq).trans (hc i x hi)

end Go.Proofs.Ytfeonaocmnpkcaa
