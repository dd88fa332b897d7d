/-
  How many strands events leave: strandsAfter, ValidEvents and StrandsOf of program and reference.
-/
import Derived.Test.YtccdnmafakaleaaGreatDoorValid
import Derived.Test.YtccdnmafakaleaaGreatDoorWords
namespace Go.Proofs.YtccdnmafakaleaaGreatDoor
set_option linter.unusedVariables false
set_option linter.unusedSimpArgs false
open Go.RowKit

theorem aft_bounds {n : Int} {e : Ev} (h0 : 0 ≤ n) (h1 : n ≤ 12) (h : valE n e = true) : 0 ≤ aftE n e ∧ aftE n e ≤ 13 := by
  rw [valE_K] at h
  unfold valK at h
  unfold aftE
  by_cases k2 : e.k = 2
  · simp [k2] at h ⊢; omega
  by_cases k3 : e.k = 3
  · simp [k3] at h ⊢; omega
  by_cases k4 : e.k = 4
  · simp [k4] at h ⊢; omega
  by_cases k5 : e.k = 5
  · simp [k5] at h ⊢; omega
  simp [k2, k3, k4, k5]; omega

theorem ret_int_of {k : IntKind} {a b : Int} (h : a = b) : Ending.returned (.int k a) = .returned (.int k b) := by rw [h]

set_option maxHeartbeats 2000000 in
theorem after_any (e : Ev) (n : Int) (h0 : 0 ≤ n) (h1 : n ≤ 12) (hv : valE n e = true) (w : World) : Calls Tryz.prog 41 #[e.v, .int .i64 n] w fun x w' => x = .returned (.int .i64 (aftE n e)) ∧ Below w.heap.size w w' := by
  have hc : e.k = 2 ∨ e.k = 4 → 0 ≤ e.c ∧ e.c ≤ 4 := by
    intro hk
    rw [valE_K] at hv
    unfold valK at hv
    rcases hk with hk | hk <;> simp [hk] at hv <;> omega
  clear hv
  obtain ⟨k, p, c, b, y, d⟩ := e
  simp only at hc
  by_cases k2 : k = 2
  · subst k2
    obtain ⟨c0, c1⟩ := hc (.inl rfl)
    clear hc
    go_enter Tryz.func41, Tryz.ntmps41
    go_wp2
    go_ret
    exact ⟨ret_int_of (by simp [aftE]), (Below.refl _ _).alloc (Nat.le_refl _) _⟩
  by_cases k4 : k = 4
  · subst k4
    obtain ⟨c0, c1⟩ := hc (.inr rfl)
    clear hc k2
    go_enter Tryz.func41, Tryz.ntmps41
    go_wp2
    go_ret
    exact ⟨ret_int_of (by simp [aftE]), (Below.refl _ _).alloc (Nat.le_refl _) _⟩
  have e2 : (k == 2) = false := by simpa using k2
  have e4 : (k == 4) = false := by simpa using k4
  clear hc k2 k4
  go_enter Tryz.func41, Tryz.ntmps41
  go_wp2
  all_goals go_ret
  all_goals exact ⟨ret_int_of (by simp_all [aftE]), (Below.refl _ _).alloc (Nat.le_refl _) _⟩

def cntE : Int → List Ev → Option Int
  | n, [] => some n
  | n, e :: es => if valE n e = true ∧ aftE n e ≤ 12 then cntE (aftE n e) es else none

def cntR (r : Option Int) (e : Ending) : Prop := e = .returned (.tuple #[.int .i64 (r.getD 0), .bool r.isSome])

theorem drop_cnt_no {l : List Ev} {k : Nat} {x : Ev} {n m : Int} (h : cntE n l = cntE m (l.drop k)) (hx : l[k]? = some x) (hv : ¬ (valE m x = true ∧ aftE m x ≤ 12)) : cntE n l = none := by
  rw [h, drop_of_get hx, cntE, if_neg hv]
theorem drop_cnt_yes {l : List Ev} {k : Nat} {x : Ev} {n m : Int} (h : cntE n l = cntE m (l.drop k)) (hx : l[k]? = some x) (hv : valE m x = true) (h2 : aftE m x ≤ 12) : cntE n l = cntE (aftE m x) (l.drop (k + 1)) := by
  rw [h, drop_of_get hx, cntE, if_pos ⟨hv, h2⟩]

set_option maxHeartbeats 4000000 in
set_option maxRecDepth 100000 in
theorem strandsAfter_any (v : Value) (l : List Ev) (n0 : Int) (h0 : 0 ≤ n0) (h1 : n0 ≤ 12) (w : World) (B : Nat) (hl : RdE w B v l) (hB : B ≤ w.heap.size) :
    Calls Tryz.prog 38 #[.int .i64 n0, v] w fun e w' => cntR (cntE n0 l) e ∧ Below w.heap.size w w' := by
  obtain ⟨A, n, c, rfl, hln, hl, gl⟩ := hl
  go_enter Tryz.func38, Tryz.ntmps38
  go_wp2
  go_loopw [0, 10] (fun t i wr => ∃ (k : Nat) (m : Int), k ≤ n ∧ i = .int .i64 k ∧ t = .int .i64 m ∧ 0 ≤ m ∧ m ≤ 12 ∧ Hid (cntE n0 l = cntE m (l.drop k)) ∧ Below w.heap.size w wr) (fun _ i _ => n - (intOf i).toNat)
  case atStart => exact ⟨0, n0, Nat.zero_le _, rfl, rfl, h0, h1, rfl, Below.refl _ _⟩
  case round =>
    rename_i wr
    obtain ⟨k, m, hk, rfl, rfl, m0, m1, hd, hb⟩ := hrel
    clear h0 h1
    by_cases hlt : k < n
    · obtain ⟨b, off, x, rfl, hbb, hlk, hc⟩ := gl k hlt
      obtain ⟨c0, c1, c2, c3, c4, c5⟩ := (hc.below hb (Nat.lt_of_lt_of_le hbb hB)).six
      have HB := Lib.hid hb
      have Hl := Lib.hid hlk
      clear hc hb hlk gl
      rcases hv : valE m x
      · have HV := Lib.hid hv
        clear hv
        go_wp2_with (go_at_call 51; refine (valid_any x _ m0 m1 _).mono ?_; rintro e w1 ⟨rfl, hb1⟩; rw [HV.out])
        go_ret2
        exact ⟨by rw [drop_cnt_no hd.out Hl.out (by rw [HV.out]; simp)]; rfl, HB.out.trans (((Below.refl _ _).alloc (Nat.le_refl _) _).trans (hb1.mono (by simp)) |>.mono HB.out.size)⟩
      · have HV := Lib.hid hv
        clear hv
        obtain ⟨a0, a1⟩ := aft_bounds m0 m1 HV.out
        by_cases ha : aftE m x ≤ 12
        · have HD := Lib.hid (drop_cnt_yes hd.out Hl.out HV.out ha)
          go_wp2_with (first
            | (go_at_call 51; refine (valid_any x _ m0 m1 _).mono ?_; rintro e w1 ⟨rfl, hb1⟩; have hc1 := bcell hb1; rw [HV.out])
            | (go_at_call 41; refine (after_any x _ m0 m1 HV.out _).mono ?_; rintro e w2 ⟨rfl, hb2⟩))
          exact ⟨⟨k + 1, _, by omega, by go_num, rfl, a0, ha, HD.out, HB.out.trans ((((Below.refl _ _).alloc (Nat.le_refl _) _).trans (hb1.mono (by simp))).trans (hb2.mono (by have := hb1.size; simp at this; omega)) |>.mono HB.out.size)⟩, by simp [intOf]; omega⟩
        · have HD := Lib.hid (drop_cnt_no hd.out Hl.out (fun h => ha h.2))
          go_wp2_with (first
            | (go_at_call 51; refine (valid_any x _ m0 m1 _).mono ?_; rintro e w1 ⟨rfl, hb1⟩; have hc1 := bcell hb1; rw [HV.out])
            | (go_at_call 41; refine (after_any x _ m0 m1 HV.out _).mono ?_; rintro e w2 ⟨rfl, hb2⟩))
          go_ret2
          exact ⟨by rw [HD.out]; rfl, HB.out.trans ((((Below.refl _ _).alloc (Nat.le_refl _) _).trans (hb1.mono (by simp))).trans (hb2.mono (by have := hb1.size; simp at this; omega)) |>.mono HB.out.size)⟩
    · have HB := Lib.hid hb
      clear hb gl
      go_wp2
      go_ret2
      exact ⟨by rw [hd.out, List.drop_of_length_le (by have := hl.out; omega)]; rfl, HB.out⟩

end Go.Proofs.YtccdnmafakaleaaGreatDoor
