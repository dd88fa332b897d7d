/-
  Small functions on permutations, of the program and of the reference.
-/
import Derived.Test.YtfeonaocmnpkcaaGarL
import Derived.RegionTactic
import Derived.ChangeAlike
namespace Go.Proofs.Ytfeonaocmnpkcaa
set_option linter.unusedVariables false
set_option linter.unusedSimpArgs false
open Go.RowKit

set_option maxHeartbeats 1000000 in
theorem identity_any (n : Nat) (hn : n ≤ 12) (w : World) : Calls Try.prog 101 #[.int .i64 (n : Int)] w (GivesL w (lst n Pm.one)) := by
  have hmk := fun W => run_make_row' (P := Try.prog) 22 2 (.int .i64 0) 8 Try.underlying22 info_int rfl .i64 .i64 n (by omega) (by omega) W
  go_enter Try.func101, Try.ntmps101
  go_wp2
  clear hmk
  go_loopw [9] (fun i wr => ∃ (k : Nat) (f : Nat → Value), k ≤ n ∧ i = .int .i64 k ∧ wr.rowIs w.heap.size 2 n f ∧ Hid (∀ j, j < k → f j = .int .i64 ((j : Nat) : Int)) ∧ Below w.heap.size w wr) (fun i _ => n - (intOf i).toNat)
  case atStart => exact ⟨0, _, Nat.zero_le _, rfl, World.rowIs_made _ _ _ _, fun j hj => absurd hj (by omega), (Below.refl _ _).alloc (Nat.le_refl _) _⟩
  case round =>
    rename_i wr
    obtain ⟨k, f, hk, rfl, hrow, hf, hb⟩ := hrel
    have HB := Lib.hid hb
    have HR := Lib.hid hrow
    by_cases hlt : k < n
    · have d0 := hrow.cell (i := k) hlt
      have g0 := fun i => hrow.frozen i
      clear hb hrow
      go_wp2
      exact ⟨⟨k + 1, _, by omega, by go_num, HR.out.set _ _, fill_next hf.out rfl, HB.out.setCell (Nat.le_refl _) _⟩, by simp [intOf]; omega⟩
    · clear hb hrow
      go_wp2
      go_ret
      obtain rfl : k = n := by omega
      exact GivesL.mk (OwC.of_fill HR.out (Nat.le_refl _) (by unfold maxLen; omega) hf.out) HB.out

set_option maxHeartbeats 1000000 in
theorem compose_any (n : Nat) (hn : n ≤ 12) (a b : Pm) (ha : a.On n) (u v : Value) (w : World) (hu : RdI w w.heap.size u (lst n a)) (hv : RdI w w.heap.size v (lst n b)) :
    Calls Try.prog 92 #[u, v] w (GivesL w (lst n (a.comp b))) := by
  obtain ⟨A, c, rfl⟩ := hu.len
  obtain ⟨A', c', rfl⟩ := hv.len
  simp only [lst_len] at *
  have HU := Lib.hid hu
  have HV := Lib.hid hv
  clear hu hv
  have hmk := fun W => run_make_row' (P := Try.prog) 22 2 (.int .i64 0) 8 Try.underlying22 info_int rfl .i64 .i64 n (by omega) (by omega) W
  go_enter Try.func92, Try.ntmps92
  go_wp2
  clear hmk
  go_loopw [13] (fun i wr => ∃ (k : Nat) (f : Nat → Value), k ≤ n ∧ i = .int .i64 k ∧ wr.rowIs w.heap.size 2 n f ∧ Hid (∀ j, j < k → f j = .int .i64 (((a.comp b).f j : Nat) : Int)) ∧ Below w.heap.size w wr) (fun i _ => n - (intOf i).toNat)
  case atStart => exact ⟨0, _, Nat.zero_le _, rfl, World.rowIs_made _ _ _ _, fun j hj => absurd hj (by omega), (Below.refl _ _).alloc (Nat.le_refl _) _⟩
  case round =>
    rename_i wr
    obtain ⟨k, f, hk, rfl, hrow, hf, hb⟩ := hrel
    have HB := Lib.hid hb
    have HR := Lib.hid hrow
    by_cases hlt : k < n
    · have d0 := hrow.cell (i := k) hlt
      have g0 := fun i => hrow.frozen i
      obtain ⟨b1, o1, rfl, _, hc1⟩ := (HU.out.below hb).base (by omega)
      obtain ⟨b2, o2, rfl, _, hc2⟩ := (HV.out.below hb).base (by omega)
      have hx := ha.lt hlt
      have e0 := hc1 k _ (lst_get hlt)
      have e1 := hc2 (a.f k) _ (lst_get hx)
      have HN := Lib.hid (fill_next hf.out (show (Value.int .i64 ((b.f (a.f k) : Nat) : Int)) = .int .i64 (((a.comp b).f k : Nat) : Int) from rfl))
      clear hb hrow hc1 hc2 hf
      generalize a.f k = x at *
      generalize b.f x = y at *
      go_wp2
      exact ⟨⟨k + 1, _, by omega, by go_num, HR.out.set _ _, HN.out, HB.out.setCell (Nat.le_refl _) _⟩, by simp [intOf]; omega⟩
    · clear hb hrow
      go_wp2
      go_ret
      obtain rfl : k = n := by omega
      exact GivesL.mk (OwC.of_fill HR.out (Nat.le_refl _) (by unfold maxLen; omega) hf.out) HB.out

/- a permutation flipped: flip name · impl.flip function · 12 the counter's slot -/
set_option maxHeartbeats 1000000 in
theorem flip_any (n : Nat) (hn : n ≤ 12) (p : Pm) (hp : p.On n) (v : Value) (w : World) (hv : RdI w w.heap.size v (lst n p)) :
    Calls Try.prog 102 #[v] w (GivesL w (lst n (Pm.flip n p))) := by
  obtain ⟨A, c, rfl⟩ := hv.len
  simp only [lst_len] at *
  have HV := Lib.hid hv
  clear hv
  have hmk := fun W => run_make_row' (P := Try.prog) 22 2 (.int .i64 0) 8 Try.underlying22 info_int rfl .i64 .i64 n (by omega) (by omega) W
  go_enter Try.func102, Try.ntmps102
  go_wp2
  clear hmk
  go_loopw [12] (fun i wr => ∃ (k : Nat) (f : Nat → Value), k ≤ n ∧ i = .int .i64 k ∧ wr.rowIs w.heap.size 2 n f ∧ Hid (∀ j, j < k → f j = .int .i64 (((Pm.flip n p).f j : Nat) : Int)) ∧ Below w.heap.size w wr) (fun i _ => n - (intOf i).toNat)
  case atStart => exact ⟨0, _, Nat.zero_le _, rfl, World.rowIs_made _ _ _ _, fun j hj => absurd hj (by omega), (Below.refl _ _).alloc (Nat.le_refl _) _⟩
  case round =>
    rename_i wr
    obtain ⟨k, f, hk, rfl, hrow, hf, hb⟩ := hrel
    have HB := Lib.hid hb
    have HR := Lib.hid hrow
    by_cases hlt : k < n
    · have d0 := hrow.cell (i := k) hlt
      have g0 := fun i => hrow.frozen i
      obtain ⟨b1, o1, rfl, _, hc1⟩ := (HV.out.below hb).base (by omega)
      have e0 := hc1 (n - 1 - k) _ (lst_get (by omega))
      have hx := hp.lt (show n - 1 - k < n by omega)
      have hi0 : 0 ≤ (n : Int) - 1 - (k : Int) := by omega
      have hi1 : (n : Int) - 1 - (k : Int) < (n : Int) := by omega
      have HN := Lib.hid (fill_next (val := fun j => (((Pm.flip n p).f j : Nat) : Int)) hf.out (show (Value.int .i64 ((n : Int) - 1 - ((p.f (n - 1 - k) : Nat) : Int))) = .int .i64 (((Pm.flip n p).f k : Nat) : Int) by
        congr 1
        show _ = ((Pm.dl n (p.f (Pm.dl n k)) : Nat) : Int)
        rw [Pm.dl_lt hlt, Pm.dl_lt hx]; omega))
      clear hb hrow hc1 hf
      generalize p.f (n - 1 - k) = x at *
      have hx1 : (x : Int) < n := by omega
      go_wp2
      exact ⟨⟨k + 1, _, by omega, by go_num, HR.out.set _ _, HN.out, HB.out.setCell (Nat.le_refl _) _⟩, by simp [intOf]; omega⟩
    · clear hb hrow
      go_wp2
      go_ret
      obtain rfl : k = n := by omega
      exact GivesL.mk (OwC.of_fill HR.out (Nat.le_refl _) (by unfold maxLen; omega) hf.out) HB.out
/- a permutation flipped: l04Flip name · spec.l04Flip function · 5 the counter's slot -/
set_option maxHeartbeats 1000000 in
theorem l04Flip_any (n : Nat) (hn : n ≤ 12) (p : Pm) (hp : p.On n) (v : Value) (w : World) (hv : RdI w w.heap.size v (lst n p)) :
    Calls Try.prog 96 #[v] w (GivesL w (lst n (Pm.flip n p))) := by
  obtain ⟨A, c, rfl⟩ := hv.len
  simp only [lst_len] at *
  have HV := Lib.hid hv
  clear hv
  have hmk := fun W => run_make_row' (P := Try.prog) 22 2 (.int .i64 0) 8 Try.underlying22 info_int rfl .i64 .i64 n (by omega) (by omega) W
  go_enter Try.func96, Try.ntmps96
  go_wp2
  clear hmk
  go_loopw [5] (fun i wr => ∃ (k : Nat) (f : Nat → Value), k ≤ n ∧ i = .int .i64 k ∧ wr.rowIs w.heap.size 2 n f ∧ Hid (∀ j, j < k → f j = .int .i64 (((Pm.flip n p).f j : Nat) : Int)) ∧ Below w.heap.size w wr) (fun i _ => n - (intOf i).toNat)
  case atStart => exact ⟨0, _, Nat.zero_le _, rfl, World.rowIs_made _ _ _ _, fun j hj => absurd hj (by omega), (Below.refl _ _).alloc (Nat.le_refl _) _⟩
  case round =>
    rename_i wr
    obtain ⟨k, f, hk, rfl, hrow, hf, hb⟩ := hrel
    have HB := Lib.hid hb
    have HR := Lib.hid hrow
    by_cases hlt : k < n
    · have d0 := hrow.cell (i := k) hlt
      have g0 := fun i => hrow.frozen i
      obtain ⟨b1, o1, rfl, _, hc1⟩ := (HV.out.below hb).base (by omega)
      have e0 := hc1 (n - 1 - k) _ (lst_get (by omega))
      have hx := hp.lt (show n - 1 - k < n by omega)
      have hi0 : 0 ≤ (n : Int) - 1 - (k : Int) := by omega
      have hi1 : (n : Int) - 1 - (k : Int) < (n : Int) := by omega
      have HN := Lib.hid (fill_next (val := fun j => (((Pm.flip n p).f j : Nat) : Int)) hf.out (show (Value.int .i64 ((n : Int) - 1 - ((p.f (n - 1 - k) : Nat) : Int))) = .int .i64 (((Pm.flip n p).f k : Nat) : Int) by
        congr 1
        show _ = ((Pm.dl n (p.f (Pm.dl n k)) : Nat) : Int)
        rw [Pm.dl_lt hlt, Pm.dl_lt hx]; omega))
      clear hb hrow hc1 hf
      generalize p.f (n - 1 - k) = x at *
      have hx1 : (x : Int) < n := by omega
      go_wp2
      exact ⟨⟨k + 1, _, by omega, by go_num, HR.out.set _ _, HN.out, HB.out.setCell (Nat.le_refl _) _⟩, by simp [intOf]; omega⟩
    · clear hb hrow
      go_wp2
      go_ret
      obtain rfl : k = n := by omega
      exact GivesL.mk (OwC.of_fill HR.out (Nat.le_refl _) (by unfold maxLen; omega) hf.out) HB.out

/- a permutation inverted: invert name · impl.invert function · 11 the counter's slot -/
set_option maxHeartbeats 1000000 in
theorem invert_any (n : Nat) (hn : n ≤ 12) (p : Pm) (hp : p.On n) (v : Value) (w : World) (hv : RdI w w.heap.size v (lst n p)) :
    Calls Try.prog 117 #[v] w (GivesL w (lst n p.inv)) := by
  obtain ⟨A, c, rfl⟩ := hv.len
  simp only [lst_len] at *
  have HV := Lib.hid hv
  clear hv
  have hmk := fun W => run_make_row' (P := Try.prog) 22 2 (.int .i64 0) 8 Try.underlying22 info_int rfl .i64 .i64 n (by omega) (by omega) W
  go_enter Try.func117, Try.ntmps117
  go_wp2
  clear hmk
  go_loopw [11] (fun i wr => ∃ (k : Nat) (f : Nat → Value), k ≤ n ∧ i = .int .i64 k ∧ wr.rowIs w.heap.size 2 n f ∧ Hid (∀ j, j < k → f (p.f j) = .int .i64 ((j : Nat) : Int)) ∧ Below w.heap.size w wr) (fun i _ => n - (intOf i).toNat)
  case atStart => exact ⟨0, _, Nat.zero_le _, rfl, World.rowIs_made _ _ _ _, fun j hj => absurd hj (by omega), (Below.refl _ _).alloc (Nat.le_refl _) _⟩
  case round =>
    rename_i wr
    obtain ⟨k, f, hk, rfl, hrow, hf, hb⟩ := hrel
    have HB := Lib.hid hb
    have HR := Lib.hid hrow
    by_cases hlt : k < n
    · have hx := hp.lt hlt
      have d0 := hrow.cell (i := p.f k) hx
      have g0 := fun i => hrow.frozen i
      obtain ⟨b1, o1, rfl, _, hc1⟩ := (HV.out.below hb).base (by omega)
      have e0 := hc1 k _ (lst_get hlt)
      have HN := Lib.hid (show ∀ j, j < k + 1 → (fun i => if i = p.f k then Value.int .i64 (k : Int) else f i) (p.f j) = .int .i64 ((j : Nat) : Int) from fun j hj => by
        show (if p.f j = p.f k then _ else _) = _
        by_cases h : j = k
        · rw [if_pos (by rw [h]), h]
        · rw [if_neg (fun e => h (p.f_inj e))]; exact hf.out j (by omega))
      clear hb hrow hc1 hf
      generalize hpx : p.f k = x at e0 hx d0
      rw [hpx] at HN
      clear hpx
      go_wp2
      exact ⟨⟨k + 1, _, by omega, by go_num, HR.out.set _ _, HN.out, HB.out.setCell (Nat.le_refl _) _⟩, by simp [intOf]; omega⟩
    · clear hb hrow
      go_wp2
      go_ret
      obtain rfl : k = n := by omega
      refine GivesL.mk (OwC.of_fill HR.out (Nat.le_refl _) (by unfold maxLen; omega) (fun j hj => ?_)) HB.out
      have h := hf.out (p.g j) (hp.glt hj)
      rw [p.fg] at h
      exact h
/- a permutation inverted: l04Inverse name · spec.l04Inverse function · 4 the counter's slot -/
set_option maxHeartbeats 1000000 in
theorem l04Inverse_any (n : Nat) (hn : n ≤ 12) (p : Pm) (hp : p.On n) (v : Value) (w : World) (hv : RdI w w.heap.size v (lst n p)) :
    Calls Try.prog 115 #[v] w (GivesL w (lst n p.inv)) := by
  obtain ⟨A, c, rfl⟩ := hv.len
  simp only [lst_len] at *
  have HV := Lib.hid hv
  clear hv
  have hmk := fun W => run_make_row' (P := Try.prog) 22 2 (.int .i64 0) 8 Try.underlying22 info_int rfl .i64 .i64 n (by omega) (by omega) W
  go_enter Try.func115, Try.ntmps115
  go_wp2
  clear hmk
  go_loopw [4] (fun i wr => ∃ (k : Nat) (f : Nat → Value), k ≤ n ∧ i = .int .i64 k ∧ wr.rowIs w.heap.size 2 n f ∧ Hid (∀ j, j < k → f (p.f j) = .int .i64 ((j : Nat) : Int)) ∧ Below w.heap.size w wr) (fun i _ => n - (intOf i).toNat)
  case atStart => exact ⟨0, _, Nat.zero_le _, rfl, World.rowIs_made _ _ _ _, fun j hj => absurd hj (by omega), (Below.refl _ _).alloc (Nat.le_refl _) _⟩
  case round =>
    rename_i wr
    obtain ⟨k, f, hk, rfl, hrow, hf, hb⟩ := hrel
    have HB := Lib.hid hb
    have HR := Lib.hid hrow
    by_cases hlt : k < n
    · have hx := hp.lt hlt
      have d0 := hrow.cell (i := p.f k) hx
      have g0 := fun i => hrow.frozen i
      obtain ⟨b1, o1, rfl, _, hc1⟩ := (HV.out.below hb).base (by omega)
      have e0 := hc1 k _ (lst_get hlt)
      have HN := Lib.hid (show ∀ j, j < k + 1 → (fun i => if i = p.f k then Value.int .i64 (k : Int) else f i) (p.f j) = .int .i64 ((j : Nat) : Int) from fun j hj => by
        show (if p.f j = p.f k then _ else _) = _
        by_cases h : j = k
        · rw [if_pos (by rw [h]), h]
        · rw [if_neg (fun e => h (p.f_inj e))]; exact hf.out j (by omega))
      clear hb hrow hc1 hf
      generalize hpx : p.f k = x at e0 hx d0
      rw [hpx] at HN
      clear hpx
      go_wp2
      exact ⟨⟨k + 1, _, by omega, by go_num, HR.out.set _ _, HN.out, HB.out.setCell (Nat.le_refl _) _⟩, by simp [intOf]; omega⟩
    · clear hb hrow
      go_wp2
      go_ret
      obtain rfl : k = n := by omega
      refine GivesL.mk (OwC.of_fill HR.out (Nat.le_refl _) (by unfold maxLen; omega) (fun j hj => ?_)) HB.out
      have h := hf.out (p.g j) (hp.glt hj)
      rw [p.fg] at h
      exact h

theorem lst_sw (n : Nat) (k : Nat) (hk : 1 ≤ k) : lst n (Pm.one.behind k hk) = (List.range n).map fun i => ((Pm.sw k i : Nat) : Int) := rfl
set_option maxHeartbeats 1000000 in
theorem letterPerm_any (n k : Nat) (hn : n ≤ 12) (hk : 1 ≤ k) (hkn : k < n) (w : World) : Calls Try.prog 90 #[.int .i64 (n : Int), .int .i64 (k : Int)] w (GivesL w (lst n (Pm.one.behind k hk))) := by
  go_enter Try.func90, Try.ntmps90
  go_wp2_with fail
  refine (identity_any n hn _).mono ?_
  rintro e w1 ⟨v1, rfl, ho, hb⟩
  rw [lst_len] at ho
  obtain ⟨g, cap, f, rfl, hlo, hhi, hrow, hnc, hcap, hf⟩ := ho.row (by omega)
  rw [Nat.mul_one] at hrow
  have hf' : ∀ j, j < n → f j = .int .i64 (j : Int) := fun j hj => by
    have := hf j (by omega)
    simp [vI, lst, hj] at this
    rw [← this]; rfl
  have HF := Lib.hid hf'
  have HR := Lib.hid hrow
  have HB := Lib.hid hb
  obtain ⟨j, rfl⟩ : ∃ j, k = j + 1 := ⟨k - 1, by omega⟩
  have d0 := hrow.cell (i := j) (by omega)
  have d1 := hrow.cell (i := j + 1) (by omega)
  have g0 := fun i => hrow.frozen i
  clear hf hf' hrow hb ho
  go_wp2
  go_ret
  have hr := (HR.out.set j (.int .i64 ((j + 1 : Nat) : Int))).set (j + 1) (.int .i64 (j : Int))
  refine GivesL.mk (n := n) (val := fun i => ((Pm.sw (j + 1) i : Nat) : Int)) (OwC.of_rowC (f := _) (by rw [Nat.mul_one]; exact hr) hlo (by simp; exact hhi) hnc hcap (by simp [vI]) (fun i hi => ?_)) ((HB.out.setCell hlo _).setCell hlo _)
  have hin : i < n := by omega
  simp only [vI, List.getElem?_map, List.getElem?_range hin, Option.map_some]
  congr 1
  by_cases h1 : i = j + 1
  · rw [if_pos h1, h1, Pm.sw_r]; simp
  · rw [if_neg h1]
    by_cases h2 : i = j
    · rw [if_pos h2, h2]
      have := Pm.sw_l (k := j + 1) (by omega)
      rw [Nat.add_sub_cancel] at this
      rw [this]
    · rw [if_neg h2, HF.out i hin, Pm.sw_o h1 (by omega)]

end Go.Proofs.Ytfeonaocmnpkcaa
