/-
  Texts joined: GarA, GarB, GarC, GarD, GarE, HRow, GarF.
-/
import Derived.Test.YtccdnmafakaleaaGreatDoorGarL
import Derived.RegionTactic
import Derived.ChangeAlike
import Derived.Test.YtccdnmafakaleaaGreatDoorAppend
import Derived.Test.YtccdnmafakaleaaGreatDoorWords
import Derived.Test.YtccdnmafakaleaaGreatDoorOwn
import Derived.Test.YtccdnmafakaleaaGreatDoorCont
import Derived.BigRegion
import Derived.Test.YtccdnmafakaleaaGreatDoorNst
import Derived.Deep.LoopGhost
/-
  Small functions on permutations, of the program and of the reference.
-/
namespace Go.Proofs.YtccdnmafakaleaaGreatDoor
set_option linter.unusedVariables false
set_option linter.unusedSimpArgs false
open Go.RowKit

set_option maxHeartbeats 1000000 in
theorem identity_any (n : Nat) (hn : n ≤ 12) (w : World) : Calls Tryz.prog 83 #[.int .i64 (n : Int)] w (GivesL w (lst n Pm.one)) := by
  have hmk := fun W => run_make_row' (P := Tryz.prog) 37 2 (.int .i64 0) 8 Tryz.underlying37 info_int rfl .i64 .i64 n (by omega) (by omega) W
  go_enter Tryz.func83, Tryz.ntmps83
  go_wp2
  clear hmk
  go_loopw [9] (fun i wr => ∃ (k : Nat) (f : Nat → Value), k ≤ n ∧ i = .int .i64 k ∧ wr.rowIs w.heap.size 2 n f ∧ Hid (∀ j, j < k → f j = .int .i64 ((j : Nat) : Int)) ∧ Below w.heap.size w wr) (fun i _ => n - (intOf i).toNat)
  case atStart => exact ⟨0, _, Nat.zero_le _, rfl, World.rowIs_made _ _ _ _, fun j hj => absurd hj (by omega), (Below.refl _ _).alloc (Nat.le_refl _) _⟩
  case round =>
    rename_i wr
    obtain ⟨k, f, hk, rfl, hrow, hf, hb⟩ := hrel
    have HB := Lib.hid hb
    have HR := Lib.hid hrow
    by_cases hlt : k < n
    · have d0 := hrow.cell (i := k) hlt
      have g0 := fun i => hrow.frozen i
      clear hb hrow
      go_wp2
      exact ⟨⟨k + 1, _, by omega, by go_num, HR.out.set _ _, fill_next hf.out rfl, HB.out.setCell (Nat.le_refl _) _⟩, by simp [intOf]; omega⟩
    · clear hb hrow
      go_wp2
      go_ret
      obtain rfl : k = n := by omega
      exact GivesL.mk (OwC.of_fill HR.out (Nat.le_refl _) (by unfold maxLen; omega) hf.out) HB.out

set_option maxHeartbeats 1000000 in
theorem compose_any (n : Nat) (hn : n ≤ 12) (a b : Pm) (ha : a.On n) (u v : Value) (w : World) (hu : RdI w w.heap.size u (lst n a)) (hv : RdI w w.heap.size v (lst n b)) :
    Calls Tryz.prog 68 #[u, v] w (GivesL w (lst n (a.comp b))) := by
  obtain ⟨A, c, rfl⟩ := hu.len
  obtain ⟨A', c', rfl⟩ := hv.len
  simp only [lst_len] at *
  have HU := Lib.hid hu
  have HV := Lib.hid hv
  clear hu hv
  have hmk := fun W => run_make_row' (P := Tryz.prog) 37 2 (.int .i64 0) 8 Tryz.underlying37 info_int rfl .i64 .i64 n (by omega) (by omega) W
  go_enter Tryz.func68, Tryz.ntmps68
  go_wp2
  clear hmk
  go_loopw [13] (fun i wr => ∃ (k : Nat) (f : Nat → Value), k ≤ n ∧ i = .int .i64 k ∧ wr.rowIs w.heap.size 2 n f ∧ Hid (∀ j, j < k → f j = .int .i64 (((a.comp b).f j : Nat) : Int)) ∧ Below w.heap.size w wr) (fun i _ => n - (intOf i).toNat)
  case atStart => exact ⟨0, _, Nat.zero_le _, rfl, World.rowIs_made _ _ _ _, fun j hj => absurd hj (by omega), (Below.refl _ _).alloc (Nat.le_refl _) _⟩
  case round =>
    rename_i wr
    obtain ⟨k, f, hk, rfl, hrow, hf, hb⟩ := hrel
    have HB := Lib.hid hb
    have HR := Lib.hid hrow
    by_cases hlt : k < n
    · have d0 := hrow.cell (i := k) hlt
      have g0 := fun i => hrow.frozen i
      obtain ⟨b1, o1, rfl, _, hc1⟩ := (HU.out.below hb).base (by omega)
      obtain ⟨b2, o2, rfl, _, hc2⟩ := (HV.out.below hb).base (by omega)
      have hx := ha.lt hlt
      have e0 := hc1 k _ (lst_get hlt)
      have e1 := hc2 (a.f k) _ (lst_get hx)
      have HN := Lib.hid (fill_next hf.out (show (Value.int .i64 ((b.f (a.f k) : Nat) : Int)) = .int .i64 (((a.comp b).f k : Nat) : Int) from rfl))
      clear hb hrow hc1 hc2 hf
      generalize a.f k = x at *
      generalize b.f x = y at *
      go_wp2
      exact ⟨⟨k + 1, _, by omega, by go_num, HR.out.set _ _, HN.out, HB.out.setCell (Nat.le_refl _) _⟩, by simp [intOf]; omega⟩
    · clear hb hrow
      go_wp2
      go_ret
      obtain rfl : k = n := by omega
      exact GivesL.mk (OwC.of_fill HR.out (Nat.le_refl _) (by unfold maxLen; omega) hf.out) HB.out

/- a permutation flipped: flip name · impl.flip function · 12 the counter's slot -/
set_option maxHeartbeats 1000000 in
theorem flip_any (n : Nat) (hn : n ≤ 12) (p : Pm) (hp : p.On n) (v : Value) (w : World) (hv : RdI w w.heap.size v (lst n p)) :
    Calls Tryz.prog 84 #[v] w (GivesL w (lst n (Pm.flip n p))) := by
  obtain ⟨A, c, rfl⟩ := hv.len
  simp only [lst_len] at *
  have HV := Lib.hid hv
  clear hv
  have hmk := fun W => run_make_row' (P := Tryz.prog) 37 2 (.int .i64 0) 8 Tryz.underlying37 info_int rfl .i64 .i64 n (by omega) (by omega) W
  go_enter Tryz.func84, Tryz.ntmps84
  go_wp2
  clear hmk
  go_loopw [12] (fun i wr => ∃ (k : Nat) (f : Nat → Value), k ≤ n ∧ i = .int .i64 k ∧ wr.rowIs w.heap.size 2 n f ∧ Hid (∀ j, j < k → f j = .int .i64 (((Pm.flip n p).f j : Nat) : Int)) ∧ Below w.heap.size w wr) (fun i _ => n - (intOf i).toNat)
  case atStart => exact ⟨0, _, Nat.zero_le _, rfl, World.rowIs_made _ _ _ _, fun j hj => absurd hj (by omega), (Below.refl _ _).alloc (Nat.le_refl _) _⟩
  case round =>
    rename_i wr
    obtain ⟨k, f, hk, rfl, hrow, hf, hb⟩ := hrel
    have HB := Lib.hid hb
    have HR := Lib.hid hrow
    by_cases hlt : k < n
    · have d0 := hrow.cell (i := k) hlt
      have g0 := fun i => hrow.frozen i
      obtain ⟨b1, o1, rfl, _, hc1⟩ := (HV.out.below hb).base (by omega)
      have e0 := hc1 (n - 1 - k) _ (lst_get (by omega))
      have hx := hp.lt (show n - 1 - k < n by omega)
      have hi0 : 0 ≤ (n : Int) - 1 - (k : Int) := by omega
      have hi1 : (n : Int) - 1 - (k : Int) < (n : Int) := by omega
      have HN := Lib.hid (fill_next (val := fun j => (((Pm.flip n p).f j : Nat) : Int)) hf.out (show (Value.int .i64 ((n : Int) - 1 - ((p.f (n - 1 - k) : Nat) : Int))) = .int .i64 (((Pm.flip n p).f k : Nat) : Int) by
        congr 1
        show _ = ((Pm.dl n (p.f (Pm.dl n k)) : Nat) : Int)
        rw [Pm.dl_lt hlt, Pm.dl_lt hx]; omega))
      clear hb hrow hc1 hf
      generalize p.f (n - 1 - k) = x at *
      have hx1 : (x : Int) < n := by omega
      go_wp2
      exact ⟨⟨k + 1, _, by omega, by go_num, HR.out.set _ _, HN.out, HB.out.setCell (Nat.le_refl _) _⟩, by simp [intOf]; omega⟩
    · clear hb hrow
      go_wp2
      go_ret
      obtain rfl : k = n := by omega
      exact GivesL.mk (OwC.of_fill HR.out (Nat.le_refl _) (by unfold maxLen; omega) hf.out) HB.out
/- a permutation flipped: l04Flip name · spec.l04Flip function · 5 the counter's slot -/
set_option maxHeartbeats 1000000 in
theorem l04Flip_any (n : Nat) (hn : n ≤ 12) (p : Pm) (hp : p.On n) (v : Value) (w : World) (hv : RdI w w.heap.size v (lst n p)) :
    Calls Tryz.prog 56 #[v] w (GivesL w (lst n (Pm.flip n p))) := by
  obtain ⟨A, c, rfl⟩ := hv.len
  simp only [lst_len] at *
  have HV := Lib.hid hv
  clear hv
  have hmk := fun W => run_make_row' (P := Tryz.prog) 37 2 (.int .i64 0) 8 Tryz.underlying37 info_int rfl .i64 .i64 n (by omega) (by omega) W
  go_enter Tryz.func56, Tryz.ntmps56
  go_wp2
  clear hmk
  go_loopw [5] (fun i wr => ∃ (k : Nat) (f : Nat → Value), k ≤ n ∧ i = .int .i64 k ∧ wr.rowIs w.heap.size 2 n f ∧ Hid (∀ j, j < k → f j = .int .i64 (((Pm.flip n p).f j : Nat) : Int)) ∧ Below w.heap.size w wr) (fun i _ => n - (intOf i).toNat)
  case atStart => exact ⟨0, _, Nat.zero_le _, rfl, World.rowIs_made _ _ _ _, fun j hj => absurd hj (by omega), (Below.refl _ _).alloc (Nat.le_refl _) _⟩
  case round =>
    rename_i wr
    obtain ⟨k, f, hk, rfl, hrow, hf, hb⟩ := hrel
    have HB := Lib.hid hb
    have HR := Lib.hid hrow
    by_cases hlt : k < n
    · have d0 := hrow.cell (i := k) hlt
      have g0 := fun i => hrow.frozen i
      obtain ⟨b1, o1, rfl, _, hc1⟩ := (HV.out.below hb).base (by omega)
      have e0 := hc1 (n - 1 - k) _ (lst_get (by omega))
      have hx := hp.lt (show n - 1 - k < n by omega)
      have hi0 : 0 ≤ (n : Int) - 1 - (k : Int) := by omega
      have hi1 : (n : Int) - 1 - (k : Int) < (n : Int) := by omega
      have HN := Lib.hid (fill_next (val := fun j => (((Pm.flip n p).f j : Nat) : Int)) hf.out (show (Value.int .i64 ((n : Int) - 1 - ((p.f (n - 1 - k) : Nat) : Int))) = .int .i64 (((Pm.flip n p).f k : Nat) : Int) by
        congr 1
        show _ = ((Pm.dl n (p.f (Pm.dl n k)) : Nat) : Int)
        rw [Pm.dl_lt hlt, Pm.dl_lt hx]; omega))
      clear hb hrow hc1 hf
      generalize p.f (n - 1 - k) = x at *
      have hx1 : (x : Int) < n := by omega
      go_wp2
      exact ⟨⟨k + 1, _, by omega, by go_num, HR.out.set _ _, HN.out, HB.out.setCell (Nat.le_refl _) _⟩, by simp [intOf]; omega⟩
    · clear hb hrow
      go_wp2
      go_ret
      obtain rfl : k = n := by omega
      exact GivesL.mk (OwC.of_fill HR.out (Nat.le_refl _) (by unfold maxLen; omega) hf.out) HB.out

/- a permutation inverted: invert name · impl.invert function · 11 the counter's slot -/
set_option maxHeartbeats 1000000 in
theorem invert_any (n : Nat) (hn : n ≤ 12) (p : Pm) (hp : p.On n) (v : Value) (w : World) (hv : RdI w w.heap.size v (lst n p)) :
    Calls Tryz.prog 99 #[v] w (GivesL w (lst n p.inv)) := by
  obtain ⟨A, c, rfl⟩ := hv.len
  simp only [lst_len] at *
  have HV := Lib.hid hv
  clear hv
  have hmk := fun W => run_make_row' (P := Tryz.prog) 37 2 (.int .i64 0) 8 Tryz.underlying37 info_int rfl .i64 .i64 n (by omega) (by omega) W
  go_enter Tryz.func99, Tryz.ntmps99
  go_wp2
  clear hmk
  go_loopw [11] (fun i wr => ∃ (k : Nat) (f : Nat → Value), k ≤ n ∧ i = .int .i64 k ∧ wr.rowIs w.heap.size 2 n f ∧ Hid (∀ j, j < k → f (p.f j) = .int .i64 ((j : Nat) : Int)) ∧ Below w.heap.size w wr) (fun i _ => n - (intOf i).toNat)
  case atStart => exact ⟨0, _, Nat.zero_le _, rfl, World.rowIs_made _ _ _ _, fun j hj => absurd hj (by omega), (Below.refl _ _).alloc (Nat.le_refl _) _⟩
  case round =>
    rename_i wr
    obtain ⟨k, f, hk, rfl, hrow, hf, hb⟩ := hrel
    have HB := Lib.hid hb
    have HR := Lib.hid hrow
    by_cases hlt : k < n
    · have hx := hp.lt hlt
      have d0 := hrow.cell (i := p.f k) hx
      have g0 := fun i => hrow.frozen i
      obtain ⟨b1, o1, rfl, _, hc1⟩ := (HV.out.below hb).base (by omega)
      have e0 := hc1 k _ (lst_get hlt)
      have HN := Lib.hid (show ∀ j, j < k + 1 → (fun i => if i = p.f k then Value.int .i64 (k : Int) else f i) (p.f j) = .int .i64 ((j : Nat) : Int) from fun j hj => by
        show (if p.f j = p.f k then _ else _) = _
        by_cases h : j = k
        · rw [if_pos (by rw [h]), h]
        · rw [if_neg (fun e => h (p.f_inj e))]; exact hf.out j (by omega))
      clear hb hrow hc1 hf
      generalize hpx : p.f k = x at e0 hx d0
      rw [hpx] at HN
      clear hpx
      go_wp2
      exact ⟨⟨k + 1, _, by omega, by go_num, HR.out.set _ _, HN.out, HB.out.setCell (Nat.le_refl _) _⟩, by simp [intOf]; omega⟩
    · clear hb hrow
      go_wp2
      go_ret
      obtain rfl : k = n := by omega
      refine GivesL.mk (OwC.of_fill HR.out (Nat.le_refl _) (by unfold maxLen; omega) (fun j hj => ?_)) HB.out
      have h := hf.out (p.g j) (hp.glt hj)
      rw [p.fg] at h
      exact h
/- a permutation inverted: l04Inverse name · spec.l04Inverse function · 4 the counter's slot -/
set_option maxHeartbeats 1000000 in
theorem l04Inverse_any (n : Nat) (hn : n ≤ 12) (p : Pm) (hp : p.On n) (v : Value) (w : World) (hv : RdI w w.heap.size v (lst n p)) :
    Calls Tryz.prog 94 #[v] w (GivesL w (lst n p.inv)) := by
  obtain ⟨A, c, rfl⟩ := hv.len
  simp only [lst_len] at *
  have HV := Lib.hid hv
  clear hv
  have hmk := fun W => run_make_row' (P := Tryz.prog) 37 2 (.int .i64 0) 8 Tryz.underlying37 info_int rfl .i64 .i64 n (by omega) (by omega) W
  go_enter Tryz.func94, Tryz.ntmps94
  go_wp2
  clear hmk
  go_loopw [4] (fun i wr => ∃ (k : Nat) (f : Nat → Value), k ≤ n ∧ i = .int .i64 k ∧ wr.rowIs w.heap.size 2 n f ∧ Hid (∀ j, j < k → f (p.f j) = .int .i64 ((j : Nat) : Int)) ∧ Below w.heap.size w wr) (fun i _ => n - (intOf i).toNat)
  case atStart => exact ⟨0, _, Nat.zero_le _, rfl, World.rowIs_made _ _ _ _, fun j hj => absurd hj (by omega), (Below.refl _ _).alloc (Nat.le_refl _) _⟩
  case round =>
    rename_i wr
    obtain ⟨k, f, hk, rfl, hrow, hf, hb⟩ := hrel
    have HB := Lib.hid hb
    have HR := Lib.hid hrow
    by_cases hlt : k < n
    · have hx := hp.lt hlt
      have d0 := hrow.cell (i := p.f k) hx
      have g0 := fun i => hrow.frozen i
      obtain ⟨b1, o1, rfl, _, hc1⟩ := (HV.out.below hb).base (by omega)
      have e0 := hc1 k _ (lst_get hlt)
      have HN := Lib.hid (show ∀ j, j < k + 1 → (fun i => if i = p.f k then Value.int .i64 (k : Int) else f i) (p.f j) = .int .i64 ((j : Nat) : Int) from fun j hj => by
        show (if p.f j = p.f k then _ else _) = _
        by_cases h : j = k
        · rw [if_pos (by rw [h]), h]
        · rw [if_neg (fun e => h (p.f_inj e))]; exact hf.out j (by omega))
      clear hb hrow hc1 hf
      generalize hpx : p.f k = x at e0 hx d0
      rw [hpx] at HN
      clear hpx
      go_wp2
      exact ⟨⟨k + 1, _, by omega, by go_num, HR.out.set _ _, HN.out, HB.out.setCell (Nat.le_refl _) _⟩, by simp [intOf]; omega⟩
    · clear hb hrow
      go_wp2
      go_ret
      obtain rfl : k = n := by omega
      refine GivesL.mk (OwC.of_fill HR.out (Nat.le_refl _) (by unfold maxLen; omega) (fun j hj => ?_)) HB.out
      have h := hf.out (p.g j) (hp.glt hj)
      rw [p.fg] at h
      exact h

theorem lst_sw (n : Nat) (k : Nat) (hk : 1 ≤ k) : lst n (Pm.one.behind k hk) = (List.range n).map fun i => ((Pm.sw k i : Nat) : Int) := rfl
set_option maxHeartbeats 1000000 in
theorem letterPerm_any (n k : Nat) (hn : n ≤ 12) (hk : 1 ≤ k) (hkn : k < n) (w : World) : Calls Tryz.prog 65 #[.int .i64 (n : Int), .int .i64 (k : Int)] w (GivesL w (lst n (Pm.one.behind k hk))) := by
  go_enter Tryz.func65, Tryz.ntmps65
  go_wp2_with fail
  refine (identity_any n hn _).mono ?_
  rintro e w1 ⟨v1, rfl, ho, hb⟩
  rw [lst_len] at ho
  obtain ⟨g, cap, f, rfl, hlo, hhi, hrow, hnc, hcap, hf⟩ := ho.row (by omega)
  rw [Nat.mul_one] at hrow
  have hf' : ∀ j, j < n → f j = .int .i64 (j : Int) := fun j hj => by
    have := hf j (by omega)
    simp [vI, lst, hj] at this
    rw [← this]; rfl
  have HF := Lib.hid hf'
  have HR := Lib.hid hrow
  have HB := Lib.hid hb
  obtain ⟨j, rfl⟩ : ∃ j, k = j + 1 := ⟨k - 1, by omega⟩
  have d0 := hrow.cell (i := j) (by omega)
  have d1 := hrow.cell (i := j + 1) (by omega)
  have g0 := fun i => hrow.frozen i
  clear hf hf' hrow hb ho
  go_wp2
  go_ret
  have hr := (HR.out.set j (.int .i64 ((j + 1 : Nat) : Int))).set (j + 1) (.int .i64 (j : Int))
  refine GivesL.mk (n := n) (val := fun i => ((Pm.sw (j + 1) i : Nat) : Int)) (OwC.of_rowC (f := _) (by rw [Nat.mul_one]; exact hr) hlo (by simp; exact hhi) hnc hcap (by simp [vI]) (fun i hi => ?_)) ((HB.out.setCell hlo _).setCell hlo _)
  have hin : i < n := by omega
  simp only [vI, List.getElem?_map, List.getElem?_range hin, Option.map_some]
  congr 1
  by_cases h1 : i = j + 1
  · rw [if_pos h1, h1, Pm.sw_r]; simp
  · rw [if_neg h1]
    by_cases h2 : i = j
    · rw [if_pos h2, h2]
      have := Pm.sw_l (k := j + 1) (by omega)
      rw [Nat.add_sub_cancel] at this
      rw [this]
    · rw [if_neg h2, HF.out i hin, Pm.sw_o h1 (by omega)]

end Go.Proofs.YtccdnmafakaleaaGreatDoor

/-
  Lists of letters of permutations, copies, and the permutations of the reference.
-/
namespace Go.Proofs.YtccdnmafakaleaaGreatDoor
set_option linter.unusedVariables false
set_option linter.unusedSimpArgs false
open Go.RowKit

/-- The places where a permutation goes down, below m. -/
def deU (p : Pm) : Nat → List Int
  | 0 => []
  | i + 1 => if p.f (i + 1) < p.f i then deU p i ++ [(i : Int)] else deU p i
def upL (l : List Int) : List Int := l.map fun x => x + 1
/-- The letters with which a permutation of n can begin. -/
def stL (n : Nat) (p : Pm) : List Int := upL (deU p (n - 1))
theorem deU_len (p : Pm) : ∀ m, (deU p m).length ≤ m
  | 0 => by simp [deU]
  | m + 1 => by
    have := deU_len p m
    unfold deU
    split
    · simp; omega
    · omega
theorem mem_deU {p : Pm} : ∀ {m : Nat} {x : Int}, x ∈ deU p m ↔ ∃ i : Nat, x = i ∧ i < m ∧ p.f (i + 1) < p.f i
  | 0, x => by simp [deU]
  | m + 1, x => by
    unfold deU
    split
    · rename_i h
      rw [List.mem_append, mem_deU]
      constructor
      · rintro (⟨i, e, h1, h2⟩ | h1)
        · exact ⟨i, e, by omega, h2⟩
        · simp at h1; exact ⟨m, h1, by omega, h⟩
      · rintro ⟨i, e, h1, h2⟩
        by_cases him : i = m
        · subst him; exact .inr (by simp [e])
        · exact .inl ⟨i, e, by omega, h2⟩
    · rename_i h
      rw [mem_deU]
      constructor
      · rintro ⟨i, e, h1, h2⟩; exact ⟨i, e, by omega, h2⟩
      · rintro ⟨i, e, h1, h2⟩
        by_cases him : i = m
        · subst him; exact absurd h2 h
        · exact ⟨i, e, by omega, h2⟩
theorem mem_stL {n : Nat} {p : Pm} {x : Int} : x ∈ stL n p ↔ ∃ k : Nat, x = k ∧ 1 ≤ k ∧ k < n ∧ p.start k := by
  unfold stL upL Pm.start
  rw [List.mem_map]
  constructor
  · rintro ⟨y, hy, rfl⟩
    obtain ⟨i, rfl, h1, h2⟩ := mem_deU.1 hy
    exact ⟨i + 1, by simp, by omega, by omega, by simpa using h2⟩
  · rintro ⟨k, rfl, h1, h2, h3⟩
    refine ⟨(k : Int) - 1, mem_deU.2 ⟨k - 1, by omega, by omega, ?_⟩, by omega⟩
    rw [show k - 1 + 1 = k by omega]
    exact h3
theorem stL_len (n : Nat) (p : Pm) : (stL n p).length ≤ n := by
  have := deU_len p (n - 1)
  simp only [stL, upL, List.length_map]
  omega
/-- The first letter that can move from q to p; 0 if there is none. -/
def exP (n : Nat) (p q : Pm) : Int := ((stL n q).find? fun x => !((stL n p.inv).contains x)).getD 0
theorem exP_cases (n : Nat) (p q : Pm) : (exP n p q = 0 ∧ ∀ k, 1 ≤ k → k < n → q.start k → p.fin k) ∨ ∃ k : Nat, exP n p q = k ∧ 1 ≤ k ∧ k < n ∧ q.start k ∧ ¬ p.fin k := by
  unfold exP
  cases h : (stL n q).find? fun x => !((stL n p.inv).contains x)
  · left
    refine ⟨rfl, fun k h1 h2 h3 => ?_⟩
    rw [List.find?_eq_none] at h
    have h4 := h (k : Int) (mem_stL.2 ⟨k, rfl, h1, h2, h3⟩)
    simp only [Bool.not_eq_true', Bool.not_eq_false] at h4
    have h5 : (k : Int) ∈ stL n p.inv := by simpa using h4
    obtain ⟨j, e, _, _, h6⟩ := mem_stL.1 h5
    have : j = k := by omega
    subst this
    exact h6
  · right
    rename_i x
    have h1 := List.mem_of_find?_eq_some h
    have h2 := List.find?_some h
    obtain ⟨k, rfl, h3, h4, h5⟩ := mem_stL.1 h1
    refine ⟨k, rfl, h3, h4, h5, fun hf => ?_⟩
    have h6 : (k : Int) ∈ stL n p.inv := mem_stL.2 ⟨k, rfl, h3, h4, hf⟩
    simp [h6] at h2

/- append([]int64{}, list...): l00Own name · spec.l00Own function -/
set_option maxHeartbeats 1000000 in
theorem l00Own_any (v : Value) (l : List Int) (w : World) (hl : RdI w w.heap.size v l) (hlen : l.length ≤ 1048576) :
    Calls Tryz.prog 36 #[v] w (GivesL w l) := by
  obtain ⟨A, c, rfl⟩ := hl.len
  obtain ⟨i0, hi, hz0, hz1, hz2⟩ := info_parts info_int
  have HR := Lib.hid (hl.reads).1
  generalize hn : l.length = n at *
  have HN := Lib.hid hn
  clear hl hn
  go_enter Tryz.func36, Tryz.ntmps36
  go_wp2_with (at_builtin; refine wpList_append_any _ rfl _ _ _ rfl w.heap.size 2 i0 _ 1 8 Tryz.underlying37 hi hz0 hz1 hz2 rfl (by decide) _ 0 [] rfl (World.ownsRow_lit _ _ _ (Nat.le_refl _) (by unfold maxLen; omega) rfl) w.heap.size _ n c (vI l) rfl (HR.out.alloc (Nat.le_refl _) _) (vI_one l) (by unfold maxLen; omega) (by omega) (by simp) ?_)
  intro v1 w1 hown hg hat
  have HB := Lib.hid (((Below.refl w.heap.size w).alloc (Nat.le_refl _) _).grown hg (by simp) (fun kk hkk => by simp [Value.ownBlock] at hkk; omega))
  have HO : Hid (w1.ownsRow w.heap.size 2 1 v1 n (vI l)) := by unfold Hid; simpa using hown
  clear hown hg hat
  go_wp2
  go_ret
  exact ⟨_, rfl, by rw [HN.out]; exact OwC.of_own HO.out, HB.out⟩

set_option maxHeartbeats 1000000 in
set_option maxRecDepth 100000 in
theorem cloneI_any (v : Value) (l : List Int) (w : World) (hl : RdI w w.heap.size v l) (hlen : l.length ≤ 1048576) :
    Calls Tryz.prog 86 #[v] w (GivesL w l) := by
  obtain ⟨A, c, rfl⟩ := hl.len
  obtain ⟨i0, hi, hz0, hz1, hz2⟩ := info_parts info_int
  rcases A with _ | ad
  · have h0 : l = [] := by
      rcases Nat.eq_zero_or_pos l.length with h | h
      · exact List.eq_nil_of_length_eq_zero h
      · obtain ⟨b, off, e, _⟩ := hl.base h
        cases e
    subst h0
    have hq := fun W => Lib.run_eql_slice_nil (P := Tryz.prog) W 37 2 none 0 c 0 0 Tryz.underlying37
    clear hl
    go_enter Tryz.func86, Tryz.ntmps86
    go_wp2
    go_ret
    exact ⟨_, rfl, ⟨by simp [vI], .inl ⟨rfl, none, 0, rfl⟩⟩, Below.refl _ _⟩
  · have HR := Lib.hid (hl.reads).1
    generalize hn : l.length = n at *
    have HN := Lib.hid hn
    have hq := fun W => Lib.run_eql_slice_nil (P := Tryz.prog) W 37 2 (some ad) n c 0 0 Tryz.underlying37
    clear hl hn
    go_enter Tryz.func86, Tryz.ntmps86
    go_wp2_with (at_builtin; refine wpList_append_any _ rfl _ _ _ rfl w.heap.size 2 i0 _ 1 8 Tryz.underlying37 hi hz0 hz1 hz2 rfl (by decide) _ 0 [] rfl (World.ownsRow_lit _ _ _ (Nat.le_refl _) (by unfold maxLen; omega) rfl) w.heap.size _ n c (vI l) rfl (HR.out.alloc (Nat.le_refl _) _) (vI_one l) (by unfold maxLen; omega) (by omega) (by simp) ?_)
    intro v1 w1 hown hg hat
    have HB := Lib.hid (((Below.refl w.heap.size w).alloc (Nat.le_refl _) _).grown hg (by simp) (fun kk hkk => by simp [Value.ownBlock] at hkk; omega))
    have HO : Hid (w1.ownsRow w.heap.size 2 1 v1 n (vI l)) := by unfold Hid; simpa using hown
    clear hown hg hat
    go_wp2
    go_ret
    exact ⟨_, rfl, by rw [HN.out]; exact OwC.of_own HO.out, HB.out⟩

theorem one_snoc (k : Nat) : lst (k + 1) Pm.one = lst k Pm.one ++ [(k : Int)] := by
  unfold lst
  rw [List.range_succ, List.map_append]
  rfl
set_option maxHeartbeats 2000000 in
theorem l04Identity_any (n : Nat) (hn : n ≤ 12) (w : World) : Calls Tryz.prog 47 #[.int .i64 (n : Int)] w (GivesL w (lst n Pm.one)) := by
  obtain ⟨i0, hi, hz0, hz1, hz2⟩ := info_parts info_int
  go_enter Tryz.func47, Tryz.ntmps47
  go_wp2
  go_loopw [3, 4] (fun t i wr => ∃ (k : Nat), k ≤ n ∧ i = .int .i64 k ∧ wr.ownsRow w.heap.size 2 1 t k (vI (lst k Pm.one)) ∧ Below w.heap.size w wr) (fun _ i _ => n - (intOf i).toNat)
  case atStart => exact ⟨0, Nat.zero_le _, rfl, World.ownsRow_lit _ _ _ (Nat.le_refl _) (by unfold maxLen; omega) rfl, (Below.refl _ _).alloc (Nat.le_refl _) _⟩
  case round =>
    rename_i wr
    obtain ⟨k, hk, rfl, hown, hb⟩ := hrel
    have HB := Lib.hid hb
    have HO := Lib.hid hown
    by_cases hlt : k < n
    · clear hb hown
      go_wp2_with (at_builtin; refine wpList_append_own _ rfl _ _ 37 rfl w.heap.size 2 i0 _ 1 8 Tryz.underlying37 hi hz0 hz1 hz2 rfl (by decide) _ _ _ rfl (HO.out.alloc _) ⟨wr.heap.size, 0, none⟩ 1 1 [.int .i64 (k : Int)] rfl rfl ?c1 ?c2 ?c3 ?c4 ?c5 ?_)
      case c1 => exact new_cells' _ _ (by simp)
      case c2 => intro u hu; simp at hu; subst hu; rfl
      case c3 => unfold maxLen; omega
      case c4 => omega
      case c5 => have := HB.out.size; simp; omega
      intro v' w2 hown2 hgrow2 _
      have HB1 := Lib.hid (below_append' (HB.out.alloc HB.out.size _) (by have := HB.out.size; simp; omega) HO.out (by simp) hgrow2)
      have HO1 : Hid (w2.ownsRow w.heap.size 2 1 v' (k + 1) (vI (lst (k + 1) Pm.one))) := by unfold Hid; rw [one_snoc, vI_append]; exact hown2
      clear hgrow2 hown2 HB HO
      go_wp2
      exact ⟨⟨k + 1, by omega, by go_num, HO1.out, HB1.out⟩, by simp [intOf]; omega⟩
    · clear hb hown
      go_wp2
      go_ret
      obtain rfl : k = n := by omega
      exact ⟨_, rfl, by rw [lst_len]; exact OwC.of_own HO.out, HB.out⟩

/-- The half twist from the front, k of n places. -/
def halfU (n k : Nat) : List Int := (List.range k).map fun i : Nat => (n : Int) - 1 - (i : Int)
theorem halfU_snoc (n k : Nat) : halfU n (k + 1) = halfU n k ++ [(n : Int) - 1 - k] := by
  unfold halfU
  rw [List.range_succ, List.map_append]
  rfl
theorem halfU_len (n k : Nat) : (halfU n k).length = k := by simp [halfU]
theorem halfU_all (n : Nat) : halfU n n = lst n (Pm.half n) := by
  unfold halfU lst
  refine List.map_congr_left fun i hi => ?_
  have hi' : i < n := by simpa using hi
  show _ = ((Pm.dl n i : Nat) : Int)
  rw [Pm.dl_lt hi']
  omega
set_option maxHeartbeats 2000000 in
theorem l04Half_any (n : Nat) (hn : n ≤ 12) (w : World) : Calls Tryz.prog 49 #[.int .i64 (n : Int)] w (GivesL w (lst n (Pm.half n))) := by
  obtain ⟨i0, hi, hz0, hz1, hz2⟩ := info_parts info_int
  go_enter Tryz.func49, Tryz.ntmps49
  go_wp2
  go_loopw [3, 4] (fun t i wr => ∃ (k : Nat), k ≤ n ∧ i = .int .i64 ((n : Int) - 1 - k) ∧ wr.ownsRow w.heap.size 2 1 t k (vI (halfU n k)) ∧ Below w.heap.size w wr) (fun _ i _ => (intOf i + 1).toNat)
  case atStart => exact ⟨0, Nat.zero_le _, by simp, World.ownsRow_lit _ _ _ (Nat.le_refl _) (by unfold maxLen; omega) rfl, (Below.refl _ _).alloc (Nat.le_refl _) _⟩
  case round =>
    rename_i wr
    obtain ⟨k, hk, rfl, hown, hb⟩ := hrel
    have HB := Lib.hid hb
    have HO := Lib.hid hown
    obtain ⟨y, hy⟩ : ∃ y : Int, y = (n : Int) - 1 - k := ⟨_, rfl⟩
    rw [← hy]
    have HY := Lib.hid hy
    have hy0 : -1 ≤ y := by omega
    have hy1 : y ≤ 11 := by omega
    by_cases hlt : k < n
    · have hy2 : 0 ≤ y := by omega
      clear hb hown hy
      go_wp2_with (at_builtin; refine wpList_append_own _ rfl _ _ 37 rfl w.heap.size 2 i0 _ 1 8 Tryz.underlying37 hi hz0 hz1 hz2 rfl (by decide) _ _ _ rfl (HO.out.alloc _) ⟨wr.heap.size, 0, none⟩ 1 1 [.int .i64 y] rfl rfl ?c1 ?c2 ?c3 ?c4 ?c5 ?_)
      case c1 => exact new_cells' _ _ (by simp)
      case c2 => intro u hu; simp at hu; subst hu; rfl
      case c3 => unfold maxLen; omega
      case c4 => omega
      case c5 => have := HB.out.size; simp; omega
      intro v' w2 hown2 hgrow2 _
      have HB1 := Lib.hid (below_append' (HB.out.alloc HB.out.size _) (by have := HB.out.size; simp; omega) HO.out (by simp) hgrow2)
      have HO1 : Hid (w2.ownsRow w.heap.size 2 1 v' (k + 1) (vI (halfU n (k + 1)))) := by unfold Hid; rw [halfU_snoc, vI_append, ← HY.out]; exact hown2
      clear hgrow2 hown2 HB HO
      go_wp2
      exact ⟨⟨k + 1, by omega, by have := HY.out; rw [show (n : Int) - 1 - ((k + 1 : Nat) : Int) = y - 1 by omega], HO1.out, HB1.out⟩, by simp [intOf]; omega⟩
    · have hy2 : ¬ 0 ≤ y := by omega
      clear hb hown hy
      go_wp2
      go_ret
      obtain rfl : k = n := by omega
      exact ⟨_, rfl, by rw [lst_len, ← halfU_all]; exact OwC.of_own HO.out, HB.out⟩

end Go.Proofs.YtccdnmafakaleaaGreatDoor

/-
  Letters of permutations; the first letter that can move; half twists.
-/
namespace Go.Proofs.YtccdnmafakaleaaGreatDoor
set_option linter.unusedVariables false
set_option linter.unusedSimpArgs false
open Go.RowKit

set_option maxHeartbeats 2000000 in
set_option maxRecDepth 100000 in
theorem reverseI_any (n cap g : Nat) (val : Nat → Int) (f : Nat → Value) (w : World) (hn : n ≤ 12) (hnc : n ≤ cap) (hr : w.rowIs g 2 cap f) (hv : ∀ j, j < n → f j = .int .i64 (val j)) :
    Calls Tryz.prog 85 #[.slice (some ⟨g, 0, none⟩) n cap] w fun e w' => e = .returned (.tuple #[]) ∧ (∃ f', w'.rowIs g 2 cap f' ∧ ∀ j, j < n → f' j = .int .i64 (val (n - 1 - j))) ∧ Only g (g + 1) w w' := by
  have HR0 := Lib.hid hr
  have HV0 := Lib.hid hv
  clear hr hv
  go_enter Tryz.func85, Tryz.ntmps85
  go_wp2
  go_loopw [2, 3] (fun a b wr => ∃ (k : Nat) (F : Nat → Value), 2 * k ≤ n + 1 ∧ a = .int .i64 k ∧ b = .int .i64 ((n : Int) - 1 - k) ∧ wr.rowIs g 2 cap F ∧ Hid (∀ j, j < n → F j = .int .i64 (if j < k ∨ n - 1 - j < k then val (n - 1 - j) else val j)) ∧ Only g (g + 1) w wr) (fun a b _ => (intOf b + 1 - intOf a).toNat)
  case atStart => exact ⟨0, f, by omega, rfl, by simp, HR0.out, fun j hj => by rw [if_neg (by omega)]; exact HV0.out j hj, Only.refl _ _ _⟩
  case round =>
    rename_i wr
    obtain ⟨k, F, hk, rfl, rfl, hrow, hF, hon⟩ := hrel
    have HR := Lib.hid hrow
    have HON := Lib.hid hon
    by_cases hlt : (k : Int) < (n : Int) - 1 - k
    · have d0 := hrow.cell (i := k) (by omega)
      have d1 := hrow.cell (i := n - 1 - k) (by omega)
      have g0 := fun i => hrow.frozen i
      rw [hF.out k (by omega), if_neg (by omega)] at d0
      rw [hF.out (n - 1 - k) (by omega), if_neg (by omega)] at d1
      have hb0 : 0 ≤ (n : Int) - 1 - k := by omega
      have hb1 : (n : Int) - 1 - k < n := by omega
      have hk1 : (k : Int) < n := by omega
      clear hrow hon
      go_wp2
      have hne : (⟨g, k, none⟩ : Addr) ≠ ⟨g, n - 1 - k, none⟩ := by intro e; injection e with _ e _; omega
      have hne' : ¬ k = n - 1 - k := by omega
      have hne2 : ¬ n - 1 - k = k := by omega
      go_region
      all_goals
        go_wp2
        have HR2 := ((HR.out.set k (.int .i64 (val (n - 1 - k)))).set (n - 1 - k) (.int .i64 (val k))).drew
        refine ⟨⟨k + 1, _, by omega, by go_num, by rw [show (n : Int) - 1 - ((k + 1 : Nat) : Int) = (n : Int) - 1 - k - 1 by omega], HR2, fun j hj => ?_, ((HON.out.setCell (p := ⟨g, k, none⟩) (Nat.le_refl _) (by simp) _).setCell (p := ⟨g, n - 1 - k, none⟩) (Nat.le_refl _) (by simp) _).drew⟩, by simp [intOf]; omega⟩
        show (if j = n - 1 - k then _ else if j = k then _ else F j) = _
        by_cases h1 : j = n - 1 - k
        · rw [if_pos h1, if_pos (by omega), h1, show n - 1 - (n - 1 - k) = k by omega]
        · rw [if_neg h1]
          by_cases h2 : j = k
          · rw [if_pos h2, if_pos (by omega), h2]
          · rw [if_neg h2, hF.out j hj]
            by_cases h3 : j < k ∨ n - 1 - j < k
            · rw [if_pos h3, if_pos (by omega)]
            · rw [if_neg h3, if_neg (by omega)]
    · clear hrow hon
      go_wp2
      go_end0
      refine ⟨rfl, ⟨F, HR.out, fun j hj => ?_⟩, HON.out⟩
      rw [hF.out j hj]
      by_cases h3 : j < k ∨ n - 1 - j < k
      · rw [if_pos h3]
      · rw [if_neg h3, show n - 1 - j = j by omega]

set_option maxHeartbeats 1000000 in
theorem halfTwist_any (n : Nat) (hn0 : 0 < n) (hn : n ≤ 12) (w : World) : Calls Tryz.prog 69 #[.int .i64 (n : Int)] w (GivesL w (lst n (Pm.half n))) := by
  go_enter Tryz.func69, Tryz.ntmps69
  go_wp2_with fail
  refine (identity_any n hn _).mono ?_
  rintro e w1 ⟨v1, rfl, ho, hb⟩
  rw [lst_len] at ho
  obtain ⟨g, cap, f, rfl, hlo, hhi, hrow, hnc, hcap, hf⟩ := ho.row hn0
  rw [Nat.mul_one] at hrow
  have hf' : ∀ j, j < n → f j = .int .i64 (((fun j : Nat => (j : Int)) j : Int)) := fun j hj => by
    have := hf j (by omega)
    simp [vI, lst, hj] at this
    rw [← this]; rfl
  have HB := Lib.hid hb
  have HQ := Lib.hid (reverseI_any n cap g _ f w1 hn hnc hrow hf')
  clear hf hf' hrow hb ho
  go_wp2_with fail
  refine HQ.out.mono ?_
  rintro e w2 ⟨rfl, ⟨f', hr', hf'⟩, hon⟩
  have HR := Lib.hid hr'
  have HF := Lib.hid hf'
  have HB2 := Lib.hid (HB.out.trans (hon.below hlo HB.out.size))
  have hz := hon.size
  clear hr' hf' hon
  go_wp2
  go_ret
  refine GivesL.mk (n := n) (val := fun i => ((Pm.dl n i : Nat) : Int)) (OwC.of_rowC (f := f') (by rw [Nat.mul_one]; exact HR.out) hlo (by omega) hnc hcap (by simp [vI]) (fun i hi => ?_)) HB2.out
  have hin : i < n := by omega
  rw [HF.out i hin]
  simp only [vI, List.getElem?_map, List.getElem?_range hin, Option.map_some]
  rw [Pm.dl_lt hin]

theorem deU_next (p : Pm) (k : Nat) : deU p (k + 1) = if p.f (k + 1) < p.f k then deU p k ++ [(k : Int)] else deU p k := rfl
set_option maxHeartbeats 4000000 in
set_option maxRecDepth 100000 in
theorem descents_any (n : Nat) (hn0 : 0 < n) (hn : n ≤ 12) (p : Pm) (v : Value) (w : World) (hv : RdI w w.heap.size v (lst n p)) :
    Calls Tryz.prog 101 #[v] w (GivesL w (deU p (n - 1))) := by
  obtain ⟨A, c, rfl⟩ := hv.len
  simp only [lst_len] at *
  obtain ⟨b, off, rfl, hbb, hcell⟩ := hv.base hn0
  have HC := Lib.hid (fun k (hk : k < n) => hcell k _ (lst_get hk))
  obtain ⟨i0, hi, hz0, hz1, hz2⟩ := info_parts info_int
  clear hv hcell
  go_enter Tryz.func101, Tryz.ntmps101
  go_wp2
  go_loopw [3, 4] (fun t i wr => ∃ (k : Nat), k + 1 ≤ n ∧ i = .int .i64 k ∧ wr.ownsRow w.heap.size 2 1 t (deU p k).length (vI (deU p k)) ∧ Below w.heap.size w wr) (fun _ i _ => n - (intOf i).toNat)
  case atStart => exact ⟨0, by omega, rfl, World.ownsRow_lit _ _ _ (Nat.le_refl _) (by unfold maxLen; omega) rfl, (Below.refl _ _).alloc (Nat.le_refl _) _⟩
  case round =>
    rename_i wr
    obtain ⟨k, hk, rfl, hown, hb⟩ := hrel
    have HB := Lib.hid hb
    have HO := Lib.hid hown
    have hlen := deU_len p k
    by_cases hlt : k + 1 < n
    · have e0 : wr.cell? ⟨b, off + k, none⟩ = some (.int .i64 ((p.f k : Nat) : Int)) := (hb.cell (p := ⟨b, off + k, none⟩) hbb).trans (HC.out k (by omega))
      have e1 : wr.cell? ⟨b, off + (k + 1), none⟩ = some (.int .i64 ((p.f (k + 1) : Nat) : Int)) := (hb.cell (p := ⟨b, off + (k + 1), none⟩) hbb).trans (HC.out (k + 1) (by omega))
      have HN := Lib.hid (deU_next p k)
      have hlt1 : (k : Int) + 1 < n := by omega
      clear hb hown
      generalize p.f (k + 1) = y at *
      generalize p.f k = x at *
      by_cases hyx : y < x
      · have hyx1 : (y : Int) < x := by omega
        rw [if_pos hyx] at HN
        go_wp2
        go_quiet (fail)
        go_wp2_with (at_builtin; refine wpList_append_own _ rfl _ _ 37 rfl w.heap.size 2 i0 _ 1 8 Tryz.underlying37 hi hz0 hz1 hz2 rfl (by decide) _ _ _ rfl (HO.out.alloc _) ⟨wr.heap.size, 0, none⟩ 1 1 [.int .i64 (k : Int)] rfl rfl ?c1 ?c2 ?c3 ?c4 ?c5 ?_)
        case c1 => exact new_cells' _ _ (by simp [World.drewN])
        case c2 => intro u hu; simp at hu; subst hu; rfl
        case c3 => unfold maxLen; omega
        case c4 => omega
        case c5 => have := HB.out.size; simp; omega
        intro v' w2 hown2 hgrow2 _
        have HB1 := Lib.hid (below_append' ((below_drewN HB.out nq).alloc (by have := HB.out.size; simpa using this) _) (by have := HB.out.size; simp; omega) HO.out (by simp) hgrow2)
        have HO1 : Hid (w2.ownsRow w.heap.size 2 1 v' (deU p (k + 1)).length (vI (deU p (k + 1)))) := by unfold Hid; rw [HN.out, vI_append, List.length_append]; exact hown2
        clear hgrow2 hown2 HB HO
        go_wp2
        exact ⟨⟨k + 1, by omega, by go_num, HO1.out, HB1.out⟩, by simp [intOf]; omega⟩
      · have hyx1 : ¬ (y : Int) < x := by omega
        rw [if_neg hyx] at HN
        go_wp2
        go_quiet (fail)
        go_wp2
        exact ⟨⟨k + 1, by omega, by go_num, by rw [HN.out]; exact HO.out, below_drewN HB.out nq⟩, by simp [intOf]; omega⟩
    · have hlt1 : ¬ (k : Int) + 1 < n := by omega
      clear hb hown
      go_wp2
      go_ret
      obtain rfl : k = n - 1 := by omega
      exact ⟨_, rfl, OwC.of_own HO.out, HB.out⟩

end Go.Proofs.YtccdnmafakaleaaGreatDoor

/-
  Start letters, finish letters, the first letter that can move.
-/
namespace Go.Proofs.YtccdnmafakaleaaGreatDoor
set_option linter.unusedVariables false
set_option linter.unusedSimpArgs false
open Go.RowKit

theorem OwC.vI_get {w : World} {lo hi E n : Nat} {v : Value} {l : List Int} (h : OwC w lo hi E 1 v l.length (vI l)) {k : Nat} {x : Int} (hx : l[k]? = some x) : (vI l)[k]? = some (.int .i64 x) := by simp [vI, hx]
theorem upL_len (l : List Int) : (upL l).length = l.length := by simp [upL]
theorem deU_bd {p : Pm} {m k : Nat} {x : Int} (h : (deU p m)[k]? = some x) : 0 ≤ x ∧ x < m := by
  obtain ⟨i, rfl, h1, _⟩ := mem_deU.1 (List.mem_of_getElem? h)
  omega

set_option maxHeartbeats 2000000 in
set_option maxRecDepth 100000 in
theorem startLetters_any (n : Nat) (hn0 : 0 < n) (hn : n ≤ 12) (p : Pm) (v : Value) (w : World) (hv : RdI w w.heap.size v (lst n p)) :
    Calls Tryz.prog 98 #[v] w (GivesL w (stL n p)) := by
  have HQ := Lib.hid (descents_any n hn0 hn p v w hv)
  obtain ⟨A, c, rfl⟩ := hv.len
  simp only [lst_len] at *
  clear hv
  unfold stL
  have hdl := deU_len p (n - 1)
  have hbd : ∀ (k : Nat) (x : Int), (deU p (n - 1))[k]? = some x → 0 ≤ x ∧ x ≤ 11 := fun k x hx => by have := deU_bd hx; omega
  generalize deU p (n - 1) = l at *
  have HBD := Lib.hid hbd
  clear hbd
  go_enter Tryz.func98, Tryz.ntmps98
  go_wp2_with fail
  refine HQ.out.mono ?_
  rintro e w1 ⟨v1, rfl, ho, hb⟩
  generalize hd : l.length = d at *
  have HD := Lib.hid hd
  clear hd
  rcases Nat.eq_zero_or_pos d with h0 | hpos
  · subst h0
    obtain ⟨A1, c1, rfl, -⟩ := ho.cells
    have hl : l = [] := List.eq_nil_of_length_eq_zero HD.out
    subst hl
    have HB := Lib.hid hb
    clear hb ho
    go_wp2
    go_loopw [9] (fun i wr => i = .int .i64 0 ∧ w1 = wr) (fun i _ => 0 - (intOf i).toNat)
    case atStart => exact ⟨rfl, rfl⟩
    case round =>
      rename_i wr
      obtain ⟨rfl, rfl⟩ := hrel
      go_wp2
      go_ret
      exact ⟨_, rfl, ⟨by simp [vI, upL], .inl ⟨rfl, A1, c1, rfl⟩⟩, HB.out⟩
  · obtain ⟨g, cap, f, rfl, hlo, hhi, hrow, hnc, hcap, hf⟩ := ho.row hpos
    rw [Nat.mul_one] at hrow
    have hf' : ∀ j x, l[j]? = some x → f j = .int .i64 x := fun j x hx => by
      have hj : j < d := by rw [← HD.out]; exact (List.getElem?_eq_some_iff.1 hx).1
      have := hf j (by omega)
      simp [vI, hx] at this
      exact this.symm
    have HB := Lib.hid hb
    have HF := Lib.hid hf'
    have HR0 := Lib.hid hrow
    have hcap1 := hcap
    clear hf hf' hrow hb ho
    go_wp2
    go_loopw [9] (fun i wr => ∃ (k : Nat) (F : Nat → Value), k ≤ d ∧ i = .int .i64 k ∧ wr.rowIs g 2 cap F ∧ Hid (∀ j x, l[j]? = some x → F j = .int .i64 (if j < k then x + 1 else x)) ∧ Below w.heap.size w wr) (fun i _ => d - (intOf i).toNat)
    case atStart => exact ⟨0, f, Nat.zero_le _, rfl, HR0.out, fun j x hx => by rw [if_neg (by omega)]; exact HF.out j x hx, HB.out⟩
    case round =>
      rename_i wr
      obtain ⟨k, F, hk, rfl, hrow, hF, hb⟩ := hrel
      have HB1 := Lib.hid hb
      have HR := Lib.hid hrow
      by_cases hlt : k < d
      · obtain ⟨x, hx⟩ : ∃ x, l[k]? = some x := ⟨_, List.getElem?_eq_getElem (by rw [HD.out]; exact hlt)⟩
        obtain ⟨hx0, hx1⟩ := HBD.out k x hx
        have HX := Lib.hid hx
        have d0 := hrow.cell (i := k) (by omega)
        rw [hF.out k x hx, if_neg (by omega)] at d0
        have g0 := fun i => hrow.frozen i
        clear hrow hb hx
        go_wp2
        refine ⟨⟨k + 1, _, by omega, by go_num, HR.out.set _ _, fun j y hy => ?_, HB1.out.setCell hlo _⟩, by simp [intOf]; omega⟩
        show (if j = k then _ else F j) = _
        by_cases h1 : j = k
        · subst h1
          have hxy : x = y := by have := HX.out.symm.trans hy; injection this
          rw [if_pos rfl, if_pos (by omega), hxy]
        · rw [if_neg h1, hF.out j y hy]
          by_cases h2 : j < k
          · rw [if_pos h2, if_pos (by omega)]
          · rw [if_neg h2, if_neg (by omega)]
      · clear hrow hb
        go_wp2
        go_ret
        obtain rfl : k = d := by omega
        have hsz : g < wr.heap.size := by obtain ⟨cur, h1, _⟩ := HR.out; exact (Array.getElem?_eq_some_iff.1 h1).1
        refine ⟨_, rfl, ?_, HB1.out⟩
        rw [upL_len, HD.out]
        refine OwC.of_rowC (f := F) (by rw [Nat.mul_one]; exact HR.out) hlo hsz hnc hcap1 (by simp [vI, upL, HD.out]) (fun j hj => ?_)
        obtain ⟨x, hx⟩ : ∃ x, l[j]? = some x := ⟨_, List.getElem?_eq_getElem (by rw [HD.out]; omega)⟩
        rw [hF.out j x hx, if_pos (by omega)]
        simp [vI, upL, hx]

theorem upL_next (p : Pm) (k : Nat) : upL (deU p (k + 1)) = if p.f (k + 1) < p.f k then upL (deU p k) ++ [(k : Int) + 1] else upL (deU p k) := by
  show upL (if p.f (k + 1) < p.f k then deU p k ++ [(k : Int)] else deU p k) = _
  split
  · simp [upL]
  · rfl
set_option maxHeartbeats 4000000 in
set_option maxRecDepth 100000 in
theorem l04Start_any (n : Nat) (hn0 : 0 < n) (hn : n ≤ 12) (p : Pm) (v : Value) (w : World) (hv : RdI w w.heap.size v (lst n p)) :
    Calls Tryz.prog 77 #[v] w (GivesL w (stL n p)) := by
  unfold stL
  obtain ⟨A, c, rfl⟩ := hv.len
  simp only [lst_len] at *
  obtain ⟨b, off, rfl, hbb, hcell⟩ := hv.base hn0
  have HC := Lib.hid (fun k (hk : k < n) => hcell k _ (lst_get hk))
  obtain ⟨i0, hi, hz0, hz1, hz2⟩ := info_parts info_int
  clear hv hcell
  go_enter Tryz.func77, Tryz.ntmps77
  go_wp2
  go_loopw [3, 4] (fun t i wr => ∃ (k : Nat), k + 1 ≤ n ∧ i = .int .i64 ((k : Int) + 1) ∧ wr.ownsRow w.heap.size 2 1 t (upL (deU p k)).length (vI (upL (deU p k))) ∧ Below w.heap.size w wr) (fun _ i _ => n - (intOf i).toNat)
  case atStart => exact ⟨0, by omega, rfl, World.ownsRow_lit _ _ _ (Nat.le_refl _) (by unfold maxLen; omega) rfl, (Below.refl _ _).alloc (Nat.le_refl _) _⟩
  case round =>
    rename_i wr
    obtain ⟨k, hk, rfl, hown, hb⟩ := hrel
    have HB := Lib.hid hb
    have HO := Lib.hid hown
    have hlen : (upL (deU p k)).length ≤ k := by rw [upL_len]; exact deU_len p k
    by_cases hlt : k + 1 < n
    · have e0 : wr.cell? ⟨b, off + k, none⟩ = some (.int .i64 ((p.f k : Nat) : Int)) := (hb.cell (p := ⟨b, off + k, none⟩) hbb).trans (HC.out k (by omega))
      have e1 : wr.cell? ⟨b, off + (k + 1), none⟩ = some (.int .i64 ((p.f (k + 1) : Nat) : Int)) := (hb.cell (p := ⟨b, off + (k + 1), none⟩) hbb).trans (HC.out (k + 1) (by omega))
      have HN := Lib.hid (upL_next p k)
      have hlt1 : (k : Int) + 1 < n := by omega
      clear hb hown
      generalize p.f (k + 1) = y at *
      generalize p.f k = x at *
      by_cases hyx : y < x
      · have hyx1 : (y : Int) < x := by omega
        rw [if_pos hyx] at HN
        go_wp2
        go_quiet (fail)
        go_wp2_with (at_builtin; refine wpList_append_own _ rfl _ _ 37 rfl w.heap.size 2 i0 _ 1 8 Tryz.underlying37 hi hz0 hz1 hz2 rfl (by decide) _ _ _ rfl (HO.out.alloc _) ⟨wr.heap.size, 0, none⟩ 1 1 [.int .i64 ((k : Int) + 1)] rfl rfl ?c1 ?c2 ?c3 ?c4 ?c5 ?_)
        case c1 => exact new_cells' _ _ (by simp [World.drewN])
        case c2 => intro u hu; simp at hu; subst hu; rfl
        case c3 => unfold maxLen; omega
        case c4 => omega
        case c5 => have := HB.out.size; simp; omega
        intro v' w2 hown2 hgrow2 _
        have HB1 := Lib.hid (below_append' ((below_drewN HB.out nq).alloc (by have := HB.out.size; simpa using this) _) (by have := HB.out.size; simp; omega) HO.out (by simp) hgrow2)
        have HO1 : Hid (w2.ownsRow w.heap.size 2 1 v' (upL (deU p (k + 1))).length (vI (upL (deU p (k + 1))))) := by unfold Hid; rw [HN.out, vI_append, List.length_append]; exact hown2
        clear hgrow2 hown2 HB HO
        go_wp2
        exact ⟨⟨k + 1, by omega, by go_num, HO1.out, HB1.out⟩, by simp [intOf]; omega⟩
      · have hyx1 : ¬ (y : Int) < x := by omega
        rw [if_neg hyx] at HN
        go_wp2
        go_quiet (fail)
        go_wp2
        exact ⟨⟨k + 1, by omega, by go_num, by rw [HN.out]; exact HO.out, below_drewN HB.out nq⟩, by simp [intOf]; omega⟩
    · have hlt1 : ¬ (k : Int) + 1 < n := by omega
      clear hb hown
      go_wp2
      go_ret
      obtain rfl : k = n - 1 := by omega
      exact ⟨_, rfl, OwC.of_own HO.out, HB.out⟩

set_option maxHeartbeats 1000000 in
theorem l04Finish_any (n : Nat) (hn0 : 0 < n) (hn : n ≤ 12) (p : Pm) (hp : p.On n) (v : Value) (w : World) (hv : RdI w w.heap.size v (lst n p)) :
    Calls Tryz.prog 76 #[v] w (GivesL w (stL n p.inv)) := by
  have HQ := Lib.hid (l04Inverse_any n hn p hp v w hv)
  obtain ⟨A, c, rfl⟩ := hv.len
  clear hv
  go_enter Tryz.func76, Tryz.ntmps76
  go_wp2_with fail
  refine HQ.out.mono ?_
  rintro e w1 ⟨v1, rfl, ho, hb⟩
  have HQ2 := Lib.hid (l04Start_any n hn0 hn p.inv v1 w1 (RdI.of_own ho))
  obtain ⟨A1, c1, rfl, -⟩ := ho.cells
  have HB := Lib.hid hb
  clear hb ho
  go_wp2_with fail
  refine HQ2.out.mono ?_
  rintro e w2 ⟨v2, rfl, ho, hb⟩
  have HO := Lib.hid (ho.wide HB.out.size (Nat.le_refl _))
  obtain ⟨A2, c2, rfl, -⟩ := ho.cells
  have HB2 := Lib.hid (HB.out.trans (hb.mono HB.out.size))
  clear hb ho
  go_wp2
  go_ret
  exact ⟨_, rfl, HO.out, HB2.out⟩

theorem find_next {l : List Int} {q : Int → Bool} {R : Int} {k : Nat} {x : Int} (h : R = ((l.drop k).find? q).getD 0) (hx : l[k]? = some x) (hq : q x = false) : R = ((l.drop (k + 1)).find? q).getD 0 := by
  rw [h, drop_of_get hx, List.find?_cons, hq]
theorem find_here {l : List Int} {q : Int → Bool} {R : Int} {k : Nat} {x : Int} (h : R = ((l.drop k).find? q).getD 0) (hx : l[k]? = some x) (hq : q x = true) : R = x := by
  rw [h, drop_of_get hx, List.find?_cons, hq]
  rfl

/- the first letter with which q can begin and p cannot end, of the reference: l04Extra name · spec.l04Extra function · 7 the counter's slot · l04Finish_any finish letters · l04Start_any start letters · l00Has_any the question · §7, §8 (idle) -/
set_option maxHeartbeats 4000000 in
set_option maxRecDepth 100000 in
theorem l04Extra_any (n : Nat) (hn0 : 0 < n) (hn : n ≤ 12) (p q : Pm) (hp : p.On n) (u v : Value) (w : World) (hu : RdI w w.heap.size u (lst n p)) (hv : RdI w w.heap.size v (lst n q)) :
    Calls Tryz.prog 57 #[u, v] w fun e w' => e = .returned (.int .i64 (exP n p q)) ∧ Below w.heap.size w w' := by
  have HQ := Lib.hid (l04Finish_any n hn0 hn p hp u w hu)
  have HV := Lib.hid hv
  obtain ⟨A, c, rfl⟩ := hu.len
  obtain ⟨A', c', rfl⟩ := hv.len
  simp only [lst_len] at *
  clear hu hv
  unfold exP
  generalize hR : Option.getD _ (0 : Int) = R
  have HR := Lib.hid hR
  clear hR
  go_enter Tryz.func57, Tryz.ntmps57
  go_wp2_with fail
  refine HQ.out.mono ?_
  rintro e w1 ⟨v1, rfl, ho, hb⟩
  have HO1 := Lib.hid (RdI.of_own ho)
  have HB1 := Lib.hid hb
  have HQ2 := Lib.hid (l04Start_any n hn0 hn q _ w1 ((HV.out.below hb).more hb.size))
  obtain ⟨A1, c1, rfl, -⟩ := ho.cells
  clear hb ho
  go_wp2_with fail
  refine HQ2.out.mono ?_
  rintro e w2 ⟨v2, rfl, ho, hb⟩
  have HO2 := Lib.hid (RdI.of_own ho)
  have HP2 := Lib.hid ((HO1.out.below hb).more hb.size)
  have HB2 := Lib.hid (HB1.out.trans (hb.mono HB1.out.size))
  obtain ⟨A2, c2, rfl, -⟩ := ho.cells
  clear hb ho
  generalize stL n q = l at *
  generalize stL n p.inv = fl at *
  have hbig := HO2.out.len_le
  generalize hd : l.length = d at *
  have HD := Lib.hid hd
  clear hd
  go_wp2
  go_loopw [7] (fun i wr => ∃ (k : Nat), k ≤ d ∧ i = .int .i64 k ∧ Hid (R = ((l.drop k).find? fun x => !(fl.contains x)).getD 0) ∧ Below w2.heap.size w2 wr) (fun i _ => d - (intOf i).toNat)
  case atStart => exact ⟨0, Nat.zero_le _, rfl, HR.out.symm, Below.refl _ _⟩
  case round =>
    rename_i wr
    obtain ⟨k, hk, rfl, hd, hb⟩ := hrel
    by_cases hlt : k < d
    · obtain ⟨b, off, x, rfl, hbb, hlk, hc⟩ := (HO2.out.below hb).at_ hlt
      have HB := Lib.hid hb
      have HC := Lib.hid hc
      have HQ3 := Lib.hid (l00Has_any _ fl x wr ((HP2.out.below hb).more hb.size))
      cases hx : fl.contains x
      · have HN := Lib.hid (find_here hd.out hlk (by rw [hx]; rfl))
        rw [hx] at HQ3
        clear hb hlk hx
        go_wp2_with fail
        refine HQ3.out.mono ?_
        rintro e w3 ⟨rfl, hb3⟩
        have hc3 : w3.cell? ⟨b, off + k, none⟩ = some (.int .i64 x) := (hb3.cell (p := ⟨b, off + k, none⟩) (by have := HB.out.size; show b < wr.heap.size; omega)).trans HC.out
        have HB3 := Lib.hid (HB2.out.trans ((HB.out.trans (hb3.mono HB.out.size)).mono HB2.out.size))
        clear hb3
        go_wp2
        go_ret
        exact ⟨ret_int HN.out.symm, HB3.out⟩
      · have HN := Lib.hid (find_next hd.out hlk (by rw [hx]; rfl))
        rw [hx] at HQ3
        clear hb hlk hx
        go_wp2_with fail
        refine HQ3.out.mono ?_
        rintro e w3 ⟨rfl, hb3⟩
        have HB3 := Lib.hid (HB.out.trans (hb3.mono HB.out.size))
        clear hb3
        go_wp2
        exact ⟨⟨k + 1, by omega, by go_num, HN.out, HB3.out⟩, by simp [intOf]; omega⟩
    · have HB := Lib.hid (HB2.out.trans (hb.mono HB2.out.size))
      have HN := Lib.hid (show R = 0 by rw [hd.out, List.drop_of_length_le (by have := HD.out; omega)]; rfl)
      clear hb hd
      go_wp2
      go_ret
      exact ⟨ret_int HN.out.symm, HB.out⟩
/- the same of the program: missing name · impl.missing function -/
set_option maxHeartbeats 4000000 in
set_option maxRecDepth 100000 in
theorem missing_any (n : Nat) (hn0 : 0 < n) (hn : n ≤ 12) (p q : Pm) (hp : p.On n) (u v : Value) (w : World) (hu : RdI w w.heap.size u (lst n p)) (hv : RdI w w.heap.size v (lst n q)) :
    Calls Tryz.prog 95 #[u, v] w fun e w' => e = .returned (.int .i64 (exP n p q)) ∧ Below w.heap.size w w' := by
  have HQ := Lib.hid (invert_any n hn p hp u w hu)
  have HV := Lib.hid hv
  obtain ⟨A, c, rfl⟩ := hu.len
  obtain ⟨A', c', rfl⟩ := hv.len
  simp only [lst_len] at *
  clear hu hv
  unfold exP
  generalize hR : Option.getD _ (0 : Int) = R
  have HR := Lib.hid hR
  clear hR
  go_enter Tryz.func95, Tryz.ntmps95
  go_wp2_with fail
  refine HQ.out.mono ?_
  rintro e w0 ⟨v0, rfl, ho, hb⟩
  have HQ1 := Lib.hid (startLetters_any n hn0 hn p.inv v0 w0 (RdI.of_own ho))
  have HB0 := Lib.hid hb
  obtain ⟨A0, c0, rfl, -⟩ := ho.cells
  clear hb ho
  go_wp2_with fail
  refine HQ1.out.mono ?_
  rintro e w1 ⟨v1, rfl, ho, hb⟩
  have HO1 := Lib.hid (RdI.of_own ho)
  have HB1 := Lib.hid (HB0.out.trans (hb.mono HB0.out.size))
  have HQ2 := Lib.hid (startLetters_any n hn0 hn q _ w1 ((HV.out.below HB1.out).more HB1.out.size))
  obtain ⟨A1, c1, rfl, -⟩ := ho.cells
  clear hb ho
  go_wp2_with fail
  refine HQ2.out.mono ?_
  rintro e w2 ⟨v2, rfl, ho, hb⟩
  have HO2 := Lib.hid (RdI.of_own ho)
  have HP2 := Lib.hid ((HO1.out.below hb).more hb.size)
  have HB2 := Lib.hid (HB1.out.trans (hb.mono HB1.out.size))
  obtain ⟨A2, c2, rfl, -⟩ := ho.cells
  clear hb ho
  generalize stL n q = l at *
  generalize stL n p.inv = fl at *
  have hbig := HO2.out.len_le
  generalize hd : l.length = d at *
  have HD := Lib.hid hd
  clear hd
  go_wp2
  go_loopw [14] (fun i wr => ∃ (k : Nat), k ≤ d ∧ i = .int .i64 k ∧ Hid (R = ((l.drop k).find? fun x => !(fl.contains x)).getD 0) ∧ Below w2.heap.size w2 wr) (fun i _ => d - (intOf i).toNat)
  case atStart => exact ⟨0, Nat.zero_le _, rfl, HR.out.symm, Below.refl _ _⟩
  case round =>
    rename_i wr
    obtain ⟨k, hk, rfl, hd, hb⟩ := hrel
    by_cases hlt : k < d
    · obtain ⟨b, off, x, rfl, hbb, hlk, hc⟩ := (HO2.out.below hb).at_ hlt
      have HB := Lib.hid hb
      have HQ3 := Lib.hid (containsI_any _ fl x wr ((HP2.out.below hb).more hb.size))
      cases hx : fl.contains x
      · have HN := Lib.hid (find_here hd.out hlk (by rw [hx]; rfl))
        rw [hx] at HQ3
        clear hb hlk hx
        go_wp2_with fail
        refine HQ3.out.mono ?_
        rintro e w3 ⟨rfl, hb3⟩
        have HB3 := Lib.hid (HB2.out.trans ((HB.out.trans (hb3.mono HB.out.size)).mono HB2.out.size))
        clear hb3
        go_wp2
        go_ret
        exact ⟨ret_int HN.out.symm, HB3.out⟩
      · have HN := Lib.hid (find_next hd.out hlk (by rw [hx]; rfl))
        rw [hx] at HQ3
        clear hb hlk hx
        go_wp2_with fail
        refine HQ3.out.mono ?_
        rintro e w3 ⟨rfl, hb3⟩
        have HB3 := Lib.hid (HB.out.trans (hb3.mono HB.out.size))
        clear hb3
        go_wp2
        exact ⟨⟨k + 1, by omega, by go_num, HN.out, HB3.out⟩, by simp [intOf]; omega⟩
    · have HB := Lib.hid (HB2.out.trans (hb.mono HB2.out.size))
      have HN := Lib.hid (show R = 0 by rw [hd.out, List.drop_of_length_le (by have := HD.out; omega)]; rfl)
      clear hb hd
      go_wp2
      go_ret
      exact ⟨ret_int HN.out.symm, HB.out⟩

end Go.Proofs.YtccdnmafakaleaaGreatDoor

/-
  A letter in front of a permutation, and behind it, of the reference.
-/
namespace Go.Proofs.YtccdnmafakaleaaGreatDoor
set_option linter.unusedVariables false
set_option linter.unusedSimpArgs false
open Go.RowKit

theorem own_lst {w : World} {lo hi n : Nat} {v : Value} {p : Pm} (ho : OwC w lo hi 2 1 v (lst n p).length (vI (lst n p))) (hn : 0 < n) :
    ∃ g cap f, v = .slice (some ⟨g, 0, none⟩) n cap ∧ lo ≤ g ∧ g < hi ∧ w.rowIs g 2 cap f ∧ n ≤ cap ∧ cap ≤ maxLen ∧ ∀ j, j < n → f j = .int .i64 ((p.f j : Nat) : Int) := by
  rw [lst_len] at ho
  obtain ⟨g, cap, f, rfl, hlo, hhi, hrow, hnc, hcap, hf⟩ := ho.row hn
  rw [Nat.mul_one] at hrow
  refine ⟨g, cap, f, rfl, hlo, hhi, hrow, hnc, hcap, fun j hj => ?_⟩
  have := hf j (by omega)
  simp [vI, lst, hj] at this
  exact this.symm
theorem OwC.of_lst {w : World} {lo g cap n : Nat} {f : Nat → Value} {p : Pm} (hr : w.rowIs g 2 cap f) (h1 : lo ≤ g) (hn : n ≤ cap) (hc : cap ≤ maxLen) (hf : ∀ j, j < n → f j = .int .i64 ((p.f j : Nat) : Int)) :
    OwC w lo w.heap.size 2 1 (.slice (some ⟨g, 0, none⟩) n cap) (lst n p).length (vI (lst n p)) := by
  rw [lst_len]
  refine OwC.of_rowC (f := f) (by rw [Nat.mul_one]; exact hr) h1 ?_ hn hc (by simp [vI, lst]) (fun j hj => ?_)
  · obtain ⟨cur, g1, _⟩ := hr
    exact (Array.getElem?_eq_some_iff.1 g1).1
  · rw [hf j (by omega)]
    simp [vI, lst, show j < n by omega]

set_option maxHeartbeats 2000000 in
set_option maxRecDepth 100000 in
theorem l04Before_any (n k : Nat) (hn : n ≤ 12) (hk : 1 ≤ k) (hkn : k < n) (p : Pm) (v : Value) (w : World) (hv : RdI w w.heap.size v (lst n p)) :
    Calls Tryz.prog 58 #[.int .i64 (k : Int), v] w (GivesL w (lst n (p.before k hk))) := by
  have HQ := Lib.hid (l00Own_any v _ w hv (by rw [lst_len]; omega))
  obtain ⟨A, c, rfl⟩ := hv.len
  simp only [lst_len] at *
  obtain ⟨b, off, rfl, hbb, hcell⟩ := hv.base (by omega)
  obtain ⟨j, rfl⟩ : ∃ j, k = j + 1 := ⟨k - 1, by omega⟩
  have c0 := hcell j _ (lst_get (by omega))
  have c1 := hcell (j + 1) _ (lst_get hkn)
  clear hv hcell
  go_enter Tryz.func58, Tryz.ntmps58
  go_wp2_with fail
  refine HQ.out.mono ?_
  rintro e w1 ⟨v1, rfl, ho, hb⟩
  obtain ⟨g, cap, f, rfl, hlo, hhi, hrow, hnc, hcap, hf⟩ := own_lst ho (by omega)
  have e0 := (hb.cell (p := ⟨b, off + j, none⟩) hbb).trans c0
  have e1 := (hb.cell (p := ⟨b, off + (j + 1), none⟩) hbb).trans c1
  have hne : b ≠ g := by omega
  have d0 := hrow.cell (i := j) (by omega)
  have d1 := hrow.cell (i := j + 1) (by omega)
  have g0 := fun i => hrow.frozen i
  have HR := Lib.hid hrow
  have HF := Lib.hid hf
  have HB := Lib.hid hb
  have HP0 := Lib.hid (show (p.before (j + 1) hk).f j = p.f (j + 1) by show p.f (Pm.sw (j + 1) j) = _; have := Pm.sw_l (k := j + 1) (by omega); rw [Nat.add_sub_cancel] at this; rw [this])
  have HP1 := Lib.hid (show (p.before (j + 1) hk).f (j + 1) = p.f j by show p.f (Pm.sw (j + 1) (j + 1)) = _; rw [Pm.sw_r]; simp)
  have HPO := Lib.hid (show ∀ i, i ≠ j → i ≠ j + 1 → (p.before (j + 1) hk).f i = p.f i from fun i h1 h2 => by show p.f (Pm.sw (j + 1) i) = _; rw [Pm.sw_o h2 (by omega)])
  clear hrow hf hb ho c0 c1
  generalize hx : p.f j = x at e0 HP1
  generalize hy : p.f (j + 1) = y at e1 HP0
  clear hx hy
  go_wp2
  go_ret
  refine ⟨_, rfl, OwC.of_lst ((HR.out.set j (.int .i64 (y : Int))).set (j + 1) (.int .i64 (x : Int))) hlo hnc hcap (fun i hi => ?_), (HB.out.setCell hlo _).setCell hlo _⟩
  show (if i = j + 1 then _ else if i = j then _ else f i) = _
  by_cases h1 : i = j + 1
  · rw [if_pos h1, h1, HP1.out]
  · rw [if_neg h1]
    by_cases h2 : i = j
    · rw [if_pos h2, h2, HP0.out]
    · rw [if_neg h2, HF.out i hi, HPO.out i h2 h1]

set_option maxHeartbeats 4000000 in
set_option maxRecDepth 100000 in
theorem l04Behind_any (n k : Nat) (hn : n ≤ 12) (hk : 1 ≤ k) (hkn : k < n) (p : Pm) (v : Value) (w : World) (hv : RdI w w.heap.size v (lst n p)) :
    Calls Tryz.prog 46 #[v, .int .i64 (k : Int)] w (GivesL w (lst n (p.behind k hk))) := by
  have HQ := Lib.hid (l00Own_any v _ w hv (by rw [lst_len]; omega))
  obtain ⟨A, c, rfl⟩ := hv.len
  simp only [lst_len] at *
  obtain ⟨b, off, rfl, hbb, hcell⟩ := hv.base (by omega)
  have HC := Lib.hid (fun i (hi : i < n) => hcell i _ (lst_get hi))
  obtain ⟨j, rfl⟩ : ∃ j, k = j + 1 := ⟨k - 1, by omega⟩
  clear hv hcell
  go_enter Tryz.func46, Tryz.ntmps46
  go_wp2_with fail
  refine HQ.out.mono ?_
  rintro e w1 ⟨v1, rfl, ho, hb⟩
  obtain ⟨g, cap, f, rfl, hlo, hhi, hrow, hnc, hcap, hf⟩ := own_lst ho (by omega)
  have HR := Lib.hid hrow
  have HF := Lib.hid hf
  have HB := Lib.hid hb
  have hne : b ≠ g := by omega
  have hcapm := hcap
  clear hrow hf hb ho
  go_wp2
  go_loopw [6] (fun i wr => ∃ (m : Nat) (F : Nat → Value), m ≤ n ∧ i = .int .i64 m ∧ wr.rowIs g 2 cap F ∧ Hid (∀ i, i < n → F i = .int .i64 (((if i < m then Pm.sw (j + 1) (p.f i) else p.f i) : Nat) : Int)) ∧ Below w.heap.size w wr) (fun i _ => n - (intOf i).toNat)
  case atStart => exact ⟨0, f, Nat.zero_le _, rfl, HR.out, fun i hi => by rw [if_neg (by omega)]; exact HF.out i hi, HB.out⟩
  case round =>
    rename_i wr
    obtain ⟨m, F, hm, rfl, hrow, hF, hb⟩ := hrel
    have HB1 := Lib.hid hb
    have HR1 := Lib.hid hrow
    by_cases hlt : m < n
    · have e0 := (hb.cell (p := ⟨b, off + m, none⟩) hbb).trans (HC.out m hlt)
      have d0 := hrow.cell (i := m) (by omega)
      rw [hF.out m hlt, if_neg (by omega)] at d0
      have g0 := fun i => hrow.frozen i
      have HN : Hid (∀ F' : Nat → Value, F' m = .int .i64 ((Pm.sw (j + 1) (p.f m) : Nat) : Int) → (∀ i, i ≠ m → F' i = F i) → ∀ i, i < n → F' i = .int .i64 (((if i < m + 1 then Pm.sw (j + 1) (p.f i) else p.f i) : Nat) : Int)) := by
        intro F' h1 h2 i hi
        by_cases h3 : i = m
        · subst h3; rw [if_pos (by omega)]; exact h1
        · rw [h2 i h3, hF.out i hi]
          by_cases h4 : i < m
          · rw [if_pos h4, if_pos (by omega)]
          · rw [if_neg h4, if_neg (by omega)]
      have HFm := Lib.hid (hF.out m hlt)
      rw [if_neg (by omega)] at HFm
      generalize hx : p.f m = x at *
      clear hx hb hrow hF
      by_cases h1 : x = j
      · have b1 : ((x : Int) == ((j + 1 : Nat) : Int) - 1) = true := by simp [h1]
        have b2 : ((x : Int) == ((j + 1 : Nat) : Int)) = false := by simp; omega
        have HV := Lib.hid (show (Pm.sw (j + 1) x : Nat) = j + 1 by rw [h1]; have := Pm.sw_l (k := j + 1) (by omega); rw [Nat.add_sub_cancel] at this; exact this)
        subst h1
        have b3 : ((x : Int) == (x : Int) + 1) = false := by simp; omega
        go_wp2
        refine ⟨⟨m + 1, _, by omega, by go_num, HR1.out.set m _, HN.out _ (by show (if m = m then _ else _) = _; rw [if_pos rfl, HV.out]; rfl) (fun i hi => by show (if i = m then _ else _) = _; rw [if_neg hi]), HB1.out.setCell hlo _⟩, by simp [intOf]; omega⟩
      · by_cases h2 : x = j + 1
        · have HV := Lib.hid (show (Pm.sw (j + 1) x : Nat) = j by rw [h2, Pm.sw_r]; simp)
          subst h2
          have b1 : (((j : Int) + 1) == (j : Int)) = false := by simp; omega
          go_wp2
          refine ⟨⟨m + 1, _, by omega, by go_num, HR1.out.set m _, HN.out _ (by show (if m = m then _ else _) = _; rw [if_pos rfl, HV.out]; try simp) (fun i hi => by show (if i = m then _ else _) = _; rw [if_neg hi]), HB1.out.setCell hlo _⟩, by simp [intOf]; omega⟩
        · have b1 : ((x : Int) == (j : Int)) = false := by simp; omega
          have b2 : ((x : Int) == (j : Int) + 1) = false := by simp; omega
          have HV := Lib.hid (show (Pm.sw (j + 1) x : Nat) = x by rw [Pm.sw_o h2 (by omega)])
          clear h1 h2
          go_wp2
          refine ⟨⟨m + 1, F, by omega, by go_num, HR1.out, HN.out F (by rw [HV.out]; exact HFm.out) (fun i hi => rfl), HB1.out⟩, by simp [intOf]; omega⟩
    · clear hb hrow
      go_wp2
      go_ret
      obtain rfl : m = n := by omega
      refine ⟨_, rfl, OwC.of_lst HR1.out hlo hnc hcapm (fun i hi => ?_), HB1.out⟩
      rw [hF.out i hi, if_pos hi]
      rfl

end Go.Proofs.YtccdnmafakaleaaGreatDoor

/-
  Rows of headers of the call's own; what the headers lead to lies in other blocks.
-/
namespace Go.Proofs.YtccdnmafakaleaaGreatDoor
set_option linter.unusedVariables false
set_option linter.unusedSimpArgs false
open Go.RowKit

/-- A slice value that reads as the integers l, in blocks of which P holds. -/
def RdA (w : World) (P : Nat → Prop) (v : Value) (l : List Int) : Prop :=
  ∃ A n c, v = .slice A n c ∧ n ≤ 9223372036854775807 ∧ Hid (l.length = n) ∧
    ∀ k, k < n → ∃ b off x, A = some ⟨b, off, none⟩ ∧ P b ∧ l[k]? = some x ∧ w.cell? ⟨b, off + k, none⟩ = some (.int .i64 x)
theorem RdA.keep {w w' : World} {P Q : Nat → Prop} {v : Value} {l : List Int} (h : RdA w P v l) (hP : ∀ b, P b → Q b) (hk : ∀ b o, P b → w'.cell? ⟨b, o, none⟩ = w.cell? ⟨b, o, none⟩) : RdA w' Q v l := by
  obtain ⟨A, n, c, rfl, hn, hl, h⟩ := h
  refine ⟨A, n, c, rfl, hn, hl, fun k hk' => ?_⟩
  obtain ⟨b, off, x, h1, h2, h3, h4⟩ := h k hk'
  exact ⟨b, off, x, h1, hP b h2, h3, (hk b _ h2).trans h4⟩
theorem RdA.rd {w : World} {P : Nat → Prop} {B : Nat} {v : Value} {l : List Int} (h : RdA w P v l) (hP : ∀ b, P b → b < B) : RdI w B v l := by
  obtain ⟨A, n, c, rfl, hn, hl, h⟩ := h
  refine ⟨A, n, c, rfl, hn, hl, fun k hk' => ?_⟩
  obtain ⟨b, off, x, h1, h2, h3, h4⟩ := h k hk'
  exact ⟨b, off, x, h1, hP b h2, h3, h4⟩
theorem RdI.rdA {w : World} {P : Nat → Prop} {B : Nat} {v : Value} {l : List Int} (h : RdI w B v l) (hP : ∀ b, b < B → P b) : RdA w P v l := by
  obtain ⟨A, n, c, rfl, hn, hl, h⟩ := h
  refine ⟨A, n, c, rfl, hn, hl, fun k hk' => ?_⟩
  obtain ⟨b, off, x, h1, h2, h3, h4⟩ := h k hk'
  exact ⟨b, off, x, h1, hP b h2, h3, h4⟩
theorem OwC.rdA {w : World} {lo hi E : Nat} {v : Value} {l : List Int} (h : OwC w lo hi E 1 v l.length (vI l)) : RdA w (fun b => lo ≤ b ∧ b < hi) v l := by
  obtain ⟨A, c, rfl, hm, hc⟩ := h.cells
  refine ⟨A, _, c, rfl, hm, rfl, fun k hk => ?_⟩
  obtain ⟨g, rfl, h0, h1, _, hx⟩ := hc k hk
  obtain ⟨x, hlx⟩ : ∃ x, l[k]? = some x := ⟨_, List.getElem?_eq_getElem hk⟩
  exact ⟨g, 0, x, rfl, ⟨h0, h1⟩, hlx, by rw [Nat.zero_add]; exact hx k _ (by omega) (by simp [vI, hlx])⟩
theorem RdA.len {w : World} {P : Nat → Prop} {v : Value} {l : List Int} (h : RdA w P v l) : ∃ A c, v = .slice A l.length c := by
  obtain ⟨A, n, c, rfl, _, hl, _⟩ := h
  exact ⟨A, c, by rw [hl.out]⟩

/-- What a header leads to lies in old blocks other than g. -/
abbrev HOk (w : World) (g : Option Nat) (s : Value) (x : List Int) : Prop := RdA w (fun b => b < w.heap.size ∧ g ≠ some b) s x
def r2 (w : World) (B : Nat) (us : List Value) (x : List Int) : Prop := ∃ s, us = [s] ∧ RdI w B s x
abbrev RdL2 := RdN r2 1
theorem RdL2.below {w w' : World} {B : Nat} {v : Value} {l : List (List Int)} (h : RdL2 w B v l) (hb : Below B w w') : RdL2 w' B v l :=
  RdN.below (fun us x hx => by obtain ⟨s, h1, h2⟩ := hx; exact ⟨s, h1, h2.below hb⟩) h hb
theorem RdL2.more {w : World} {B B' : Nat} {v : Value} {l : List (List Int)} (h : RdL2 w B v l) (hB : B ≤ B') : RdL2 w B' v l :=
  RdN.more (fun us x hx => by obtain ⟨s, h1, h2⟩ := hx; exact ⟨s, h1, h2.more hB⟩) h hB
theorem RdL2.at_ {w : World} {B : Nat} {A : Option Addr} {n c : Nat} {l : List (List Int)} (h : RdL2 w B (.slice A n c) l) {k : Nat} (hk : k < n) :
    ∃ b off x s, A = some ⟨b, off, none⟩ ∧ b < B ∧ l[k]? = some x ∧ w.cell? ⟨b, off + k, none⟩ = some s ∧ RdI w B s x := by
  obtain ⟨A', n', c', e, hn, hl, h⟩ := h
  injection e with e1 e2 e3
  subst e1 e2 e3
  obtain ⟨b, off, x, us, h1, h2, h3, h4, h5, s, rfl, h6⟩ := h k hk
  exact ⟨b, off, x, s, h1, h2, h3, by simpa using h5 0 s rfl, h6⟩
/-- The headers of what is read. -/
theorem RdL2.heads {w : World} {B n c : Nat} {A : Option Addr} {l : List (List Int)} (h : RdL2 w B (.slice A n c) l) :
    ∃ hs : List Value, hs.length = n ∧ l.length = n ∧ Reads w B 1 A n hs ∧ (∀ u ∈ hs, u.oneCell' = true) ∧ ∀ (k : Nat) (s : Value) (x : List Int), hs[k]? = some s → l[k]? = some x → RdI w B s x := by
  have hl : l.length = n := by obtain ⟨A', n', c', e, _, hl, _⟩ := h; injection e with _ e _; rw [e]; exact hl.out
  rcases Nat.eq_zero_or_pos n with h0 | hp
  · subst h0
    exact ⟨[], rfl, hl, ⟨by simp, fun h => absurd h (by omega)⟩, by simp, fun k s x hs => by simp at hs⟩
  · obtain ⟨b, off, _, _, rfl, hb, _, _, _⟩ := h.at_ hp
    have hall : ∀ k, k < n → ∃ s, w.cell? ⟨b, off + k, none⟩ = some s ∧ ∃ x, l[k]? = some x ∧ RdI w B s x := by
      intro k hk
      obtain ⟨b', off', x, s, e, _, h1, h2, h3⟩ := h.at_ hk
      injection e with e
      injection e with e1 e2
      subst e1 e2
      exact ⟨s, h2, x, h1, h3⟩
    refine ⟨(List.range n).map fun k => (w.cell? ⟨b, off + k, none⟩).getD undef, by simp, hl, ⟨by simp, fun _ => ⟨⟨b, off, none⟩, rfl, hb, fun j u hu => ?_⟩⟩, fun u hu => ?_, fun k s x hs hx => ?_⟩
    · have hj : j < n := by have := (List.getElem?_eq_some_iff.1 hu).1; simpa using this
      obtain ⟨s, h1, _⟩ := hall j hj
      have e4 : (⟨b, off, none⟩ : Addr).add j = ⟨b, off + j, none⟩ := by unfold Addr.add; split <;> simp_all
      rw [e4, h1]
      simp [hj, h1] at hu
      rw [hu]
    · simp at hu
      obtain ⟨k, hk, rfl⟩ := hu
      obtain ⟨s, h1, x, _, h2⟩ := hall k hk
      rw [h1]
      obtain ⟨A, n', c', rfl, _⟩ := h2
      rfl
    · have hk : k < n := by have := (List.getElem?_eq_some_iff.1 hs).1; simpa using this
      obtain ⟨s', h1, x', h2, h3⟩ := hall k hk
      simp [hk, h1] at hs
      rw [h2] at hx
      injection hx with hx
      rw [← hs, ← hx]
      exact h3

structure HRow (w : World) (lo : Nat) (v : Value) (L : List (List Int)) (hs : List Value) : Prop where
  own : w.ownsRow lo 37 1 v L.length hs
  rd : ∀ (k : Nat) (s : Value) (x : List Int), hs[k]? = some s → L[k]? = some x → HOk w v.ownBlock s x
theorem HRow.hlen {w : World} {lo : Nat} {v : Value} {L : List (List Int)} {hs : List Value} (h : HRow w lo v L hs) : hs.length = L.length := by rw [h.own.1, Nat.mul_one]
theorem HRow.below {w w' : World} {lo : Nat} {v : Value} {L : List (List Int)} {hs : List Value} (h : HRow w lo v L hs) (hb : Below w.heap.size w w') : HRow w' lo v L hs :=
  ⟨own_below h.own hb, fun k s x h1 h2 => (h.rd k s x h1 h2).keep (fun b hb' => ⟨Nat.lt_of_lt_of_le hb'.1 hb.size, hb'.2⟩) (fun b o hb' => hb.cell (p := ⟨b, o, none⟩) hb'.1)⟩
theorem HRow.one {w : World} {lo : Nat} {v : Value} {L : List (List Int)} {hs : List Value} (h : HRow w lo v L hs) : ∀ u ∈ hs, u.oneCell' = true := fun u hu => by
  obtain ⟨k, hk⟩ := List.mem_iff_getElem?.1 hu
  obtain ⟨x, hx⟩ : ∃ x, L[k]? = some x := ⟨_, List.getElem?_eq_getElem (by rw [← h.hlen]; exact (List.getElem?_eq_some_iff.1 hk).1)⟩
  obtain ⟨A, n, c, rfl, _⟩ := h.rd k u x hk hx
  rfl
theorem HRow.nil {w : World} {lo : Nat} {v : Value} (h : w.ownsRow lo 37 1 v 0 []) : HRow w lo v [] [] := ⟨h, fun k s x h1 => by simp at h1⟩
/-- One header more. -/
theorem HRow.push {w w1 w2 : World} {lo : Nat} {v v' s : Value} {L : List (List Int)} {hs : List Value} {x : List Int} {o : Obj} (h : HRow w lo v L hs) (hb : Below w.heap.size w w1) (hs1 : HOk w1 v.ownBlock s x)
    (hown : w2.ownsRow lo 37 1 v' (L.length + 1) (hs ++ [s])) (hg : (w1.alloc o).grownBy w2 v.ownBlock) (hat : v'.ownBlock = v.ownBlock ∨ v'.ownBlock = some (w1.heap.size + 1)) : HRow w2 lo v' (L ++ [x]) (hs ++ [s]) := by
  have z2 := hg.size
  have ha1 : (w1.alloc o).heap.size = w1.heap.size + 1 := by simp
  rw [ha1] at z2
  have hkeep : ∀ b, b < w1.heap.size → v.ownBlock ≠ some b → w2.heap[b]? = w1.heap[b]? := fun b hb1 hne => by
    rw [hg.block b (by omega) (fun e => hne e.symm)]
    exact ((Below.refl w1.heap.size w1).alloc (Nat.le_refl _) o).block b hb1
  have key : ∀ s y, HOk w1 v.ownBlock s y → HOk w2 v'.ownBlock s y := fun s y hy => hy.keep (fun b hb' => ⟨by omega, by
    rcases hat with e | e
    · rw [e]; exact hb'.2
    · rw [e]; intro e2; injection e2 with e2; omega⟩) (fun b o hb' => World.cell?_of_block (a := ⟨b, o, none⟩) (hkeep b hb'.1 hb'.2))
  refine ⟨by rw [List.length_append]; exact hown, fun k s' y h1 h2 => key _ _ ?_⟩
  have hl := h.hlen
  by_cases hk : k < L.length
  · rw [List.getElem?_append_left (by omega)] at h1
    rw [List.getElem?_append_left hk] at h2
    exact (h.below hb).rd k s' y h1 h2
  · have hk2 : k = L.length := by
      have := (List.getElem?_eq_some_iff.1 h2).1
      simp at this
      omega
    subst hk2
    rw [List.getElem?_append_right (by omega), hl] at h1
    rw [List.getElem?_append_right (Nat.le_refl _)] at h2
    simp at h1 h2
    subst h1 h2
    exact hs1
/-- A header replaced. -/
theorem HRow.set {w : World} {lo g n cap i : Nat} {s : Value} {L : List (List Int)} {hs : List Value} {x : List Int} (h : HRow w lo (.slice (some ⟨g, 0, none⟩) n cap) L hs) (hi : i < L.length) (hs1 : HOk w (some g) s x) :
    HRow (w.setCell ⟨g, i, none⟩ s) lo (.slice (some ⟨g, 0, none⟩) n cap) (L.set i x) (hs.set i s) := by
  have hl := h.hlen
  refine ⟨?_, fun k s' y h1 h2 => ?_⟩
  · refine ⟨by rw [List.length_set, hl, List.length_set, Nat.mul_one], .inr ?_⟩
    rcases h.own.2 with ⟨e, _⟩ | ⟨g', cap', cur, e, hlo, hg, hnc, hcap, hsz, hx⟩
    · cases e
    · injection e with e1 e2 e3
      injection e1 with e1
      injection e1 with e1
      subst e1 e2 e3
      obtain ⟨cur', h1, h2, h3⟩ := (show w.rowIs g 37 (cap * 1) (fun i => cur.getD i undef) from ⟨cur, hg, hsz, fun i hi => row_getD (by omega)⟩).set i s
      refine ⟨g, cap, cur', by rw [List.length_set], hlo, h1, by rw [List.length_set]; exact hnc, hcap, h2, ?_⟩
      have hx' : ∀ j, j < L.length → hs[j]? = some (cur.getD j undef) := fun j hj => by
        rw [← hx, List.getElem?_take, if_pos (by omega), Array.getElem?_toList]
        exact row_getD (by omega)
      apply List.ext_getElem?
      intro j
      rw [List.length_set]
      by_cases hj : j < L.length
      · rw [List.getElem?_take, if_pos (by omega), Array.getElem?_toList, h3 j (by omega)]
        by_cases hij : j = i
        · subst hij
          rw [List.getElem?_set_self (by omega)]
          simp
        · rw [List.getElem?_set_ne (by omega), hx' j hj]
          simp [hij]
      · rw [List.getElem?_eq_none (by simp; omega), List.getElem?_eq_none (by simp; omega)]
  · have hkeep : ∀ s' y, HOk w (some g) s' y → HOk (w.setCell ⟨g, i, none⟩ s) (some g) s' y := fun s' y hy => hy.keep (fun b hb' => ⟨by simpa using hb'.1, hb'.2⟩) (fun b o hb' => World.cell?_setCell_other _ _ _ _ (by intro e; injection e with e _ _; exact hb'.2 (by rw [e])))
    refine hkeep _ _ ?_
    by_cases hik : i = k
    · subst hik
      rw [List.getElem?_set_self (by omega)] at h1
      rw [List.getElem?_set_self hi] at h2
      injection h1 with h1
      injection h2 with h2
      subst h1 h2
      exact hs1
    · rw [List.getElem?_set_ne hik] at h1 h2
      exact h.rd k s' y h1 h2
theorem HRow.read {w : World} {lo : Nat} {v : Value} {L : List (List Int)} {hs : List Value} (h : HRow w lo v L hs) : RdL2 w w.heap.size v L := by
  have hl := h.hlen
  have ho : OwC w lo w.heap.size 37 1 v L.length hs := OwC.of_own h.own
  obtain ⟨A, c, rfl, hm, hc⟩ := ho.cells
  refine ⟨A, _, c, rfl, hm, rfl, fun k hk => ?_⟩
  obtain ⟨g, rfl, h0, h1, _, hx⟩ := hc k hk
  obtain ⟨x, hlx⟩ : ∃ x, L[k]? = some x := ⟨_, List.getElem?_eq_getElem hk⟩
  obtain ⟨s, hls⟩ : ∃ s, hs[k]? = some s := ⟨_, List.getElem?_eq_getElem (by omega)⟩
  refine ⟨g, 0, x, [s], rfl, h1, hlx, rfl, fun j u hu => ?_, s, rfl, (h.rd k s x hls hlx).rd fun b hb => hb.1⟩
  rcases j with _ | j
  · simp at hu
    subst hu
    rw [Nat.mul_one, Nat.zero_add, Nat.add_zero]
    exact hx k s (by omega) hls
  · simp at hu
/-- The cells of the headers. -/
theorem HRow.cell {w : World} {lo g n cap k : Nat} {s : Value} {L : List (List Int)} {hs : List Value} (h : HRow w lo (.slice (some ⟨g, 0, none⟩) n cap) L hs) (hk : hs[k]? = some s) : w.cell? ⟨g, k, none⟩ = some s ∧ ∀ i, w.frozen? ⟨g, i, none⟩ = false := by
  have hl := h.hlen
  obtain ⟨A, c, e, hm, hc⟩ := (OwC.of_own h.own : OwC w lo w.heap.size 37 1 _ L.length hs).cells
  injection e with e1 e2 e3
  have hkl : k < L.length := by rw [← hl]; exact (List.getElem?_eq_some_iff.1 hk).1
  obtain ⟨g', e', h0, h1, h2, hx⟩ := hc k hkl
  rw [← e1] at e'
  injection e' with e'
  injection e' with e'
  subst e'
  exact ⟨hx k s (by omega) hk, h2⟩
theorem HRow.shape {w : World} {lo : Nat} {v : Value} {L : List (List Int)} {hs : List Value} (h : HRow w lo v L hs) (hp : 0 < L.length) : ∃ g cap, v = .slice (some ⟨g, 0, none⟩) L.length cap ∧ lo ≤ g ∧ g < w.heap.size := by
  obtain ⟨g, cap, e, h1, h2⟩ := h.own.form hp
  exact ⟨g, cap, e, h1, h2⟩
theorem HRow.shape' {w : World} {lo : Nat} {v : Value} {L : List (List Int)} {hs : List Value} (h : HRow w lo v L hs) : ∃ A c, v = .slice A L.length c := by
  obtain ⟨A, c, e, _⟩ := (OwC.of_own h.own : OwC w lo w.heap.size 37 1 _ L.length hs).cells
  exact ⟨A, c, e⟩

theorem RdA.and {w : World} {P Q : Nat → Prop} {v : Value} {l : List Int} (h : RdA w P v l) (k : RdA w Q v l) : RdA w (fun b => P b ∧ Q b) v l := by
  obtain ⟨A, n, c, rfl, hn, hl, h⟩ := h
  obtain ⟨A', n', c', e, hn', hl', k⟩ := k
  injection e with e1 e2 e3
  subst e1 e2 e3
  refine ⟨A, n, c, rfl, hn, hl, fun j hj => ?_⟩
  obtain ⟨b, off, x, rfl, h2, h3, h4⟩ := h j hj
  obtain ⟨b', off', x', e', k2, k3, k4⟩ := k j hj
  injection e' with e'
  injection e' with e1 e2
  subst e1 e2
  exact ⟨b, off, x, rfl, ⟨h2, k2⟩, h3, h4⟩
/-- What the headers lead to lies from block lb on. -/
def HLow (w : World) (lb : Nat) (L : List (List Int)) (hs : List Value) : Prop := ∀ (k : Nat) (s : Value) (x : List Int), hs[k]? = some s → L[k]? = some x → RdA w (fun b => lb ≤ b) s x
theorem HLow.nil {w : World} {lb : Nat} : HLow w lb [] [] := fun k s x h => by simp at h
theorem HLow.of {w : World} {lb lb' : Nat} {L : List (List Int)} {hs : List Value} (h : HLow w lb L hs) (hb : lb' ≤ lb) : HLow w lb' L hs := fun k s x h1 h2 => (h k s x h1 h2).keep (fun b hb' => Nat.le_trans hb hb') (fun _ _ _ => rfl)
theorem HLow.below {w w' : World} {lo lb : Nat} {v : Value} {L : List (List Int)} {hs : List Value} (h : HLow w lb L hs) (hr : HRow w lo v L hs) (hb : Below w.heap.size w w') : HLow w' lb L hs :=
  fun k s x h1 h2 => ((h k s x h1 h2).and (hr.rd k s x h1 h2)).keep (fun b hb' => hb'.1) (fun b o hb' => hb.cell (p := ⟨b, o, none⟩) hb'.2.1)
theorem HLow.push {w w1 w2 : World} {lo lb : Nat} {v s : Value} {L : List (List Int)} {hs : List Value} {x : List Int} {o : Obj} (h : HLow w lb L hs) (hr : HRow w lo v L hs) (hb : Below w.heap.size w w1) (hs1 : HOk w1 v.ownBlock s x) (hs2 : RdA w1 (fun b => lb ≤ b) s x)
    (hg : (w1.alloc o).grownBy w2 v.ownBlock) : HLow w2 lb (L ++ [x]) (hs ++ [s]) := by
  have hkeep : ∀ b, b < w1.heap.size → v.ownBlock ≠ some b → w2.heap[b]? = w1.heap[b]? := fun b hb1 hne => by
    have z2 := hg.size
    rw [hg.block b (by simp; omega) (fun e => hne e.symm)]
    exact ((Below.refl w1.heap.size w1).alloc (Nat.le_refl _) o).block b hb1
  have key : ∀ s y, HOk w1 v.ownBlock s y → RdA w1 (fun b => lb ≤ b) s y → RdA w2 (fun b => lb ≤ b) s y := fun s y h1 h2 => (h1.and h2).keep (fun b hb' => hb'.2) (fun b o hb' => World.cell?_of_block (a := ⟨b, o, none⟩) (hkeep b hb'.1.1 hb'.1.2))
  intro k s' y h1 h2
  have hl := hr.hlen
  by_cases hk : k < L.length
  · rw [List.getElem?_append_left (by omega)] at h1
    rw [List.getElem?_append_left hk] at h2
    exact key _ _ ((hr.below hb).rd k s' y h1 h2) (h.below hr hb k s' y h1 h2)
  · have hk2 : k = L.length := by
      have := (List.getElem?_eq_some_iff.1 h2).1
      simp at this
      omega
    subst hk2
    rw [List.getElem?_append_right (by omega), hl] at h1
    rw [List.getElem?_append_right (Nat.le_refl _)] at h2
    simp at h1 h2
    subst h1 h2
    exact key _ _ hs1 hs2
/-- A store into a block that is none of these. -/
theorem HRow.far {w : World} {lo lb : Nat} {v : Value} {L : List (List Int)} {hs : List Value} (h : HRow w lo v L hs) (hl : HLow w lb L hs) {p : Addr} (h1 : p.block < lo) (h2 : p.block < lb) (u : Value) : HRow (w.setCell p u) lo v L hs ∧ HLow (w.setCell p u) lb L hs := by
  refine ⟨⟨?_, fun k s x g1 g2 => ((h.rd k s x g1 g2).and (hl k s x g1 g2)).keep (fun b hb => ⟨by simpa using hb.1.1, hb.1.2⟩) (fun b o hb => World.cell?_setCell_other _ _ _ _ (by intro e; subst e; exact absurd h2 (by simpa using hb.2)))⟩,
    fun k s x g1 g2 => (hl k s x g1 g2).keep (fun b hb => hb) (fun b o hb => World.cell?_setCell_other _ _ _ _ (by intro e; subst e; exact absurd h2 (by simpa using hb)))⟩
  refine ⟨h.own.1, ?_⟩
  rcases h.own.2 with h3 | ⟨g, cap, cur, rfl, hlo, hg, h3⟩
  · exact .inl h3
  · refine .inr ⟨g, cap, cur, rfl, hlo, ?_, h3⟩
    have hne : g ≠ p.block := by omega
    exact (((Below.refl g.succ w |> fun _ => (Only.refl p.block (p.block + 1) w).setCell (p := p) (Nat.le_refl _) (Nat.lt_succ_self _) u).block g (Array.getElem?_eq_some_iff.1 hg).1 (by omega))).trans hg
theorem HRow.lo {w : World} {lo lo' : Nat} {v : Value} {L : List (List Int)} {hs : List Value} (h : HRow w lo v L hs) (hl : lo' ≤ lo) : HRow w lo' v L hs := by
  refine ⟨⟨h.own.1, ?_⟩, h.rd⟩
  rcases h.own.2 with h3 | ⟨g, cap, cur, rfl, hlo, h3⟩
  · exact .inl h3
  · exact .inr ⟨g, cap, cur, rfl, by omega, h3⟩

end Go.Proofs.YtccdnmafakaleaaGreatDoor

/-
  Factors settled, of the reference.
-/
namespace Go.Proofs.YtccdnmafakaleaaGreatDoor
set_option linter.unusedVariables false
set_option linter.unusedSimpArgs false
open Go.RowKit

theorem info_hd : (Tryz.prog.info? 37).map (fun i => (i.zero, i.size, i.bytes)) = some (some (.slice none 0 0), 1, 24) := by kernel_rfl
/-- The lists of permutations. -/
abbrev lstL (n : Nat) (L : List Pm) : List (List Int) := L.map (lst n)
theorem lstL_get {n : Nat} {L : List Pm} {k : Nat} {x : List Int} (h : (lstL n L)[k]? = some x) : ∃ p, L[k]? = some p ∧ x = lst n p := by
  rw [List.getElem?_map] at h
  cases hp : L[k]? with
  | none => rw [hp] at h; cases h
  | some p => rw [hp] at h; injection h with h; exact ⟨p, rfl, h.symm⟩
theorem lit_reads {w : World} {s : Value} {T : TypeId} : Reads (w.alloc (.cells #[s] T)) (w.heap.size + 1) 1 (some ⟨w.heap.size, 0, none⟩) 1 [s] :=
  ⟨by simp, fun _ => ⟨_, rfl, by simp, new_cells' T [s] rfl⟩⟩
theorem take_next {α : Type} {l : List α} {k : Nat} {x : α} (h : l[k]? = some x) : l.take (k + 1) = l.take k ++ [x] := by rw [List.take_add_one, h]; rfl

set_option maxHeartbeats 4000000 in
set_option maxRecDepth 100000 in
theorem l04FlipAll_any (n : Nat) (hn : n ≤ 12) (L : List Pm) (hL : AllOn n L) (hlen : L.length ≤ 5000) (v : Value) (w : World) (hv : RdL2 w w.heap.size v (lstL n L)) :
    Calls Tryz.prog 48 #[v] w fun e w' => ∃ v' hs, e = .returned v' ∧ HRow w' w.heap.size v' (lstL n (flipL n L)) hs ∧ HLow w' w.heap.size (lstL n (flipL n L)) hs ∧ Below w.heap.size w w' := by
  obtain ⟨A, c, rfl⟩ := hv.shape
  rw [List.length_map] at hv
  rw [List.length_map]
  obtain ⟨i0, hi, hy0, hy1, hy2⟩ := info_parts info_hd
  generalize hK : lstL n (flipL n L) = K
  have hKl : K.length = L.length := by rw [← hK]; simp [lstL, flipL]
  have hKx : ∀ (k : Nat) (p : Pm), L[k]? = some p → K[k]? = some (lst n (Pm.flip n p)) := fun k p h => by rw [← hK]; show ((L.map (Pm.flip n)).map (lst n))[k]? = _; rw [List.getElem?_map, List.getElem?_map, h]; rfl
  generalize hm : L.length = m at *
  have HV := Lib.hid hv
  have HK := Lib.hid hKx
  have HKL := Lib.hid hKl
  have HM := Lib.hid hm
  clear hv hKx hKl hK hm
  go_enter Tryz.func48, Tryz.ntmps48
  go_wp2
  go_loopw [3, 4] (fun t i wr => ∃ (k : Nat) (hs : List Value), k ≤ m ∧ i = .int .i64 k ∧ Hid (HRow wr w.heap.size t (K.take k) hs) ∧ Hid (HLow wr w.heap.size (K.take k) hs) ∧ Below w.heap.size w wr) (fun _ i _ => m - (intOf i).toNat)
  case atStart => exact ⟨0, [], Nat.zero_le _, rfl, HRow.nil (World.ownsRow_lit _ _ _ (Nat.le_refl _) (by unfold maxLen; omega) rfl), HLow.nil, (Below.refl _ _).alloc (Nat.le_refl _) _⟩
  case round =>
    rename_i wr
    obtain ⟨k, hs, hk, rfl, HH, HL, hb⟩ := hrel
    have HB := Lib.hid hb
    have hKk : (K.take k).length = k := by rw [List.length_take, HKL.out]; omega
    by_cases hlt : k < m
    · obtain ⟨b, off, x, s, rfl, hbb, hx, hc, hs1⟩ := (HV.out.below hb).at_ hlt
      obtain ⟨p, hp, rfl⟩ := lstL_get hx
      obtain ⟨As, cs, rfl⟩ := hs1.len
      have HQ := Lib.hid (l04Flip_any n hn p (hL p (List.mem_of_getElem? hp)) _ wr (hs1.more hb.size))
      have HN := Lib.hid (take_next (HK.out k p hp))
      have HKK := Lib.hid hKk
      clear hb hx hs1 hp hKk
      go_wp2_with fail
      refine HQ.out.mono ?_
      rintro e w1 ⟨v1, rfl, ho, hb1⟩
      have HO := Lib.hid (ho.rdA)
      obtain ⟨A1, c1, rfl, -⟩ := ho.cells
      have HB1 := Lib.hid hb1
      have hz1 := hb1.size
      have hzr := HB.out.size
      clear hb1 ho hc
      go_wp2_with (at_builtin; refine wpList_append_any _ rfl _ _ _ rfl w.heap.size 37 i0 _ 1 24 Tryz.underlying72 hi hy0 hy1 hy2 rfl (by decide) _ _ _ rfl ((own_below HH.out.own HB1.out).alloc _) (w1.heap.size + 1) _ 1 1 [_] rfl lit_reads (by intro u hu; simp at hu; subst hu; rfl) (by rw [HKK.out]; unfold maxLen; omega) (by rw [HKK.out]; omega) (by simp; omega) ?_)
      intro v2 w2 hown2 hg2 hat2
      have HH2 := Lib.hid (HRow.push HH.out HB1.out (HO.out.keep (fun b hb => ⟨hb.2, by intro e; have := (HH.out.own.lt b e).2; omega⟩) (fun _ _ _ => rfl)) (by rw [List.length_take]; exact hown2) hg2 (by simpa using hat2))
      have HB2 := Lib.hid (((HB.out.trans (HB1.out.mono hzr)).alloc (by omega) _).grown hg2 (by simp; omega) (fun kk hkk => (HH.out.own.lt kk hkk).1))
      have HL2 := Lib.hid (HLow.push HL.out HH.out HB1.out (HO.out.keep (fun b hb => ⟨hb.2, by intro e; have := (HH.out.own.lt b e).2; omega⟩) (fun _ _ _ => rfl)) (HO.out.keep (fun b hb => (by omega : w.heap.size ≤ b)) (fun _ _ _ => rfl)) hg2)
      rw [← HN.out] at HH2 HL2
      clear hown2 hg2 hat2
      go_wp2
      exact ⟨⟨k + 1, _, by omega, by go_num, HH2.out, HL2.out, HB2.out⟩, by simp [intOf]; omega⟩
    · have HHR := Lib.hid HH.out
      have HLR := Lib.hid HL.out
      clear hb
      obtain ⟨At, ct, hte⟩ := HH.out.shape'
      go_wp2
      go_ret
      obtain rfl : k = m := by omega
      have h := HHR.out
      have h2 := HLR.out
      rw [List.take_of_length_le (by rw [HKL.out]; omega)] at h h2
      exact ⟨_, hs, rfl, h, h2, HB.out⟩

end Go.Proofs.YtccdnmafakaleaaGreatDoor
