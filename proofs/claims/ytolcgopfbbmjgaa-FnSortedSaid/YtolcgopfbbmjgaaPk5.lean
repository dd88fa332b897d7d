/-
  Texts joined: Crs, DrA, DrB, DrC.
-/
import Derived.Test.YtolcgopfbbmjgaaMcAsk0
import Derived.Test.YtolcgopfbbmjgaaPk4
import Derived.Test.YtolcgopfbbmjgaaPk2
import Derived.Deep.DeepCutAuto
import Derived.Deep.CutRange
/-
  Courses, in plain Lean; the greater of two numbers.
-/
namespace Go.Proofs.Ytolcgopfbbmjgaa
set_option linter.unusedVariables false
set_option linter.unusedSimpArgs false
open Go.RowKit

/-- A course's growth by one parent; the course of a loop; the courses of all. -/
def cmx (acc : List Int) (n p : Int) : Int := max n (acc.getD p.toNat 0 + 1)
def cst (acc : List Int) (x : Inf) : Int := x.ps.foldl (cmx acc) 0
def cgo : List Int → List Inf → List Int
  | acc, [] => acc
  | acc, x :: t => cgo (acc ++ [cst acc x]) t
theorem cgo_pre : ∀ (l : List Inf) (acc : List Int), ∃ r, cgo acc l = acc ++ r
  | [], acc => ⟨[], by simp [cgo]⟩
  | x :: t, acc => by
    obtain ⟨r, h⟩ := cgo_pre t (acc ++ [cst acc x])
    exact ⟨cst acc x :: r, by rw [cgo, h, List.append_assoc]; rfl⟩
theorem cgo_at {l : List Inf} {acc : List Int} {j : Nat} (h : j < acc.length) : (cgo acc l).getD j 0 = acc.getD j 0 := by
  obtain ⟨r, e⟩ := cgo_pre l acc
  rw [e, List.getD_eq_getElem?_getD, List.getD_eq_getElem?_getD, List.getElem?_append_left h]
theorem cgo_next {l : List Inf} {acc : List Int} {k : Nat} {x : Inf} {R : List Int} (h : R = cgo acc (l.drop k)) (hx : l[k]? = some x) : R = cgo (acc ++ [cst acc x]) (l.drop (k + 1)) := by
  rw [h, drop_of_get hx, cgo]

/-- The courses so far: each at most its place. -/
def Small (acc : List Int) : Prop := ∀ (j : Nat) (z : Int), acc[j]? = some z → 0 ≤ z ∧ z ≤ j
theorem fold_small {acc : List Int} (hs : Small acc) : ∀ (ps : List Int) (n : Int), (∀ p ∈ ps, 0 ≤ p ∧ p < acc.length) → 0 ≤ n → n ≤ acc.length → 0 ≤ ps.foldl (cmx acc) n ∧ ps.foldl (cmx acc) n ≤ acc.length
  | [], n, _, h0, h1 => ⟨h0, h1⟩
  | p :: t, n, hp, h0, h1 => by
    obtain ⟨p0, p1⟩ := hp p (by simp)
    obtain ⟨q, rfl⟩ := Int.eq_ofNat_of_zero_le p0
    have hq : q < acc.length := by omega
    have hz := hs q _ (List.getElem?_eq_getElem hq)
    have hc : cmx acc n (q : Int) = max n (acc[q] + 1) := by unfold cmx; rw [show ((q : Int)).toNat = q by omega, List.getD_eq_getElem?_getD, List.getElem?_eq_getElem hq]; rfl
    rw [List.foldl_cons, hc]
    exact fold_small hs t _ (fun r hr => hp r (by simp [hr])) (by omega) (by omega)
theorem small_next {acc : List Int} {x : Inf} (hs : Small acc) (hp : ∀ p ∈ x.ps, 0 ≤ p ∧ p < acc.length) : Small (acc ++ [cst acc x]) := by
  intro j z hz
  by_cases hj : j < acc.length
  · rw [List.getElem?_append_left hj] at hz
    exact hs j z hz
  · rw [List.getElem?_append_right (by omega)] at hz
    have h1 := fold_small hs x.ps 0 hp (by omega) (by omega)
    have hj2 : j - acc.length = 0 := by
      have := (List.getElem?_eq_some_iff.1 hz).1
      simp at this
      omega
    rw [hj2] at hz
    simp at hz
    subst hz
    unfold cst
    omega

theorem l00Max_s (a b : Int) (w : World) : Calls Try.prog 83 #[.int .i64 a, .int .i64 b] w fun e w' => e = .returned (.int .i64 (max a b)) ∧ w = w' := by
  by_cases h : b < a
  all_goals
    go_enter Try.func83, Try.ntmps83
    go_wp2
    go_ret
    exact ⟨ret_int (by omega), rfl⟩
theorem cgo_len : ∀ (l : List Inf) (acc : List Int), (cgo acc l).length = acc.length + l.length
  | [], acc => by simp [cgo]
  | x :: t, acc => by rw [cgo, cgo_len t]; simp; omega

end Go.Proofs.Ytolcgopfbbmjgaa

/-
  Draws of needles and operations: OtherBed, l01DrawNeedle.
-/
namespace Go.Proofs.Ytolcgopfbbmjgaa
set_option linter.unusedVariables false
set_option linter.unusedSimpArgs false
open Go.RowKit

/-- A needle that was drawn. -/
def DrawnNd (w : World) (g : Nat) (K wd : Int) (e : Ending) (w' : World) : Prop := ∃ b a, e = .returned (.agg #[.int .i64 b, .int .i64 a]) ∧ (b = 1 ∨ b = 2) ∧ 0 ≤ a ∧ a < wd ∧ Src w' g K ∧ Only g (g + 1) w w'
theorem keep_cells {w w' : World} {g b : Nat} (h : Only g (g + 1) w w') (hb : b < w.heap.size) (hg : b ≠ g) : (∀ o, w'.cell? ⟨b, o, none⟩ = w.cell? ⟨b, o, none⟩) ∧ ∀ o, w'.frozen? ⟨b, o, none⟩ = w.frozen? ⟨b, o, none⟩ :=
  ⟨fun o => World.cell?_of_block (a := ⟨b, o, none⟩) (h.block b hb (by omega)), fun o => World.frozen?_of_block (a := ⟨b, o, none⟩) (h.block b hb (by omega))⟩
set_option maxHeartbeats 1000000 in
theorem l01DrawNeedle_any (w : World) (g : Nat) (wd K : Int) (h : Src w g K) (hK : K + 4 ≤ 1000000000) (hw : 1 ≤ wd) : Calls Try.prog 81 #[.pointer (some ⟨g, 0, none⟩), .int .i64 wd] w (DrawnNd w g (K + 4) wd) := by
  have hg := h.lt
  have hB0 : Below w.heap.size w (w.alloc (.cells #[.int .i64 0, .int .i64 0] 53)) := (Below.refl _ _).alloc (Nat.le_refl _) _
  have hB : Below w.heap.size w ((w.alloc (.cells #[.int .i64 0, .int .i64 0] 53)).alloc (.cells #[.int .i64 1, .int .i64 0] 53)) := hB0.alloc (by rw [World.size_alloc]; omega) _
  have r0 := (CellsAt.below (CellsAt.of_alloc (w := w) (us := [.int .i64 0, .int .i64 0]) (t := 53)) ((Below.refl (w.heap.size + 1) _).alloc (by rw [World.size_alloc]; exact Nat.le_refl _) (.cells #[.int .i64 1, .int .i64 0] 53)) (Nat.lt_succ_self _)).two
  have r1 := (CellsAt.of_alloc (w := w.alloc (.cells #[.int .i64 0, .int .i64 0] 53)) (us := [.int .i64 1, .int .i64 0]) (t := 53)).two
  rw [World.size_alloc] at r1
  have f0 : ∀ i, ((w.alloc (.cells #[.int .i64 0, .int .i64 0] 53)).alloc (.cells #[.int .i64 1, .int .i64 0] 53)).frozen? ⟨w.heap.size, i, none⟩ = false := fun i => (((Below.refl (w.heap.size + 1) _).alloc (by rw [World.size_alloc]; exact Nat.le_refl _) (.cells #[.int .i64 1, .int .i64 0] 53)).frozen (p := ⟨w.heap.size, i, none⟩) (Nat.lt_succ_self _)).trans (frozen_of_row _ _ i _ _ (heap_alloc_new w _))
  have f1 : ∀ i, ((w.alloc (.cells #[.int .i64 0, .int .i64 0] 53)).alloc (.cells #[.int .i64 1, .int .i64 0] 53)).frozen? ⟨w.heap.size + 1, i, none⟩ = false := fun i => by
    have := frozen_of_row _ _ i _ _ (heap_alloc_new (w.alloc (.cells #[.int .i64 0, .int .i64 0] 53)) (.cells #[.int .i64 1, .int .i64 0] 53))
    rw [World.size_alloc] at this
    exact this
  have hz : ((w.alloc (.cells #[.int .i64 0, .int .i64 0] 53)).alloc (.cells #[.int .i64 1, .int .i64 0] 53)).heap.size = w.heap.size + 1 + 1 := by rw [World.size_alloc, World.size_alloc]
  have HS := Lib.hid (h.below hB hg)
  have HB := Lib.hid hB
  have R0 := Lib.hid r0
  have R1 := Lib.hid r1
  have F0 := Lib.hid f0
  have F1 := Lib.hid f1
  have HZ := Lib.hid hz
  clear h hB hB0 r0 r1 f0 f1 hz
  go_enter Try.func81, Try.ntmps81
  go_wp2_with fail
  generalize ((w.alloc (.cells #[.int .i64 0, .int .i64 0] 53)).alloc (.cells #[.int .i64 1, .int .i64 0] 53)) = W at *
  refine (one_any W g 2 K HS.out (by omega)).mono ?_
  rintro e W1 ⟨b, rfl, hs, ho⟩
  have S1 := Lib.hid hs
  have O1 := Lib.hid ho
  have hz1 : w.heap.size + 1 < W.heap.size := by have := HZ.out; omega
  obtain ⟨k0, kf0⟩ := keep_cells ho (b := w.heap.size) (by omega) (by omega)
  obtain ⟨k1, kf1⟩ := keep_cells ho (b := w.heap.size + 1) (by omega) (by omega)
  have c00 := (k0 0).trans R0.out.1
  have c01 := (k0 1).trans R0.out.2
  have c10 := (k1 0).trans R1.out.1
  have c11 := (k1 1).trans R1.out.2
  have ff0 := Lib.hid (fun i => (kf0 i).trans (F0.out i))
  have ff1 := fun i => (kf1 i).trans (F1.out i)
  clear k0 k1 kf0 kf1 hs ho
  cases b
  · go_wp2_with fail
    have hsx := S1.out
    have hzx : W.heap.size ≤ W1.heap.size := O1.out.size
    have ow0 : Only g (g + 1) w W1 := (Only.of_below HB.out).trans O1.out
    have e00 := c00
    have e01 := c01
    have e10 := c10
    have e11 := c11
    have ef0 := ff0
    have ef1 := Lib.hid ff1
    clear c00 c01 c10 c11 ff0 ff1
    refine (pick_any W1 g wd (K + 2) hsx (by omega)).mono ?_
    rintro e W2 ⟨x, rfl, hx, hs, ho⟩
    obtain ⟨hx0, hx1, hx2⟩ := hx
    have hxw : x < wd := by
      rcases (by omega : 1 < wd ∨ wd ≤ 1) with h1 | h1
      · exact hx1 h1
      · have := hx2 h1; omega
    have S2 := Lib.hid hs
    have O2 := Lib.hid (ow0.trans ho)
    obtain ⟨k0, kf0⟩ := keep_cells ho (b := w.heap.size) (by omega) (by omega)
    obtain ⟨k1, kf1⟩ := keep_cells ho (b := w.heap.size + 1) (by omega) (by omega)
    have d00 := (k0 0).trans e00
    have d01 := (k0 1).trans e01
    have d10 := (k1 0).trans e10
    have d11 := (k1 1).trans e11
    have df0 := fun i => (kf0 i).trans (ef0.out i)
    have df1 := fun i => (kf1 i).trans (ef1.out i)
    have hne : w.heap.size + 1 ≠ w.heap.size := by omega
    have hfar := far_cell hne
    clear k0 k1 kf0 kf1 hs ho hx1 hx2 e00 e01 e10 e11 ow0 hsx
    go_wp2
    have FA := Lib.hid (And.intro d00 (And.intro d01 df0))
    refine bodyPost_ret (v := .agg #[.int .i64 1, .int .i64 x]) (by simp [results, Try.results81, go_sem, d00, d01, World.cell?_setCell_other]) rfl ?_
    refine ⟨1, x, rfl, by omega, hx0, hxw, ?_, ?_⟩
    · exact (S2.out.keep fun b hb => by rw [Below.heap_setCell _ _ _ _ (by show b ≠ w.heap.size; omega), Below.heap_setCell _ _ _ _ (by show b ≠ w.heap.size; omega), Below.heap_setCell _ _ _ _ (by show b ≠ w.heap.size + 1; omega)]).more (by omega) hK
    · have hO := O2.out
      exact ⟨hO.os, hO.tape, hO.output, by simp; exact hO.size, fun k hk h => by rw [Below.heap_setCell _ _ _ _ (by show k ≠ w.heap.size; omega), Below.heap_setCell _ _ _ _ (by show k ≠ w.heap.size; omega), Below.heap_setCell _ _ _ _ (by show k ≠ w.heap.size + 1; omega)]; exact hO.block k hk h⟩
  · go_wp2_with fail
    have hsx : Src (W1.setCell ⟨w.heap.size + 1, 0, none⟩ (.int .i64 2)) g (K + 2) := S1.out.keep fun b hb => Below.heap_setCell _ _ _ _ (by show b ≠ w.heap.size + 1; omega)
    have hzx : W.heap.size ≤ (W1.setCell ⟨w.heap.size + 1, 0, none⟩ (.int .i64 2)).heap.size := by have := O1.out.size; simpa using this
    have ow0 : Only g (g + 1) w (W1.setCell ⟨w.heap.size + 1, 0, none⟩ (.int .i64 2)) := by
      have hO := (Only.of_below (lo := g) (hi := g + 1) HB.out).trans O1.out
      exact ⟨hO.os, hO.tape, hO.output, by simp; exact hO.size, fun k hk h => by rw [Below.heap_setCell _ _ _ _ (by show k ≠ w.heap.size + 1; omega)]; exact hO.block k hk h⟩
    have e00 := (far_cell (show w.heap.size + 1 ≠ w.heap.size by omega) W1 0 (.int .i64 2) 0).trans c00
    have e01 := (far_cell (show w.heap.size + 1 ≠ w.heap.size by omega) W1 0 (.int .i64 2) 1).trans c01
    have e10 := cell_set_same (p := ⟨w.heap.size + 1, 0, none⟩) (v := .int .i64 2) c10
    have e11 := (near_cell (show 0 ≠ 1 by omega) (w.heap.size + 1) W1 (.int .i64 2)).trans c11
    have ef0 : Hid (∀ i, (W1.setCell ⟨w.heap.size + 1, 0, none⟩ (.int .i64 2)).frozen? ⟨w.heap.size, i, none⟩ = false) := fun i => setCell_frozen ff0.out i
    have ef1 := Lib.hid (fun i => setCell_frozen (p := ⟨w.heap.size + 1, 0, none⟩) (u := .int .i64 2) ff1 i)
    clear c00 c01 c10 c11 ff0 ff1
    refine (pick_any (W1.setCell ⟨w.heap.size + 1, 0, none⟩ (.int .i64 2)) g wd (K + 2) hsx (by omega)).mono ?_
    rintro e W2 ⟨x, rfl, hx, hs, ho⟩
    obtain ⟨hx0, hx1, hx2⟩ := hx
    have hxw : x < wd := by
      rcases (by omega : 1 < wd ∨ wd ≤ 1) with h1 | h1
      · exact hx1 h1
      · have := hx2 h1; omega
    have S2 := Lib.hid hs
    have O2 := Lib.hid (ow0.trans ho)
    obtain ⟨k0, kf0⟩ := keep_cells ho (b := w.heap.size) (by omega) (by omega)
    obtain ⟨k1, kf1⟩ := keep_cells ho (b := w.heap.size + 1) (by omega) (by omega)
    have d00 := (k0 0).trans e00
    have d01 := (k0 1).trans e01
    have d10 := (k1 0).trans e10
    have d11 := (k1 1).trans e11
    have df0 := fun i => (kf0 i).trans (ef0.out i)
    have df1 := fun i => (kf1 i).trans (ef1.out i)
    have hne : w.heap.size + 1 ≠ w.heap.size := by omega
    have hfar := far_cell hne
    clear k0 k1 kf0 kf1 hs ho hx1 hx2 e00 e01 e10 e11 ow0 hsx
    go_wp2
    have FA := Lib.hid (And.intro d00 (And.intro d01 df0))
    refine bodyPost_ret (v := .agg #[.int .i64 2, .int .i64 x]) (by simp [results, Try.results81, go_sem, d00, d01, World.cell?_setCell_other]) rfl ?_
    refine ⟨2, x, rfl, by omega, hx0, hxw, ?_, ?_⟩
    · exact (S2.out.keep fun b hb => by rw [Below.heap_setCell _ _ _ _ (by show b ≠ w.heap.size; omega), Below.heap_setCell _ _ _ _ (by show b ≠ w.heap.size; omega), Below.heap_setCell _ _ _ _ (by show b ≠ w.heap.size + 1; omega)]).more (by omega) hK
    · have hO := O2.out
      exact ⟨hO.os, hO.tape, hO.output, by simp; exact hO.size, fun k hk h => by rw [Below.heap_setCell _ _ _ _ (by show k ≠ w.heap.size; omega), Below.heap_setCell _ _ _ _ (by show k ≠ w.heap.size; omega), Below.heap_setCell _ _ _ _ (by show k ≠ w.heap.size + 1; omega)]; exact hO.block k hk h⟩

theorem ok_form {wd k d b a c : Int} (hk : k = 1 ∨ k = 2 ∨ k = 3) (hd : d = 1 ∨ d = -1) (hb : b = 1 ∨ b = 2) (h0 : 0 ≤ a) (h1 : a < wd) (hw : wd ≤ 24) (hc : c = 1 ∨ c = 2) : okOpW wd ⟨k, d, b, a, 0, 0, c, 0⟩ = true := by
  rw [okOpW_iff]
  refine ⟨?_, h1, by show (0 : Int) < wd; omega⟩
  unfold okOp
  rw [if_pos hk]
  simp only [Bool.and_eq_true, decide_eq_true_eq, dirM_iff, inB_iff, ndB_iff, and_true]
  omega
theorem ok_xfer {wd b a t : Int} (hb : b = 1 ∨ b = 2) (h0 : 0 ≤ a) (h1 : a < wd) (hw : wd ≤ 24) (t0 : 0 ≤ t) (t1 : t < wd) : okOpW wd ⟨4, 0, b, a, 3 - b, t, 0, 0⟩ = true := by
  rw [okOpW_iff]
  refine ⟨?_, h1, t1⟩
  unfold okOp
  simp only [Bool.and_eq_true, decide_eq_true_eq, dirM_iff, inB_iff, ndB_iff, show ¬ ((4 : Int) = 1 ∨ (4 : Int) = 2 ∨ (4 : Int) = 3) by omega, if_false, if_true, and_true]
  omega
theorem ok_split {wd d b a t c : Int} (hd : d = 1 ∨ d = -1) (hb : b = 1 ∨ b = 2) (h0 : 0 ≤ a) (h1 : a < wd) (hw : wd ≤ 24) (t0 : 0 ≤ t) (t1 : t < wd) (hc : c = 1 ∨ c = 2) : okOpW wd ⟨5, d, b, a, 3 - b, t, c, 0⟩ = true := by
  rw [okOpW_iff]
  refine ⟨?_, h1, t1⟩
  unfold okOp
  simp only [Bool.and_eq_true, decide_eq_true_eq, dirM_iff, inB_iff, ndB_iff, show ¬ ((5 : Int) = 1 ∨ (5 : Int) = 2 ∨ (5 : Int) = 3) by omega, show ¬ (5 : Int) = 4 by omega, if_false, if_true, and_true]
  omega
theorem ok_drop {wd b a : Int} (hb : b = 1 ∨ b = 2) (h0 : 0 ≤ a) (h1 : a < wd) (hw : wd ≤ 24) : okOpW wd ⟨6, 0, b, a, 0, 0, 0, 0⟩ = true := by
  rw [okOpW_iff]
  refine ⟨?_, h1, by show (0 : Int) < wd; omega⟩
  unfold okOp
  simp [ndB_iff]
  omega
theorem ok_rack {wd r : Int} (h0 : -2 ≤ r) (h1 : r ≤ 2) (hw : 1 ≤ wd) : okOpW wd ⟨7, 0, 0, 0, 0, 0, 0, r⟩ = true := by
  rw [okOpW_iff]
  refine ⟨?_, by show (0 : Int) < wd; omega, by show (0 : Int) < wd; omega⟩
  unfold okOp
  simp [inB_iff]
  omega
theorem ok_in {wd c : Int} (hc : c = 1 ∨ c = 2) (hw : 1 ≤ wd) : okOpW wd ⟨8, 1, 0, 0, 0, 0, c, 0⟩ = true := by
  rw [okOpW_iff]
  refine ⟨?_, by show (0 : Int) < wd; omega, by show (0 : Int) < wd; omega⟩
  unfold okOp
  simp [inB_iff, dirM_iff]
  omega
theorem ok_out {wd c : Int} (hc : c = 1 ∨ c = 2) (hw : 1 ≤ wd) : okOpW wd ⟨9, 0, 0, 0, 0, 0, c, 0⟩ = true := by
  rw [okOpW_iff]
  refine ⟨?_, by show (0 : Int) < wd; omega, by show (0 : Int) < wd; omega⟩
  unfold okOp
  simp [inB_iff]
  omega
theorem l00Min_e (a b : Int) (w : World) : Calls Try.prog 84 #[.int .i64 a, .int .i64 b] w fun e w' => e = .returned (.int .i64 (min a b)) ∧ w = w' := by
  by_cases h : a < b
  all_goals
    go_enter Try.func84, Try.ntmps84
    go_wp2
    go_ret
    exact ⟨ret_int (by omega), rfl⟩
theorem otherBed_s (b : Int) (hb : b = 1 ∨ b = 2) (w : World) : Calls Try.prog 82 #[.int .i64 b] w fun e w' => e = .returned (.int .i64 (3 - b)) ∧ w = w' := by
  have hB : bedM b = true := by rcases hb with rfl | rfl <;> rfl
  have HB := Lib.hid hB
  clear hB
  go_enter Try.func82, Try.ntmps82
  go_wp2_with fail
  refine (l01Bed_s b w).mono ?_
  rintro e w' ⟨rfl, rfl⟩
  rw [HB.out]
  rcases hb with rfl | rfl
  · go_wp2
    go_ret
    exact ⟨rfl, rfl⟩
  · go_wp2
    go_ret
    exact ⟨rfl, rfl⟩

end Go.Proofs.Ytolcgopfbbmjgaa

/-
  A draw of an operation: l07DrawOp.
-/
namespace Go.Proofs.Ytolcgopfbbmjgaa
set_option linter.unusedVariables false
set_option linter.unusedSimpArgs false
open Go.RowKit

theorem Bx.only {w w' : World} {g gs : Nat} {us : List Value} (h : Bx w g us) (ho : Only gs (gs + 1) w w') (hg : g ≠ gs) : Bx w' g us := h.keep (ho.block g h.2.2 (by omega)) ho.size
theorem Src.setNew {w : World} {g : Nat} {K : Int} (h : Src w g K) {b : Nat} (hp : g < b) (i : Nat) (u : Value) : Src (w.setCell ⟨b, i, none⟩ u) g K := h.keep fun k hk => Below.heap_setCell _ _ _ _ (by show k ≠ b; omega)
theorem Only.setNew {a w : World} {lo hi : Nat} (h : Only lo hi a w) {b : Nat} (hp : a.heap.size ≤ b) (i : Nat) (u : Value) : Only lo hi a (w.setCell ⟨b, i, none⟩ u) :=
  ⟨h.os, h.tape, h.output, by simp; exact h.size, fun k hk h' => by rw [Below.heap_setCell _ _ _ _ (by show k ≠ b; omega)]; exact h.block k hk h'⟩
theorem Src.drew {w : World} {g : Nat} {K : Int} (h : Src w g K) : Src w.drew g K := h
theorem Src.alloc {w : World} {g : Nat} {K : Int} (h : Src w g K) (o : Obj) : Src (w.alloc o) g K := h.below ((Below.refl w.heap.size w).alloc (Nat.le_refl _) o) h.lt

/-- Eight stores, one after another. -/
abbrev set8 (w : World) (g : Nat) (u0 u1 u2 u3 u4 u5 u6 u7 : Value) : World := ((((((((w.setCell ⟨g, 0, none⟩ u0).setCell ⟨g, 1, none⟩ u1).setCell ⟨g, 2, none⟩ u2).setCell ⟨g, 3, none⟩ u3).setCell ⟨g, 4, none⟩ u4).setCell ⟨g, 5, none⟩ u5).setCell ⟨g, 6, none⟩ u6).setCell ⟨g, 7, none⟩ u7)
theorem Bx.set8 {w : World} {g : Nat} {z0 z1 z2 z3 z4 z5 z6 z7 : Value} (h : Bx w g [z0, z1, z2, z3, z4, z5, z6, z7]) (u0 u1 u2 u3 u4 u5 u6 u7 : Value) : Bx (set8 w g u0 u1 u2 u3 u4 u5 u6 u7) g [u0, u1, u2, u3, u4, u5, u6, u7] :=
  (((((((h.set (i := 0) (by simp) u0).set (i := 1) (by simp) u1).set (i := 2) (by simp) u2).set (i := 3) (by simp) u3).set (i := 4) (by simp) u4).set (i := 5) (by simp) u5).set (i := 6) (by simp) u6).set (i := 7) (by simp) u7
theorem Bx.far8 {w : World} {g g' : Nat} {us : List Value} (h : Bx w g us) (hg : g ≠ g') (u0 u1 u2 u3 u4 u5 u6 u7 : Value) : Bx (Go.Proofs.Ytolcgopfbbmjgaa.set8 w g' u0 u1 u2 u3 u4 u5 u6 u7) g us :=
  (((((((h.far hg 0 u0).far hg 1 u1).far hg 2 u2).far hg 3 u3).far hg 4 u4).far hg 5 u5).far hg 6 u6).far hg 7 u7
theorem Src.set8 {w : World} {g : Nat} {K : Int} (h : Src w g K) {b : Nat} (hp : g < b) (u0 u1 u2 u3 u4 u5 u6 u7 : Value) : Src (Go.Proofs.Ytolcgopfbbmjgaa.set8 w b u0 u1 u2 u3 u4 u5 u6 u7) g K :=
  (((((((h.setNew hp 0 u0).setNew hp 1 u1).setNew hp 2 u2).setNew hp 3 u3).setNew hp 4 u4).setNew hp 5 u5).setNew hp 6 u6).setNew hp 7 u7
theorem Only.set8 {a w : World} {lo hi : Nat} (h : Only lo hi a w) {b : Nat} (hp : a.heap.size ≤ b) (u0 u1 u2 u3 u4 u5 u6 u7 : Value) : Only lo hi a (Go.Proofs.Ytolcgopfbbmjgaa.set8 w b u0 u1 u2 u3 u4 u5 u6 u7) :=
  (((((((h.setNew hp 0 u0).setNew hp 1 u1).setNew hp 2 u2).setNew hp 3 u3).setNew hp 4 u4).setNew hp 5 u5).setNew hp 6 u6).setNew hp 7 u7
theorem only_drew {lo hi : Nat} {a w : World} (h : Only lo hi a w) : Only lo hi a w.drew := ⟨h.os, h.tape, h.output, h.size, h.block⟩
abbrev zOp : List Value := [.int .i64 0, .int .i64 0, .int .i64 0, .int .i64 0, .int .i64 0, .int .i64 0, .int .i64 0, .int .i64 0]
/-- Half way: the source, the boxes of the result, of the needle and of the operation. -/
structure DSt (w0 : World) (gs : Nat) (K : Int) (b1 : Nat) (b a : Int) (g6 : Nat) (o : Opr) (wx : World) : Prop where
  src : Src wx gs K
  only : Only gs (gs + 1) w0 wx
  res : Bx wx w0.heap.size zOp
  nd : Bx wx b1 [.int .i64 b, .int .i64 a]
  op : Bx wx g6 o.cells
  lt1 : w0.heap.size < b1
  ne : b1 ≠ g6
  lt6 : w0.heap.size < g6
theorem DSt.alloc {w0 wx : World} {gs b1 g6 : Nat} {K b a : Int} {o : Opr} (h : DSt w0 gs K b1 b a g6 o wx) (ob : Obj) : DSt w0 gs K b1 b a g6 o (wx.alloc ob) := ⟨h.src.alloc _, h.only.alloc _, h.res.alloc _, h.nd.alloc _, h.op.alloc _, h.lt1, h.ne, h.lt6⟩
theorem DSt.drew {w0 wx : World} {gs b1 g6 : Nat} {K b a : Int} {o : Opr} (h : DSt w0 gs K b1 b a g6 o wx) : DSt w0 gs K b1 b a g6 o wx.drew := ⟨h.src, only_drew h.only, h.res, h.nd, h.op, h.lt1, h.ne, h.lt6⟩
theorem DSt.below {w0 wx wy : World} {gs b1 g6 : Nat} {K b a : Int} {o : Opr} (h : DSt w0 gs K b1 b a g6 o wx) (hb : Below wx.heap.size wx wy) : DSt w0 gs K b1 b a g6 o wy :=
  ⟨h.src.below hb h.src.lt, h.only.trans (Only.of_below hb), h.res.below hb h.res.2.2, h.nd.below hb h.nd.2.2, h.op.below hb h.op.2.2, h.lt1, h.ne, h.lt6⟩
theorem DSt.setD {w0 wx : World} {gs b1 g6 : Nat} {K b a : Int} {o : Opr} (h : DSt w0 gs K b1 b a g6 o wx) (hg : gs < w0.heap.size) (d : Int) : DSt w0 gs K b1 b a g6 { o with d := d } (wx.setCell ⟨g6, 1, none⟩ (.int .i64 d)) :=
  ⟨h.src.setNew (by have := h.lt6; omega) _ _, h.only.setNew (by have := h.lt6; omega) _ _, h.res.far (by have := h.lt6; omega) _ _, h.nd.far h.ne _ _, h.op.set (by simp) _, h.lt1, h.ne, h.lt6⟩
theorem DSt.turn {w0 wx wy : World} {gs b1 g6 : Nat} {K K' b a : Int} {o : Opr} (h : DSt w0 gs K b1 b a g6 o wx) (hg : gs < w0.heap.size) (hs : Src wy gs K') (ho : Only gs (gs + 1) wx wy) : DSt w0 gs K' b1 b a g6 o wy :=
  ⟨hs, h.only.trans ho, h.res.only ho (by omega), h.nd.only ho (by have := h.lt1; omega), h.op.only ho (by have := h.lt6; omega), h.lt1, h.ne, h.lt6⟩
theorem DSt.tset {w0 wx : World} {gs b1 g6 g9 : Nat} {K b a : Int} {o : Opr} (h : DSt w0 gs K b1 b a g6 o wx) (hg : gs < w0.heap.size) (h0 : w0.heap.size < g9) (h1 : b1 ≠ g9) (h6 : g6 ≠ g9) (i : Nat) (u : Value) : DSt w0 gs K b1 b a g6 o (wx.setCell ⟨g9, i, none⟩ u) :=
  ⟨h.src.setNew (by omega) _ _, h.only.setNew (by omega) _ _, h.res.far (by omega) _ _, h.nd.far h1 _ _, h.op.far h6 _ _, h.lt1, h.ne, h.lt6⟩
theorem DSt.setK {w0 wx : World} {gs b1 g6 : Nat} {K b a : Int} {o : Opr} (h : DSt w0 gs K b1 b a g6 o wx) (hg : gs < w0.heap.size) (d : Int) : DSt w0 gs K b1 b a g6 { o with k := d } (wx.setCell ⟨g6, 0, none⟩ (.int .i64 d)) :=
  ⟨h.src.setNew (by have := h.lt6; omega) _ _, h.only.setNew (by have := h.lt6; omega) _ _, h.res.far (by have := h.lt6; omega) _ _, h.nd.far h.ne _ _, h.op.set (by simp) _, h.lt1, h.ne, h.lt6⟩
theorem DSt.setTo {w0 wx : World} {gs b1 g6 : Nat} {K b a : Int} {o : Opr} (h : DSt w0 gs K b1 b a g6 o wx) (hg : gs < w0.heap.size) (d e : Int) : DSt w0 gs K b1 b a g6 { o with tb := d, ta := e } ((wx.setCell ⟨g6, 4, none⟩ (.int .i64 d)).setCell ⟨g6, 5, none⟩ (.int .i64 e)) :=
  ⟨(h.src.setNew (by have := h.lt6; omega) _ _).setNew (by have := h.lt6; omega) _ _, (h.only.setNew (by have := h.lt6; omega) _ _).setNew (by have := h.lt6; omega) _ _, (h.res.far (by have := h.lt6; omega) _ _).far (by have := h.lt6; omega) _ _, (h.nd.far h.ne _ _).far h.ne _ _, (h.op.set (i := 4) (by simp) _).set (i := 5) (by simp) _, h.lt1, h.ne, h.lt6⟩
theorem DSt.op8 {w0 wx : World} {gs b1 g6 : Nat} {K b a : Int} {o : Opr} (h : DSt w0 gs K b1 b a g6 o wx) (hg : gs < w0.heap.size) (k d fb fa tb ta c r : Int) : DSt w0 gs K b1 b a g6 ⟨k, d, fb, fa, tb, ta, c, r⟩ (set8 wx g6 (.int .i64 k) (.int .i64 d) (.int .i64 fb) (.int .i64 fa) (.int .i64 tb) (.int .i64 ta) (.int .i64 c) (.int .i64 r)) :=
  ⟨h.src.set8 (by have := h.lt6; omega) _ _ _ _ _ _ _ _, h.only.set8 (by have := h.lt6; omega) _ _ _ _ _ _ _ _, h.res.far8 (by have := h.lt6; omega) _ _ _ _ _ _ _ _, h.nd.far8 h.ne _ _ _ _ _ _ _ _, h.op.set8 _ _ _ _ _ _ _ _, h.lt1, h.ne, h.lt6⟩
/-- An operation that was drawn. -/
def DrawnOp (w : World) (g : Nat) (K wd : Int) (e : Ending) (w' : World) : Prop := ∃ x : Opr, e = .returned x.v ∧ okOpW wd x = true ∧ Src w' g K ∧ Only g (g + 1) w w'
theorem MSt.only {w w' : World} {B g gs : Nat} {m : Mc} {S : Nat → Spot} (h : MSt w B g m S) (ho : Only gs (gs + 1) w w') (hg : gs < B) : MSt w' B g m S :=
  h.keep fun j q hq => ho.block q (h.sp.lt hq).2 (by have := (h.sp.lt hq).1; omega)
@[go_sem] def ldDrw : Oper := { dst := some 76, op := Op.load 2 (Operand.tmp 75), type := 2, pos := "l07_machine.go:400", after := #[{ on := 0, ground := Ground.data }], guard := none }
@[go_sem] def ixDrw : Oper := { dst := some 28, op := Op.indexAddr 37 (Operand.tmp 24) (Operand.tmp 27), type := 0, pos := "l07_machine.go:387", after := #[{ on := 3, ground := Ground.data }, { on := 6, ground := Ground.data }], guard := none }
set_option maxHeartbeats 40000000 in
set_option maxRecDepth 100000 in
theorem l07DrawOp_any {w : World} {B gm gs : Nat} {m : Mc} {S : Nat → Spot} {K : Int} (hS : Src w gs K) (hM : MSt w B gm m S) (hgB : gs < B) (hK : K + 20 ≤ 1000000000) (ok : okM m = true) :
    Calls Try.prog 65 #[.pointer (some ⟨gs, 0, none⟩), .pointer (some ⟨gm, 0, none⟩)] w (DrawnOp w gs (K + 20) m.wd) := by
  have hok := okM_iff.1 ok
  have HOK := Lib.hid hok
  have hwd := hok.wd
  have hgs := hS.lt
  have hgm := hM.size
  obtain ⟨x0, x1, x2, x3, x4, x5, x6⟩ := hM.cells.seven
  have HM := Lib.hid hM
  have HS := Lib.hid hS
  have hne : gs ≠ gm := by omega
  have HR := Lib.hid (Bx.new w zOp 55)
  have y0 : (w.alloc (.cells #[.int .i64 0, .int .i64 0, .int .i64 0, .int .i64 0, .int .i64 0, .int .i64 0, .int .i64 0, .int .i64 0] 55)).cell? ⟨gm, 0, none⟩ = some (.int .i64 m.wd) := ((Below.refl w.heap.size w).alloc (Nat.le_refl _) _).cell (p := ⟨gm, 0, none⟩) hgm.1 |>.trans x0
  clear hok ok hM hS x0 x1 x2 x3 x4 x5 x6
  go_enter Try.func65, Try.ntmps65
  go_wp2_with fail
  refine (l01DrawNeedle_any _ gs m.wd K (HS.out.alloc _) (by omega) hwd.1).mono ?_
  rintro e w1 ⟨b, a, rfl, hb, ha0, ha1, hs1, ho1⟩
  have S1 := Lib.hid (hs1.alloc (.cells #[.int .i64 b, .int .i64 a] 53))
  have O1 := Lib.hid (((Only.refl gs (gs + 1) w).alloc (.cells zOp.toArray 55)).trans ho1 |>.alloc (.cells #[.int .i64 b, .int .i64 a] 53))
  have R1 := Lib.hid ((HR.out.only ho1 (by omega)).alloc (.cells #[.int .i64 b, .int .i64 a] 53))
  have N1 := Lib.hid (Bx.new w1 [.int .i64 b, .int .i64 a] 53)
  have hz1 : w.heap.size < w1.heap.size := by have := ho1.size; rw [World.size_alloc] at this; exact this
  have hz2 : (w1.alloc (.cells #[.int .i64 b, .int .i64 a] 53)).heap.size = w1.heap.size + 1 := World.size_alloc _ _
  clear hs1 ho1 y0
  go_upto_region 2 with fail
  obtain ⟨b1, hb1⟩ : ∃ b1, b1 = w1.heap.size := ⟨_, rfl⟩
  rw [← hb1] at hz1 hz2 N1
  rw [← hb1]
  generalize w1.alloc (.cells #[.int .i64 b, .int .i64 a] 53) = W at *
  clear hb1
  have HQ : Hid (∀ X, Src X gs (K + 4) → Calls Try.prog 64 #[.pointer (some ⟨gs, 0, none⟩), .int .i64 2] X (Drawn X gs (K + 6) (PickOk 2))) := fun X hX => by have h9 := pick_any X gs 2 (K + 4) hX (by omega); rwa [show K + 4 + 2 = K + 6 by omega] at h9
  have HZ8 := Lib.hid (show Bx (W.alloc (.cells zOp.toArray 55)) (b1 + 1) zOp by rw [← hz2]; exact Bx.new W zOp 55)
  have HZ8d := Lib.hid (show Bx (W.drew.alloc (.cells zOp.toArray 55)) (b1 + 1) zOp by rw [← hz2]; exact Bx.new W.drew zOp 55)
  have hgW : gs < W.heap.size := by omega
  go_cut [6] (fun s6 wx => ∃ (g6 : Nat) (c : Int) (wy : World), wy = wx ∧ s6 = .pointer (some ⟨g6, 0, none⟩) ∧ (c = 1 ∨ c = 2) ∧ Hid (DSt w gs (K + 6) b1 b a g6 ⟨1, 0, b, a, 0, 0, c, 0⟩ wx))
  case first =>
    obtain ⟨n0, n1⟩ := N1.out.two
    have hfarb := far_cell (show b1 + 1 ≠ b1 by omega)
    go_region_held3 (fun w' => w'.cell? ⟨b1, 0, none⟩ = some (.int .i64 b) ∧ w'.cell? ⟨b1, 1, none⟩ = some (.int .i64 a))
      (first | with_reducible exact ⟨n0, n1⟩ | with_reducible exact ⟨p0, p1⟩ | (simp only [hfarb]; with_reducible exact ⟨p0, p1⟩) | go_keep)
      (first
        | (go_at_call 64; refine (HQ.out _ (by first | exact S1.out.drew | exact (S1.out.alloc _).drew)).mono ?_; rintro e w2 ⟨x, rfl, hx, hs2, ho2⟩; have hx2 : x = 0 ∨ x = 1 := (by (obtain ⟨h1, h2, -⟩ := hx; have := h2 (by omega); omega)); have nx := (Bx.only (by first | exact N1.out.drew | exact (N1.out.alloc _).drew) ho2 (by omega)); obtain ⟨p0, p1⟩ := nx.two; (try (have bz : Bx w2 (b1 + 1) zOp := (by first | exact HZ8.out.only ho2 (by omega) | exact HZ8.out.drew.only ho2 (by omega) | exact HZ8d.out.only ho2 (by omega)); obtain ⟨z0, z1, z2, z3, z4, z5, z6, z7⟩ := bz.eight; have zf := bz.2.1))))
    all_goals (go_wp2_with fail; go_meet)
    · rw [wrap12 hx2]
      have hz3 : W.heap.size ≤ w2.heap.size := ho2.size
      exact ⟨w2.heap.size, 1 + x, _, rfl, rfl, by omega, ⟨hs2.alloc _, ((only_drew O1.out).trans ho2).alloc _, (R1.out.drew.only ho2 (by omega)).alloc _, nx.alloc _, Bx.new w2 _ _, hz1, by omega, by omega⟩⟩
    · rw [wrap12 hx2]
      exact ⟨b1 + 1, 1 + x, _, rfl, rfl, by omega, ⟨hs2.set8 (by omega) _ _ _ _ _ _ _ _, ((only_drew (O1.out.alloc _)).trans ho2).set8 (by omega) _ _ _ _ _ _ _ _, ((R1.out.alloc _).drew.only ho2 (by omega)).far8 (by omega) _ _ _ _ _ _ _ _, nx.far8 (by omega) _ _ _ _ _ _ _ _, bz.set8 _ _ _ _ _ _ _ _, hz1, by omega, by omega⟩⟩
  case rest =>
    obtain ⟨g6, c, W2, hW2, rfl, hc, HD⟩ := hcut
    subst hW2
    have hM2 := HM.out.only HD.out.only hgB
    obtain ⟨x0, x1, x2, x3, x4, x5, x6⟩ := hM2.cells.seven
    have hm4 : m.cs.length = 4 := HOK.out.cs
    obtain ⟨bc, cp, hvc, hbB, hbC, hbw, hob, k0, k1, kf⟩ := hM2.cars c (by omega) (by omega)
    rw [hvc, hm4] at x4
    obtain ⟨o0, o1, o2, o3, o4, o5, o6, o7⟩ := HD.out.op.eight
    clear HZ8 HZ8d HQ S1 R1 N1 O1
    go_upto_region 3 with fail
    go_cut [7] (fun s7 wx => ∃ (g7 : Nat) (wy : World), wy = wx ∧ s7 = .pointer (some ⟨g7, 0, none⟩) ∧ Hid (DSt w gs (K + 6) b1 b a g6 ⟨1, 0, b, a, 0, 0, c, 0⟩ wx) ∧ Hid (Bx wx g7 [.bool (carAt m c).i, .int .i64 (carAt m c).p]) ∧ b1 < g7 ∧ g6 < g7)
    case first =>
      rcases hc with rfl | rfl
      · have k0' : W2.cell? ⟨bc, 0, none⟩ = some (.bool (carAt m 1).i) := k0
        have k1' : W2.cell? ⟨bc, 1, none⟩ = some (.int .i64 (carAt m 1).p) := k1
        clear k0 k1
        rw [show ({ dst := some 28, op := Op.indexAddr 37 (Operand.tmp 24) (Operand.tmp 27), type := 0, pos := "l07_machine.go:387", after := #[{ on := 3, ground := Ground.data }, { on := 6, ground := Ground.data }], guard := none } : Oper) = ixDrw from rfl]
        go_region_held3 (fun w' => w'.cell? ⟨gm, 4, none⟩ = some (.slice (some ⟨bc, 0, none⟩) 4 cp) ∧ w'.cell? ⟨g6, 6, none⟩ = some (.int .i64 1) ∧ w'.cell? ⟨bc, 0, none⟩ = some (.bool (carAt m 1).i) ∧ w'.cell? ⟨bc, 1, none⟩ = some (.int .i64 (carAt m 1).p))
          (first | with_reducible exact ⟨x4, o6, k0', k1'⟩ | go_keep) (fail)
        all_goals (go_wp2_with fail; go_meet)
        all_goals exact ⟨W2.heap.size, _, rfl, rfl, (HD.out.alloc _).drew, (Bx.new W2 _ _).drew, HD.out.nd.2.2, HD.out.op.2.2⟩
      · have k0' : W2.cell? ⟨bc, 2, none⟩ = some (.bool (carAt m 2).i) := k0
        have k1' : W2.cell? ⟨bc, 3, none⟩ = some (.int .i64 (carAt m 2).p) := k1
        clear k0 k1
        rw [show ({ dst := some 28, op := Op.indexAddr 37 (Operand.tmp 24) (Operand.tmp 27), type := 0, pos := "l07_machine.go:387", after := #[{ on := 3, ground := Ground.data }, { on := 6, ground := Ground.data }], guard := none } : Oper) = ixDrw from rfl]
        go_region_held3 (fun w' => w'.cell? ⟨gm, 4, none⟩ = some (.slice (some ⟨bc, 0, none⟩) 4 cp) ∧ w'.cell? ⟨g6, 6, none⟩ = some (.int .i64 2) ∧ w'.cell? ⟨bc, 2, none⟩ = some (.bool (carAt m 2).i) ∧ w'.cell? ⟨bc, 3, none⟩ = some (.int .i64 (carAt m 2).p))
          (first | with_reducible exact ⟨x4, o6, k0', k1'⟩ | go_keep) (fail)
        all_goals (go_wp2_with fail; go_meet)
        all_goals exact ⟨W2.heap.size, _, rfl, rfl, (HD.out.alloc _).drew, (Bx.new W2 _ _).drew, HD.out.nd.2.2, HD.out.op.2.2⟩
    case rest =>
      obtain ⟨g7, W3, hW3, rfl, HD3, HC3, hg71, hg72⟩ := hcut
      subst hW3
      have HD4 := Lib.hid (HD3.out.setD hgs (-1))
      have HC4 := Lib.hid (HC3.out.far (show g7 ≠ g6 by omega) 1 (.int .i64 (-1)))
      obtain ⟨s0, s1, s2, s3, s4, s5, s6, s7⟩ := HD3.out.op.eight
      have sf := HD3.out.op.2.1
      clear x0 x1 x2 x3 x4 x5 x6 o0 o1 o2 o3 o4 o5 o6 o7 k0 k1 kf HD
      go_upto_region 5 with fail
      generalize W3.setCell ⟨g6, 1, none⟩ (.int .i64 (-1)) = W4 at *
      clear s0 s1 s2 s3 s4 s5 s6 s7 sf HD3 HC3
      have hM4 := HM.out.only HD4.out.only hgB
      have x1 : ∀ X, (wgrow W4 X).cell? ⟨gm, 0 + 1, none⟩ = some (.int .i64 m.rk) := fun X => hM4.cells.grow X 1 _ rfl
      have n0 : ∀ X, (wgrow W4 X).cell? ⟨b1, 0 + 0, none⟩ = some (.int .i64 b) := fun X => HD4.out.nd.1.grow X 0 _ rfl
      have n1 : ∀ X, (wgrow W4 X).cell? ⟨b1, 0 + 1, none⟩ = some (.int .i64 a) := fun X => HD4.out.nd.1.grow X 1 _ rfl
      have c1 : ∀ X, (wgrow W4 X).cell? ⟨g7, 0 + 1, none⟩ = some (.int .i64 (carAt m c).p) := fun X => HC4.out.1.grow X 1 _ rfl
      have hrk := HOK.out.rk
      have HQP := Lib.hid (fun X => l07Place_any b a m.rk (by omega) (by omega) (by omega) (by omega) X)
      generalize plc b a m.rk = P at *
      clear hM4
      refine wp_region_grow (by kernel_rfl) (by kernel_rfl) ?_
      repeat (go_big_quiet_step ((go_at_call 21; exact calls_grow (HQP.out _))))
      refine wpQuiet_nil ?_
      intro w5 hb5
      have HD5 := Lib.hid (HD4.out.below hb5)
      have HC5 := Lib.hid (HC4.out.below hb5 HC4.out.2.2)
      clear hb5 x1 n0 n1 c1 HQP HD4 HC4
      go_upto_if 39 with fail
      go_cut [] (fun wx => ∃ (d : Int) (wy : World), wy = wx ∧ (d = 1 ∨ d = -1) ∧ Hid (DSt w gs (K + 6) b1 b a g6 ⟨1, d, b, a, 0, 0, c, 0⟩ wx) ∧ Hid (Bx wx g7 [.bool (carAt m c).i, .int .i64 (carAt m c).p]))
      case first =>
        by_cases hp : (carAt m c).p ≤ P
        · obtain ⟨s0, s1, s2, s3, s4, s5, s6, s7⟩ := HD5.out.op.eight
          have sf := HD5.out.op.2.1
          go_wp2_with fail
          go_meet
          exact ⟨1, _, rfl, .inl rfl, HD5.out.setD hgs 1, HC5.out.far (by omega) 1 _⟩
        · go_wp2_with fail
          go_meet
          exact ⟨-1, _, rfl, .inr rfl, HD5.out, HC5.out⟩
      case rest =>
        obtain ⟨d, W6, hW6, hd, HD6, HC6⟩ := hcut
        subst hW6
        clear HD5 HC5
        go_wp2_with fail
        refine (pick_any W6 gs 12 (K + 6) HD6.out.src (by omega)).mono ?_
        rintro e W7 ⟨x, rfl, hx, hs7, ho7⟩
        have hx0 : 0 ≤ x := hx.1
        have hx12 : x < 12 := hx.2.1 (by omega)
        rw [show K + 6 + 2 = K + 8 by omega] at hs7
        have HD7 := Lib.hid (HD6.out.turn hgs hs7 ho7)
        have HC7 := Lib.hid (HC6.out.only ho7 (by omega))
        clear hx hs7 ho7 HD6 HC6
        generalize (carAt m c).i = ci at *
        go_upto_region 8 with fail
        go_cut [49] (fun s49 wx => ∃ (q : Bool) (wy : World), wy = wx ∧ s49 = .bool q ∧ Hid (DSt w gs (K + 8) b1 b a g6 ⟨1, d, b, a, 0, 0, c, 0⟩ wx))
        case first =>
          obtain ⟨c0, c1⟩ := HC7.out.two
          cases ci
          · by_cases h6 : x < 6
            · go_wp2_with fail
              go_meet
              exact ⟨true, _, rfl, rfl, HD7.out⟩
            · go_wp2_with fail
              go_meet
              exact ⟨false, _, rfl, rfl, HD7.out⟩
          · go_wp2_with fail
            go_meet
            exact ⟨false, _, rfl, rfl, HD7.out⟩
        case rest =>
          obtain ⟨q, W8, hW8, rfl, HD8⟩ := hcut
          subst hW8
          clear HD7 HC7
          cases q
          · go_upto_region 10 with fail
            have hM8 := HM.out.only HD8.out.only hgB
            obtain ⟨x0, x1, x2, x3, x4, x5, x6⟩ := hM8.cells.seven
            obtain ⟨n0, n1⟩ := HD8.out.nd.two
            obtain ⟨hrk1, hrk2⟩ := HOK.out.rk
            obtain ⟨hwd1, hwd2⟩ := hwd
            have HOB := Lib.hid (fun X => otherBed_s b hb X)
            clear hM8 x0 x2 x3 x4 x5 x6
            go_cut [9] (fun s9 wx => ∃ (g9 : Nat) (wy : World), wy = wx ∧ s9 = .pointer (some ⟨g9, 0, none⟩) ∧ Hid (DSt w gs (K + 8) b1 b a g6 ⟨1, d, b, a, 0, 0, c, 0⟩ wx) ∧ Hid (Bx wx g9 [.int .i64 (3 - b), .int .i64 (a - m.rk)]) ∧ b1 < g9 ∧ g6 < g9)
            case first =>
              go_region_held3 (fun w' => w'.cell? ⟨b1, 0, none⟩ = some (.int .i64 b) ∧ w'.cell? ⟨b1, 1, none⟩ = some (.int .i64 a) ∧ w'.cell? ⟨gm, 1, none⟩ = some (.int .i64 m.rk))
                (first | with_reducible exact ⟨n0, n1, x1⟩ | go_keep)
                (first
                  | (go_at_call 82; refine (HOB.out _).mono ?_; rintro e w' ⟨rfl, rfl⟩))
              all_goals (go_wp2_with fail; go_meet)
              all_goals rw [wrap_sm (show -1000 ≤ a - m.rk by omega) (by omega)]
              all_goals exact ⟨W8.heap.size, _, rfl, rfl, (HD8.out.alloc _).drew, (Bx.new W8 _ _).drew, HD8.out.nd.2.2, HD8.out.op.2.2⟩
            case rest =>
              obtain ⟨g9, W9, hW9, rfl, HD9, HT9, hg91, hg92⟩ := hcut
              subst hW9
              clear HD8 x1 n0 n1 HOB
              have hM9 := HM.out.only HD9.out.only hgB
              obtain ⟨x0, x1, x2, x3, x4, x5, x6⟩ := hM9.cells.seven
              obtain ⟨n0, n1⟩ := HD9.out.nd.two
              obtain ⟨t0, t1⟩ := HT9.out.two
              have tf := HT9.out.2.1
              clear hM9 x0 x2 x3 x4 x5 x6
              go_upto_if 66 with fail
              go_cut [] (fun wx => ∃ (t : Int) (wy : World), wy = wx ∧ (-100 ≤ t ∧ t ≤ 100) ∧ Hid (DSt w gs (K + 8) b1 b a g6 ⟨1, d, b, a, 0, 0, c, 0⟩ wx) ∧ Hid (Bx wx g9 [.int .i64 (3 - b), .int .i64 t]))
              case first =>
                rcases hb with rfl | rfl
                · go_wp2_with fail
                  go_meet
                  exact ⟨a - m.rk, _, rfl, by omega, HD9.out, HT9.out⟩
                · have hfa := far_cell (show g9 ≠ b1 by omega)
                  have hfb := far_cell (show g9 ≠ gm by omega)
                  go_upto_region 12 with fail
                  go_region_held3 (fun w' => w'.cell? ⟨b1, 1, none⟩ = some (.int .i64 a) ∧ w'.cell? ⟨gm, 1, none⟩ = some (.int .i64 m.rk))
                    (first | with_reducible exact ⟨n1, x1⟩ | (simp only [drew_cell, hfa, hfb]; with_reducible exact ⟨n1, x1⟩) | go_keep) (fail)
                  all_goals (go_wp2_with fail; go_meet)
                  all_goals (try rw [wrap_sm (show -1000 ≤ a + m.rk by omega) (by omega)])
                  all_goals exact ⟨a + m.rk, _, rfl, by omega, HD9.out.drew.tset hgs (by omega) (by omega) (by omega) 1 _, HT9.out.drew.set (i := 1) (by simp) _⟩
              case rest =>
                obtain ⟨tt, W10, hW10, ⟨ht1, ht2⟩, HD10, HT10⟩ := hcut
                subst hW10
                clear HD9 HT9 x1 n0 n1
                have hM10 := HM.out.only HD10.out.only hgB
                obtain ⟨x0, x1, x2, x3, x4, x5, x6⟩ := hM10.cells.seven
                obtain ⟨t0, t1⟩ := HT10.out.two
                have tf := HT10.out.2.1
                clear hM10 x1 x2 x3 x4 x5 x6
                have HMI := Lib.hid (fun X => l00Min_e tt (m.wd - 1) X)
                have HMA := Lib.hid (fun X => l00Max_s 0 (min tt (m.wd - 1)) X)
                go_upto_region 13 with fail
                go_cut [] (fun wx => ∃ (t : Int) (wy : World), wy = wx ∧ (0 ≤ t ∧ t < m.wd) ∧ Hid (DSt w gs (K + 8) b1 b a g6 ⟨1, d, b, a, 0, 0, c, 0⟩ wx) ∧ Hid (Bx wx g9 [.int .i64 (3 - b), .int .i64 t]))
                case first =>
                  have hfb := far_cell (show g9 ≠ gm by omega)
                  rw [show ({ dst := some 76, op := Op.load 2 (Operand.tmp 75), type := 2, pos := "l07_machine.go:400", after := #[{ on := 0, ground := Ground.data }], guard := none } : Oper) = ldDrw from rfl]
                  go_region_held3 (fun w' => w'.cell? ⟨gm, 0, none⟩ = some (.int .i64 m.wd))
                    (first | with_reducible exact x0 | (simp only [drew_cell, hfb]; with_reducible exact x0) | go_keep)
                    (first
                      | (go_at_call 84; (try rw [wrap_sm (show -1000 ≤ m.wd - 1 by omega) (by omega)]); refine (HMI.out _).mono ?_; rintro e w' ⟨rfl, rfl⟩)
                      | (go_at_call 83; refine (HMA.out _).mono ?_; rintro e w' ⟨rfl, rfl⟩))
                  all_goals (go_wp2_with fail; go_meet)
                  all_goals exact ⟨max 0 (min tt (m.wd - 1)), _, rfl, by omega, (HD10.out.tset hgs (by omega) (by omega) (by omega) 1 _).drew, (HT10.out.set (i := 1) (by simp) _).drew⟩
                case rest =>
                  obtain ⟨t, W11, hW11, ⟨ht3, ht4⟩, HD11, HT11⟩ := hcut
                  subst hW11
                  clear HD10 HT10 t0 t1 tf x0 HMI HMA
                  obtain ⟨n0, n1⟩ := HD11.out.nd.two
                  obtain ⟨t0, t1⟩ := HT11.out.two
                  obtain ⟨o0, o1, o2, o3, o4, o5, o6, o7⟩ := HD11.out.op.eight
                  have of := HD11.out.op.2.1
                  have hfar69 := far_cell (show g6 ≠ g9 by omega)
                  have hlt6 := HD11.out.lt6
                  have hx : x = 0 ∨ x = 1 ∨ x = 2 ∨ x = 3 ∨ x = 4 ∨ x = 5 ∨ x = 6 ∨ x = 7 ∨ x = 8 ∨ x = 9 ∨ x = 10 ∨ x = 11 := by omega
                  clear hx0 hx12
                  rcases hx with rfl | rfl | rfl | rfl | rfl | rfl | rfl | rfl | rfl | rfl | rfl | rfl
                  · go_upto_region 33 with fail
                    obtain ⟨o0, o1, o2, o3, o4, o5, o6, o7⟩ := HD11.out.op.eight
                    obtain ⟨r0, r1, r2, r3, r4, r5, r6, r7⟩ := HD11.out.res.eight
                    have rf := HD11.out.res.2.1
                    generalize W11 = WF at *
                    go_wp2
                    refine bodyPost_ret (v := Opr.v ⟨1, d, b, a, 0, 0, c, 0⟩) (by simp [results, Try.results65, go_sem, r0, r1, r2, r3, r4, r5, r6, r7, World.cell?_setCell_other]) rfl ?_
                    exact ⟨⟨1, d, b, a, 0, 0, c, 0⟩, rfl, ok_form (.inl rfl) hd hb ha0 ha1 hwd2 hc, (HD11.out.src.set8 hgs _ _ _ _ _ _ _ _).more (by omega) hK, HD11.out.only.set8 (Nat.le_refl _) _ _ _ _ _ _ _ _⟩
                  · go_upto_region 33 with fail
                    obtain ⟨o0, o1, o2, o3, o4, o5, o6, o7⟩ := HD11.out.op.eight
                    obtain ⟨r0, r1, r2, r3, r4, r5, r6, r7⟩ := HD11.out.res.eight
                    have rf := HD11.out.res.2.1
                    generalize W11 = WF at *
                    go_wp2
                    refine bodyPost_ret (v := Opr.v ⟨1, d, b, a, 0, 0, c, 0⟩) (by simp [results, Try.results65, go_sem, r0, r1, r2, r3, r4, r5, r6, r7, World.cell?_setCell_other]) rfl ?_
                    exact ⟨⟨1, d, b, a, 0, 0, c, 0⟩, rfl, ok_form (.inl rfl) hd hb ha0 ha1 hwd2 hc, (HD11.out.src.set8 hgs _ _ _ _ _ _ _ _).more (by omega) hK, HD11.out.only.set8 (Nat.le_refl _) _ _ _ _ _ _ _ _⟩
                  · go_upto_region 33 with fail
                    obtain ⟨o0, o1, o2, o3, o4, o5, o6, o7⟩ := HD11.out.op.eight
                    obtain ⟨r0, r1, r2, r3, r4, r5, r6, r7⟩ := HD11.out.res.eight
                    have rf := HD11.out.res.2.1
                    generalize W11 = WF at *
                    go_wp2
                    refine bodyPost_ret (v := Opr.v ⟨1, d, b, a, 0, 0, c, 0⟩) (by simp [results, Try.results65, go_sem, r0, r1, r2, r3, r4, r5, r6, r7, World.cell?_setCell_other]) rfl ?_
                    exact ⟨⟨1, d, b, a, 0, 0, c, 0⟩, rfl, ok_form (.inl rfl) hd hb ha0 ha1 hwd2 hc, (HD11.out.src.set8 hgs _ _ _ _ _ _ _ _).more (by omega) hK, HD11.out.only.set8 (Nat.le_refl _) _ _ _ _ _ _ _ _⟩
                  · have HF := Lib.hid (HD11.out.setK hgs 2)
                    go_upto_region 33 with fail
                    clear o0 o1 o2 o3 o4 o5 o6 o7 of
                    obtain ⟨o0, o1, o2, o3, o4, o5, o6, o7⟩ := HF.out.op.eight
                    obtain ⟨r0, r1, r2, r3, r4, r5, r6, r7⟩ := HF.out.res.eight
                    have rf := HF.out.res.2.1
                    generalize W11.setCell ⟨g6, 0, none⟩ (.int .i64 2) = WF at *
                    go_wp2
                    refine bodyPost_ret (v := Opr.v ⟨2, d, b, a, 0, 0, c, 0⟩) (by simp [results, Try.results65, go_sem, r0, r1, r2, r3, r4, r5, r6, r7, World.cell?_setCell_other]) rfl ?_
                    exact ⟨⟨2, d, b, a, 0, 0, c, 0⟩, rfl, ok_form (by omega) hd hb ha0 ha1 hwd2 hc, (HF.out.src.set8 hgs _ _ _ _ _ _ _ _).more (by omega) hK, HF.out.only.set8 (Nat.le_refl _) _ _ _ _ _ _ _ _⟩
                  · have HF := Lib.hid (HD11.out.setK hgs 3)
                    go_upto_region 33 with fail
                    clear o0 o1 o2 o3 o4 o5 o6 o7 of
                    obtain ⟨o0, o1, o2, o3, o4, o5, o6, o7⟩ := HF.out.op.eight
                    obtain ⟨r0, r1, r2, r3, r4, r5, r6, r7⟩ := HF.out.res.eight
                    have rf := HF.out.res.2.1
                    generalize W11.setCell ⟨g6, 0, none⟩ (.int .i64 3) = WF at *
                    go_wp2
                    refine bodyPost_ret (v := Opr.v ⟨3, d, b, a, 0, 0, c, 0⟩) (by simp [results, Try.results65, go_sem, r0, r1, r2, r3, r4, r5, r6, r7, World.cell?_setCell_other]) rfl ?_
                    exact ⟨⟨3, d, b, a, 0, 0, c, 0⟩, rfl, ok_form (by omega) hd hb ha0 ha1 hwd2 hc, (HF.out.src.set8 hgs _ _ _ _ _ _ _ _).more (by omega) hK, HF.out.only.set8 (Nat.le_refl _) _ _ _ _ _ _ _ _⟩
                  · have HF := Lib.hid (((HD11.out.setK hgs 5).setTo hgs (3 - b) t))
                    go_upto_region 33 with fail
                    clear o0 o1 o2 o3 o4 o5 o6 o7 of
                    obtain ⟨o0, o1, o2, o3, o4, o5, o6, o7⟩ := HF.out.op.eight
                    obtain ⟨r0, r1, r2, r3, r4, r5, r6, r7⟩ := HF.out.res.eight
                    have rf := HF.out.res.2.1
                    generalize ((W11.setCell ⟨g6, 0, none⟩ (.int .i64 5)).setCell ⟨g6, 4, none⟩ (.int .i64 (3 - b))).setCell ⟨g6, 5, none⟩ (.int .i64 t) = WF at *
                    go_wp2
                    refine bodyPost_ret (v := Opr.v ⟨5, d, b, a, 3 - b, t, c, 0⟩) (by simp [results, Try.results65, go_sem, r0, r1, r2, r3, r4, r5, r6, r7, World.cell?_setCell_other]) rfl ?_
                    exact ⟨⟨5, d, b, a, 3 - b, t, c, 0⟩, rfl, ok_split hd hb ha0 ha1 hwd2 ht3 ht4 hc, (HF.out.src.set8 hgs _ _ _ _ _ _ _ _).more (by omega) hK, HF.out.only.set8 (Nat.le_refl _) _ _ _ _ _ _ _ _⟩
                  · have HF : Hid (DSt w gs (K + 8) b1 b a g6 ⟨4, 0, b, a, 3 - b, t, 0, 0⟩ ((((((((W11.setCell ⟨g6, 0, none⟩ (.int .i64 4)).setCell ⟨g6, 1, none⟩ (.int .i64 0)).setCell ⟨g6, 2, none⟩ (.int .i64 b)).setCell ⟨g6, 3, none⟩ (.int .i64 a)).setCell ⟨g6, 4, none⟩ (.int .i64 (3 - b))).setCell ⟨g6, 5, none⟩ (.int .i64 t)).setCell ⟨g6, 6, none⟩ (.int .i64 0)).setCell ⟨g6, 7, none⟩ (.int .i64 0))) := HD11.out.op8 hgs 4 0 b a (3 - b) t 0 0
                    go_upto_region 33 with fail
                    clear o0 o1 o2 o3 o4 o5 o6 o7 of
                    obtain ⟨o0, o1, o2, o3, o4, o5, o6, o7⟩ := HF.out.op.eight
                    obtain ⟨r0, r1, r2, r3, r4, r5, r6, r7⟩ := HF.out.res.eight
                    have rf := HF.out.res.2.1
                    generalize (((((((W11.setCell ⟨g6, 0, none⟩ (.int .i64 4)).setCell ⟨g6, 1, none⟩ (.int .i64 0)).setCell ⟨g6, 2, none⟩ (.int .i64 b)).setCell ⟨g6, 3, none⟩ (.int .i64 a)).setCell ⟨g6, 4, none⟩ (.int .i64 (3 - b))).setCell ⟨g6, 5, none⟩ (.int .i64 t)).setCell ⟨g6, 6, none⟩ (.int .i64 0)).setCell ⟨g6, 7, none⟩ (.int .i64 0) = WF at *
                    go_wp2
                    refine bodyPost_ret (v := Opr.v ⟨4, 0, b, a, 3 - b, t, 0, 0⟩) (by simp [results, Try.results65, go_sem, r0, r1, r2, r3, r4, r5, r6, r7, World.cell?_setCell_other]) rfl ?_
                    exact ⟨⟨4, 0, b, a, 3 - b, t, 0, 0⟩, rfl, ok_xfer hb ha0 ha1 hwd2 ht3 ht4, (HF.out.src.set8 hgs _ _ _ _ _ _ _ _).more (by omega) hK, HF.out.only.set8 (Nat.le_refl _) _ _ _ _ _ _ _ _⟩
                  · have HF : Hid (DSt w gs (K + 8) b1 b a g6 ⟨4, 0, b, a, 3 - b, t, 0, 0⟩ ((((((((W11.setCell ⟨g6, 0, none⟩ (.int .i64 4)).setCell ⟨g6, 1, none⟩ (.int .i64 0)).setCell ⟨g6, 2, none⟩ (.int .i64 b)).setCell ⟨g6, 3, none⟩ (.int .i64 a)).setCell ⟨g6, 4, none⟩ (.int .i64 (3 - b))).setCell ⟨g6, 5, none⟩ (.int .i64 t)).setCell ⟨g6, 6, none⟩ (.int .i64 0)).setCell ⟨g6, 7, none⟩ (.int .i64 0))) := HD11.out.op8 hgs 4 0 b a (3 - b) t 0 0
                    go_upto_region 33 with fail
                    clear o0 o1 o2 o3 o4 o5 o6 o7 of
                    obtain ⟨o0, o1, o2, o3, o4, o5, o6, o7⟩ := HF.out.op.eight
                    obtain ⟨r0, r1, r2, r3, r4, r5, r6, r7⟩ := HF.out.res.eight
                    have rf := HF.out.res.2.1
                    generalize (((((((W11.setCell ⟨g6, 0, none⟩ (.int .i64 4)).setCell ⟨g6, 1, none⟩ (.int .i64 0)).setCell ⟨g6, 2, none⟩ (.int .i64 b)).setCell ⟨g6, 3, none⟩ (.int .i64 a)).setCell ⟨g6, 4, none⟩ (.int .i64 (3 - b))).setCell ⟨g6, 5, none⟩ (.int .i64 t)).setCell ⟨g6, 6, none⟩ (.int .i64 0)).setCell ⟨g6, 7, none⟩ (.int .i64 0) = WF at *
                    go_wp2
                    refine bodyPost_ret (v := Opr.v ⟨4, 0, b, a, 3 - b, t, 0, 0⟩) (by simp [results, Try.results65, go_sem, r0, r1, r2, r3, r4, r5, r6, r7, World.cell?_setCell_other]) rfl ?_
                    exact ⟨⟨4, 0, b, a, 3 - b, t, 0, 0⟩, rfl, ok_xfer hb ha0 ha1 hwd2 ht3 ht4, (HF.out.src.set8 hgs _ _ _ _ _ _ _ _).more (by omega) hK, HF.out.only.set8 (Nat.le_refl _) _ _ _ _ _ _ _ _⟩
                  · have HF : Hid (DSt w gs (K + 8) b1 b a g6 ⟨4, 0, b, a, 3 - b, t, 0, 0⟩ ((((((((W11.setCell ⟨g6, 0, none⟩ (.int .i64 4)).setCell ⟨g6, 1, none⟩ (.int .i64 0)).setCell ⟨g6, 2, none⟩ (.int .i64 b)).setCell ⟨g6, 3, none⟩ (.int .i64 a)).setCell ⟨g6, 4, none⟩ (.int .i64 (3 - b))).setCell ⟨g6, 5, none⟩ (.int .i64 t)).setCell ⟨g6, 6, none⟩ (.int .i64 0)).setCell ⟨g6, 7, none⟩ (.int .i64 0))) := HD11.out.op8 hgs 4 0 b a (3 - b) t 0 0
                    go_upto_region 33 with fail
                    clear o0 o1 o2 o3 o4 o5 o6 o7 of
                    obtain ⟨o0, o1, o2, o3, o4, o5, o6, o7⟩ := HF.out.op.eight
                    obtain ⟨r0, r1, r2, r3, r4, r5, r6, r7⟩ := HF.out.res.eight
                    have rf := HF.out.res.2.1
                    generalize (((((((W11.setCell ⟨g6, 0, none⟩ (.int .i64 4)).setCell ⟨g6, 1, none⟩ (.int .i64 0)).setCell ⟨g6, 2, none⟩ (.int .i64 b)).setCell ⟨g6, 3, none⟩ (.int .i64 a)).setCell ⟨g6, 4, none⟩ (.int .i64 (3 - b))).setCell ⟨g6, 5, none⟩ (.int .i64 t)).setCell ⟨g6, 6, none⟩ (.int .i64 0)).setCell ⟨g6, 7, none⟩ (.int .i64 0) = WF at *
                    go_wp2
                    refine bodyPost_ret (v := Opr.v ⟨4, 0, b, a, 3 - b, t, 0, 0⟩) (by simp [results, Try.results65, go_sem, r0, r1, r2, r3, r4, r5, r6, r7, World.cell?_setCell_other]) rfl ?_
                    exact ⟨⟨4, 0, b, a, 3 - b, t, 0, 0⟩, rfl, ok_xfer hb ha0 ha1 hwd2 ht3 ht4, (HF.out.src.set8 hgs _ _ _ _ _ _ _ _).more (by omega) hK, HF.out.only.set8 (Nat.le_refl _) _ _ _ _ _ _ _ _⟩
                  · go_wp2_with fail
                    refine (pick_any W11 gs 5 (K + 8) HD11.out.src (by omega)).mono ?_
                    rintro e W12 ⟨r, rfl, hr, hs12, ho12⟩
                    have hr0 : 0 ≤ r := hr.1
                    have hr5 : r < 5 := hr.2.1 (by omega)
                    have HD12 := Lib.hid (HD11.out.turn hgs hs12 ho12)
                    clear hr hs12 ho12 o0 o1 o2 o3 o4 o5 o6 o7 of n0 n1 t0 t1
                    obtain ⟨o0, o1, o2, o3, o4, o5, o6, o7⟩ := HD12.out.op.eight
                    have of := HD12.out.op.2.1
                    have HF : Hid (DSt w gs (K + 8 + 2) b1 b a g6 ⟨7, 0, 0, 0, 0, 0, 0, r - 2⟩ ((((((((W12.setCell ⟨g6, 0, none⟩ (.int .i64 7)).setCell ⟨g6, 1, none⟩ (.int .i64 0)).setCell ⟨g6, 2, none⟩ (.int .i64 0)).setCell ⟨g6, 3, none⟩ (.int .i64 0)).setCell ⟨g6, 4, none⟩ (.int .i64 0)).setCell ⟨g6, 5, none⟩ (.int .i64 0)).setCell ⟨g6, 6, none⟩ (.int .i64 0)).setCell ⟨g6, 7, none⟩ (.int .i64 (r - 2)))) := HD12.out.op8 hgs 7 0 0 0 0 0 0 (r - 2)
                    go_upto_region 33 with fail
                    clear o0 o1 o2 o3 o4 o5 o6 o7 of
                    obtain ⟨o0, o1, o2, o3, o4, o5, o6, o7⟩ := HF.out.op.eight
                    obtain ⟨r0, r1, r2, r3, r4, r5, r6, r7⟩ := HF.out.res.eight
                    have rf := HF.out.res.2.1
                    generalize (((((((W12.setCell ⟨g6, 0, none⟩ (.int .i64 7)).setCell ⟨g6, 1, none⟩ (.int .i64 0)).setCell ⟨g6, 2, none⟩ (.int .i64 0)).setCell ⟨g6, 3, none⟩ (.int .i64 0)).setCell ⟨g6, 4, none⟩ (.int .i64 0)).setCell ⟨g6, 5, none⟩ (.int .i64 0)).setCell ⟨g6, 6, none⟩ (.int .i64 0)).setCell ⟨g6, 7, none⟩ (.int .i64 (r - 2)) = WF at *
                    go_wp2
                    refine bodyPost_ret (v := Opr.v ⟨7, 0, 0, 0, 0, 0, 0, r - 2⟩) (by simp [results, Try.results65, go_sem, r0, r1, r2, r3, r4, r5, r6, r7, World.cell?_setCell_other]) rfl ?_
                    exact ⟨⟨7, 0, 0, 0, 0, 0, 0, r - 2⟩, rfl, ok_rack (by omega) (by omega) hwd1, (HF.out.src.set8 hgs _ _ _ _ _ _ _ _).more (by omega) hK, HF.out.only.set8 (Nat.le_refl _) _ _ _ _ _ _ _ _⟩
                  · go_wp2_with fail
                    refine (pick_any W11 gs 5 (K + 8) HD11.out.src (by omega)).mono ?_
                    rintro e W12 ⟨r, rfl, hr, hs12, ho12⟩
                    have hr0 : 0 ≤ r := hr.1
                    have hr5 : r < 5 := hr.2.1 (by omega)
                    have HD12 := Lib.hid (HD11.out.turn hgs hs12 ho12)
                    clear hr hs12 ho12 o0 o1 o2 o3 o4 o5 o6 o7 of n0 n1 t0 t1
                    obtain ⟨o0, o1, o2, o3, o4, o5, o6, o7⟩ := HD12.out.op.eight
                    have of := HD12.out.op.2.1
                    have HF : Hid (DSt w gs (K + 8 + 2) b1 b a g6 ⟨7, 0, 0, 0, 0, 0, 0, r - 2⟩ ((((((((W12.setCell ⟨g6, 0, none⟩ (.int .i64 7)).setCell ⟨g6, 1, none⟩ (.int .i64 0)).setCell ⟨g6, 2, none⟩ (.int .i64 0)).setCell ⟨g6, 3, none⟩ (.int .i64 0)).setCell ⟨g6, 4, none⟩ (.int .i64 0)).setCell ⟨g6, 5, none⟩ (.int .i64 0)).setCell ⟨g6, 6, none⟩ (.int .i64 0)).setCell ⟨g6, 7, none⟩ (.int .i64 (r - 2)))) := HD12.out.op8 hgs 7 0 0 0 0 0 0 (r - 2)
                    go_upto_region 33 with fail
                    clear o0 o1 o2 o3 o4 o5 o6 o7 of
                    obtain ⟨o0, o1, o2, o3, o4, o5, o6, o7⟩ := HF.out.op.eight
                    obtain ⟨r0, r1, r2, r3, r4, r5, r6, r7⟩ := HF.out.res.eight
                    have rf := HF.out.res.2.1
                    generalize (((((((W12.setCell ⟨g6, 0, none⟩ (.int .i64 7)).setCell ⟨g6, 1, none⟩ (.int .i64 0)).setCell ⟨g6, 2, none⟩ (.int .i64 0)).setCell ⟨g6, 3, none⟩ (.int .i64 0)).setCell ⟨g6, 4, none⟩ (.int .i64 0)).setCell ⟨g6, 5, none⟩ (.int .i64 0)).setCell ⟨g6, 6, none⟩ (.int .i64 0)).setCell ⟨g6, 7, none⟩ (.int .i64 (r - 2)) = WF at *
                    go_wp2
                    refine bodyPost_ret (v := Opr.v ⟨7, 0, 0, 0, 0, 0, 0, r - 2⟩) (by simp [results, Try.results65, go_sem, r0, r1, r2, r3, r4, r5, r6, r7, World.cell?_setCell_other]) rfl ?_
                    exact ⟨⟨7, 0, 0, 0, 0, 0, 0, r - 2⟩, rfl, ok_rack (by omega) (by omega) hwd1, (HF.out.src.set8 hgs _ _ _ _ _ _ _ _).more (by omega) hK, HF.out.only.set8 (Nat.le_refl _) _ _ _ _ _ _ _ _⟩
                  · have HD12 : Hid (DSt w gs (K + 8) b1 b a g6 ⟨6, 0, b, a, 0, 0, 0, 0⟩ ((((((((W11.setCell ⟨g6, 0, none⟩ (.int .i64 6)).setCell ⟨g6, 1, none⟩ (.int .i64 0)).setCell ⟨g6, 2, none⟩ (.int .i64 b)).setCell ⟨g6, 3, none⟩ (.int .i64 a)).setCell ⟨g6, 4, none⟩ (.int .i64 0)).setCell ⟨g6, 5, none⟩ (.int .i64 0)).setCell ⟨g6, 6, none⟩ (.int .i64 0)).setCell ⟨g6, 7, none⟩ (.int .i64 0))) := HD11.out.op8 hgs 6 0 b a 0 0 0 0
                    go_wp2_with fail
                    clear o0 o1 o2 o3 o4 o5 o6 o7 of n0 n1 t0 t1
                    generalize (((((((W11.setCell ⟨g6, 0, none⟩ (.int .i64 6)).setCell ⟨g6, 1, none⟩ (.int .i64 0)).setCell ⟨g6, 2, none⟩ (.int .i64 b)).setCell ⟨g6, 3, none⟩ (.int .i64 a)).setCell ⟨g6, 4, none⟩ (.int .i64 0)).setCell ⟨g6, 5, none⟩ (.int .i64 0)).setCell ⟨g6, 6, none⟩ (.int .i64 0)).setCell ⟨g6, 7, none⟩ (.int .i64 0) = W12 at *
                    refine (one_any W12 gs 4 (K + 8) HD12.out.src (by omega)).mono ?_
                    rintro e W13 ⟨q, rfl, hs13, ho13⟩
                    have HD13 := Lib.hid (HD12.out.turn hgs hs13 ho13)
                    clear hs13 ho13 HD12
                    cases q
                    · go_upto_region 33 with fail
                      obtain ⟨o0, o1, o2, o3, o4, o5, o6, o7⟩ := HD13.out.op.eight
                      obtain ⟨r0, r1, r2, r3, r4, r5, r6, r7⟩ := HD13.out.res.eight
                      have rf := HD13.out.res.2.1
                      generalize W13 = WF at *
                      go_wp2
                      refine bodyPost_ret (v := Opr.v ⟨6, 0, b, a, 0, 0, 0, 0⟩) (by simp [results, Try.results65, go_sem, r0, r1, r2, r3, r4, r5, r6, r7, World.cell?_setCell_other]) rfl ?_
                      exact ⟨⟨6, 0, b, a, 0, 0, 0, 0⟩, rfl, ok_drop hb ha0 ha1 hwd2, (HD13.out.src.set8 hgs _ _ _ _ _ _ _ _).more (by omega) hK, HD13.out.only.set8 (Nat.le_refl _) _ _ _ _ _ _ _ _⟩
                    · go_wp2_with fail
                      refine (pick_any W13 gs 2 (K + 8 + 2) HD13.out.src (by omega)).mono ?_
                      rintro e W14 ⟨r, rfl, hr, hs14, ho14⟩
                      have hr0 : 0 ≤ r := hr.1
                      have hr5 : r < 2 := hr.2.1 (by omega)
                      have HD14 := Lib.hid (HD13.out.turn hgs hs14 ho14)
                      clear hr hs14 ho14
                      obtain ⟨o0, o1, o2, o3, o4, o5, o6, o7⟩ := HD14.out.op.eight
                      have of := HD14.out.op.2.1
                      have HF : Hid (DSt w gs (K + 8 + 2 + 2) b1 b a g6 ⟨9, 0, 0, 0, 0, 0, 1 + r, 0⟩ ((((((((W14.setCell ⟨g6, 0, none⟩ (.int .i64 9)).setCell ⟨g6, 1, none⟩ (.int .i64 0)).setCell ⟨g6, 2, none⟩ (.int .i64 0)).setCell ⟨g6, 3, none⟩ (.int .i64 0)).setCell ⟨g6, 4, none⟩ (.int .i64 0)).setCell ⟨g6, 5, none⟩ (.int .i64 0)).setCell ⟨g6, 6, none⟩ (.int .i64 (1 + r))).setCell ⟨g6, 7, none⟩ (.int .i64 0))) := HD14.out.op8 hgs 9 0 0 0 0 0 (1 + r) 0
                      go_upto_region 33 with fail
                      clear o0 o1 o2 o3 o4 o5 o6 o7 of
                      obtain ⟨o0, o1, o2, o3, o4, o5, o6, o7⟩ := HF.out.op.eight
                      obtain ⟨r0, r1, r2, r3, r4, r5, r6, r7⟩ := HF.out.res.eight
                      have rf := HF.out.res.2.1
                      generalize (((((((W14.setCell ⟨g6, 0, none⟩ (.int .i64 9)).setCell ⟨g6, 1, none⟩ (.int .i64 0)).setCell ⟨g6, 2, none⟩ (.int .i64 0)).setCell ⟨g6, 3, none⟩ (.int .i64 0)).setCell ⟨g6, 4, none⟩ (.int .i64 0)).setCell ⟨g6, 5, none⟩ (.int .i64 0)).setCell ⟨g6, 6, none⟩ (.int .i64 (1 + r))).setCell ⟨g6, 7, none⟩ (.int .i64 0) = WF at *
                      go_wp2
                      refine bodyPost_ret (v := Opr.v ⟨9, 0, 0, 0, 0, 0, 1 + r, 0⟩) (by simp [results, Try.results65, go_sem, r0, r1, r2, r3, r4, r5, r6, r7, World.cell?_setCell_other]) rfl ?_
                      exact ⟨⟨9, 0, 0, 0, 0, 0, 1 + r, 0⟩, rfl, ok_out (by omega) hwd1, (HF.out.src.set8 hgs _ _ _ _ _ _ _ _).more (by omega) hK, HF.out.only.set8 (Nat.le_refl _) _ _ _ _ _ _ _ _⟩
          · obtain ⟨r0, r1, r2, r3, r4, r5, r6, r7⟩ := HD8.out.res.eight
            have rf := HD8.out.res.2.1
            obtain ⟨o0, o1, o2, o3, o4, o5, o6, o7⟩ := HD8.out.op.eight
            go_wp2
            refine bodyPost_ret (v := Opr.v ⟨8, 1, 0, 0, 0, 0, c, 0⟩) (by simp [results, Try.results65, go_sem, r0, r1, r2, r3, r4, r5, r6, r7, World.cell?_setCell_other]) rfl ?_
            exact ⟨⟨8, 1, 0, 0, 0, 0, c, 0⟩, rfl, ok_in hc hwd.1, (HD8.out.src.set8 hgs _ _ _ _ _ _ _ _).more (by omega) hK, HD8.out.only.set8 (Nat.le_refl _) _ _ _ _ _ _ _ _⟩

end Go.Proofs.Ytolcgopfbbmjgaa

/-
  A machine in another box: a copy of its header into a new block, or over the header of another machine.
-/
namespace Go.Proofs.Ytolcgopfbbmjgaa
set_option linter.unusedVariables false
set_option linter.unusedSimpArgs false
open Go.RowKit

section
variable {w w' : World} {B B' g : Nat} {m : Mc} {S : Nat → Spot}
/-- The same rows under another header, which stands in a box of its own. -/
theorem MSt.boxed (h : MSt w B g m S) {b : Nat} (hs : SpotsT w' B' (putS S 0 ⟨41, 7, .slice (some ⟨b, 0, none⟩) 1 1, 1, [.int .i64 m.wd, .int .i64 m.rk, (S 1).v, (S 2).v, (S 3).v, (S 4).v, (S 5).v]⟩)) :
    MSt w' B' b m (putS S 0 ⟨41, 7, .slice (some ⟨b, 0, none⟩) 1 1, 1, [.int .i64 m.wd, .int .i64 m.rk, (S 1).v, (S 2).v, (S 3).v, (S 4).v, (S 5).v]⟩) := by
  have ev : ∀ j, j ≠ 0 → (putS S 0 ⟨41, 7, .slice (some ⟨b, 0, none⟩) 1 1, 1, [.int .i64 m.wd, .int .i64 m.rk, (S 1).v, (S 2).v, (S 3).v, (S 4).v, (S 5).v]⟩) j = S j := fun j h1 => putS_ne h1
  refine ⟨hs, ?_, ?_, ?_, ?_, ?_, ?_, fun j l hl => ?_, fun j l hl => ?_, fun j x hx => ?_⟩
  · rw [putS_same, ev 1 (by omega), ev 2 (by omega), ev 3 (by omega), ev 4 (by omega), ev 5 (by omega)]
  · rw [ev 1 (by omega)]
    obtain ⟨xs, e, hx⟩ := h.fr
    exact ⟨xs, e, fun j hj => by rw [ev _ (by unfold iF; omega)]; exact hx j hj⟩
  · rw [ev 2 (by omega)]
    obtain ⟨xs, e, hx⟩ := h.bk
    exact ⟨xs, e, fun j hj => by rw [ev _ (by unfold iB; omega)]; exact hx j hj⟩
  · rw [ev 3 (by omega)]; exact h.cs
  · rw [ev 4 (by omega)]
    obtain ⟨xs, e, hx⟩ := h.ls
    exact ⟨xs, e, fun k x hk j u hu => hx k x hk j u (by rw [ev _ (by unfold iP; omega)] at hu; exact hu)⟩
  · rw [ev 5 (by omega)]; exact h.dr
  · rw [ev _ (by unfold iF; omega)]; exact h.fl j l hl
  · rw [ev _ (by unfold iB; omega)]; exact h.bl j l hl
  · rw [ev _ (by unfold iP; omega)]; exact h.pl j x hx
/-- A copy of the header into a new block. -/
theorem MSt.rebox (h : MSt w B g m S) (hB : B ≤ w.heap.size) :
    ∃ S', MSt (w.alloc (.cells (mcV m.wd m.rk (S 1).v (S 2).v (S 3).v (S 4).v (S 5).v) 41)) B w.heap.size m S' ∧ (∀ j, j ≠ 0 → S' j = S j) ∧ (S' 0).v.ownBlock = some w.heap.size := by
  refine ⟨_, h.boxed ((h.sp.alloc _).put 0 _ ?_ (fun q hq => .inr fun j hj e => ?_)), fun j hj => putS_ne hj, by rw [putS_same]; rfl⟩
  · exact World.ownsRow_lit (base := B) (e := 41) (size := 7) w (mcV m.wd m.rk (S 1).v (S 2).v (S 3).v (S 4).v (S 5).v) 1 hB (by unfold maxLen; omega) rfl
  · have hq' : w.heap.size = q := by injection hq
    have := (h.sp.lt e).2
    omega
/-- The header over that of another machine, whose box lies below. -/
theorem MSt.over {b : Nat} {z0 z1 z2 z3 z4 z5 z6 : Value} (h : MSt w B' g m S) (hb : w.ownsRow B 41 7 (.slice (some ⟨b, 0, none⟩) 1 1) 1 [z0, z1, z2, z3, z4, z5, z6]) (hB : B ≤ B') (hbB : b < B') :
    ∃ S', MSt (((((((w.setCell ⟨b, 0, none⟩ (.int .i64 m.wd)).setCell ⟨b, 1, none⟩ (.int .i64 m.rk)).setCell ⟨b, 2, none⟩ (S 1).v).setCell ⟨b, 3, none⟩ (S 2).v).setCell ⟨b, 4, none⟩ (S 3).v).setCell ⟨b, 5, none⟩ (S 4).v).setCell ⟨b, 6, none⟩ (S 5).v) B b m S' ∧ (∀ j, j ≠ 0 → S' j = S j) ∧ (S' 0).v.ownBlock = some b := by
  have hk := h.keep (w' := ((((((w.setCell ⟨b, 0, none⟩ (.int .i64 m.wd)).setCell ⟨b, 1, none⟩ (.int .i64 m.rk)).setCell ⟨b, 2, none⟩ (S 1).v).setCell ⟨b, 3, none⟩ (S 2).v).setCell ⟨b, 4, none⟩ (S 3).v).setCell ⟨b, 5, none⟩ (S 4).v).setCell ⟨b, 6, none⟩ (S 5).v) (fun j q hq => set7_heap _ _ _ _ _ _ _ _ _ _ (by have := (h.sp.lt hq).1; omega))
  refine ⟨_, hk.boxed ((hk.sp.base hB).put 0 _ (own_set7 hb _ _ _ _ _ _ _) (fun q hq => .inr fun j hj e => ?_)), fun j hj => putS_ne hj, by rw [putS_same]; rfl⟩
  have hq' : b = q := by injection hq
  have := (h.sp.lt e).1
  omega
end

end Go.Proofs.Ytolcgopfbbmjgaa
