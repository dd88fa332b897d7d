/-
  The span of a pass: the plain law, is a pass in a list.
-/
import Derived.Test.YthpgbklcbmpacaaPs3
import Derived.Test.YthpgbklcbmpacaaNst
import Derived.OwnWalk
namespace Go.Proofs.Ythpgbklcbmpacaa
set_option linter.unusedVariables false
set_option linter.unusedSimpArgs false
open Go.RowKit

def mn (z x : Int) : Int := if x < z then x else z
def mx (z x : Int) : Int := if z < x then x else z
def lowG (r z : Int) (l : List Opr) : Int := l.foldl (fun z o => mn z (plc o.fb o.fa r)) z
def highG (r z : Int) (l : List Opr) : Int := l.foldl (fun z o => mx z (plc o.fb o.fa r)) z
theorem low_step {R r z : Int} {l : List Opr} {k : Nat} {o : Opr} (h : R = lowG r z (l.drop k)) (ho : l[k]? = some o) : R = lowG r (mn z (plc o.fb o.fa r)) (l.drop (k + 1)) := by
  rw [h, drop_of_get ho]
  rfl
theorem high_step {R r z : Int} {l : List Opr} {k : Nat} {o : Opr} (h : R = highG r z (l.drop k)) (ho : l[k]? = some o) : R = highG r (mx z (plc o.fb o.fa r)) (l.drop (k + 1)) := by
  rw [h, drop_of_get ho]
  rfl
theorem low_end {R r z : Int} {l : List Opr} {k : Nat} (h : R = lowG r z (l.drop k)) (hk : l.length ≤ k) : R = z := by
  rw [h, List.drop_of_length_le hk]
  rfl
theorem high_end {R r z : Int} {l : List Opr} {k : Nat} (h : R = highG r z (l.drop k)) (hk : l.length ≤ k) : R = z := by
  rw [h, List.drop_of_length_le hk]
  rfl
/-- What holds of each pass of k operations. -/
def PsIn (k : Nat) (x : Pas) : Prop := 0 ≤ x.f ∧ 1 ≤ x.n ∧ x.f + x.n ≤ k ∧ -3 ≤ x.r ∧ x.r ≤ 3
theorem PsIn.next {k : Nat} {x : Pas} (h : PsIn k x) : PsIn (k + 1) x := by
  obtain ⟨a, b, c, d, e⟩ := h
  exact ⟨a, b, by omega, d, e⟩
theorem psAcc_in {k : Nat} {r : Int} {acc : List Pas} {o : Opr} {lt : Option Int} (hr : -3 ≤ r ∧ r ≤ 3) (h : ∀ x ∈ acc, PsIn k x) : ∀ x ∈ psAcc k r acc o lt, PsIn (k + 1) x := by
  have hp : ∀ x ∈ psPush k r acc o, PsIn (k + 1) x := by
    intro x hx
    unfold psPush at hx
    rcases List.mem_append.1 hx with hx | hx
    · exact (h x hx).next
    · simp at hx
      subst hx
      exact ⟨by simp, by simp, by simp, hr.1, hr.2⟩
  unfold psAcc
  cases lt with
  | none => exact hp
  | some q =>
    simp only
    cases hl : acc.getLast? with
    | none => exact hp
    | some p =>
      unfold psOne
      simp only
      split
      · intro x hx
        rcases List.mem_append.1 hx with hx | hx
        · exact (h x (List.dropLast_subset _ hx)).next
        · simp at hx
          subst hx
          obtain ⟨a, b, c, d, e⟩ := h p (List.mem_of_getLast? hl)
          exact ⟨a, by show 1 ≤ p.n + 1; omega, by show p.f + (p.n + 1) ≤ ((k + 1 : Nat) : Int); omega, d, e⟩
      · exact hp
theorem psGo_in : ∀ (l : List Opr) (k : Nat) (r : Int) (lt : Option Int) (acc : List Pas), -3 ≤ r ∧ r ≤ 3 → (∀ o ∈ l, -3 ≤ o.r ∧ o.r ≤ 3) → (∀ x ∈ acc, PsIn k x) → ∀ x ∈ psGo k r lt acc l, PsIn (k + l.length) x
  | [], k, r, lt, acc, hr, ho, h, x, hx => by rw [psGo] at hx; exact h x hx
  | o :: t, k, r, lt, acc, hr, ho, h, x, hx => by
    rw [psGo] at hx
    have e : k + (o :: t).length = k + 1 + t.length := by simp; omega
    rw [e]
    have hot := fun y hy => ho y (List.mem_cons_of_mem _ hy)
    split at hx
    · refine psGo_in t (k + 1) _ none acc ?_ hot (fun y hy => (h y hy).next) x hx
      split
      · exact ho o List.mem_cons_self
      · exact hr
    · exact psGo_in t (k + 1) r _ _ hr hot (psAcc_in hr h) x hx
theorem okOp_r {o : Opr} (h : okOp o = true) : -3 ≤ o.r ∧ o.r ≤ 3 := ⟨(okOp_rng h).1, (okOp_rng h).2.1⟩
theorem okOp_fa {o : Opr} (h : okOp o = true) : -100 ≤ o.fa ∧ o.fa ≤ 100 := by
  by_cases hk : psK o.k = 0
  · obtain ⟨k, d, fb, fa, tb, ta, c, r⟩ := o
    unfold okOp at h
    simp only at h hk ⊢
    have hn : k ≠ 1 ∧ k ≠ 2 ∧ k ≠ 3 ∧ k ≠ 4 ∧ k ≠ 5 ∧ k ≠ 6 := by
      refine ⟨?_, ?_, ?_, ?_, ?_, ?_⟩ <;> (rintro rfl; simp [psK] at hk)
    rw [if_neg (by omega), if_neg (by omega), if_neg (by omega), if_neg (by omega)] at h
    split at h
    · simp only [Bool.and_eq_true, decide_eq_true_eq, Opr.mk.injEq] at h
      omega
    split at h
    · simp only [Bool.and_eq_true, decide_eq_true_eq, Opr.mk.injEq] at h
      omega
    split at h
    · simp only [Bool.and_eq_true, decide_eq_true_eq, Opr.mk.injEq] at h
      omega
    · cases h
  · have := (okOp_rng h).2.2.1 hk
    omega
theorem psL_in {n : Int} {l : List Opr} (h : opsB n l = true) {p : Pas} (hp : p ∈ psL l) : PsIn l.length p := by
  have := psGo_in l 0 0 none [] ⟨by omega, by omega⟩ (fun o ho => by
    obtain ⟨k, hk, e⟩ := List.getElem_of_mem ho
    exact okOp_r (ops_at h (k := k) (by rw [List.getElem?_eq_getElem hk, e]))) (by simp) p hp
  simpa using this

def spnS (l : List Opr) (p : Pas) : List Opr := (l.drop p.f.toNat).take p.n.toNat
def spnZ (l : List Opr) (p : Pas) : Int := match l[p.f.toNat]? with
  | some o => plc o.fb o.fa p.r
  | none => 0
def spn (l : List Opr) (p : Pas) : Int × Int × Int :=
  if opsB 24 l = true then (if p ∈ psL l then (lowG p.r (spnZ l p) (spnS l p), highG p.r (spnZ l p) (spnS l p), 0) else (0, 0, 3)) else (0, 0, 1)
def spnV (l : List Opr) (p : Pas) : Value := .tuple #[.int .i64 (spn l p).1, .int .i64 (spn l p).2.1, .int .i64 (spn l p).2.2]
theorem spn_bad {l : List Opr} {p : Pas} (h : opsB 24 l = false) : spnV l p = .tuple #[.int .i64 0, .int .i64 0, .int .i64 1] := by
  unfold spnV spn
  rw [h]
  rfl
theorem spn_none {l : List Opr} {p : Pas} (h : opsB 24 l = true) (hp : ¬ p ∈ psL l) : spnV l p = .tuple #[.int .i64 0, .int .i64 0, .int .i64 3] := by
  unfold spnV spn
  rw [if_pos h, if_neg hp]
theorem spn_yes {l : List Opr} {p : Pas} (h : opsB 24 l = true) (hp : p ∈ psL l) : spnV l p = .tuple #[.int .i64 (lowG p.r (spnZ l p) (spnS l p)), .int .i64 (highG p.r (spnZ l p) (spnS l p)), .int .i64 0] := by
  unfold spnV spn
  rw [if_pos h, if_pos hp]
theorem spnS_at {l : List Opr} {p : Pas} {f n k : Nat} (hf : p.f = f) (hn : p.n = n) (hk : k < n) : (spnS l p)[k]? = l[f + k]? := by
  unfold spnS
  rw [hf, hn, Int.toNat_natCast, Int.toNat_natCast, List.getElem?_take_of_lt hk, List.getElem?_drop]
theorem spnS_len {l : List Opr} {p : Pas} {f n : Nat} (hf : p.f = f) (hn : p.n = n) : (spnS l p).length ≤ n := by
  unfold spnS
  rw [hf, hn, Int.toNat_natCast, Int.toNat_natCast, List.length_take]
  omega

set_option maxHeartbeats 1000000 in
theorem indexPs_any (v : Value) (l : List Pas) (x : Pas) (w : World) (hl : RdPs w w.heap.size v l) :
    Calls Try.prog 41 #[v, x.v] w fun e w' => e = .returned (.int .i64 (idxOf (fun y => decide (x = y)) l)) ∧ Below w.heap.size w w' := by
  have HB0 := Lib.hid (show Below w.heap.size w (w.alloc (.cells #[.int .i64 x.k, .int .i64 x.d, .int .i64 x.c, .int .i64 x.r, .int .i64 x.f, .int .i64 x.n] 38)) from (Below.refl _ _).alloc (Nat.le_refl _) _)
  have HP0 : Hid (CellsAt (w.alloc (.cells #[.int .i64 x.k, .int .i64 x.d, .int .i64 x.c, .int .i64 x.r, .int .i64 x.f, .int .i64 x.n] 38)) w.heap.size 0 x.cells) := fun j u hu => by
    rcases j with _ | _ | _ | _ | _ | _ | j <;> simp at hu <;> subst hu <;> simp [go_sem]
  have HL := Lib.hid hl
  obtain ⟨A, n, c, rfl, hbig, hln, gl⟩ := hl
  clear gl
  generalize hR : idxOf (fun y => decide (x = y)) l = R
  have HR := Lib.hid hR
  have HLN := Lib.hid hln.out
  clear hR hln
  go_enter Try.func41, Try.ntmps41
  go_wp2
  go_loopw [5, 8] (fun _ i wr => ∃ k : Nat, k ≤ n ∧ i = .int .i64 k ∧ Hid (R = idxFrom (fun y => decide (x = y)) k (l.drop k)) ∧ Hid (CellsAt wr w.heap.size 0 x.cells) ∧ Below w.heap.size w wr) (fun _ i _ => n - (intOf i).toNat)
  case atStart => exact ⟨0, Nat.zero_le _, rfl, HR.out.symm, HP0.out, HB0.out⟩
  case round =>
    rename_i wr
    obtain ⟨k, hk, rfl, hd, HP, hb⟩ := hrel
    by_cases hlt : k < n
    · obtain ⟨b, off, y, rfl, hbb, hlk, hc⟩ := (HL.out.below hb).at_ hlt
      have HB := Lib.hid hb
      obtain ⟨c0, c1, c2, c3, c4, c5⟩ := hc.six
      obtain ⟨p0, p1, p2, p3, p4, p5⟩ := HP.out.six
      have HC := Lib.hid hc
      by_cases hy : x = y
      · have HT := Lib.hid (show R = (k : Int) by rw [hd.out, drop_of_get hlk]; simp [hy, idxFrom])
        have heq : ∀ W, (binOp .eql 38 x.v y.v).run Try.prog W = .ok (.bool true) W := fun W => by rw [eql_ps x y W]; simp [hy]
        clear hb hlk hd hy hc
        go_wp2
        go_quiet (fail)
        have HB2 := Lib.hid (below_drewN HB.out nq)
        go_wp2
        go_ret
        exact ⟨ret_int HT.out.symm, HB2.out⟩
      · have HT := Lib.hid (show R = idxFrom (fun y => decide (x = y)) (k + 1) (l.drop (k + 1)) by rw [hd.out, drop_of_get hlk]; simp [hy, idxFrom])
        have heq : ∀ W, (binOp .eql 38 x.v y.v).run Try.prog W = .ok (.bool false) W := fun W => by rw [eql_ps x y W]; simp [hy]
        clear hb hlk hd hy hc
        go_wp2
        go_quiet (fail)
        have HB2 := Lib.hid (below_drewN HB.out nq)
        go_wp2
        exact ⟨⟨k + 1, by omega, by go_num, HT.out, HP.out, HB2.out⟩, by simp [intOf]; omega⟩
    · have HB := Lib.hid hb
      have HT := Lib.hid (show R = -1 by rw [hd.out, List.drop_of_length_le (by have := HLN.out; omega)]; rfl)
      clear hb
      go_wp2
      go_ret
      exact ⟨ret_int HT.out.symm, HB.out⟩
theorem idx_mem (l : List Pas) (x : Pas) : decide (0 ≤ idxOf (fun y => decide (x = y)) l) = decide (x ∈ l) := by
  rw [Bool.eq_iff_iff]
  have h := idxOf_any (fun y => decide (x = y)) l
  simp only [decide_eq_true_eq]
  rw [h]
  simp [List.any_eq_true]
theorem containsPs_any (v : Value) (l : List Pas) (x : Pas) (w : World) (hl : RdPs w w.heap.size v l) :
    Calls Try.prog 31 #[v, x.v] w fun e w' => e = .returned (.bool (decide (x ∈ l))) ∧ Below w.heap.size w w' := by
  have hi := idx_mem l x
  have HB0 := Lib.hid (show Below w.heap.size w (w.alloc (.cells #[.int .i64 x.k, .int .i64 x.d, .int .i64 x.c, .int .i64 x.r, .int .i64 x.f, .int .i64 x.n] 38)) from (Below.refl _ _).alloc (Nat.le_refl _) _)
  have HP0 : Hid (CellsAt (w.alloc (.cells #[.int .i64 x.k, .int .i64 x.d, .int .i64 x.c, .int .i64 x.r, .int .i64 x.f, .int .i64 x.n] 38)) w.heap.size 0 x.cells) := fun j u hu => by
    rcases j with _ | _ | _ | _ | _ | _ | j <;> simp at hu <;> subst hu <;> simp [go_sem]
  have HX := Lib.hid (indexPs_any v l x _ ((hl.below HB0.out).more HB0.out.size))
  obtain ⟨A, n, c, rfl, hbig, hln, gl⟩ := hl
  clear gl hln
  generalize idxOf (fun y => decide (x = y)) l = I at hi HX
  rw [← hi]
  clear hi
  obtain ⟨p0, p1, p2, p3, p4, p5⟩ := HP0.out.six
  go_enter Try.func31, Try.ntmps31
  go_wp2_with fail
  refine HX.out.mono ?_
  rintro e w1 ⟨rfl, hb1⟩
  have HB1 := Lib.hid (HB0.out.trans (hb1.mono HB0.out.size))
  clear p0 p1 p2 p3 p4 p5
  go_wp2
  all_goals go_ret
  all_goals exact ⟨ret_bool (by simp), HB1.out⟩

end Go.Proofs.Ythpgbklcbmpacaa
