/-
  Texts joined: Sz, OpenOs, Ps3, Span, PsI, PsT.
-/
import Derived.Test.YtolcgopfbbmjgaaOpS
import Derived.Test.YtolcgopfbbmjgaaOwn
import Derived.Test.YtolcgopfbbmjgaaOpen
import Derived.Test.YtolcgopfbbmjgaaNest
import Derived.Test.YtolcgopfbbmjgaaPs2
import Derived.Test.YtolcgopfbbmjgaaNst
import Derived.OwnWalk
import Derived.Test.YtolcgopfbbmjgaaBx0
import Derived.Deep.CutRange
import Derived.Deep.DeepCutAuto
/-
  How much a count leaves.
-/
namespace Go.Proofs.Ytolcgopfbbmjgaa

def szOf (left : Int) (n : Nat) : Int := if (n : Int) ≤ left then left - n else -1
theorem szOf_no {left : Int} {n : Nat} (h : ¬ (n : Int) ≤ left) : szOf left n = -1 := by simp [szOf, h]
theorem szOf_yes {left : Int} {n : Nat} (h : (n : Int) ≤ left) : szOf left n = left - n := by simp [szOf, h]

theorem szOf_pos' {left z : Int} {n : Nat} (h : szOf left n = z) (hz : 0 ≤ z) : (n : Int) ≤ left ∧ z = left - n := by
  unfold szOf at h
  split at h <;> omega

end Go.Proofs.Ytolcgopfbbmjgaa

/-
  A slice of operations as an argument; its size.
-/
namespace Go.Proofs.Ytolcgopfbbmjgaa
set_option linter.unusedVariables false
set_option linter.unusedSimpArgs false
open Go.ChangeShapes Go.WideShapes Go.ChangeAt Go.RowKit Go.Deep

/- szTS: szOpS theorem's name · laws.szOpS function · RdO the reading's predicate · Opr element type -/
theorem szOpS_any (v : Value) (l : List Opr) (left : Int) (w : World) (B : Nat) (hl : RdO w B v l) (h0 : 0 ≤ left) (h1 : left ≤ 1048576) :
    Calls Try.prog 5 #[v, .int .i64 left] w fun e w' => e = .returned (.int .i64 (szOf left l.length)) ∧ w = w' := by
  obtain ⟨A, n, c, rfl, hln, hl, gl⟩ := hl
  rw [hl.out]
  clear gl
  by_cases h : (n : Int) ≤ left
  · have hs : szOf left n = left - n := by simp [szOf, h]
    have HS := Lib.hid hs
    clear hs
    go_enter Try.func5, Try.ntmps5
    go_wp2
    go_ret
    exact ⟨ret_int HS.out.symm, rfl⟩
  · have hs : szOf left n = -1 := by simp [szOf, h]
    have HS := Lib.hid hs
    clear hs
    go_enter Try.func5, Try.ntmps5
    go_wp2
    go_ret
    exact ⟨ret_int HS.out.symm, rfl⟩

section
variable {H : Type} {enc : TypeId × Value → H} {W : World}
set_option maxRecDepth 100000 in
theorem open_ops {base : Nat} {d : DataW H} {p : List MemPlace} {v : Value} (ho : Value.okWide Try.prog W .any base 22 v)
    (h : DataW.Trod enc Try.prog W 0 (fun _ => true) true 22 v d p) : ∃ l : List Opr, RdO W W.heap.size v l ∧ True := by
  obtain ⟨l, A, n', c, rfl, hn, hl, hh⟩ := opens_arg (R := fun v l => RdN (fun _ _ us (x : Opr) => us = x.cells) 8 W W.heap.size v l) Try.underlying22 (opens_rdN (R := fun _ _ us (x : Opr) => us = x.cells) (sz := 8) Try.underlying22 (by kernel_rfl) (by decide) (by
    intro us n y hl h
    obtain ⟨q0, z0, t0⟩ := opens_fld (j := 0) (sz := 1) Try.underlying59 rfl (by kernel_rfl) h
    obtain ⟨q1, z1, t1⟩ := opens_fld (j := 1) (sz := 1) Try.underlying59 rfl (by kernel_rfl) h
    obtain ⟨q2, z2, t2⟩ := opens_fld (j := 2) (sz := 2) Try.underlying59 rfl (by kernel_rfl) h
    obtain ⟨q3, z3, t3⟩ := opens_fld (j := 3) (sz := 2) Try.underlying59 rfl (by kernel_rfl) h
    obtain ⟨q4, z4, t4⟩ := opens_fld (j := 4) (sz := 1) Try.underlying59 rfl (by kernel_rfl) h
    obtain ⟨q5, z5, t5⟩ := opens_fld (j := 5) (sz := 1) Try.underlying59 rfl (by kernel_rfl) h
    match us, hl with
    | [a, b, c, d, e, f, g, i], _ =>
      obtain ⟨_, hf2⟩ := opens_fields Try.underlying57 (by kernel_rfl) (by kernel_rfl) t2
      obtain ⟨_, hf3⟩ := opens_fields Try.underlying57 (by kernel_rfl) (by kernel_rfl) t3
      obtain ⟨u0, p0, w0, g0, s0⟩ := hf2 0 _ rfl
      obtain ⟨u1, p1, w1, g1, s1⟩ := hf2 1 _ rfl
      obtain ⟨u2, p2, w2, g2, s2⟩ := hf3 0 _ rfl
      obtain ⟨u3, p3, w3, g3, s3⟩ := hf3 1 _ rfl
      obtain ⟨x0, rfl, _⟩ := opens_int (enc := enc) (W := W) (P := Try.prog) Try.underlying2 _ _ _ t0
      obtain ⟨x1, rfl, _⟩ := opens_int (enc := enc) (W := W) (P := Try.prog) Try.underlying2 _ _ _ t1
      obtain ⟨y0, rfl, _⟩ := opens_int (enc := enc) (W := W) (P := Try.prog) Try.underlying2 _ _ _ s0
      obtain ⟨y1, rfl, _⟩ := opens_int (enc := enc) (W := W) (P := Try.prog) Try.underlying2 _ _ _ s1
      obtain ⟨y2, rfl, _⟩ := opens_int (enc := enc) (W := W) (P := Try.prog) Try.underlying2 _ _ _ s2
      obtain ⟨y3, rfl, _⟩ := opens_int (enc := enc) (W := W) (P := Try.prog) Try.underlying2 _ _ _ s3
      obtain ⟨x4, rfl, _⟩ := opens_int (enc := enc) (W := W) (P := Try.prog) Try.underlying2 _ _ _ t4
      obtain ⟨x5, rfl, _⟩ := opens_int (enc := enc) (W := W) (P := Try.prog) Try.underlying2 _ _ _ t5
      simp at g0 g1 g2 g3
      subst g0 g1 g2 g3
      exact ⟨⟨x0, x1, y0, y1, y2, y3, x4, x5⟩, rfl⟩)) ho h
  refine ⟨l, ⟨A, n', c, rfl, hn, hl, fun k hk => ?_⟩, trivial⟩
  obtain ⟨b, off, x, us, h1, h2, h3, h4, h5, rfl⟩ := hh k hk
  exact ⟨b, off, x, h1, h2, h3, h5⟩
end

end Go.Proofs.Ytolcgopfbbmjgaa

/-
  PassesOf of the program and of the reference: the result and the code; an argument that is a slice of operations.
-/
namespace Go.Proofs.Ytolcgopfbbmjgaa
set_option linter.unusedVariables false
set_option linter.unusedSimpArgs false
open Go.ChangeShapes Go.WideShapes Go.ChangeAt Go.RowKit Go.Deep

theorem areOps_any (v : Value) (l : List Opr) (w : World) (hl : RdO w w.heap.size v l) :
    Calls Try.prog 23 #[v] w fun e w' => e = .returned (.bool (opsB 24 l)) ∧ Below w.heap.size w w' := by
  have HV := Lib.hid (validFor_any 24 v l w hl)
  obtain ⟨A, N, c, rfl, hln, hl', gl⟩ := hl
  clear hl' gl
  generalize opsB 24 l = B at *
  go_enter Try.func23, Try.ntmps23
  go_wp2_with fail
  refine HV.out.mono ?_
  rintro e w1 ⟨rfl, hb⟩
  have HB := Lib.hid hb
  clear hb
  go_wp2
  go_ret
  exact ⟨rfl, HB.out⟩
theorem l09Ops_any (v : Value) (l : List Opr) (w : World) (hl : RdO w w.heap.size v l) :
    Calls Try.prog 18 #[v] w fun e w' => e = .returned (.bool (opsB 24 l)) ∧ Below w.heap.size w w' := by
  have HV := Lib.hid (l07Ops_any 24 v l w hl)
  obtain ⟨A, N, c, rfl, hln, hl', gl⟩ := hl
  clear hl' gl
  generalize opsB 24 l = B at *
  go_enter Try.func18, Try.ntmps18
  go_wp2_with fail
  refine HV.out.mono ?_
  rintro e w1 ⟨rfl, hb⟩
  have HB := Lib.hid hb
  clear hb
  go_wp2
  go_ret
  exact ⟨rfl, HB.out⟩

theorem psAcc_len (k : Nat) (r : Int) (acc : List Pas) (o : Opr) (lt : Option Int) : (psAcc k r acc o lt).length ≤ acc.length + 1 := by
  have hp : (psPush k r acc o).length = acc.length + 1 := by simp [psPush]
  unfold psAcc
  split
  · unfold psOne
    split
    · split
      · simp only [List.length_append, List.length_dropLast, List.length_cons, List.length_nil]
        omega
      · omega
    · omega
  · omega
theorem psGo_len : ∀ (l : List Opr) (k : Nat) (r : Int) (lt : Option Int) (acc : List Pas), (psGo k r lt acc l).length ≤ acc.length + l.length
  | [], k, r, lt, acc => by simp [psGo]
  | o :: t, k, r, lt, acc => by
    rw [psGo, List.length_cons]
    split
    · have := psGo_len t (k + 1) (if o.k = 7 then o.r else r) none acc
      omega
    · have h1 := psGo_len t (k + 1) r (some (plc o.fb o.fa r)) (psAcc k r acc o lt)
      have h2 := psAcc_len k r acc o lt
      omega

/- PassesOf: spec.PassesOf function · specPassesOf name · l09Ops_any the test · l09Passes_any the passes -/
/- PassesOf: impl.PassesOf function · implPassesOf name · areOps_any the test · passes_any the passes -/

end Go.Proofs.Ytolcgopfbbmjgaa

/-
  The span of a pass: the plain law, is a pass in a list.
-/
namespace Go.Proofs.Ytolcgopfbbmjgaa
set_option linter.unusedVariables false
set_option linter.unusedSimpArgs false
open Go.RowKit

def mn (z x : Int) : Int := if x < z then x else z
def mx (z x : Int) : Int := if z < x then x else z
def lowG (r z : Int) (l : List Opr) : Int := l.foldl (fun z o => mn z (plc o.fb o.fa r)) z
def highG (r z : Int) (l : List Opr) : Int := l.foldl (fun z o => mx z (plc o.fb o.fa r)) z
theorem low_step {R r z : Int} {l : List Opr} {k : Nat} {o : Opr} (h : R = lowG r z (l.drop k)) (ho : l[k]? = some o) : R = lowG r (mn z (plc o.fb o.fa r)) (l.drop (k + 1)) := by
  rw [h, drop_of_get ho]
  rfl
theorem high_step {R r z : Int} {l : List Opr} {k : Nat} {o : Opr} (h : R = highG r z (l.drop k)) (ho : l[k]? = some o) : R = highG r (mx z (plc o.fb o.fa r)) (l.drop (k + 1)) := by
  rw [h, drop_of_get ho]
  rfl
theorem low_end {R r z : Int} {l : List Opr} {k : Nat} (h : R = lowG r z (l.drop k)) (hk : l.length ≤ k) : R = z := by
  rw [h, List.drop_of_length_le hk]
  rfl
theorem high_end {R r z : Int} {l : List Opr} {k : Nat} (h : R = highG r z (l.drop k)) (hk : l.length ≤ k) : R = z := by
  rw [h, List.drop_of_length_le hk]
  rfl
/-- What holds of each pass of k operations. -/
def PsIn (k : Nat) (x : Pas) : Prop := 0 ≤ x.f ∧ 1 ≤ x.n ∧ x.f + x.n ≤ k ∧ -3 ≤ x.r ∧ x.r ≤ 3
theorem PsIn.next {k : Nat} {x : Pas} (h : PsIn k x) : PsIn (k + 1) x := by
  obtain ⟨a, b, c, d, e⟩ := h
  exact ⟨a, b, by omega, d, e⟩
theorem psAcc_in {k : Nat} {r : Int} {acc : List Pas} {o : Opr} {lt : Option Int} (hr : -3 ≤ r ∧ r ≤ 3) (h : ∀ x ∈ acc, PsIn k x) : ∀ x ∈ psAcc k r acc o lt, PsIn (k + 1) x := by
  have hp : ∀ x ∈ psPush k r acc o, PsIn (k + 1) x := by
    intro x hx
    unfold psPush at hx
    rcases List.mem_append.1 hx with hx | hx
    · exact (h x hx).next
    · simp at hx
      subst hx
      exact ⟨by simp, by simp, by simp, hr.1, hr.2⟩
  unfold psAcc
  cases lt with
  | none => exact hp
  | some q =>
    simp only
    cases hl : acc.getLast? with
    | none => exact hp
    | some p =>
      unfold psOne
      simp only
      split
      · intro x hx
        rcases List.mem_append.1 hx with hx | hx
        · exact (h x (List.dropLast_subset _ hx)).next
        · simp at hx
          subst hx
          obtain ⟨a, b, c, d, e⟩ := h p (List.mem_of_getLast? hl)
          exact ⟨a, by show 1 ≤ p.n + 1; omega, by show p.f + (p.n + 1) ≤ ((k + 1 : Nat) : Int); omega, d, e⟩
      · exact hp
theorem psGo_in : ∀ (l : List Opr) (k : Nat) (r : Int) (lt : Option Int) (acc : List Pas), -3 ≤ r ∧ r ≤ 3 → (∀ o ∈ l, -3 ≤ o.r ∧ o.r ≤ 3) → (∀ x ∈ acc, PsIn k x) → ∀ x ∈ psGo k r lt acc l, PsIn (k + l.length) x
  | [], k, r, lt, acc, hr, ho, h, x, hx => by rw [psGo] at hx; exact h x hx
  | o :: t, k, r, lt, acc, hr, ho, h, x, hx => by
    rw [psGo] at hx
    have e : k + (o :: t).length = k + 1 + t.length := by simp; omega
    rw [e]
    have hot := fun y hy => ho y (List.mem_cons_of_mem _ hy)
    split at hx
    · refine psGo_in t (k + 1) _ none acc ?_ hot (fun y hy => (h y hy).next) x hx
      split
      · exact ho o List.mem_cons_self
      · exact hr
    · exact psGo_in t (k + 1) r _ _ hr hot (psAcc_in hr h) x hx
theorem okOp_r {o : Opr} (h : okOp o = true) : -3 ≤ o.r ∧ o.r ≤ 3 := ⟨(okOp_rng h).1, (okOp_rng h).2.1⟩
theorem okOp_fa {o : Opr} (h : okOp o = true) : -100 ≤ o.fa ∧ o.fa ≤ 100 := by
  by_cases hk : psK o.k = 0
  · obtain ⟨k, d, fb, fa, tb, ta, c, r⟩ := o
    unfold okOp at h
    simp only at h hk ⊢
    have hn : k ≠ 1 ∧ k ≠ 2 ∧ k ≠ 3 ∧ k ≠ 4 ∧ k ≠ 5 ∧ k ≠ 6 := by
      refine ⟨?_, ?_, ?_, ?_, ?_, ?_⟩ <;> (rintro rfl; simp [psK] at hk)
    rw [if_neg (by omega), if_neg (by omega), if_neg (by omega), if_neg (by omega)] at h
    split at h
    · simp only [Bool.and_eq_true, decide_eq_true_eq, Opr.mk.injEq] at h
      omega
    split at h
    · simp only [Bool.and_eq_true, decide_eq_true_eq, Opr.mk.injEq] at h
      omega
    split at h
    · simp only [Bool.and_eq_true, decide_eq_true_eq, Opr.mk.injEq] at h
      omega
    · cases h
  · have := (okOp_rng h).2.2.1 hk
    omega
theorem psL_in {n : Int} {l : List Opr} (h : opsB n l = true) {p : Pas} (hp : p ∈ psL l) : PsIn l.length p := by
  have := psGo_in l 0 0 none [] ⟨by omega, by omega⟩ (fun o ho => by
    obtain ⟨k, hk, e⟩ := List.getElem_of_mem ho
    exact okOp_r (ops_at h (k := k) (by rw [List.getElem?_eq_getElem hk, e]))) (by simp) p hp
  simpa using this

def spnS (l : List Opr) (p : Pas) : List Opr := (l.drop p.f.toNat).take p.n.toNat
def spnZ (l : List Opr) (p : Pas) : Int := match l[p.f.toNat]? with
  | some o => plc o.fb o.fa p.r
  | none => 0
def spn (l : List Opr) (p : Pas) : Int × Int × Int :=
  if opsB 24 l = true then (if p ∈ psL l then (lowG p.r (spnZ l p) (spnS l p), highG p.r (spnZ l p) (spnS l p), 0) else (0, 0, 3)) else (0, 0, 1)
def spnV (l : List Opr) (p : Pas) : Value := .tuple #[.int .i64 (spn l p).1, .int .i64 (spn l p).2.1, .int .i64 (spn l p).2.2]
theorem spn_bad {l : List Opr} {p : Pas} (h : opsB 24 l = false) : spnV l p = .tuple #[.int .i64 0, .int .i64 0, .int .i64 1] := by
  unfold spnV spn
  rw [h]
  rfl
theorem spn_none {l : List Opr} {p : Pas} (h : opsB 24 l = true) (hp : ¬ p ∈ psL l) : spnV l p = .tuple #[.int .i64 0, .int .i64 0, .int .i64 3] := by
  unfold spnV spn
  rw [if_pos h, if_neg hp]
theorem spn_yes {l : List Opr} {p : Pas} (h : opsB 24 l = true) (hp : p ∈ psL l) : spnV l p = .tuple #[.int .i64 (lowG p.r (spnZ l p) (spnS l p)), .int .i64 (highG p.r (spnZ l p) (spnS l p)), .int .i64 0] := by
  unfold spnV spn
  rw [if_pos h, if_pos hp]
theorem spnS_at {l : List Opr} {p : Pas} {f n k : Nat} (hf : p.f = f) (hn : p.n = n) (hk : k < n) : (spnS l p)[k]? = l[f + k]? := by
  unfold spnS
  rw [hf, hn, Int.toNat_natCast, Int.toNat_natCast, List.getElem?_take_of_lt hk, List.getElem?_drop]
theorem spnS_len {l : List Opr} {p : Pas} {f n : Nat} (hf : p.f = f) (hn : p.n = n) : (spnS l p).length ≤ n := by
  unfold spnS
  rw [hf, hn, Int.toNat_natCast, Int.toNat_natCast, List.length_take]
  omega


end Go.Proofs.Ytolcgopfbbmjgaa

/-
  The passes of operations: what FnPasses asks of them (plain).
-/
namespace Go.Proofs.Ytolcgopfbbmjgaa
set_option linter.unusedVariables false
set_option linter.unusedSimpArgs false

/-- What is known of a valid operation. -/
structure OpG (o : Opr) : Prop where
  r : -3 ≤ o.r ∧ o.r ≤ 3
  y : psK o.k = 1 → (o.d = 1 ∨ o.d = -1) ∧ 1 ≤ o.c ∧ o.c ≤ 4
  z : psK o.k = 2 ∨ psK o.k = 3 → o.d = 0 ∧ o.c = 0
  g : psK o.k = 0 → o.k = 7 ∨ o.k = 8 ∨ o.k = 9
/-- A gap: operations that belong to no pass. -/
def Gap (l : List Opr) (a b : Nat) : Prop := ∀ k, a ≤ k → k < b → ∃ o, l[k]? = some o ∧ psK o.k = 0
/-- A pass and its operations. -/
structure Body (l : List Opr) (p : Pas) (f n : Nat) : Prop where
  pf : p.f = (f : Int)
  pn : p.n = (n : Int)
  n1 : 1 ≤ n
  le : f + n ≤ l.length
  rk : -3 ≤ p.r ∧ p.r ≤ 3
  kd : p.k = 1 ∨ p.k = 2 ∨ p.k = 3
  y : p.k = 1 → (p.d = 1 ∨ p.d = -1) ∧ 1 ≤ p.c ∧ p.c ≤ 4
  z : p.k ≠ 1 → p.d = 0 ∧ p.c = 0
  mono : p.k = 1 → ∀ j a b, j + 1 < n → l[f + j]? = some a → l[f + j + 1]? = some b → 0 < (plc b.fb b.fa p.r - plc a.fb a.fa p.r) * p.d
  kk : ∀ j o, j < n → l[f + j]? = some o → psK o.k = p.k
inductive Lay (l : List Opr) : List Pas → Nat → Prop
  | nil : Lay l [] 0
  | snoc {acc : List Pas} {e f n : Nat} {p : Pas} : Lay l acc e → e ≤ f → Gap l e f → Body l p f n → (∀ q, acc.getLast? = some q → e = f → q.k = p.k → p.k = 1) → Lay l (acc ++ [p]) (f + n)
theorem Lay.inv {l : List Opr} {acc : List Pas} {p : Pas} {e : Nat} (h : Lay l (acc ++ [p]) e) : ∃ a f n, e = f + n ∧ Lay l acc a ∧ a ≤ f ∧ Gap l a f ∧ Body l p f n ∧ (∀ q, acc.getLast? = some q → a = f → q.k = p.k → p.k = 1) := by
  generalize hx : acc ++ [p] = xs at h
  cases h with
  | nil => simp at hx
  | snoc h1 h2 h3 h4 h5 =>
    obtain ⟨rfl, h⟩ := List.append_inj' hx rfl
    simp at h
    subst h
    exact ⟨_, _, _, rfl, h1, h2, h3, h4, h5⟩
theorem Gap.snoc {l : List Opr} {a b : Nat} {o : Opr} (h : Gap l a b) (ho : l[b]? = some o) (hz : psK o.k = 0) : Gap l a (b + 1) := by
  intro k h1 h2
  by_cases e : k = b
  · subst e; exact ⟨o, ho, hz⟩
  · exact h k h1 (by omega)
theorem Gap.none {l : List Opr} {a : Nat} : Gap l a a := fun k h1 h2 => by omega
/-- The state of the passes at operation k. -/
def PsSt (l : List Opr) (k : Nat) (r : Int) (lt : Option Int) (acc : List Pas) : Prop :=
  -3 ≤ r ∧ r ≤ 3 ∧ ∃ e, e ≤ k ∧ Lay l acc e ∧ Gap l e k ∧
    (lt = none → acc = [] ∨ e < k) ∧
    (∀ q, lt = some q → e = k ∧ ∃ ys p o, acc = ys ++ [p] ∧ p.r = r ∧ 0 < k ∧ l[k - 1]? = some o ∧ q = plc o.fb o.fa r)
theorem body_one {l : List Opr} {k : Nat} {o : Opr} {r : Int} (ho : l[k]? = some o) (hg : OpG o) (hr : -3 ≤ r ∧ r ≤ 3) (hz : psK o.k ≠ 0) : Body l ⟨psK o.k, o.d, o.c, r, (k : Int), 1⟩ k 1 := by
  have hk := psK_cases o.k
  have hlt : k < l.length := by
    rcases Nat.lt_or_ge k l.length with h | h
    · exact h
    · rw [List.getElem?_eq_none h] at ho; cases ho
  exact ⟨rfl, rfl, Nat.le_refl _, hlt, hr, (by show psK o.k = 1 ∨ psK o.k = 2 ∨ psK o.k = 3; omega), fun h => hg.y h, fun h => hg.z (by have h9 : psK o.k ≠ 1 := h; rcases hk with hk | hk | hk | hk <;> omega), fun _ j a b hj => by omega, fun j o' hj ho' => by
    obtain rfl : j = 0 := by omega
    rw [Nat.add_zero, ho] at ho'
    cases ho'
    rfl⟩
theorem PsSt.push {l : List Opr} {k e : Nat} {r : Int} {acc : List Pas} {o : Opr} (ho : l[k]? = some o) (hg : OpG o) (hr : -3 ≤ r ∧ r ≤ 3) (hz : psK o.k ≠ 0) (hek : e ≤ k) (hl : Lay l acc e) (hgap : Gap l e k) (hc : ∀ q, acc.getLast? = some q → e = k → q.k = psK o.k → psK o.k = 1) :
    PsSt l (k + 1) r (some (plc o.fb o.fa r)) (psPush k r acc o) :=
  ⟨hr.1, hr.2, k + 1, Nat.le_refl _, Lay.snoc hl hek hgap (body_one ho hg hr hz) hc, Gap.none, fun h => (by cases h), fun q hq => ⟨rfl, acc, _, o, rfl, rfl, Nat.succ_pos _, ho, (by cases hq; rfl)⟩⟩
theorem PsSt.step {l : List Opr} {k : Nat} {r : Int} {lt : Option Int} {acc : List Pas} {o : Opr} (h : PsSt l k r lt acc) (ho : l[k]? = some o) (hg : OpG o) (hz : psK o.k ≠ 0) : PsSt l (k + 1) r (some (plc o.fb o.fa r)) (psAcc k r acc o lt) := by
  obtain ⟨h1, h2, e, hek, hl, hgap, hn, hs⟩ := h
  cases lt with
  | none =>
    refine PsSt.push ho hg ⟨h1, h2⟩ hz hek hl hgap (fun q hq he => ?_)
    rcases hn rfl with h | h
    · subst h; simp at hq
    · omega
  | some q =>
    obtain ⟨rfl, ys, p, o1, rfl, hpr, hk0, ho1, rfl⟩ := hs q rfl
    have hlast : (ys ++ [p]).getLast? = some p := List.getLast?_concat ..
    show PsSt l (e + 1) r _ (psOne e r _ (ys ++ [p]) o (ys ++ [p]).getLast?)
    rw [hlast]
    unfold psOne
    simp only
    by_cases hf : psFit p o (psK o.k) (plc o.fb o.fa r) (plc o1.fb o1.fa r) = true
    · rw [if_pos hf, List.dropLast_concat]
      unfold psFit at hf
      simp only [Bool.and_eq_true, decide_eq_true_eq, Bool.or_eq_true] at hf
      obtain ⟨f1, f2, f3, f4⟩ := hf
      obtain ⟨a, f, n, he, b1, b2, b3, b4, b5⟩ := hl.inv
      have hlt : e < l.length := by
        rcases Nat.lt_or_ge e l.length with h | h
        · exact h
        · rw [List.getElem?_eq_none h] at ho; cases ho
      refine ⟨h1, h2, e + 1, Nat.le_refl _, ?_, Gap.none, fun h => (by cases h), fun q hq => ⟨rfl, ys, bump p, o, rfl, hpr, Nat.succ_pos _, ho, (by cases hq; rfl)⟩⟩
      rw [show e + 1 = f + (n + 1) by omega]
      refine Lay.snoc b1 b2 b3 ⟨b4.pf, ?_, by omega, by omega, b4.rk, b4.kd, b4.y, b4.z, ?_, ?_⟩ b5
      · show p.n + 1 = ((n + 1 : Nat) : Int)
        rw [b4.pn]; omega
      · intro hk j x y hj hx hy
        by_cases hjn : j + 1 < n
        · exact b4.mono hk j x y hjn hx hy
        · have hjn : j + 1 = n := by omega
          have e1 : f + j = e - 1 := by omega
          have e2 : f + j + 1 = e := by omega
          rw [e1, ho1] at hx
          rw [e2, ho] at hy
          cases hx
          cases hy
          show 0 < (plc o.fb o.fa p.r - plc o1.fb o1.fa p.r) * p.d
          have hk1 : p.k = 1 := hk
          rw [hpr, f2]
          rcases f4 with f4 | f4
          · exact absurd hk1 (by omega)
          · exact f4
      · intro j x hj hx
        by_cases hjn : j < n
        · exact b4.kk j x hjn hx
        · have e1 : f + j = e := by omega
          rw [e1, ho] at hx
          cases hx
          exact f1.symm
    · rw [if_neg hf]
      refine PsSt.push ho hg ⟨h1, h2⟩ hz (Nat.le_refl _) hl hgap (fun q hq _ hqk => ?_)
      rw [hlast] at hq
      cases hq
      obtain ⟨a, f, n, he, b1, b2, b3, b4, b5⟩ := hl.inv
      rcases Int.decEq (psK o.k) 1 with hne | heq
      · exfalso
        have hk := psK_cases o.k
        have hz2 := hg.z (by omega)
        have hz3 := b4.z (by rw [hqk]; exact hne)
        apply hf
        unfold psFit
        simp [hqk, hz2.1, hz2.2, hz3.1, hz3.2, hne]
      · exact heq
theorem psGo_st {l : List Opr} (H : ∀ o ∈ l, OpG o) : ∀ (t : List Opr) (k : Nat) (r : Int) (lt : Option Int) (acc : List Pas), t = l.drop k → k ≤ l.length → PsSt l k r lt acc → ∃ e, e ≤ l.length ∧ Lay l (psGo k r lt acc t) e ∧ Gap l e l.length
  | [], k, r, lt, acc, ht, hk, h => by
    have : l.length ≤ k := by simpa using ht.symm
    obtain ⟨_, _, e, h1, h2, h3, _⟩ := h
    have e1 : k = l.length := by omega
    subst e1
    exact ⟨e, h1, by rw [psGo]; exact h2, h3⟩
  | o :: t, k, r, lt, acc, ht, hk, h => by
    have hlt : k < l.length := by
      rcases Nat.lt_or_ge k l.length with h | h
      · exact h
      · rw [List.drop_of_length_le h] at ht; cases ht
    have hget : l[k]? = some l[k] := List.getElem?_eq_getElem hlt
    rw [drop_of_get hget] at ht
    injection ht with ho ht
    subst ho
    have hg := H _ (List.mem_of_getElem? hget)
    rw [psGo]
    split
    · rename_i hz
      obtain ⟨h1, h2, e, hek, hl, hgap, hn, hs⟩ := h
      refine psGo_st H t (k + 1) _ none acc ht hlt ⟨?_, ?_, e, by omega, hl, hgap.snoc hget hz, fun _ => .inr (by omega), fun q hq => (by cases hq)⟩
      · split
        · exact hg.r.1
        · exact h1
      · split
        · exact hg.r.2
        · exact h2
    · rename_i hz
      exact psGo_st H t (k + 1) r _ _ ht hlt (h.step hget hg hz)
/-- The passes of valid operations lie in order; what is between them belongs to none. -/
theorem psL_lay {l : List Opr} (H : ∀ o ∈ l, OpG o) : ∃ e, e ≤ l.length ∧ Lay l (psL l) e ∧ Gap l e l.length :=
  psGo_st H l 0 0 none [] (by simp) (Nat.zero_le _) ⟨by omega, by omega, 0, Nat.le_refl _, Lay.nil, Gap.none, fun _ => .inl rfl, fun q hq => (by cases hq)⟩
/-- The end of the first i passes. -/
def endP (L : List Pas) (i : Nat) : Int := match i with
  | 0 => 0
  | i + 1 => match L[i]? with
    | some p => p.f + p.n
    | none => 0
theorem Lay.take {l : List Opr} : ∀ {L : List Pas} {e : Nat}, Lay l L e → ∀ i, i ≤ L.length → ∃ a : Nat, Lay l (L.take i) a ∧ a ≤ e ∧ endP L i = (a : Int) := by
  intro L e h
  induction h with
  | nil => intro i hi; exact ⟨0, by simpa using Lay.nil, Nat.le_refl _, by cases i <;> simp at hi ⊢; rfl⟩
  | @snoc acc e f n p h1 h2 h3 h4 h5 ih =>
    intro i hi
    by_cases hi2 : i ≤ acc.length
    · obtain ⟨a, ha, hae, hend⟩ := ih i hi2
      refine ⟨a, by rw [List.take_append_of_le_length hi2]; exact ha, by omega, ?_⟩
      rw [← hend]
      cases i with
      | zero => rfl
      | succ i => unfold endP; simp only; rw [List.getElem?_append_left (by omega)]
    · have : i = acc.length + 1 := by simp at hi; omega
      subst this
      refine ⟨f + n, by rw [List.take_of_length_le (by simp)]; exact Lay.snoc h1 h2 h3 h4 h5, Nat.le_refl _, ?_⟩
      unfold endP
      simp only
      rw [List.getElem?_append_right (Nat.le_refl _)]
      simp only [Nat.sub_self, List.getElem?_cons_zero]
      rw [h4.pf, h4.pn]; omega
/-- What FnPasses sees of pass i. -/
theorem Lay.at {l : List Opr} {L : List Pas} {e : Nat} (h : Lay l L e) {i : Nat} {p : Pas} (hp : L[i]? = some p) :
    ∃ a f n : Nat, endP L i = (a : Int) ∧ endP L (i + 1) = ((f + n : Nat) : Int) ∧ a ≤ f ∧ Gap l a f ∧ Body l p f n ∧ (∀ j q, i = j + 1 → L[j]? = some q → a = f → q.k = p.k → p.k = 1) := by
  have hlt : i < L.length := by
    rcases Nat.lt_or_ge i L.length with h | h
    · exact h
    · rw [List.getElem?_eq_none h] at hp; cases hp
  obtain ⟨a, ha, _, hend⟩ := h.take i (by omega)
  obtain ⟨b, hb, _, hend2⟩ := h.take (i + 1) hlt
  rw [List.take_add_one, hp] at hb
  obtain ⟨a2, f, n, rfl, h1, h2, h3, h4, h5⟩ := Lay.inv (show Lay l (L.take i ++ [p]) b from hb)
  have haa : a2 = a := by
    have key : ∀ {M : List Pas} {x y : Nat}, Lay l M x → Lay l M y → x = y := by
      intro M x y hx hy
      cases hx with
      | nil =>
        generalize hM : ([] : List Pas) = M at hy
        cases hy with
        | nil => rfl
        | snoc _ _ _ _ _ => simp at hM
      | snoc g1 g2 g3 g4 g5 =>
        obtain ⟨_, f', n', rfl, _, _, _, k4, _⟩ := hy.inv
        have := g4.pf; have := g4.pn; have := k4.pf; have := k4.pn
        omega
    exact key h1 ha
  subst haa
  refine ⟨a2, f, n, hend, hend2, h2, h3, h4, fun j q hj hq => ?_⟩
  subst hj
  refine h5 q ?_
  rw [List.getLast?_eq_getElem?, List.length_take, show min (j + 1) L.length - 1 = j by omega, List.getElem?_take_of_lt (by omega)]
  exact hq
theorem Lay.ends {l : List Opr} {L : List Pas} {e : Nat} (h : Lay l L e) : endP L L.length = (e : Int) := by
  cases h with
  | nil => rfl
  | snoc h1 h2 h3 h4 h5 =>
    rw [List.length_append]
    unfold endP
    simp only [List.length_cons, List.length_nil]
    rw [List.getElem?_append_right (Nat.le_refl _)]
    simp only [Nat.sub_self, List.getElem?_cons_zero]
    rw [h4.pf, h4.pn]; omega
/-- The pass of an operation. -/
def psOf (l : List Opr) (k : Int) : Option Pas := (psL l).find? (fun p => decide (p.f ≤ k) && decide (k ≤ p.f + p.n - 1))
theorem endP_mono {l : List Opr} {L : List Pas} {e : Nat} (h : Lay l L e) {j i : Nat} (hji : j ≤ i) (hi : i ≤ L.length) : endP L j ≤ endP L i := by
  induction i with
  | zero => have : j = 0 := by omega
            subst this; exact Int.le_refl _
  | succ i ih =>
    by_cases e : j = i + 1
    · subst e; exact Int.le_refl _
    · have h1 := ih (by omega) (by omega)
      obtain ⟨p, hp⟩ : ∃ p, L[i]? = some p := ⟨_, List.getElem?_eq_getElem (by omega)⟩
      obtain ⟨a, f, n, e1, e2, e3, _⟩ := h.at hp
      omega
theorem psOf_at {l : List Opr} {e : Nat} (h : Lay l (psL l) e) {i : Nat} {p : Pas} (hp : (psL l)[i]? = some p) {k : Int} (h1 : p.f ≤ k) (h2 : k ≤ p.f + p.n - 1) : psOf l k = some p := by
  unfold psOf
  generalize psL l = L at *
  have hlt : i < L.length := by
    rcases Nat.lt_or_ge i L.length with h | h
    · exact h
    · rw [List.getElem?_eq_none h] at hp; cases hp
  rw [List.find?_eq_some_iff_append]
  refine ⟨by simp; omega, L.take i, L.drop (i + 1), ?_, fun q hq => ?_⟩
  · rw [← drop_of_get hp, List.take_append_drop]
  · obtain ⟨j, hj, hjq⟩ := List.getElem_of_mem hq
    have hji : j < i := by rw [List.length_take] at hj; omega
    have hLj : L[j]? = some q := by
      rw [← hjq, List.getElem_take]
      exact List.getElem?_eq_getElem (by omega)
    obtain ⟨a, f, n, _, e2, _, _, b, _⟩ := h.at hLj
    obtain ⟨a', f', n', e1', _, e3', _, b', _⟩ := h.at hp
    have hm := endP_mono h (show j + 1 ≤ i by omega) (by omega)
    have := b.pf; have := b.pn; have := b'.pf
    simp
    omega

/-! ### The span -/
theorem mn_le (z x : Int) : mn z x ≤ z ∧ mn z x ≤ x := by unfold mn; split <;> omega
theorem mx_le (z x : Int) : z ≤ mx z x ∧ x ≤ mx z x := by unfold mx; split <;> omega
theorem low_le (r : Int) : ∀ (l : List Opr) (z : Int), lowG r z l ≤ z ∧ ∀ o ∈ l, lowG r z l ≤ plc o.fb o.fa r
  | [], z => ⟨Int.le_refl _, fun o ho => by simp at ho⟩
  | o :: t, z => by
    have h := low_le r t (mn z (plc o.fb o.fa r))
    have h2 := mn_le z (plc o.fb o.fa r)
    have e : lowG r z (o :: t) = lowG r (mn z (plc o.fb o.fa r)) t := rfl
    rw [e]
    refine ⟨by omega, fun x hx => ?_⟩
    rcases List.mem_cons.1 hx with rfl | hx
    · omega
    · exact h.2 x hx
theorem high_le (r : Int) : ∀ (l : List Opr) (z : Int), z ≤ highG r z l ∧ ∀ o ∈ l, plc o.fb o.fa r ≤ highG r z l
  | [], z => ⟨Int.le_refl _, fun o ho => by simp at ho⟩
  | o :: t, z => by
    have h := high_le r t (mx z (plc o.fb o.fa r))
    have h2 := mx_le z (plc o.fb o.fa r)
    have e : highG r z (o :: t) = highG r (mx z (plc o.fb o.fa r)) t := rfl
    rw [e]
    refine ⟨by omega, fun x hx => ?_⟩
    rcases List.mem_cons.1 hx with rfl | hx
    · omega
    · exact h.2 x hx
theorem Body.far {l : List Opr} {p : Pas} {f n : Nat} (h : Body l p f n) (hk : p.k = 1) {a : Opr} (ha : l[f]? = some a) : ∀ (j : Nat) (b : Opr), j < n → l[f + j]? = some b → (j : Int) ≤ (plc b.fb b.fa p.r - plc a.fb a.fa p.r) * p.d
  | 0, b, hj, hb => by
    rw [Nat.add_zero, ha] at hb
    cases hb
    simp
  | j + 1, b, hj, hb => by
    have hlt : f + j < l.length := by have := h.le; omega
    have hc : l[f + j]? = some l[f + j] := List.getElem?_eq_getElem hlt
    have h1 := h.far hk ha j _ (by omega) hc
    have h2 := h.mono hk j _ b hj hc hb
    have hd := (h.y hk).1
    rcases hd with hd | hd <;> rw [hd] at h1 h2 ⊢ <;> omega
/-- The span of a pass: not empty, and wide enough. -/
theorem span_ok {l : List Opr} {p : Pas} {f n : Nat} (h : Body l p f n) : lowG p.r (spnZ l p) (spnS l p) ≤ highG p.r (spnZ l p) (spnS l p) ∧ (p.k = 1 → p.n ≤ highG p.r (spnZ l p) (spnS l p) - lowG p.r (spnZ l p) (spnS l p) + 1) := by
  have hl := low_le p.r (spnS l p) (spnZ l p)
  have hh := high_le p.r (spnS l p) (spnZ l p)
  refine ⟨by omega, fun hk => ?_⟩
  have hn := h.n1
  have hle := h.le
  have ha : l[f]? = some l[f] := List.getElem?_eq_getElem (by omega)
  have hb : l[f + (n - 1)]? = some l[f + (n - 1)] := List.getElem?_eq_getElem (by omega)
  have hfar := h.far hk ha (n - 1) _ (by omega) hb
  have hbS : l[f + (n - 1)] ∈ spnS l p := List.mem_of_getElem? ((spnS_at h.pf h.pn (by omega)).trans hb)
  have h1 := hl.2 _ hbS
  have h2 := hh.2 _ hbS
  have hz : spnZ l p = plc l[f].fb l[f].fa p.r := by
    unfold spnZ
    rw [h.pf, Int.toNat_natCast, ha]
  have h3 := hl.1
  have h4 := hh.1
  have hd := (h.y hk).1
  have hpn := h.pn
  rcases hd with hd | hd <;> rw [hd] at hfar <;> omega

/-! ### Returns -/
def retS (s : Int × Int) (p : Pas) : Int × Int := if p.k ≠ 1 then s else (if p.d = s.2 then s.1 + 1 else s.1, p.d)
def retG (s : Int × Int) (L : List Pas) : Int × Int := L.foldl retS s
def retN (l : List Opr) : Int := (retG (0, 0) (psL l)).1
theorem ret_next {R s : Int × Int} {L : List Pas} {k : Nat} {p : Pas} (h : R = retG s (L.drop k)) (hp : L[k]? = some p) : R = retG (retS s p) (L.drop (k + 1)) := by
  rw [h, drop_of_get hp]; rfl
theorem ret_inv : ∀ (L : List Pas) (k : Nat) (s : Int × Int), (∀ p ∈ L, p.k = 1 → p.d ≠ 0) → 0 ≤ s.1 → (s.1 = 0 ∧ (k = 0 → s.2 = 0) ∨ s.1 < k) → 0 ≤ (retG s L).1 ∧ ((retG s L).1 = 0 ∨ (retG s L).1 < (k : Int) + L.length)
  | [], k, s, hd, h0, h => by
    show 0 ≤ s.1 ∧ (s.1 = 0 ∨ s.1 < (k : Int) + ((0 : Nat) : Int))
    omega
  | p :: t, k, s, hd, h0, h => by
    have e : retG s (p :: t) = retG (retS s p) t := rfl
    rw [e, show (k : Int) + ((p :: t).length : Int) = ((k + 1 : Nat) : Int) + (t.length : Int) by simp; omega]
    refine ret_inv t (k + 1) (retS s p) (fun q hq => hd q (List.mem_cons_of_mem _ hq)) ?_ ?_
    · unfold retS
      split
      · exact h0
      · simp only; split <;> omega
    · unfold retS
      split
      · rcases h with h | h
        · exact .inl ⟨h.1, fun hk => by omega⟩
        · exact .inr (by omega)
      · rename_i hk
        simp only
        split
        · rename_i hpd
          have hdd := hd p List.mem_cons_self (by simpa using hk)
          rcases h with h | h
          · have hk0 : k ≠ 0 := fun hk => hdd (by rw [hpd]; exact h.2 hk)
            exact .inr (by omega)
          · exact .inr (by omega)
        · rcases h with h | h
          · exact .inl ⟨h.1, fun hk => by omega⟩
          · exact .inr (by omega)
theorem ret_ok {l : List Opr} (hd : ∀ p ∈ psL l, p.k = 1 → p.d ≠ 0) : 0 ≤ retN l ∧ (retN l = 0 ∨ retN l < ((psL l).length : Int)) := by
  have := ret_inv (psL l) 0 (0, 0) hd (Int.le_refl _) (.inl ⟨rfl, fun _ => rfl⟩)
  unfold retN
  simpa using this
theorem lay_dir {l : List Opr} {e : Nat} (h : Lay l (psL l) e) : ∀ p ∈ psL l, p.k = 1 → p.d ≠ 0 := by
  intro p hp hk
  obtain ⟨i, hi, e⟩ := List.getElem_of_mem hp
  obtain ⟨a, f, n, _, _, _, _, b, _⟩ := h.at (show (psL l)[i]? = some p by rw [List.getElem?_eq_getElem hi, e])
  have := (b.y hk).1
  omega
/-! ### A valid operation -/
theorem okOp_g {o : Opr} (h : okOp o = true) : OpG o := by
  have hr := okOp_rng h
  refine ⟨⟨hr.1, hr.2.1⟩, fun hk => ⟨hr.2.2.2.1 hk, ?_⟩, hr.2.2.2.2, fun hk => ?_⟩
  · obtain ⟨k, d, fb, fa, tb, ta, c, r⟩ := o
    have hk2 : k = 1 ∨ k = 2 ∨ k = 3 ∨ k = 5 := by
      unfold psK at hk
      simp only at hk
      split at hk
      · assumption
      · split at hk
        · omega
        · split at hk <;> omega
    unfold okOp at h
    simp only at h ⊢
    split at h
    · simp only [Bool.and_eq_true, decide_eq_true_eq] at h
      exact inB_iff.1 h.2.2.1
    · rw [if_neg (by omega), if_pos (by omega)] at h
      simp only [Bool.and_eq_true, decide_eq_true_eq] at h
      exact inB_iff.1 h.2.2.1
  · obtain ⟨k, d, fb, fa, tb, ta, c, r⟩ := o
    have hn : k ≠ 1 ∧ k ≠ 2 ∧ k ≠ 3 ∧ k ≠ 4 ∧ k ≠ 5 ∧ k ≠ 6 := by
      refine ⟨?_, ?_, ?_, ?_, ?_, ?_⟩ <;> (rintro rfl; simp [psK] at hk)
    unfold okOp at h
    simp only at h hn ⊢
    rw [if_neg (by omega), if_neg (by omega), if_neg (by omega), if_neg (by omega)] at h
    split at h
    · omega
    split at h
    · omega
    split at h
    · omega
    · cases h
theorem ops_g {n : Int} {l : List Opr} (h : opsB n l = true) : ∀ o ∈ l, OpG o := fun o ho => by
  obtain ⟨k, hk, e⟩ := List.getElem_of_mem ho
  exact okOp_g (ops_at h (k := k) (by rw [List.getElem?_eq_getElem hk, e]))

end Go.Proofs.Ytolcgopfbbmjgaa

/-
  Passes: the program's small functions over them (CountPasses, ReturnsOf, PassOf, ValidPass).
-/
namespace Go.Proofs.Ytolcgopfbbmjgaa
set_option linter.unusedVariables false
set_option linter.unusedSimpArgs false
open Go.RowKit

def cntP (l : List Opr) : Int := if opsB 24 l = true then ((psL l).length : Int) else -1
theorem psL_len {l : List Opr} (h : opsB 24 l = true) : (psL l).length ≤ 1500 := by
  have := ops_len h
  have h2 := psGo_len l 0 0 none []
  unfold psL
  simp at h2
  omega
set_option maxHeartbeats 4000000 in
set_option maxRecDepth 100000 in
theorem implCount_any (v : Value) (l : List Opr) (w : World) (hl : RdO w w.heap.size v l) :
    Calls Try.prog 14 #[v] w fun e w' => e = .returned (.int .i64 (cntP l)) ∧ Below w.heap.size w w' := by
  have HL := Lib.hid hl
  have HV := Lib.hid (areOps_any v l w hl)
  obtain ⟨A, N, c, rfl, hln, hl', gl⟩ := hl
  clear hl' gl
  cases ho : opsB 24 l
  · have HC := Lib.hid (show cntP l = -1 by simp [cntP, ho])
    rw [ho] at HV
    clear ho
    go_enter Try.func14, Try.ntmps14
    go_wp2_with fail
    refine HV.out.mono ?_
    rintro e w1 ⟨rfl, hb⟩
    have HB := Lib.hid hb
    clear hb
    go_wp2
    go_ret
    exact ⟨ret_int HC.out.symm, HB.out⟩
  · have HC := Lib.hid (show cntP l = ((psL l).length : Int) by simp [cntP, ho])
    rw [ho] at HV
    have HQ := Lib.hid (fun w1 (hb : Below w.heap.size w w1) => passes_any 24 _ l w1 ((HL.out.below hb).more hb.size) ho)
    clear ho
    go_enter Try.func14, Try.ntmps14
    go_wp2_with fail
    refine HV.out.mono ?_
    rintro e w1 ⟨rfl, hb⟩
    have HB := Lib.hid hb
    clear hb
    go_wp2_with fail
    refine (HQ.out _ HB.out).mono ?_
    rintro e w2 ⟨v2, rfl, hw, hb⟩
    obtain ⟨A2, c2, rfl, -⟩ := hw.cells
    have HB2 := Lib.hid (HB.out.trans (hb.mono HB.out.size))
    clear hb hw
    go_wp2
    go_ret
    exact ⟨ret_int HC.out.symm, HB2.out⟩
theorem find_step {L : List Pas} {i : Nat} {x : Pas} {q : Pas → Bool} (h : L[i]? = some x) : (L.drop i).find? q = if q x = true then some x else (L.drop (i + 1)).find? q := by
  rw [drop_of_get h, List.find?_cons]
  cases q x <;> rfl
theorem isRack_t (n : Int) (w : World) : Calls Try.prog 77 #[.int .i64 n] w fun e w' => e = .returned (.bool (inB (-3) n 3)) ∧ w = w' := by
  go_enter Try.func77, Try.ntmps77
  go_wp2_with (go_at_call 58; refine (within_s _ _ _ _).mono ?_; rintro e w' ⟨rfl, rfl⟩)
  go_ret
  exact ⟨rfl, rfl⟩
theorem isCarrier_t (n : Int) (w : World) : Calls Try.prog 75 #[.int .i64 n] w fun e w' => e = .returned (.bool (inB 1 n 4)) ∧ w = w' := by
  go_enter Try.func75, Try.ntmps75
  go_wp2_with (go_at_call 58; refine (within_s _ _ _ _).mono ?_; rintro e w' ⟨rfl, rfl⟩)
  go_ret
  exact ⟨rfl, rfl⟩

end Go.Proofs.Ytolcgopfbbmjgaa
