/-
  PassesOf of the program and of the reference: the result and the code; an argument that is a slice of operations.
-/
import Derived.Test.YthpgbklcbmpacaaPs2
import Derived.Test.YthpgbklcbmpacaaOwn
import Derived.Test.YthpgbklcbmpacaaSz
import Derived.Test.YthpgbklcbmpacaaOpen
import Derived.Test.YthpgbklcbmpacaaNest
namespace Go.Proofs.Ythpgbklcbmpacaa
set_option linter.unusedVariables false
set_option linter.unusedSimpArgs false
open Go.ChangeShapes Go.WideShapes Go.ChangeAt Go.RowKit Go.Deep

/- szTS: szOpS theorem's name · laws.szOpS function · RdO the reading's predicate · Opr element type -/
theorem szOpS_any (v : Value) (l : List Opr) (left : Int) (w : World) (B : Nat) (hl : RdO w B v l) (h0 : 0 ≤ left) (h1 : left ≤ 1048576) :
    Calls Try.prog 6 #[v, .int .i64 left] w fun e w' => e = .returned (.int .i64 (szOf left l.length)) ∧ w = w' := by
  obtain ⟨A, n, c, rfl, hln, hl, gl⟩ := hl
  rw [hl.out]
  clear gl
  by_cases h : (n : Int) ≤ left
  · have hs : szOf left n = left - n := by simp [szOf, h]
    have HS := Lib.hid hs
    clear hs
    go_enter Try.func6, Try.ntmps6
    go_wp2
    go_ret
    exact ⟨ret_int HS.out.symm, rfl⟩
  · have hs : szOf left n = -1 := by simp [szOf, h]
    have HS := Lib.hid hs
    clear hs
    go_enter Try.func6, Try.ntmps6
    go_wp2
    go_ret
    exact ⟨ret_int HS.out.symm, rfl⟩

theorem areOps_any (v : Value) (l : List Opr) (w : World) (hl : RdO w w.heap.size v l) :
    Calls Try.prog 24 #[v] w fun e w' => e = .returned (.bool (opsB 24 l)) ∧ Below w.heap.size w w' := by
  have HV := Lib.hid (validFor_any 24 v l w hl)
  obtain ⟨A, N, c, rfl, hln, hl', gl⟩ := hl
  clear hl' gl
  generalize opsB 24 l = B at *
  go_enter Try.func24, Try.ntmps24
  go_wp2_with fail
  refine HV.out.mono ?_
  rintro e w1 ⟨rfl, hb⟩
  have HB := Lib.hid hb
  clear hb
  go_wp2
  go_ret
  exact ⟨rfl, HB.out⟩
theorem l09Ops_any (v : Value) (l : List Opr) (w : World) (hl : RdO w w.heap.size v l) :
    Calls Try.prog 21 #[v] w fun e w' => e = .returned (.bool (opsB 24 l)) ∧ Below w.heap.size w w' := by
  have HV := Lib.hid (l07Ops_any 24 v l w hl)
  obtain ⟨A, N, c, rfl, hln, hl', gl⟩ := hl
  clear hl' gl
  generalize opsB 24 l = B at *
  go_enter Try.func21, Try.ntmps21
  go_wp2_with fail
  refine HV.out.mono ?_
  rintro e w1 ⟨rfl, hb⟩
  have HB := Lib.hid hb
  clear hb
  go_wp2
  go_ret
  exact ⟨rfl, HB.out⟩

def psC (l : List Opr) : Int := if opsB 24 l = true then 0 else 1
def psR (l : List Opr) : List Pas := if opsB 24 l = true then psL l else []
theorem ps_bad {w w' : World} {l : List Opr} (h : opsB 24 l = false) (hb : Below w.heap.size w w') : GivesC w 38 6 (psR l).length (vPs (psR l)) (psC l) (.returned (.tuple #[.slice none 0 0, .int .i64 1])) w' := by
  rw [show psR l = [] by simp [psR, h], show psC l = 1 by simp [psC, h]]
  exact ⟨_, rfl, OwC.nil, hb⟩
theorem ps_yes {w w' : World} {l : List Opr} {v : Value} (h : opsB 24 l = true) (ho : OwC w' w.heap.size w'.heap.size 38 6 v (psL l).length (vPs (psL l))) (hb : Below w.heap.size w w') : GivesC w 38 6 (psR l).length (vPs (psR l)) (psC l) (.returned (.tuple #[v, .int .i64 0])) w' := by
  rw [show psR l = psL l by simp [psR, h], show psC l = 0 by simp [psC, h]]
  exact ⟨_, rfl, ho, hb⟩
theorem psAcc_len (k : Nat) (r : Int) (acc : List Pas) (o : Opr) (lt : Option Int) : (psAcc k r acc o lt).length ≤ acc.length + 1 := by
  have hp : (psPush k r acc o).length = acc.length + 1 := by simp [psPush]
  unfold psAcc
  split
  · unfold psOne
    split
    · split
      · simp only [List.length_append, List.length_dropLast, List.length_cons, List.length_nil]
        omega
      · omega
    · omega
  · omega
theorem psGo_len : ∀ (l : List Opr) (k : Nat) (r : Int) (lt : Option Int) (acc : List Pas), (psGo k r lt acc l).length ≤ acc.length + l.length
  | [], k, r, lt, acc => by simp [psGo]
  | o :: t, k, r, lt, acc => by
    rw [psGo, List.length_cons]
    split
    · have := psGo_len t (k + 1) (if o.k = 7 then o.r else r) none acc
      omega
    · have h1 := psGo_len t (k + 1) r (some (plc o.fb o.fa r)) (psAcc k r acc o lt)
      have h2 := psAcc_len k r acc o lt
      omega
theorem psR_len (l : List Opr) : (psR l).length ≤ 1048576 := by
  unfold psR
  split
  · rename_i h
    have := ops_len h
    have h2 := psGo_len l 0 0 none []
    unfold psL
    simp at h2
    omega
  · simp

section
variable {H : Type} {enc : TypeId × Value → H} {W : World}
set_option maxRecDepth 100000 in
theorem open_ops {base : Nat} {d : DataW H} {p : List MemPlace} {v : Value} (ho : Value.okWide Try.prog W .any base 22 v)
    (h : DataW.Trod enc Try.prog W 0 (fun _ => true) true 22 v d p) : ∃ l : List Opr, RdO W W.heap.size v l ∧ True := by
  obtain ⟨l, A, n', c, rfl, hn, hl, hh⟩ := opens_arg (R := fun v l => RdN (fun _ _ us (x : Opr) => us = x.cells) 8 W W.heap.size v l) Try.underlying22 (opens_rdN (R := fun _ _ us (x : Opr) => us = x.cells) (sz := 8) Try.underlying22 (by kernel_rfl) (by decide) (by
    intro us n y hl h
    obtain ⟨q0, z0, t0⟩ := opens_fld (j := 0) (sz := 1) Try.underlying52 rfl (by kernel_rfl) h
    obtain ⟨q1, z1, t1⟩ := opens_fld (j := 1) (sz := 1) Try.underlying52 rfl (by kernel_rfl) h
    obtain ⟨q2, z2, t2⟩ := opens_fld (j := 2) (sz := 2) Try.underlying52 rfl (by kernel_rfl) h
    obtain ⟨q3, z3, t3⟩ := opens_fld (j := 3) (sz := 2) Try.underlying52 rfl (by kernel_rfl) h
    obtain ⟨q4, z4, t4⟩ := opens_fld (j := 4) (sz := 1) Try.underlying52 rfl (by kernel_rfl) h
    obtain ⟨q5, z5, t5⟩ := opens_fld (j := 5) (sz := 1) Try.underlying52 rfl (by kernel_rfl) h
    match us, hl with
    | [a, b, c, d, e, f, g, i], _ =>
      obtain ⟨_, hf2⟩ := opens_fields Try.underlying50 (by kernel_rfl) (by kernel_rfl) t2
      obtain ⟨_, hf3⟩ := opens_fields Try.underlying50 (by kernel_rfl) (by kernel_rfl) t3
      obtain ⟨u0, p0, w0, g0, s0⟩ := hf2 0 _ rfl
      obtain ⟨u1, p1, w1, g1, s1⟩ := hf2 1 _ rfl
      obtain ⟨u2, p2, w2, g2, s2⟩ := hf3 0 _ rfl
      obtain ⟨u3, p3, w3, g3, s3⟩ := hf3 1 _ rfl
      obtain ⟨x0, rfl, _⟩ := opens_int (enc := enc) (W := W) (P := Try.prog) Try.underlying2 _ _ _ t0
      obtain ⟨x1, rfl, _⟩ := opens_int (enc := enc) (W := W) (P := Try.prog) Try.underlying2 _ _ _ t1
      obtain ⟨y0, rfl, _⟩ := opens_int (enc := enc) (W := W) (P := Try.prog) Try.underlying2 _ _ _ s0
      obtain ⟨y1, rfl, _⟩ := opens_int (enc := enc) (W := W) (P := Try.prog) Try.underlying2 _ _ _ s1
      obtain ⟨y2, rfl, _⟩ := opens_int (enc := enc) (W := W) (P := Try.prog) Try.underlying2 _ _ _ s2
      obtain ⟨y3, rfl, _⟩ := opens_int (enc := enc) (W := W) (P := Try.prog) Try.underlying2 _ _ _ s3
      obtain ⟨x4, rfl, _⟩ := opens_int (enc := enc) (W := W) (P := Try.prog) Try.underlying2 _ _ _ t4
      obtain ⟨x5, rfl, _⟩ := opens_int (enc := enc) (W := W) (P := Try.prog) Try.underlying2 _ _ _ t5
      simp at g0 g1 g2 g3
      subst g0 g1 g2 g3
      exact ⟨⟨x0, x1, y0, y1, y2, y3, x4, x5⟩, rfl⟩)) ho h
  refine ⟨l, ⟨A, n', c, rfl, hn, hl, fun k hk => ?_⟩, trivial⟩
  obtain ⟨b, off, x, us, h1, h2, h3, h4, h5, rfl⟩ := hh k hk
  exact ⟨b, off, x, h1, h2, h3, h5⟩
end

/- PassesOf: spec.PassesOf function · specPassesOf name · l09Ops_any the test · l09Passes_any the passes -/
set_option maxHeartbeats 4000000 in
set_option maxRecDepth 100000 in
theorem specPassesOf_any (v : Value) (l : List Opr) (w : World) (hl : RdO w w.heap.size v l) :
    Calls Try.prog 7 #[v] w (GivesC w 38 6 (psR l).length (vPs (psR l)) (psC l)) := by
  have HL := Lib.hid hl
  have HV := Lib.hid (l09Ops_any v l w hl)
  obtain ⟨A, N, c, rfl, hln, hl', gl⟩ := hl
  clear hl' gl
  cases ho : opsB 24 l
  · have HN := Lib.hid (fun w' hb => ps_bad (w := w) (w' := w') ho hb)
    rw [ho] at HV
    clear ho
    go_enter Try.func7, Try.ntmps7
    go_wp2_with fail
    refine HV.out.mono ?_
    rintro e w1 ⟨rfl, hb⟩
    have HB := Lib.hid hb
    clear hb
    go_wp2
    go_ret2
    exact HN.out _ HB.out
  · rw [ho] at HV
    have HQ := Lib.hid (fun w1 (hb : Below w.heap.size w w1) => l09Passes_any 24 _ l w1 ((HL.out.below hb).more hb.size) ho)
    have HY := Lib.hid (fun w' v hw hb => ps_yes (w := w) (w' := w') (v := v) ho hw hb)
    clear ho
    go_enter Try.func7, Try.ntmps7
    go_wp2_with fail
    refine HV.out.mono ?_
    rintro e w1 ⟨rfl, hb⟩
    have HB := Lib.hid hb
    clear hb
    go_wp2_with fail
    refine (HQ.out _ HB.out).mono ?_
    rintro e w2 ⟨v2, rfl, hw, hb⟩
    obtain ⟨A2, c2, rfl, -⟩ := hw.cells
    have HW := Lib.hid (hw.wide HB.out.size (Nat.le_refl _))
    have HB2 := Lib.hid (HB.out.trans (hb.mono HB.out.size))
    clear hb hw
    go_wp2
    go_ret2
    exact HY.out _ _ HW.out HB2.out
/- PassesOf: impl.PassesOf function · implPassesOf name · areOps_any the test · passes_any the passes -/
set_option maxHeartbeats 4000000 in
set_option maxRecDepth 100000 in
theorem implPassesOf_any (v : Value) (l : List Opr) (w : World) (hl : RdO w w.heap.size v l) :
    Calls Try.prog 9 #[v] w (GivesC w 38 6 (psR l).length (vPs (psR l)) (psC l)) := by
  have HL := Lib.hid hl
  have HV := Lib.hid (areOps_any v l w hl)
  obtain ⟨A, N, c, rfl, hln, hl', gl⟩ := hl
  clear hl' gl
  cases ho : opsB 24 l
  · have HN := Lib.hid (fun w' hb => ps_bad (w := w) (w' := w') ho hb)
    rw [ho] at HV
    clear ho
    go_enter Try.func9, Try.ntmps9
    go_wp2_with fail
    refine HV.out.mono ?_
    rintro e w1 ⟨rfl, hb⟩
    have HB := Lib.hid hb
    clear hb
    go_wp2
    go_ret2
    exact HN.out _ HB.out
  · rw [ho] at HV
    have HQ := Lib.hid (fun w1 (hb : Below w.heap.size w w1) => passes_any 24 _ l w1 ((HL.out.below hb).more hb.size) ho)
    have HY := Lib.hid (fun w' v hw hb => ps_yes (w := w) (w' := w') (v := v) ho hw hb)
    clear ho
    go_enter Try.func9, Try.ntmps9
    go_wp2_with fail
    refine HV.out.mono ?_
    rintro e w1 ⟨rfl, hb⟩
    have HB := Lib.hid hb
    clear hb
    go_wp2_with fail
    refine (HQ.out _ HB.out).mono ?_
    rintro e w2 ⟨v2, rfl, hw, hb⟩
    obtain ⟨A2, c2, rfl, -⟩ := hw.cells
    have HW := Lib.hid (hw.wide HB.out.size (Nat.le_refl _))
    have HB2 := Lib.hid (HB.out.trans (hb.mono HB.out.size))
    clear hb hw
    go_wp2
    go_ret2
    exact HY.out _ _ HW.out HB2.out

end Go.Proofs.Ythpgbklcbmpacaa
