/-
  Texts joined: Sz, OpenOs.
-/
import Derived.Test.YthhpjgdeehcgjaaPk1
import Derived.Test.YthhpjgdeehcgjaaOwn
import Derived.Test.YthhpjgdeehcgjaaOpen
import Derived.Test.YthhpjgdeehcgjaaNest
/-
  How much a count leaves.
-/
namespace Go.Proofs.Ythhpjgdeehcgjaa

def szOf (left : Int) (n : Nat) : Int := if (n : Int) ≤ left then left - n else -1
theorem szOf_no {left : Int} {n : Nat} (h : ¬ (n : Int) ≤ left) : szOf left n = -1 := by simp [szOf, h]
theorem szOf_yes {left : Int} {n : Nat} (h : (n : Int) ≤ left) : szOf left n = left - n := by simp [szOf, h]

theorem szOf_pos' {left z : Int} {n : Nat} (h : szOf left n = z) (hz : 0 ≤ z) : (n : Int) ≤ left ∧ z = left - n := by
  unfold szOf at h
  split at h <;> omega

end Go.Proofs.Ythhpjgdeehcgjaa

/-
  A slice of operations as an argument; its size.
-/
namespace Go.Proofs.Ythhpjgdeehcgjaa
set_option linter.unusedVariables false
set_option linter.unusedSimpArgs false
open Go.ChangeShapes Go.WideShapes Go.ChangeAt Go.RowKit Go.Deep

/- szTS: szOpS theorem's name · laws.szOpS function · RdO the reading's predicate · Opr element type -/
theorem szOpS_any (v : Value) (l : List Opr) (left : Int) (w : World) (B : Nat) (hl : RdO w B v l) (h0 : 0 ≤ left) (h1 : left ≤ 1048576) :
    Calls Try.prog 15 #[v, .int .i64 left] w fun e w' => e = .returned (.int .i64 (szOf left l.length)) ∧ w = w' := by
  obtain ⟨A, n, c, rfl, hln, hl, gl⟩ := hl
  rw [hl.out]
  clear gl
  by_cases h : (n : Int) ≤ left
  · have hs : szOf left n = left - n := by simp [szOf, h]
    have HS := Lib.hid hs
    clear hs
    go_enter Try.func15, Try.ntmps15
    go_wp2
    go_ret
    exact ⟨ret_int HS.out.symm, rfl⟩
  · have hs : szOf left n = -1 := by simp [szOf, h]
    have HS := Lib.hid hs
    clear hs
    go_enter Try.func15, Try.ntmps15
    go_wp2
    go_ret
    exact ⟨ret_int HS.out.symm, rfl⟩

section
variable {H : Type} {enc : TypeId × Value → H} {W : World}
set_option maxRecDepth 100000 in
theorem open_ops {base : Nat} {d : DataW H} {p : List MemPlace} {v : Value} (ho : Value.okWide Try.prog W .any base 50 v)
    (h : DataW.Trod enc Try.prog W 0 (fun _ => true) true 50 v d p) : ∃ l : List Opr, RdO W W.heap.size v l ∧ True := by
  obtain ⟨l, A, n', c, rfl, hn, hl, hh⟩ := opens_arg (R := fun v l => RdN (fun _ _ us (x : Opr) => us = x.cells) 8 W W.heap.size v l) Try.underlying50 (opens_rdN (R := fun _ _ us (x : Opr) => us = x.cells) (sz := 8) Try.underlying50 (by kernel_rfl) (by decide) (by
    intro us n y hl h
    obtain ⟨q0, z0, t0⟩ := opens_fld (j := 0) (sz := 1) Try.underlying31 rfl (by kernel_rfl) h
    obtain ⟨q1, z1, t1⟩ := opens_fld (j := 1) (sz := 1) Try.underlying31 rfl (by kernel_rfl) h
    obtain ⟨q2, z2, t2⟩ := opens_fld (j := 2) (sz := 2) Try.underlying31 rfl (by kernel_rfl) h
    obtain ⟨q3, z3, t3⟩ := opens_fld (j := 3) (sz := 2) Try.underlying31 rfl (by kernel_rfl) h
    obtain ⟨q4, z4, t4⟩ := opens_fld (j := 4) (sz := 1) Try.underlying31 rfl (by kernel_rfl) h
    obtain ⟨q5, z5, t5⟩ := opens_fld (j := 5) (sz := 1) Try.underlying31 rfl (by kernel_rfl) h
    match us, hl with
    | [a, b, c, d, e, f, g, i], _ =>
      obtain ⟨_, hf2⟩ := opens_fields Try.underlying29 (by kernel_rfl) (by kernel_rfl) t2
      obtain ⟨_, hf3⟩ := opens_fields Try.underlying29 (by kernel_rfl) (by kernel_rfl) t3
      obtain ⟨u0, p0, w0, g0, s0⟩ := hf2 0 _ rfl
      obtain ⟨u1, p1, w1, g1, s1⟩ := hf2 1 _ rfl
      obtain ⟨u2, p2, w2, g2, s2⟩ := hf3 0 _ rfl
      obtain ⟨u3, p3, w3, g3, s3⟩ := hf3 1 _ rfl
      obtain ⟨x0, rfl, _⟩ := opens_int (enc := enc) (W := W) (P := Try.prog) Try.underlying2 _ _ _ t0
      obtain ⟨x1, rfl, _⟩ := opens_int (enc := enc) (W := W) (P := Try.prog) Try.underlying2 _ _ _ t1
      obtain ⟨y0, rfl, _⟩ := opens_int (enc := enc) (W := W) (P := Try.prog) Try.underlying2 _ _ _ s0
      obtain ⟨y1, rfl, _⟩ := opens_int (enc := enc) (W := W) (P := Try.prog) Try.underlying2 _ _ _ s1
      obtain ⟨y2, rfl, _⟩ := opens_int (enc := enc) (W := W) (P := Try.prog) Try.underlying2 _ _ _ s2
      obtain ⟨y3, rfl, _⟩ := opens_int (enc := enc) (W := W) (P := Try.prog) Try.underlying2 _ _ _ s3
      obtain ⟨x4, rfl, _⟩ := opens_int (enc := enc) (W := W) (P := Try.prog) Try.underlying2 _ _ _ t4
      obtain ⟨x5, rfl, _⟩ := opens_int (enc := enc) (W := W) (P := Try.prog) Try.underlying2 _ _ _ t5
      simp at g0 g1 g2 g3
      subst g0 g1 g2 g3
      exact ⟨⟨x0, x1, y0, y1, y2, y3, x4, x5⟩, rfl⟩)) ho h
  refine ⟨l, ⟨A, n', c, rfl, hn, hl, fun k hk => ?_⟩, trivial⟩
  obtain ⟨b, off, x, us, h1, h2, h3, h4, h5, rfl⟩ := hh k hk
  exact ⟨b, off, x, h1, h2, h3, h5⟩
end

end Go.Proofs.Ythhpjgdeehcgjaa
