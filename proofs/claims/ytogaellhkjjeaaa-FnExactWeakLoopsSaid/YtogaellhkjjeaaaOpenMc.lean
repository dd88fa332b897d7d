/-
  A machine that is an argument.
-/
import Derived.Test.YtogaellhkjjeaaaMc
namespace Go.Proofs.Ytogaellhkjjeaaa
set_option linter.unusedVariables false
set_option linter.unusedSimpArgs false
open Go.ChangeShapes Go.WideShapes Go.ChangeAt Go.RowKit Go.Deep

section
variable {H : Type} {enc : TypeId × Value → H} {W : World}
theorem opens_int64 : Opens enc Try.prog W 2 (fun v x => v = .int .i64 x ∧ Fit x) := opens_int Try.underlying2
theorem opens_int64S : Opens enc Try.prog W 27 (fun v l => RdI W W.heap.size v l ∧ ∀ x ∈ l, Fit x) := opens_ints Try.underlying27 Try.underlying2 (by kernel_rfl)
theorem opens_int64Sc : Opens enc Try.prog W 27 (fun v l => RdI W W.heap.size v l ∧ CapOk v) := fun n v y h => by
  obtain ⟨l, hl, _⟩ := opens_int64S n v y h
  refine ⟨l, hl, ?_⟩
  rcases open_ints Try.underlying27 Try.underlying2 (by kernel_rfl) h with ⟨hcs, _⟩ | ⟨a, n', c, zs, hcs, _, hl', _⟩
  · simp at hcs
    exact ⟨none, 0, 0, hcs, Nat.le_refl _⟩
  · simp at hcs
    exact ⟨_, n', c, hcs, hl'⟩
theorem opens_int64SS : Opens enc Try.prog W 24 (fun v l => RdLL W W.heap.size v l) := by
  refine opens_rdN (R := rLL) (sz := 1) Try.underlying24 (by kernel_rfl) (by decide) ?_
  intro us n y hl h
  match us, hl with
  | [s], _ =>
    obtain ⟨l, hl, hc⟩ := opens_int64Sc _ _ _ h
    exact ⟨l, s, rfl, hl, hc⟩
set_option maxRecDepth 100000 in
theorem opens_carS : Opens enc Try.prog W 43 (fun v l => RdCs W W.heap.size v l) := by
  intro n v y h
  obtain ⟨l, A, n', c, rfl, hn, hl, hh⟩ := opens_rdN (R := fun _ _ us (x : Car) => us = x.cells) (sz := 2) Try.underlying43 (by kernel_rfl) (by decide) (by
    intro us n y hl h
    obtain ⟨hs, hf⟩ := opens_fields Try.underlying154 (by kernel_rfl) (by kernel_rfl) h
    obtain ⟨u0, q0, z0, g0, t0⟩ := hf 0 _ rfl
    obtain ⟨u1, q1, z1, g1, t1⟩ := hf 1 _ rfl
    obtain ⟨b, rfl⟩ := opens_bool (enc := enc) (W := W) (P := Try.prog) Try.underlying4 _ _ _ t0
    obtain ⟨p, rfl, _⟩ := opens_int64 _ _ _ t1
    match us, hl with
    | [a, c], _ =>
      simp at g0 g1
      exact ⟨⟨b, p⟩, by rw [g0, g1]⟩) _ _ _ h
  refine ⟨l, A, n', c, rfl, hn, hl, fun k hk => ?_⟩
  obtain ⟨b, off, x, us, h1, h2, h3, h4, h5, rfl⟩ := hh k hk
  exact ⟨b, off, x, h1, h2, h3, h5⟩
set_option maxRecDepth 100000 in
theorem opens_infoS : Opens enc Try.prog W 44 (fun v l => RdIs W W.heap.size v l) := by
  refine opens_rdN (R := rInf) (sz := 6) Try.underlying44 (by kernel_rfl) (by decide) ?_
  intro us n y hl h
  obtain ⟨hs, hf⟩ := opens_fields Try.underlying148 (by kernel_rfl) (by kernel_rfl) h
  obtain ⟨u0, q0, z0, g0, t0⟩ := hf 0 _ rfl
  obtain ⟨u1, q1, z1, g1, t1⟩ := hf 1 _ rfl
  obtain ⟨u2, q2, z2, g2, t2⟩ := hf 2 _ rfl
  obtain ⟨u3, q3, z3, g3, t3⟩ := hf 3 _ rfl
  obtain ⟨u4, q4, z4, g4, t4⟩ := hf 4 _ rfl
  obtain ⟨u5, q5, z5, g5, t5⟩ := hf 5 _ rfl
  obtain ⟨x0, rfl, _⟩ := opens_int64 _ _ _ t0
  obtain ⟨x1, rfl, _⟩ := opens_int64 _ _ _ t1
  obtain ⟨x2, rfl, _⟩ := opens_int64 _ _ _ t2
  obtain ⟨x3, rfl, _⟩ := opens_int64 _ _ _ t3
  obtain ⟨x4, rfl, _⟩ := opens_int64 _ _ _ t4
  obtain ⟨ps, hps, hcp⟩ := opens_int64Sc _ _ _ t5
  match us, hl with
  | [a, b, c, d, e, f], _ =>
    simp at g0 g1 g2 g3 g4 g5
    exact ⟨⟨x0, x1, x2, x3, x4, ps⟩, u5, by rw [g0, g1, g2, g3, g4, g5], hps, hcp⟩

set_option maxRecDepth 100000 in
theorem open_machine {base : Nat} {d : DataW H} {p : List MemPlace} {v : Value} (ho : Value.okWide Try.prog W .any base 46 v)
    (h : DataW.Trod enc Try.prog W 0 (fun _ => true) true 46 v d p) : ∃ m : Mc, RdM W W.heap.size v m ∧ Fit m.wd ∧ Fit m.rk := by
  obtain ⟨cs, rfl, hs, hf⟩ := opens_struct Try.underlying46 (by kernel_rfl) (by kernel_rfl) ho h
  obtain ⟨u0, q0, z0, g0, t0⟩ := hf 0 _ rfl
  obtain ⟨u1, q1, z1, g1, t1⟩ := hf 1 _ rfl
  obtain ⟨u2, q2, z2, g2, t2⟩ := hf 2 _ rfl
  obtain ⟨u3, q3, z3, g3, t3⟩ := hf 3 _ rfl
  obtain ⟨u4, q4, z4, g4, t4⟩ := hf 4 _ rfl
  obtain ⟨u5, q5, z5, g5, t5⟩ := hf 5 _ rfl
  obtain ⟨u6, q6, z6, g6, t6⟩ := hf 6 _ rfl
  obtain ⟨x0, rfl, f0⟩ := opens_int64 _ _ _ t0
  obtain ⟨x1, rfl, f1⟩ := opens_int64 _ _ _ t1
  obtain ⟨fr, h2⟩ := opens_int64SS _ _ _ t2
  obtain ⟨bk, h3⟩ := opens_int64SS _ _ _ t3
  obtain ⟨ca, h4⟩ := opens_carS _ _ _ t4
  obtain ⟨ls, h5⟩ := opens_infoS _ _ _ t5
  obtain ⟨dr, h6, h7⟩ := opens_int64Sc _ _ _ t6
  refine ⟨⟨x0, x1, fr, bk, ca, ls, dr⟩, ⟨u2, u3, u4, u5, u6, ?_, h2, h3, h4, h5, h6, h7⟩, f0, f1⟩
  congr 1
  apply Array.ext'
  obtain ⟨cl⟩ := cs
  simp at hs g0 g1 g2 g3 g4 g5 g6
  match cl, hs with
  | [a, b, c, d, e, f, g], _ =>
    simp at g0 g1 g2 g3 g4 g5 g6
    rw [g0, g1, g2, g3, g4, g5, g6]
end

end Go.Proofs.Ytogaellhkjjeaaa
