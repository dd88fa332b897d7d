/-
  A braid that is an argument.
-/
import Derived.Test.YtfeonaocmnpkcaaNest
import Derived.Test.YtfeonaocmnpkcaaBraidE
namespace Go.Proofs.Ytfeonaocmnpkcaa
set_option linter.unusedVariables false
set_option linter.unusedSimpArgs false
open Go.ChangeShapes Go.WideShapes Go.ChangeAt Go.RowKit Go.Deep

set_option maxRecDepth 100000 in
theorem open_braid {H : Type} {enc : TypeId × Value → H} {W : World} {base : Nat} {d : DataW H} {p : List MemPlace} {v : Value} (ho : Value.okWide Try.prog W .any base 24 v)
    (h : DataW.Trod enc Try.prog W 0 (fun _ => true) true 24 v d p) : ∃ b : Br, RdBr W W.heap.size v b ∧ Fit b.n := by
  obtain ⟨cs, rfl, hs, hf⟩ := opens_struct Try.underlying24 (by kernel_rfl) (by kernel_rfl) ho h
  obtain ⟨u0, q0, z0, g0, t0⟩ := hf 0 _ rfl
  obtain ⟨u1, q1, z1, g1, t1⟩ := hf 1 _ rfl
  obtain ⟨n, rfl, hn⟩ := opens_int (enc := enc) (W := W) (P := Try.prog) Try.underlying2 _ _ _ t0
  obtain ⟨l, hl, _⟩ := opens_ints (enc := enc) (W := W) (P := Try.prog) Try.underlying22 Try.underlying2 (by kernel_rfl) _ _ _ t1
  refine ⟨⟨n, l⟩, ⟨u1, ?_, hl⟩, hn⟩
  congr 1
  apply Array.ext'
  obtain ⟨cl⟩ := cs
  simp at hs g0 g1
  match cl, hs with
  | [a, b], _ =>
    simp at g0 g1
    rw [g0, g1]

theorem szOf_pos' {left z : Int} {n : Nat} (h : szOf left n = z) (hz : 0 ≤ z) : (n : Int) ≤ left ∧ z = left - n := by
  unfold szOf at h
  split at h <;> omega
theorem szBr_pos' {left z : Int} {b : Br} (h : szBr left b = z) (hz : 0 ≤ z) : (b.w.length : Int) ≤ left ∧ z = left - b.w.length := szOf_pos' h hz

/-- A braid by value whose marked word is the caller's own. -/
def OmBr (w : World) (lo hi : Nat) (v : Value) (b : Br) (K : Int) : Prop := ∃ s, v = .agg #[.int .i64 b.n, s] ∧ OwC w lo hi 2 1 s b.w.length (vM K (b.w.length * 1))
theorem OmBr.below {w w' : World} {lo hi : Nat} {v : Value} {b : Br} {K : Int} (h : ∃ s, v = .agg #[.int .i64 b.n, s] ∧ OwC w lo hi 2 1 s b.w.length (vM K (b.w.length * 1))) (hb : Below hi w w') :
    ∃ s, v = .agg #[.int .i64 b.n, s] ∧ OwC w' lo hi 2 1 s b.w.length (vM K (b.w.length * 1)) := by
  obtain ⟨s, hv, ho⟩ := h
  exact ⟨s, hv, ho.below hb⟩
theorem braidL_len {b : Br} (h : b.w.length ≤ 1048576) : (braidL b).length ≤ 1048576 := by
  unfold braidL letsE
  split <;> simp
  exact h

end Go.Proofs.Ytfeonaocmnpkcaa
