/-
  A block by its value: what its size says, opened as an argument.
-/
import Derived.Test.YtfeonaocmnpkcaaBlkS
namespace Go.Proofs.Ytfeonaocmnpkcaa
set_option linter.unusedVariables false
set_option linter.unusedSimpArgs false
open Go.ChangeShapes Go.WideShapes Go.ChangeAt Go.RowKit

def FitBk (x : Bk) : Prop := x.b.w.length ≤ 1048576 ∧ x.e.length ≤ 1048576
theorem szBk_fit {left z : Int} {x : Bk} (h : szBk left x = z) (hz : 0 ≤ z) (hl : left ≤ 1048576 := by omega) : FitBk x ∧ z ≤ 1048576 := by
  unfold szBk at h
  by_cases h1 : szBr left x.b < 0
  · rw [if_pos h1] at h
    omega
  · rw [if_neg h1] at h
    obtain ⟨h2, h3⟩ := szBr_pos' rfl (Int.not_lt.1 h1)
    obtain ⟨h4, h5⟩ := szOf_pos' h hz
    rw [h3] at h4 h5
    exact ⟨⟨by omega, by omega⟩, by omega⟩
theorem RdBkV.of_own {w : World} {lo hi : Nat} {v : Value} {x : Bk} (h : OwBkV w lo hi v x) : RdBkV w hi v x := by
  obtain ⟨s, t, m, rfl, h1, h2, h3, h4⟩ := h
  exact ⟨s, t, rfl, (RdI.of_own h3).more h2, RdS.of_own Ev.len h4⟩
theorem OwBkV.below {w w' : World} {lo hi : Nat} {v : Value} {x : Bk} (h : OwBkV w lo hi v x) (hb : Below hi w w') : OwBkV w' lo hi v x := by
  obtain ⟨s, t, m, rfl, h1, h2, h3, h4⟩ := h
  exact ⟨s, t, m, rfl, h1, h2, h3.below (hb.mono h2), h4.below hb⟩

section
variable {H : Type} {enc : TypeId × Value → H} {W : World}
set_option maxRecDepth 100000 in
theorem open_block {base : Nat} {d : DataW H} {p : List MemPlace} {v : Value} (ho : Value.okWide Try.prog W .any base 27 v)
    (h : DataW.Trod enc Try.prog W 0 (fun _ => true) true 27 v d p) : ∃ x : Bk, RdBkV W W.heap.size v x ∧ True := by
  obtain ⟨cs, rfl, hs⟩ := okWide_struct Try.underlying27 ho
  obtain ⟨fuel, hf⟩ := h
  have hf' : DataW.trod enc Try.prog W 0 (fun _ => true) true fuel 27 cs.toList = some (d, p) := hf
  have h3 : Try.prog.cellsOf 27 = 3 := by kernel_rfl
  obtain ⟨x, s, t, e, h4, h5⟩ := opens_blk cs.toList fuel (d, p) (by rw [Array.length_toList, hs, h3]) hf'
  refine ⟨x, ⟨s, t, ?_, h4, h5⟩, trivial⟩
  congr 1
  exact Array.ext' e
end

end Go.Proofs.Ytfeonaocmnpkcaa
