/-
  An argument that is a slice of the laws' events, as what the walks are told of it.
-/
import Derived.Test.YtfeonaocmnpkcaaOpen
import Derived.Test.YtfeonaocmnpkcaaEv
namespace Go.Proofs.Ytfeonaocmnpkcaa
set_option linter.unusedVariables false
set_option linter.unusedSimpArgs false
open Go.ChangeShapes Go.WideShapes Go.ChangeAt Go.RowKit Go.Deep

def FitE (e : Ev) : Prop := Fit e.k ∧ Fit e.p ∧ Fit e.c ∧ Fit e.b ∧ Fit e.y ∧ Fit e.d

def evOf : List Int → Ev
  | [a, b, c, d, e, f] => ⟨a, b, c, d, e, f⟩
  | _ => ⟨0, 0, 0, 0, 0, 0⟩

set_option maxRecDepth 100000 in
theorem open_evs {H : Type} {enc : TypeId × Value → H} {W : World} {base : Nat} {d : DataW H} {p : List MemPlace} {v : Value} (ho : Value.okWide Try.prog W .any base 25 v)
    (h : DataW.Trod enc Try.prog W 0 (fun _ => true) true 25 v d p) : ∃ l, RdE W W.heap.size v l ∧ ∀ e ∈ l, FitE e := by
  obtain ⟨l, hr, hx⟩ := open_rdS (i := 2) Try.underlying25 Try.underlying65 (by kernel_rfl) (by kernel_rfl) (by decide) (by kernel_rfl) Try.underlying2 ho h
  refine ⟨l.map evOf, hr.map evOf (fun xs hxs => ?_), fun e he => ?_⟩
  · obtain ⟨h6, _⟩ := hx xs hxs
    match xs, h6 with
    | [a, b, c, d, e, f], _ => rfl
  · obtain ⟨xs, hxs, rfl⟩ := List.mem_map.1 he
    obtain ⟨h6, hf⟩ := hx xs hxs
    match xs, h6, hf with
    | [a, b, c, d, e, f], _, hf => exact ⟨hf a (by simp), hf b (by simp), hf c (by simp), hf d (by simp), hf e (by simp), hf f (by simp)⟩

end Go.Proofs.Ytfeonaocmnpkcaa
