/-
  Words and braids equal as braids, of the program.
-/
import Derived.Test.YtfeonaocmnpkcaaGarP
import Derived.Test.YtfeonaocmnpkcaaBraidV
namespace Go.Proofs.Ytfeonaocmnpkcaa
set_option linter.unusedVariables false
set_option linter.unusedSimpArgs false
open Go.RowKit

theorem RdNF.below {n : Nat} {w w' : World} {v : Value} {s : St} (h : RdNF n w w.heap.size v s) (hb : Below w.heap.size w w') : RdNF n w' w'.heap.size v s := by
  obtain ⟨u, rfl, hu⟩ := h
  exact ⟨u, rfl, (hu.below hb).more hb.size⟩
theorem eqW_of {n : Nat} {a b : List Int} {s t : St} (ha : LetsN n a) (hb : LetsN n b) (hs : IsNF n a s) (ht : IsNF n b t) : eqW n a b = @decide (s = t) (Classical.propDecidable _) := by
  rw [nfw_eq ha hs, nfw_eq hb ht]
  rfl

set_option maxHeartbeats 2000000 in
set_option maxRecDepth 100000 in
theorem equalWords_any (n : Nat) (hn : n ≤ 12) (a b : List Int) (ha : LetsN n a) (hb : LetsN n b) (hal : a.length ≤ 2000) (hbl : b.length ≤ 2000) (u v : Value) (w : World) (hu : RdI w w.heap.size u a) (hv : RdI w w.heap.size v b) :
    Calls Try.prog 57 #[.int .i64 (n : Int), u, v] w fun e w' => e = .returned (.bool (eqW n a b)) ∧ Below w.heap.size w w' := by
  have HQ1 := Lib.hid (normalOf_any n hn a ha (by omega) u w hu)
  have HQ2 := Lib.hid (fun w1 (h : Below w.heap.size w w1) => normalOf_any n hn b hb (by omega) v w1 ((hv.below h).more h.size))
  have HA := Lib.hid ha
  have HB := Lib.hid hb
  obtain ⟨A, c, rfl⟩ := hu.len
  obtain ⟨A', c', rfl⟩ := hv.len
  clear hu hv ha hb
  go_enter Try.func57, Try.ntmps57
  go_wp2_with fail
  refine HQ1.out.mono ?_
  rintro e w1 ⟨s, x, rfl, hx, hs, hb1⟩
  have HB1 := Lib.hid hb1
  have HX := Lib.hid hx
  have HS := Lib.hid hs
  obtain ⟨x', rfl, -⟩ := hx
  clear hb1 hs
  go_wp2_with fail
  refine (HQ2.out _ HB1.out).mono ?_
  rintro e w2 ⟨t, y, rfl, hy, ht, hb2⟩
  have HB2 := Lib.hid (HB1.out.trans (hb2.mono HB1.out.size))
  have HY := Lib.hid hy
  have HT := Lib.hid ht
  have HE := Lib.hid (eqW_of HA.out HB.out HS.out ht)
  have HQ3 := Lib.hid (sameNormal_any n _ _ s t w2 (HX.out.below hb2) hy (HS.out.val HA.out).on (ht.val HB.out).on)
  obtain ⟨y', rfl, -⟩ := hy
  clear hb2 ht
  go_wp2_with fail
  refine HQ3.out.mono ?_
  rintro e w3 ⟨rfl, hb3⟩
  have HB3 := Lib.hid (HB2.out.trans (hb3.mono HB2.out.size))
  clear hb3
  go_wp2
  go_ret
  exact ⟨ret_bool HE.out.symm, HB3.out⟩

end Go.Proofs.Ytfeonaocmnpkcaa
