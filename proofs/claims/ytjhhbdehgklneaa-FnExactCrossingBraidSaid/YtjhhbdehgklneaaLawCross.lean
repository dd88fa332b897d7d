/-
  The program's CrossingBraid returns what the reference's returns, for every number of strands and every list of events; no condition.
-/
import Derived.Test.YtjhhbdehgklneaaCrossS
import Derived.Test.YtjhhbdehgklneaaSame
import Derived.Test.YtjhhbdehgklneaaMark
import Derived.Test.YtjhhbdehgklneaaOpenBr
import Derived.Test.YtjhhbdehgklneaaOpenEv
import Derived.Test.YtjhhbdehgklneaaKept
import Derived.Deep.RegionHeld3
namespace Go.Proofs.Ytjhhbdehgklneaa
set_option linter.unusedVariables false
set_option linter.unusedSimpArgs false
open Go.ChangeShapes Go.WideShapes Go.ChangeAt Go.RowKit
open Go.ChangeMaps (open_string shut_string)

set_option maxHeartbeats 8000000 in
set_option maxRecDepth 100000 in
theorem FnExactCrossingBraid.core (n : Int) (v1 : Value) (l : List Ev) (W : World) (hl1 : RdE W W.heap.size v1 l) :
    Calls Try.prog 3 #[.int .i64 n, v1] W fun e W' => e = .returned (.bool true) ∧ Below W.heap.size W W' := by
  have H1 := Lib.hid hl1
  clear hl1
  obtain ⟨z1, e1⟩ : ∃ z, szOf 1048576 l.length = z := ⟨_, rfl⟩
  have E1 := Lib.hid e1
  clear e1
  by_cases p1 : 0 ≤ z1
  case neg =>
    have q1 : z1 < 0 := by omega
    clear p1
    go_enter Try.func3, Try.ntmps3
    go_wp2_with fail
    refine (szEventS_any _ l 1048576 _ _ H1.out (by omega) (by omega)).mono ?_
    rintro e w' ⟨rfl, rfl⟩
    rw [E1.out]
    go_wp2
    go_ret
    exact ⟨rfl, (Below.refl _ _)⟩
  obtain ⟨f1, g1⟩ := szOf_pos' E1.out p1
  have s1 := Lib.hid (show (l).length ≤ 1048576 by omega)
  have u1 : z1 ≤ 1048576 := by omega
  clear f1 g1
  have sr : Hid ((crR n l).w.length ≤ 1048576) := crR_len n l
  go_enter Try.func3, Try.ntmps3
  go_wp2_with fail
  refine (szEventS_any _ l 1048576 _ _ H1.out (by omega) (by omega)).mono ?_
  rintro e w' ⟨rfl, rfl⟩
  rw [E1.out]
  go_wp2_with fail
  refine (toEventS_any _ l _ H1.out s1.out).mono ?_
  rintro e w1 ⟨va1, rfl, ho, hb⟩
  have S1 := Lib.hid hb.size
  have B1 := Lib.hid (hb)
  have Oa1 := Lib.hid ho
  clear ho
  clear hb
  go_wp2_with fail
  refine (specCross_any n _ l _ ((RdS.of_own Ev.len Oa1.out).more (by have := S1.out; omega)) s1.out).mono ?_
  rintro e w2 ⟨vw, rfl, ho, hb⟩
  obtain ⟨sw, rfl, ho⟩ := ho
  obtain ⟨Aw, cw, rfl, -⟩ := ho.cells
  have Oa1' := Lib.hid (Oa1.out.below (hb.mono (by have := S1.out; omega)))
  clear Oa1
  have Oa1 := Oa1'
  clear Oa1'
  have S2 := Lib.hid hb.size
  have B2 := Lib.hid (B1.out.trans (hb.mono B1.out.size))
  have Ow : Hid (OwBr _ _ _ _ (crR n l)) := ⟨_, rfl, ho⟩
  clear ho
  clear hb B1
  have hb : Below w2.heap.size w2 (w2.alloc (.cells #[.int .i64 (crR n l).n, .slice Aw (crR n l).w.length cw] 26)) := (Below.refl _ _).alloc (Nat.le_refl _) _
  have Oa1' := Lib.hid (Oa1.out.below (hb.mono (by have := S1.out; have := S2.out; omega)))
  have Ow' := Lib.hid (Ow.out.below (hb.mono (by have := S1.out; have := S2.out; omega)))
  clear Oa1 Ow
  have Oa1 := Oa1'
  have Ow := Ow'
  clear Oa1' Ow'
  have S3 := Lib.hid hb.size
  have B3 := Lib.hid (B2.out.trans (hb.mono B2.out.size))
  clear hb B2
  have hqw : CellsAt (w2.alloc (.cells #[.int .i64 (crR n l).n, .slice Aw (crR n l).w.length cw] 26)) w2.heap.size 0 [.int .i64 (crR n l).n, .slice Aw (crR n l).w.length cw] := by
    intro j u hu
    rcases j with _ | _ | j <;> simp at hu <;> subst hu <;> simp [go_sem]
  have hclw : ∀ w1, Kept w2.heap.size (w2.alloc (.cells #[.int .i64 (crR n l).n, .slice Aw (crR n l).w.length cw] 26)) w1 → CellsAt w1 w2.heap.size 0 [.int .i64 (crR n l).n, .slice Aw (crR n l).w.length cw] := fun w1 hb1 => hb1.cells hqw
  clear hqw
  have BXw : Hid (Kept w2.heap.size (w2.alloc (.cells #[.int .i64 (crR n l).n, .slice Aw (crR n l).w.length cw] 26)) (w2.alloc (.cells #[.int .i64 (crR n l).n, .slice Aw (crR n l).w.length cw] 26))) := Kept.refl (by simp)
  have Tw : Hid (w2.heap.size < (w2.alloc (.cells #[.int .i64 (crR n l).n, .slice Aw (crR n l).w.length cw] 26)).heap.size) := BXw.out.lt
  clear Oa1
  go_wp2_with fail
  refine (toEventS_any _ l _ ((H1.out.below B3.out).more B3.out.size) s1.out).mono ?_
  rintro e w4 ⟨vx1, rfl, ho, hb⟩
  have Ow' := Lib.hid (Ow.out.below (hb.mono (by have := S1.out; have := S2.out; have := S3.out; have := Tw.out; omega)))
  clear Ow
  have Ow := Ow'
  clear Ow'
  have S4 := Lib.hid hb.size
  have B4 := Lib.hid (B3.out.trans (hb.mono B3.out.size))
  have BXw' := Lib.hid (BXw.out.next hb)
  clear BXw
  have BXw := BXw'
  clear BXw'
  have Ox1 := Lib.hid ho
  clear ho
  clear hb B3
  go_wp2_with fail
  refine (implCross_any n _ l _ ((RdS.of_own Ev.len Ox1.out).more (by have := S1.out; have := S2.out; have := S3.out; have := S4.out; have := Tw.out; omega)) s1.out).mono ?_
  rintro e w5 ⟨vg, rfl, ho, hb⟩
  obtain ⟨sg, rfl, ho⟩ := ho
  obtain ⟨Ag, cg, rfl, -⟩ := ho.cells
  have Ow' := Lib.hid (Ow.out.below (hb.mono (by have := S1.out; have := S2.out; have := S3.out; have := S4.out; have := Tw.out; omega)))
  have Ox1' := Lib.hid (Ox1.out.below (hb.mono (by have := S1.out; have := S2.out; have := S3.out; have := S4.out; have := Tw.out; omega)))
  clear Ow Ox1
  have Ow := Ow'
  have Ox1 := Ox1'
  clear Ow' Ox1'
  have S5 := Lib.hid hb.size
  have B5 := Lib.hid (B4.out.trans (hb.mono B4.out.size))
  have BXw' := Lib.hid (BXw.out.next hb)
  clear BXw
  have BXw := BXw'
  clear BXw'
  have Og : Hid (OwBr _ _ _ _ (crR n l)) := ⟨_, rfl, ho⟩
  clear ho
  clear hb B4
  have hb : Below w5.heap.size w5 (w5.alloc (.cells #[.int .i64 (crR n l).n, .slice Ag (crR n l).w.length cg] 26)) := (Below.refl _ _).alloc (Nat.le_refl _) _
  have Ow' := Lib.hid (Ow.out.below (hb.mono (by have := S1.out; have := S2.out; have := S3.out; have := S4.out; have := S5.out; have := Tw.out; omega)))
  have Ox1' := Lib.hid (Ox1.out.below (hb.mono (by have := S1.out; have := S2.out; have := S3.out; have := S4.out; have := S5.out; have := Tw.out; omega)))
  have Og' := Lib.hid (Og.out.below (hb.mono (by have := S1.out; have := S2.out; have := S3.out; have := S4.out; have := S5.out; have := Tw.out; omega)))
  clear Ow Ox1 Og
  have Ow := Ow'
  have Ox1 := Ox1'
  have Og := Og'
  clear Ow' Ox1' Og'
  have S6 := Lib.hid hb.size
  have B6 := Lib.hid (B5.out.trans (hb.mono B5.out.size))
  have BXw' := Lib.hid (BXw.out.next hb)
  clear BXw
  have BXw := BXw'
  clear BXw'
  clear hb B5
  have hqg : CellsAt (w5.alloc (.cells #[.int .i64 (crR n l).n, .slice Ag (crR n l).w.length cg] 26)) w5.heap.size 0 [.int .i64 (crR n l).n, .slice Ag (crR n l).w.length cg] := by
    intro j u hu
    rcases j with _ | _ | j <;> simp at hu <;> subst hu <;> simp [go_sem]
  have hclg : ∀ w1, Kept w5.heap.size (w5.alloc (.cells #[.int .i64 (crR n l).n, .slice Ag (crR n l).w.length cg] 26)) w1 → CellsAt w1 w5.heap.size 0 [.int .i64 (crR n l).n, .slice Ag (crR n l).w.length cg] := fun w1 hb1 => hb1.cells hqg
  clear hqg
  have BXg : Hid (Kept w5.heap.size (w5.alloc (.cells #[.int .i64 (crR n l).n, .slice Ag (crR n l).w.length cg] 26)) (w5.alloc (.cells #[.int .i64 (crR n l).n, .slice Ag (crR n l).w.length cg] 26))) := Kept.refl (by simp)
  have Tg : Hid (w5.heap.size < (w5.alloc (.cells #[.int .i64 (crR n l).n, .slice Ag (crR n l).w.length cg] 26)).heap.size) := BXg.out.lt
  obtain ⟨kw_0, kw_1⟩ := (hclw _ BXw.out).two
  obtain ⟨kg_0, kg_1⟩ := (hclg _ BXg.out).two
  go_wp2_with fail
  clear kw_0 kw_1
  clear kg_0 kg_1
  refine (eqBraid_any _ _ (crR n l) (crR n l) _ ((RdBr.of_own Og.out).more (by have := S1.out; have := S2.out; have := S3.out; have := S4.out; have := S5.out; have := S6.out; have := Tw.out; have := Tg.out; omega)) ((RdBr.of_own Ow.out).more (by have := S1.out; have := S2.out; have := S3.out; have := S4.out; have := S5.out; have := S6.out; have := Tw.out; have := Tg.out; omega))).mono ?_
  rintro e w7 ⟨rfl, hb⟩
  have Ow' := Lib.hid (Ow.out.below (hb.mono (by have := S1.out; have := S2.out; have := S3.out; have := S4.out; have := S5.out; have := S6.out; have := Tw.out; have := Tg.out; omega)))
  have Ox1' := Lib.hid (Ox1.out.below (hb.mono (by have := S1.out; have := S2.out; have := S3.out; have := S4.out; have := S5.out; have := S6.out; have := Tw.out; have := Tg.out; omega)))
  have Og' := Lib.hid (Og.out.below (hb.mono (by have := S1.out; have := S2.out; have := S3.out; have := S4.out; have := S5.out; have := S6.out; have := Tw.out; have := Tg.out; omega)))
  clear Ow Ox1 Og
  have Ow := Ow'
  have Ox1 := Ox1'
  have Og := Og'
  clear Ow' Ox1' Og'
  have S7 := Lib.hid hb.size
  have B7 := Lib.hid (B6.out.trans (hb.mono B6.out.size))
  have BXw' := Lib.hid (BXw.out.next hb)
  clear BXw
  have BXw := BXw'
  clear BXw'
  have BXg' := Lib.hid (BXg.out.next hb)
  clear BXg
  have BXg := BXg'
  clear BXg'
  clear hb B6
  go_wp2_with fail
  refine (toEventS_any _ l _ ((H1.out.below B7.out).more B7.out.size) s1.out).mono ?_
  rintro e w8 ⟨vy1, rfl, ho, hb⟩
  have Ow' := Lib.hid (Ow.out.below (hb.mono (by have := S1.out; have := S2.out; have := S3.out; have := S4.out; have := S5.out; have := S6.out; have := S7.out; have := Tw.out; have := Tg.out; omega)))
  have Ox1' := Lib.hid (Ox1.out.below (hb.mono (by have := S1.out; have := S2.out; have := S3.out; have := S4.out; have := S5.out; have := S6.out; have := S7.out; have := Tw.out; have := Tg.out; omega)))
  have Og' := Lib.hid (Og.out.below (hb.mono (by have := S1.out; have := S2.out; have := S3.out; have := S4.out; have := S5.out; have := S6.out; have := S7.out; have := Tw.out; have := Tg.out; omega)))
  clear Ow Ox1 Og
  have Ow := Ow'
  have Ox1 := Ox1'
  have Og := Og'
  clear Ow' Ox1' Og'
  have S8 := Lib.hid hb.size
  have B8 := Lib.hid (B7.out.trans (hb.mono B7.out.size))
  have BXw' := Lib.hid (BXw.out.next hb)
  clear BXw
  have BXw := BXw'
  clear BXw'
  have BXg' := Lib.hid (BXg.out.next hb)
  clear BXg
  have BXg := BXg'
  clear BXg'
  have Oy1 := Lib.hid ho
  clear ho
  clear hb B7
  go_wp2_with fail
  refine (eqEventS_any _ _ (l) (l) _ _ ((RdS.of_own Ev.len Ox1.out).more (by have := S1.out; have := S2.out; have := S3.out; have := S4.out; have := S5.out; have := S6.out; have := S7.out; have := S8.out; have := Tw.out; have := Tg.out; omega)) ((RdS.of_own Ev.len Oy1.out).more (by have := S1.out; have := S2.out; have := S3.out; have := S4.out; have := S5.out; have := S6.out; have := S7.out; have := S8.out; have := Tw.out; have := Tg.out; omega)) (Nat.le_refl _)).mono ?_
  rintro e w9 ⟨rfl, hb⟩
  have Ow' := Lib.hid (Ow.out.below (hb.mono (by have := S1.out; have := S2.out; have := S3.out; have := S4.out; have := S5.out; have := S6.out; have := S7.out; have := S8.out; have := Tw.out; have := Tg.out; omega)))
  have Ox1' := Lib.hid (Ox1.out.below (hb.mono (by have := S1.out; have := S2.out; have := S3.out; have := S4.out; have := S5.out; have := S6.out; have := S7.out; have := S8.out; have := Tw.out; have := Tg.out; omega)))
  have Og' := Lib.hid (Og.out.below (hb.mono (by have := S1.out; have := S2.out; have := S3.out; have := S4.out; have := S5.out; have := S6.out; have := S7.out; have := S8.out; have := Tw.out; have := Tg.out; omega)))
  have Oy1' := Lib.hid (Oy1.out.below (hb.mono (by have := S1.out; have := S2.out; have := S3.out; have := S4.out; have := S5.out; have := S6.out; have := S7.out; have := S8.out; have := Tw.out; have := Tg.out; omega)))
  clear Ow Ox1 Og Oy1
  have Ow := Ow'
  have Ox1 := Ox1'
  have Og := Og'
  have Oy1 := Oy1'
  clear Ow' Ox1' Og' Oy1'
  have S9 := Lib.hid hb.size
  have B9 := Lib.hid (B8.out.trans (hb.mono B8.out.size))
  have BXw' := Lib.hid (BXw.out.next hb)
  clear BXw
  have BXw := BXw'
  clear BXw'
  have BXg' := Lib.hid (BXg.out.next hb)
  clear BXg
  have BXg := BXg'
  clear BXg'
  clear hb B8
  clear Oy1
  go_wp2_with fail
  refine (markE_any _ _ _ _ _ _ _ Ox1.out (by omega) (by have := sr.out; have := s1.out; omega)).mono ?_
  rintro e w10 ⟨rfl, ho, hb⟩
  have Ow' := Lib.hid (Ow.out.only hb (by have := S1.out; have := S2.out; have := S3.out; have := S4.out; have := S5.out; have := S6.out; have := S7.out; have := S8.out; have := S9.out; have := Tw.out; have := Tg.out; omega) (by have := S1.out; have := S2.out; have := S3.out; have := S4.out; have := S5.out; have := S6.out; have := S7.out; have := S8.out; have := S9.out; have := Tw.out; have := Tg.out; omega))
  have Og' := Lib.hid (Og.out.only hb (by have := S1.out; have := S2.out; have := S3.out; have := S4.out; have := S5.out; have := S6.out; have := S7.out; have := S8.out; have := S9.out; have := Tw.out; have := Tg.out; omega) (by have := S1.out; have := S2.out; have := S3.out; have := S4.out; have := S5.out; have := S6.out; have := S7.out; have := S8.out; have := S9.out; have := Tw.out; have := Tg.out; omega))
  clear Ow Og
  have Ow := Ow'
  have Og := Og'
  clear Ow' Og'
  have BXw' := Lib.hid (BXw.out.only hb (by first | (left; have := S1.out; have := S2.out; have := S3.out; have := S4.out; have := S5.out; have := S6.out; have := S7.out; have := S8.out; have := S9.out; have := Tw.out; have := Tg.out; omega) | (right; have := S1.out; have := S2.out; have := S3.out; have := S4.out; have := S5.out; have := S6.out; have := S7.out; have := S8.out; have := S9.out; have := Tw.out; have := Tg.out; omega)))
  clear BXw
  have BXw := BXw'
  clear BXw'
  have BXg' := Lib.hid (BXg.out.only hb (by first | (left; have := S1.out; have := S2.out; have := S3.out; have := S4.out; have := S5.out; have := S6.out; have := S7.out; have := S8.out; have := S9.out; have := Tw.out; have := Tg.out; omega) | (right; have := S1.out; have := S2.out; have := S3.out; have := S4.out; have := S5.out; have := S6.out; have := S7.out; have := S8.out; have := S9.out; have := Tw.out; have := Tg.out; omega)))
  clear BXg
  have BXg := BXg'
  clear BXg'
  have S10 : Hid (w9.heap.size ≤ w10.heap.size) := hb.size
  have B10 := Lib.hid (B9.out.trans (hb.below (by have := S1.out; have := S2.out; have := S3.out; have := S4.out; have := S5.out; have := S6.out; have := S7.out; have := S8.out; have := S9.out; have := S10.out; have := Tw.out; have := Tg.out; omega) (by have := S1.out; have := S2.out; have := S3.out; have := S4.out; have := S5.out; have := S6.out; have := S7.out; have := S8.out; have := S9.out; have := S10.out; have := Tw.out; have := Tg.out; omega)))
  clear Ox1
  have Ox1 := Lib.hid ho
  clear ho hb B9
  clear Ox1
  obtain ⟨kw_0, kw_1⟩ := (hclw _ BXw.out).two
  obtain ⟨kg_0, kg_1⟩ := (hclg _ BXg.out).two
  go_wp2_with fail
  clear kw_0 kw_1
  clear kg_0 kg_1
  refine (eqBraid_any _ _ (crR n l) (crR n l) _ ((RdBr.of_own Og.out).more (by have := S1.out; have := S2.out; have := S3.out; have := S4.out; have := S5.out; have := S6.out; have := S7.out; have := S8.out; have := S9.out; have := S10.out; have := Tw.out; have := Tg.out; omega)) ((RdBr.of_own Ow.out).more (by have := S1.out; have := S2.out; have := S3.out; have := S4.out; have := S5.out; have := S6.out; have := S7.out; have := S8.out; have := S9.out; have := S10.out; have := Tw.out; have := Tg.out; omega))).mono ?_
  rintro e w11 ⟨rfl, hb⟩
  have Ow' := Lib.hid (Ow.out.below (hb.mono (by have := S1.out; have := S2.out; have := S3.out; have := S4.out; have := S5.out; have := S6.out; have := S7.out; have := S8.out; have := S9.out; have := S10.out; have := Tw.out; have := Tg.out; omega)))
  have Og' := Lib.hid (Og.out.below (hb.mono (by have := S1.out; have := S2.out; have := S3.out; have := S4.out; have := S5.out; have := S6.out; have := S7.out; have := S8.out; have := S9.out; have := S10.out; have := Tw.out; have := Tg.out; omega)))
  clear Ow Og
  have Ow := Ow'
  have Og := Og'
  clear Ow' Og'
  have S11 := Lib.hid hb.size
  have B11 := Lib.hid (B10.out.trans (hb.mono B10.out.size))
  have BXw' := Lib.hid (BXw.out.next hb)
  clear BXw
  have BXw := BXw'
  clear BXw'
  have BXg' := Lib.hid (BXg.out.next hb)
  clear BXg
  have BXg := BXg'
  clear BXg'
  clear hb B10
  obtain ⟨kg_0, kg_1⟩ := (hclg _ BXg.out).two
  go_wp2_with fail
  clear kg_0 kg_1
  refine (markBraid_any _ _ _ _ _ _ Og.out (by omega) (by have := sr.out; have := s1.out; omega) (by have := S1.out; have := S2.out; have := S3.out; have := S4.out; have := S5.out; have := S6.out; have := S7.out; have := S8.out; have := S9.out; have := S10.out; have := S11.out; have := Tw.out; have := Tg.out; omega)).mono ?_
  rintro e w12 ⟨rfl, ho, hb⟩
  have Ow' := Lib.hid (Ow.out.only hb (by have := S1.out; have := S2.out; have := S3.out; have := S4.out; have := S5.out; have := S6.out; have := S7.out; have := S8.out; have := S9.out; have := S10.out; have := S11.out; have := Tw.out; have := Tg.out; omega) (by have := S1.out; have := S2.out; have := S3.out; have := S4.out; have := S5.out; have := S6.out; have := S7.out; have := S8.out; have := S9.out; have := S10.out; have := S11.out; have := Tw.out; have := Tg.out; omega))
  clear Ow
  have Ow := Ow'
  clear Ow'
  have BXw' := Lib.hid (BXw.out.only hb (by first | (left; have := S1.out; have := S2.out; have := S3.out; have := S4.out; have := S5.out; have := S6.out; have := S7.out; have := S8.out; have := S9.out; have := S10.out; have := S11.out; have := Tw.out; have := Tg.out; omega) | (right; have := S1.out; have := S2.out; have := S3.out; have := S4.out; have := S5.out; have := S6.out; have := S7.out; have := S8.out; have := S9.out; have := S10.out; have := S11.out; have := Tw.out; have := Tg.out; omega)))
  clear BXw
  have BXw := BXw'
  clear BXw'
  have BXg' := Lib.hid (BXg.out.only hb (by first | (left; have := S1.out; have := S2.out; have := S3.out; have := S4.out; have := S5.out; have := S6.out; have := S7.out; have := S8.out; have := S9.out; have := S10.out; have := S11.out; have := Tw.out; have := Tg.out; omega) | (right; have := S1.out; have := S2.out; have := S3.out; have := S4.out; have := S5.out; have := S6.out; have := S7.out; have := S8.out; have := S9.out; have := S10.out; have := S11.out; have := Tw.out; have := Tg.out; omega)))
  clear BXg
  have BXg := BXg'
  clear BXg'
  have S12 : Hid (w11.heap.size ≤ w12.heap.size) := hb.size
  have B12 := Lib.hid (B11.out.trans (hb.below (by have := S1.out; have := S2.out; have := S3.out; have := S4.out; have := S5.out; have := S6.out; have := S7.out; have := S8.out; have := S9.out; have := S10.out; have := S11.out; have := S12.out; have := Tw.out; have := Tg.out; omega) (by have := S1.out; have := S2.out; have := S3.out; have := S4.out; have := S5.out; have := S6.out; have := S7.out; have := S8.out; have := S9.out; have := S10.out; have := S11.out; have := S12.out; have := Tw.out; have := Tg.out; omega)))
  clear Og
  have Og := Lib.hid ho
  clear ho hb B11
  obtain ⟨kg_0, kg_1⟩ := (hclg _ BXg.out).two
  go_wp2_with fail
  clear kg_0 kg_1
  refine (heldBraid_any _ _ _ _ _ _ Og.out (by omega) (by have := sr.out; have := s1.out; omega) (by have := S1.out; have := S2.out; have := S3.out; have := S4.out; have := S5.out; have := S6.out; have := S7.out; have := S8.out; have := S9.out; have := S10.out; have := S11.out; have := S12.out; have := Tw.out; have := Tg.out; omega)).mono ?_
  rintro e w13 ⟨rfl, hb⟩
  have Og' := Lib.hid (OmBr.below Og.out (hb.mono (by have := S1.out; have := S2.out; have := S3.out; have := S4.out; have := S5.out; have := S6.out; have := S7.out; have := S8.out; have := S9.out; have := S10.out; have := S11.out; have := S12.out; have := Tw.out; have := Tg.out; omega)))
  clear Og
  have Og_ := Og'
  clear Og'
  have Ow' := Lib.hid (Ow.out.below (hb.mono (by have := S1.out; have := S2.out; have := S3.out; have := S4.out; have := S5.out; have := S6.out; have := S7.out; have := S8.out; have := S9.out; have := S10.out; have := S11.out; have := S12.out; have := Tw.out; have := Tg.out; omega)))
  clear Ow
  have Ow := Ow'
  clear Ow'
  have S13 := Lib.hid hb.size
  have B13 := Lib.hid (B12.out.trans (hb.mono B12.out.size))
  have BXw' := Lib.hid (BXw.out.next hb)
  clear BXw
  have BXw := BXw'
  clear BXw'
  have BXg' := Lib.hid (BXg.out.next hb)
  clear BXg
  have BXg := BXg'
  clear BXg'
  clear hb B12
  have Og := Og_
  clear Og_
  go_wp2_with fail
  refine (toEventS_any _ l _ ((H1.out.below B13.out).more B13.out.size) s1.out).mono ?_
  rintro e w14 ⟨vz1, rfl, ho, hb⟩
  have Ow' := Lib.hid (Ow.out.below (hb.mono (by have := S1.out; have := S2.out; have := S3.out; have := S4.out; have := S5.out; have := S6.out; have := S7.out; have := S8.out; have := S9.out; have := S10.out; have := S11.out; have := S12.out; have := S13.out; have := Tw.out; have := Tg.out; omega)))
  have Og' := Lib.hid (OmBr.below Og.out (hb.mono (by have := S1.out; have := S2.out; have := S3.out; have := S4.out; have := S5.out; have := S6.out; have := S7.out; have := S8.out; have := S9.out; have := S10.out; have := S11.out; have := S12.out; have := S13.out; have := Tw.out; have := Tg.out; omega)))
  clear Ow Og
  have Ow := Ow'
  have Og := Og'
  clear Ow' Og'
  have S14 := Lib.hid hb.size
  have B14 := Lib.hid (B13.out.trans (hb.mono B13.out.size))
  have BXw' := Lib.hid (BXw.out.next hb)
  clear BXw
  have BXw := BXw'
  clear BXw'
  have BXg' := Lib.hid (BXg.out.next hb)
  clear BXg
  have BXg := BXg'
  clear BXg'
  have Oz1 := Lib.hid ho
  clear ho
  clear hb B13
  go_wp2_with fail
  refine (implCross_any n _ l _ ((RdS.of_own Ev.len Oz1.out).more (by have := S1.out; have := S2.out; have := S3.out; have := S4.out; have := S5.out; have := S6.out; have := S7.out; have := S8.out; have := S9.out; have := S10.out; have := S11.out; have := S12.out; have := S13.out; have := S14.out; have := Tw.out; have := Tg.out; omega)) s1.out).mono ?_
  rintro e w15 ⟨vh, rfl, ho, hb⟩
  obtain ⟨sh, rfl, ho⟩ := ho
  obtain ⟨Ah, ch, rfl, -⟩ := ho.cells
  have Ow' := Lib.hid (Ow.out.below (hb.mono (by have := S1.out; have := S2.out; have := S3.out; have := S4.out; have := S5.out; have := S6.out; have := S7.out; have := S8.out; have := S9.out; have := S10.out; have := S11.out; have := S12.out; have := S13.out; have := S14.out; have := Tw.out; have := Tg.out; omega)))
  have Og' := Lib.hid (OmBr.below Og.out (hb.mono (by have := S1.out; have := S2.out; have := S3.out; have := S4.out; have := S5.out; have := S6.out; have := S7.out; have := S8.out; have := S9.out; have := S10.out; have := S11.out; have := S12.out; have := S13.out; have := S14.out; have := Tw.out; have := Tg.out; omega)))
  have Oz1' := Lib.hid (Oz1.out.below (hb.mono (by have := S1.out; have := S2.out; have := S3.out; have := S4.out; have := S5.out; have := S6.out; have := S7.out; have := S8.out; have := S9.out; have := S10.out; have := S11.out; have := S12.out; have := S13.out; have := S14.out; have := Tw.out; have := Tg.out; omega)))
  clear Ow Og Oz1
  have Ow := Ow'
  have Og := Og'
  have Oz1 := Oz1'
  clear Ow' Og' Oz1'
  have S15 := Lib.hid hb.size
  have B15 := Lib.hid (B14.out.trans (hb.mono B14.out.size))
  have BXw' := Lib.hid (BXw.out.next hb)
  clear BXw
  have BXw := BXw'
  clear BXw'
  have BXg' := Lib.hid (BXg.out.next hb)
  clear BXg
  have BXg := BXg'
  clear BXg'
  have Oh : Hid (OwBr _ _ _ _ (crR n l)) := ⟨_, rfl, ho⟩
  clear ho
  clear hb B14
  have hb : Below w15.heap.size w15 (w15.alloc (.cells #[.int .i64 (crR n l).n, .slice Ah (crR n l).w.length ch] 26)) := (Below.refl _ _).alloc (Nat.le_refl _) _
  have Ow' := Lib.hid (Ow.out.below (hb.mono (by have := S1.out; have := S2.out; have := S3.out; have := S4.out; have := S5.out; have := S6.out; have := S7.out; have := S8.out; have := S9.out; have := S10.out; have := S11.out; have := S12.out; have := S13.out; have := S14.out; have := S15.out; have := Tw.out; have := Tg.out; omega)))
  have Og' := Lib.hid (OmBr.below Og.out (hb.mono (by have := S1.out; have := S2.out; have := S3.out; have := S4.out; have := S5.out; have := S6.out; have := S7.out; have := S8.out; have := S9.out; have := S10.out; have := S11.out; have := S12.out; have := S13.out; have := S14.out; have := S15.out; have := Tw.out; have := Tg.out; omega)))
  have Oz1' := Lib.hid (Oz1.out.below (hb.mono (by have := S1.out; have := S2.out; have := S3.out; have := S4.out; have := S5.out; have := S6.out; have := S7.out; have := S8.out; have := S9.out; have := S10.out; have := S11.out; have := S12.out; have := S13.out; have := S14.out; have := S15.out; have := Tw.out; have := Tg.out; omega)))
  have Oh' := Lib.hid (Oh.out.below (hb.mono (by have := S1.out; have := S2.out; have := S3.out; have := S4.out; have := S5.out; have := S6.out; have := S7.out; have := S8.out; have := S9.out; have := S10.out; have := S11.out; have := S12.out; have := S13.out; have := S14.out; have := S15.out; have := Tw.out; have := Tg.out; omega)))
  clear Ow Og Oz1 Oh
  have Ow := Ow'
  have Og := Og'
  have Oz1 := Oz1'
  have Oh := Oh'
  clear Ow' Og' Oz1' Oh'
  have S16 := Lib.hid hb.size
  have B16 := Lib.hid (B15.out.trans (hb.mono B15.out.size))
  have BXw' := Lib.hid (BXw.out.next hb)
  clear BXw
  have BXw := BXw'
  clear BXw'
  have BXg' := Lib.hid (BXg.out.next hb)
  clear BXg
  have BXg := BXg'
  clear BXg'
  clear hb B15
  have hqh : CellsAt (w15.alloc (.cells #[.int .i64 (crR n l).n, .slice Ah (crR n l).w.length ch] 26)) w15.heap.size 0 [.int .i64 (crR n l).n, .slice Ah (crR n l).w.length ch] := by
    intro j u hu
    rcases j with _ | _ | j <;> simp at hu <;> subst hu <;> simp [go_sem]
  have hclh : ∀ w1, Kept w15.heap.size (w15.alloc (.cells #[.int .i64 (crR n l).n, .slice Ah (crR n l).w.length ch] 26)) w1 → CellsAt w1 w15.heap.size 0 [.int .i64 (crR n l).n, .slice Ah (crR n l).w.length ch] := fun w1 hb1 => hb1.cells hqh
  clear hqh
  have BXh : Hid (Kept w15.heap.size (w15.alloc (.cells #[.int .i64 (crR n l).n, .slice Ah (crR n l).w.length ch] 26)) (w15.alloc (.cells #[.int .i64 (crR n l).n, .slice Ah (crR n l).w.length ch] 26))) := Kept.refl (by simp)
  have Th : Hid (w15.heap.size < (w15.alloc (.cells #[.int .i64 (crR n l).n, .slice Ah (crR n l).w.length ch] 26)).heap.size) := BXh.out.lt
  clear Oz1
  obtain ⟨kw_0, kw_1⟩ := (hclw _ BXw.out).two
  obtain ⟨kh_0, kh_1⟩ := (hclh _ BXh.out).two
  go_wp2_with fail
  clear kw_0 kw_1
  clear kh_0 kh_1
  refine (eqBraid_any _ _ (crR n l) (crR n l) _ ((RdBr.of_own Oh.out).more (by have := S1.out; have := S2.out; have := S3.out; have := S4.out; have := S5.out; have := S6.out; have := S7.out; have := S8.out; have := S9.out; have := S10.out; have := S11.out; have := S12.out; have := S13.out; have := S14.out; have := S15.out; have := S16.out; have := Tw.out; have := Tg.out; have := Th.out; omega)) ((RdBr.of_own Ow.out).more (by have := S1.out; have := S2.out; have := S3.out; have := S4.out; have := S5.out; have := S6.out; have := S7.out; have := S8.out; have := S9.out; have := S10.out; have := S11.out; have := S12.out; have := S13.out; have := S14.out; have := S15.out; have := S16.out; have := Tw.out; have := Tg.out; have := Th.out; omega))).mono ?_
  rintro e w17 ⟨rfl, hb⟩
  have Ow' := Lib.hid (Ow.out.below (hb.mono (by have := S1.out; have := S2.out; have := S3.out; have := S4.out; have := S5.out; have := S6.out; have := S7.out; have := S8.out; have := S9.out; have := S10.out; have := S11.out; have := S12.out; have := S13.out; have := S14.out; have := S15.out; have := S16.out; have := Tw.out; have := Tg.out; have := Th.out; omega)))
  have Og' := Lib.hid (OmBr.below Og.out (hb.mono (by have := S1.out; have := S2.out; have := S3.out; have := S4.out; have := S5.out; have := S6.out; have := S7.out; have := S8.out; have := S9.out; have := S10.out; have := S11.out; have := S12.out; have := S13.out; have := S14.out; have := S15.out; have := S16.out; have := Tw.out; have := Tg.out; have := Th.out; omega)))
  have Oh' := Lib.hid (Oh.out.below (hb.mono (by have := S1.out; have := S2.out; have := S3.out; have := S4.out; have := S5.out; have := S6.out; have := S7.out; have := S8.out; have := S9.out; have := S10.out; have := S11.out; have := S12.out; have := S13.out; have := S14.out; have := S15.out; have := S16.out; have := Tw.out; have := Tg.out; have := Th.out; omega)))
  clear Ow Og Oh
  have Ow := Ow'
  have Og := Og'
  have Oh := Oh'
  clear Ow' Og' Oh'
  have S17 := Lib.hid hb.size
  have B17 := Lib.hid (B16.out.trans (hb.mono B16.out.size))
  have BXw' := Lib.hid (BXw.out.next hb)
  clear BXw
  have BXw := BXw'
  clear BXw'
  have BXg' := Lib.hid (BXg.out.next hb)
  clear BXg
  have BXg := BXg'
  clear BXg'
  have BXh' := Lib.hid (BXh.out.next hb)
  clear BXh
  have BXh := BXh'
  clear BXh'
  clear hb B16
  clear Oh
  clear Ow
  obtain ⟨kg_0, kg_1⟩ := (hclg _ BXg.out).two
  go_wp2_with fail
  clear kg_0 kg_1
  refine (heldBraid_any _ _ _ _ _ _ Og.out (by omega) (by have := sr.out; have := s1.out; omega) (by have := S1.out; have := S2.out; have := S3.out; have := S4.out; have := S5.out; have := S6.out; have := S7.out; have := S8.out; have := S9.out; have := S10.out; have := S11.out; have := S12.out; have := S13.out; have := S14.out; have := S15.out; have := S16.out; have := S17.out; have := Tw.out; have := Tg.out; have := Th.out; omega)).mono ?_
  rintro e w18 ⟨rfl, hb⟩
  have Og' := Lib.hid (OmBr.below Og.out (hb.mono (by have := S1.out; have := S2.out; have := S3.out; have := S4.out; have := S5.out; have := S6.out; have := S7.out; have := S8.out; have := S9.out; have := S10.out; have := S11.out; have := S12.out; have := S13.out; have := S14.out; have := S15.out; have := S16.out; have := S17.out; have := Tw.out; have := Tg.out; have := Th.out; omega)))
  clear Og
  have Og_ := Og'
  clear Og'
  have S18 := Lib.hid hb.size
  have B18 := Lib.hid (B17.out.trans (hb.mono B17.out.size))
  have BXg' := Lib.hid (BXg.out.next hb)
  clear BXg
  have BXg := BXg'
  clear BXg'
  clear hb B17
  have Og := Og_
  clear Og_
  go_wp2
  go_ret
  exact ⟨rfl, B18.out⟩

set_option maxRecDepth 100000 in
theorem FnExactCrossingBraid.walk {H : Type} {enc : TypeId × Value → H} {base : Nat} {d0 : DataW H} {p0 : List MemPlace} {d1 : DataW H} {p1 : List MemPlace} (W : World) (v0 : Value) (v1 : Value) (o0 : Value.okWide Try.prog W .any base 2 v0) (o1 : Value.okWide Try.prog W .any base 22 v1)
    (h0 : DataW.Trod enc Try.prog W 0 (fun _ => true) true 2 v0 d0 p0) (h1 : DataW.Trod enc Try.prog W 0 (fun _ => true) true 22 v1 d1 p1) : Calls Try.prog 3 #[v0, v1] W fun e W' => e = .returned (.bool true) ∧ Below W.heap.size W W' := by
  obtain ⟨n, rfl, rfl, rfl, w0⟩ := open_int Try.underlying2 o0 h0
  obtain ⟨l, k1, _⟩ := open_evs o1 h1
  exact FnExactCrossingBraid.core n v1 l W k1

namespace FnExactCrossingBraid
theorem own : ownKnob Try.prog.godebug = none := by kernel_rfl
theorem laidOut : laidOutB Try.prog = true := by kernel_rfl

set_option maxRecDepth 100000 in
theorem lifted (os : Os) (started : os.Started) (H : Type) (enc : TypeId × Value → H) :
    ReturnsInHanded {} Try.checked os 3 .any (Rows.fnExactCrossingBraidSpec.pre6 enc Try.prog Try.f3 Rows.fnExactCrossingBraidRow.domain false) (Rows.fnExactCrossingBraidSpec.post enc Try.prog Try.f3 false true false false) := by
  refine returnsInHanded_of_change (C := Try.checked) own started (by kernel_rfl) Try.func3
    (ChangeSpec.witness6 (enc := enc) (C := Try.checked) false ⟨#[], #[.int .i64 0, .slice none 0 0], []⟩ 8 (by kernel_rfl) (by kernel_rfl) (by kernel_rfl) (by kernel_rfl)) ?_
  intro W base args ds gs before hval0 hW hcnd _
  have hval : ∀ (j : Nat) t v, Try.f3.params[j]? = some t → args[j]? = some v → Value.okWide Try.prog W .any base t v := hval0
  have hW' := hW
  obtain ⟨p, q, hA0, hV, rfl, hfz, hnd⟩ := hW
  have hA : DataW.TrodAll enc Try.prog W 0 (fun _ => true) true Try.f3.params.toList args.toList ds p := hA0
  rw [Try.params3] at hA hval
  obtain ⟨v0, vs0, d0, ds0, p0, q0, hargs, rfl, rfl, h0, r0⟩ := trodAll_cons hA
  obtain ⟨v1, vs1, d1, ds1, p1, q1, rfl, rfl, rfl, h1, r1⟩ := trodAll_cons r0
  obtain ⟨rfl, rfl, rfl⟩ := trodAll_nil r1
  obtain rfl : args = #[v0, v1] := by cases args; simp_all
  obtain ⟨rfl, rfl⟩ := trodVars_none hV
  have k0 := h0
  have lt0 : ∀ x ∈ p0, x.block < W.heap.size := by obtain ⟨m, hm⟩ := k0; exact DataW.trod_lt m _ _ _ hm
  have k1 := h1
  have lt1 : ∀ x ∈ p1, x.block < W.heap.size := by obtain ⟨m, hm⟩ := k1; exact DataW.trod_lt m _ _ _ hm
  clear hA0 hval0
  refine (walk W v0 v1 (hval 0 _ v0 rfl rfl) (hval 1 _ v1 rfl rfl) h0 h1).mono fun e W' ⟨he, bel⟩ => ?_
  subst he
  exact ⟨_, rfl, _, _, _, [], _, [], hW', trodAll_mk1 (shut_bool Try.underlying4 _), (trodAll_cons_mk (Below.trod laidOut (by kernel_rfl) (of_decide_eq_true (by kernel_rfl)) k0 bel lt0) (trodAll_cons_mk (Below.trod laidOut (by kernel_rfl) (of_decide_eq_true (by kernel_rfl)) k1 bel lt1) trodAll_mk0)), rfl, bel.frame _, fun h => by cases h⟩

theorem over : Rows.fnExactCrossingBraidRow.holds Try.pinned (OpenSpec.ofChange Rows.fnExactCrossingBraidSpec) :=
  OpenClaim.holds_of_wide 3 Try.f3 rfl rfl rfl rfl rfl rfl rfl ⟨rfl, rfl, rfl, rfl, rfl⟩ rfl rfl rfl rfl rfl (by kernel_rfl) Try.func3 (by kernel_rfl)
    (of_decide_eq_true (by kernel_rfl)) (by unfold Func.isWrapper; first | (rw [if_pos (by decide +kernel)]; kernel_rfl) | (rw [if_neg (by decide +kernel)]; exact ⟨rfl, rfl⟩))
    (fun os started H enc _ => lifted os started H enc)

theorem proved : Rows.FnExactCrossingBraidSaid := over
end FnExactCrossingBraid

end Go.Proofs.Ytjhhbdehgklneaa
