/-
  The program's EqualBlocks returns what the reference's returns, for every two blocks; no condition.
-/
import Derived.Test.YtfeonaocmnpkcaaGarT
import Derived.Test.YtfeonaocmnpkcaaOpenBk
import Derived.Test.YtfeonaocmnpkcaaSame
import Derived.Test.YtfeonaocmnpkcaaMark
import Derived.Test.YtfeonaocmnpkcaaOpenBr
import Derived.Test.YtfeonaocmnpkcaaOpenEv
import Derived.Test.YtfeonaocmnpkcaaKept
import Derived.Deep.RegionHeld3
import Derived.Deep.RegionWith
import Derived.Deep.Cut
namespace Go.Proofs.Ytfeonaocmnpkcaa
set_option linter.unusedVariables false
set_option linter.unusedSimpArgs false
open Go.ChangeShapes Go.WideShapes Go.ChangeAt Go.RowKit
open Go.ChangeMaps (open_string shut_string)

set_option maxHeartbeats 8000000 in
set_option maxRecDepth 100000 in
theorem FnExactEqualBlocks.core (v0 : Value) (x : Bk) (v1 : Value) (y : Bk) (W : World) (hl0 : RdBkV W W.heap.size v0 x) (hl1 : RdBkV W W.heap.size v1 y) :
    Calls Try.prog 3 #[v0, v1] W fun e W' => e = .returned (.bool true) ∧ Below W.heap.size W W' := by
  obtain ⟨s0, t0, rfl, h0, kb0⟩ := hl0
  obtain ⟨A0, n0, c0, rfl⟩ := h0.shape
  obtain ⟨Ab0, nb0, cb0, rfl⟩ := kb0.shape'
  replace h0 := And.intro h0 kb0
  clear kb0
  have H0 : Hid (RdBkV W W.heap.size _ x) := ⟨_, _, rfl, h0.1, h0.2⟩
  clear h0
  obtain ⟨s1, t1, rfl, h1, kb1⟩ := hl1
  obtain ⟨A1, n1, c1, rfl⟩ := h1.shape
  obtain ⟨Ab1, nb1, cb1, rfl⟩ := kb1.shape'
  replace h1 := And.intro h1 kb1
  clear kb1
  have H1 : Hid (RdBkV W W.heap.size _ y) := ⟨_, _, rfl, h1.1, h1.2⟩
  clear h1
  have hcl0 : ∀ w1, Below (((W.alloc (.cells #[.int .i64 (x).b.n, .slice A0 n0 c0, .slice Ab0 nb0 cb0] 27)).alloc (.cells #[.int .i64 (y).b.n, .slice A1 n1 c1, .slice Ab1 nb1 cb1] 27)) : World).heap.size ((W.alloc (.cells #[.int .i64 (x).b.n, .slice A0 n0 c0, .slice Ab0 nb0 cb0] 27)).alloc (.cells #[.int .i64 (y).b.n, .slice A1 n1 c1, .slice Ab1 nb1 cb1] 27)) w1 → CellsAt w1 (W.heap.size) 0 [.int .i64 (x).b.n, .slice A0 n0 c0, .slice Ab0 nb0 cb0] := by
    intro w1 hb1 j u hu
    rw [hb1.cell (by simp; try omega)]
    rcases j with _ | _ | _ | j <;> simp at hu <;> subst hu <;> simp [go_sem]
  have hcl1 : ∀ w1, Below (((W.alloc (.cells #[.int .i64 (x).b.n, .slice A0 n0 c0, .slice Ab0 nb0 cb0] 27)).alloc (.cells #[.int .i64 (y).b.n, .slice A1 n1 c1, .slice Ab1 nb1 cb1] 27)) : World).heap.size ((W.alloc (.cells #[.int .i64 (x).b.n, .slice A0 n0 c0, .slice Ab0 nb0 cb0] 27)).alloc (.cells #[.int .i64 (y).b.n, .slice A1 n1 c1, .slice Ab1 nb1 cb1] 27)) w1 → CellsAt w1 (W.heap.size + 1) 0 [.int .i64 (y).b.n, .slice A1 n1 c1, .slice Ab1 nb1 cb1] := by
    intro w1 hb1 j u hu
    rw [hb1.cell (by simp; try omega)]
    rcases j with _ | _ | _ | j <;> simp at hu <;> subst hu <;> simp [go_sem]
  obtain ⟨z0, e0⟩ : ∃ z, szBk 1048576 x = z := ⟨_, rfl⟩
  have E0 := Lib.hid e0
  clear e0
  by_cases p0 : 0 ≤ z0
  case neg =>
    have q0 : z0 < 0 := by omega
    clear p0
    go_enter Try.func3, Try.ntmps3
    go_wp2_with fail
    refine (szBlock_any _ x 1048576 _ ((H0.out.below (((Below.refl _ _).alloc (by first | exact Nat.le_refl _ | (simp; done) | (simp; omega)) _).alloc (by first | exact Nat.le_refl _ | (simp; done) | (simp; omega)) _)).more (((Below.refl _ _).alloc (by first | exact Nat.le_refl _ | (simp; done) | (simp; omega)) _).alloc (by first | exact Nat.le_refl _ | (simp; done) | (simp; omega)) _).size) (by omega) (by omega)).mono ?_
    rintro e w1 ⟨rfl, hb⟩
    rw [E0.out]
    have S1 := Lib.hid hb.size
    have B1 := Lib.hid (hb)
    clear hb
    go_wp2
    go_ret
    exact ⟨rfl, ((((Below.refl _ _).alloc (by first | exact Nat.le_refl _ | (simp; done) | (simp; omega)) _).alloc (by first | exact Nat.le_refl _ | (simp; done) | (simp; omega)) _).trans (B1.out.mono (by first | (simp; done) | (simp; omega))))⟩
  obtain ⟨f0, u0⟩ := szBk_fit E0.out p0
  have s0 := Lib.hid f0
  clear f0
  obtain ⟨z1, e1⟩ : ∃ z, szBk z0 y = z := ⟨_, rfl⟩
  have E1 := Lib.hid e1
  clear e1
  by_cases p1 : 0 ≤ z1
  case neg =>
    have q1 : z1 < 0 := by omega
    clear p1
    go_enter Try.func3, Try.ntmps3
    go_wp2_with fail
    refine (szBlock_any _ x 1048576 _ ((H0.out.below (((Below.refl _ _).alloc (by first | exact Nat.le_refl _ | (simp; done) | (simp; omega)) _).alloc (by first | exact Nat.le_refl _ | (simp; done) | (simp; omega)) _)).more (((Below.refl _ _).alloc (by first | exact Nat.le_refl _ | (simp; done) | (simp; omega)) _).alloc (by first | exact Nat.le_refl _ | (simp; done) | (simp; omega)) _).size) (by omega) (by omega)).mono ?_
    rintro e w1 ⟨rfl, hb⟩
    rw [E0.out]
    have S1 := Lib.hid hb.size
    have B1 := Lib.hid (hb)
    clear hb
    obtain ⟨k1_0, k1_1, k1_2⟩ := (hcl1 _ B1.out).three
    go_wp2_with fail
    clear k1_0 k1_1 k1_2
    refine (szBlock_any _ y z0 _ ((H1.out.below ((((Below.refl _ _).alloc (by first | exact Nat.le_refl _ | (simp; done) | (simp; omega)) _).alloc (by first | exact Nat.le_refl _ | (simp; done) | (simp; omega)) _).trans (B1.out.mono (by first | (simp; done) | (simp; omega))))).more ((((Below.refl _ _).alloc (by first | exact Nat.le_refl _ | (simp; done) | (simp; omega)) _).alloc (by first | exact Nat.le_refl _ | (simp; done) | (simp; omega)) _).trans (B1.out.mono (by first | (simp; done) | (simp; omega)))).size) (by omega) (by omega)).mono ?_
    rintro e w2 ⟨rfl, hb⟩
    rw [E1.out]
    have S2 := Lib.hid hb.size
    have B2 := Lib.hid (B1.out.trans (hb.mono B1.out.size))
    clear hb B1
    go_wp2
    go_ret
    exact ⟨rfl, ((((Below.refl _ _).alloc (by first | exact Nat.le_refl _ | (simp; done) | (simp; omega)) _).alloc (by first | exact Nat.le_refl _ | (simp; done) | (simp; omega)) _).trans (B2.out.mono (by first | (simp; done) | (simp; omega))))⟩
  obtain ⟨f1, u1⟩ := szBk_fit E1.out p1
  have s1 := Lib.hid f1
  clear f1
  go_enter Try.func3, Try.ntmps3
  go_wp2_with fail
  refine (szBlock_any _ x 1048576 _ ((H0.out.below (((Below.refl _ _).alloc (by first | exact Nat.le_refl _ | (simp; done) | (simp; omega)) _).alloc (by first | exact Nat.le_refl _ | (simp; done) | (simp; omega)) _)).more (((Below.refl _ _).alloc (by first | exact Nat.le_refl _ | (simp; done) | (simp; omega)) _).alloc (by first | exact Nat.le_refl _ | (simp; done) | (simp; omega)) _).size) (by omega) (by omega)).mono ?_
  rintro e w1 ⟨rfl, hb⟩
  rw [E0.out]
  have S1 := Lib.hid hb.size
  have B1 := Lib.hid (hb)
  clear hb
  obtain ⟨k1_0, k1_1, k1_2⟩ := (hcl1 _ B1.out).three
  go_wp2_with fail
  clear k1_0 k1_1 k1_2
  refine (szBlock_any _ y z0 _ ((H1.out.below ((((Below.refl _ _).alloc (by first | exact Nat.le_refl _ | (simp; done) | (simp; omega)) _).alloc (by first | exact Nat.le_refl _ | (simp; done) | (simp; omega)) _).trans (B1.out.mono (by first | (simp; done) | (simp; omega))))).more ((((Below.refl _ _).alloc (by first | exact Nat.le_refl _ | (simp; done) | (simp; omega)) _).alloc (by first | exact Nat.le_refl _ | (simp; done) | (simp; omega)) _).trans (B1.out.mono (by first | (simp; done) | (simp; omega)))).size) (by omega) (by omega)).mono ?_
  rintro e w2 ⟨rfl, hb⟩
  rw [E1.out]
  have S2 := Lib.hid hb.size
  have B2 := Lib.hid (B1.out.trans (hb.mono B1.out.size))
  clear hb B1
  go_upto_region 8 with fail
  go_cut [6] from 10 (fun sv wc => sv = .bool (eqBk x y) ∧ Hid (Below w2.heap.size w2 wc))
  case first =>
    obtain ⟨k0_0, k0_1, k0_2⟩ := (hcl0 _ B2.out).three
    obtain ⟨k1_0, k1_1, k1_2⟩ := (hcl1 _ B2.out).three
    go_region_with ((first | (go_at_call_of 10 (Value.slice A0 n0 c0); refine (toBlock_any _ x _ (by first | exact (H0.out.below (((((Below.refl _ _).alloc (by first | exact Nat.le_refl _ | (simp; done) | (simp; omega)) _).alloc (by first | exact Nat.le_refl _ | (simp; done) | (simp; omega)) _).trans (B2.out.mono (by first | (simp; done) | (simp; omega)))).trans (HT1.out.mono (((((Below.refl _ _).alloc (by first | exact Nat.le_refl _ | (simp; done) | (simp; omega)) _).alloc (by first | exact Nat.le_refl _ | (simp; done) | (simp; omega)) _).trans (B2.out.mono (by first | (simp; done) | (simp; omega))))).size))).more (((((Below.refl _ _).alloc (by first | exact Nat.le_refl _ | (simp; done) | (simp; omega)) _).alloc (by first | exact Nat.le_refl _ | (simp; done) | (simp; omega)) _).trans (B2.out.mono (by first | (simp; done) | (simp; omega)))).trans (HT1.out.mono (((((Below.refl _ _).alloc (by first | exact Nat.le_refl _ | (simp; done) | (simp; omega)) _).alloc (by first | exact Nat.le_refl _ | (simp; done) | (simp; omega)) _).trans (B2.out.mono (by first | (simp; done) | (simp; omega))))).size)).size | exact ((H0.out.below ((((Below.refl _ _).alloc (by first | exact Nat.le_refl _ | (simp; done) | (simp; omega)) _).alloc (by first | exact Nat.le_refl _ | (simp; done) | (simp; omega)) _).trans (B2.out.mono (by first | (simp; done) | (simp; omega)))).drew).more (((((Below.refl _ _).alloc (by first | exact Nat.le_refl _ | (simp; done) | (simp; omega)) _).alloc (by first | exact Nat.le_refl _ | (simp; done) | (simp; omega)) _).trans (B2.out.mono (by first | (simp; done) | (simp; omega)))).drew).size)) s0.out.1 s0.out.2).mono ?_; rintro e wt0 ⟨vt0, rfl, hot0, hbt0⟩; have HT0 : Hid (Below w2.heap.size w2 wt0) := Lib.hid (by first | exact HT1.out.trans (hbt0.mono HT1.out.size) | exact (Below.refl _ _).drew.trans hbt0); have HN0 := Lib.hid hbt0; have HR0 := Lib.hid (RdBkV.of_own hot0); obtain ⟨m0_0, m0_1, m0_2⟩ := (hcl1 _ (B2.out.trans (HT0.out.mono B2.out.size))).three; clear hbt0 hot0) | (go_at_call_of 10 (Value.slice A1 n1 c1); refine (toBlock_any _ y _ (by first | exact (H1.out.below (((((Below.refl _ _).alloc (by first | exact Nat.le_refl _ | (simp; done) | (simp; omega)) _).alloc (by first | exact Nat.le_refl _ | (simp; done) | (simp; omega)) _).trans (B2.out.mono (by first | (simp; done) | (simp; omega)))).trans (HT0.out.mono (((((Below.refl _ _).alloc (by first | exact Nat.le_refl _ | (simp; done) | (simp; omega)) _).alloc (by first | exact Nat.le_refl _ | (simp; done) | (simp; omega)) _).trans (B2.out.mono (by first | (simp; done) | (simp; omega))))).size))).more (((((Below.refl _ _).alloc (by first | exact Nat.le_refl _ | (simp; done) | (simp; omega)) _).alloc (by first | exact Nat.le_refl _ | (simp; done) | (simp; omega)) _).trans (B2.out.mono (by first | (simp; done) | (simp; omega)))).trans (HT0.out.mono (((((Below.refl _ _).alloc (by first | exact Nat.le_refl _ | (simp; done) | (simp; omega)) _).alloc (by first | exact Nat.le_refl _ | (simp; done) | (simp; omega)) _).trans (B2.out.mono (by first | (simp; done) | (simp; omega))))).size)).size | exact ((H1.out.below ((((Below.refl _ _).alloc (by first | exact Nat.le_refl _ | (simp; done) | (simp; omega)) _).alloc (by first | exact Nat.le_refl _ | (simp; done) | (simp; omega)) _).trans (B2.out.mono (by first | (simp; done) | (simp; omega)))).drew).more (((((Below.refl _ _).alloc (by first | exact Nat.le_refl _ | (simp; done) | (simp; omega)) _).alloc (by first | exact Nat.le_refl _ | (simp; done) | (simp; omega)) _).trans (B2.out.mono (by first | (simp; done) | (simp; omega)))).drew).size)) s1.out.1 s1.out.2).mono ?_; rintro e wt1 ⟨vt1, rfl, hot1, hbt1⟩; have HT1 : Hid (Below w2.heap.size w2 wt1) := Lib.hid (by first | exact HT0.out.trans (hbt1.mono HT0.out.size) | exact (Below.refl _ _).drew.trans hbt1); have HN1 := Lib.hid hbt1; have HR1 := Lib.hid (RdBkV.of_own hot1); obtain ⟨m1_0, m1_1, m1_2⟩ := (hcl0 _ (B2.out.trans (HT1.out.mono B2.out.size))).three; clear hbt1 hot1) | (go_at_call 9; refine (specEqualBlocks_any _ _ x y _ (by first | exact HR0.out | exact (HR0.out.below HN1.out).more HN1.out.size) (by first | exact HR1.out | exact (HR1.out.below HN0.out).more HN0.out.size)).mono ?_; rintro e ws ⟨rfl, hbs⟩; have HSB : Hid (Below w2.heap.size w2 ws) := Lib.hid (by first | exact HT1.out.trans (hbs.mono HT1.out.size) | exact HT0.out.trans (hbs.mono HT0.out.size)); clear hbs)))
    all_goals
      go_wp2
      go_meet
      case rel => exact ⟨rfl, HSB.out⟩
  case rest =>
    obtain ⟨rfl, HSB⟩ := hcut
    obtain ⟨w3, rfl⟩ : ∃ x : World, x = wc := ⟨_, rfl⟩
    have hb := HSB.out
    clear HSB
    have S3 := Lib.hid hb.size
    have B3 := Lib.hid (B2.out.trans (hb.mono B2.out.size))
    clear hb B2
    obtain ⟨k0_0, k0_1, k0_2⟩ := (hcl0 _ B3.out).three
    go_wp2_with fail
    clear k0_0 k0_1 k0_2
    refine (toBlock_any _ x _ ((H0.out.below ((((Below.refl _ _).alloc (by first | exact Nat.le_refl _ | (simp; done) | (simp; omega)) _).alloc (by first | exact Nat.le_refl _ | (simp; done) | (simp; omega)) _).trans (B3.out.mono (by first | (simp; done) | (simp; omega))))).more ((((Below.refl _ _).alloc (by first | exact Nat.le_refl _ | (simp; done) | (simp; omega)) _).alloc (by first | exact Nat.le_refl _ | (simp; done) | (simp; omega)) _).trans (B3.out.mono (by first | (simp; done) | (simp; omega)))).size) s0.out.1 s0.out.2).mono ?_
    rintro e w4 ⟨vx0, rfl, ho, hb⟩
    obtain ⟨sx0, tx0, mx0, rfl, ex0, fx0, ho, hpx0⟩ := ho
    obtain ⟨Ax0, cx0, rfl, -⟩ := ho.cells
    obtain ⟨Bx0, dx0, rfl, -⟩ := hpx0.cells
    have S4 := Lib.hid hb.size
    have B4 := Lib.hid (B3.out.trans (hb.mono B3.out.size))
    have Ox0 : Hid (OwBkV _ _ _ _ (x)) := ⟨_, _, _, rfl, ex0, fx0, ho, hpx0⟩
    clear ho
    clear hb B3
    have hb : Below w4.heap.size w4 (w4.alloc (.cells #[.int .i64 (x).b.n, .slice Ax0 (x).b.w.length cx0, .slice Bx0 (x).e.length dx0] 33)) := (Below.refl _ _).alloc (Nat.le_refl _) _
    have Ox0' := Lib.hid (Ox0.out.below (hb.mono (by have := S1.out; have := S2.out; have := S3.out; have := S4.out; omega)))
    clear Ox0
    have Ox0 := Ox0'
    clear Ox0'
    have S5 := Lib.hid hb.size
    have B5 := Lib.hid (B4.out.trans (hb.mono B4.out.size))
    clear hb B4
    have hqx0 : CellsAt (w4.alloc (.cells #[.int .i64 (x).b.n, .slice Ax0 (x).b.w.length cx0, .slice Bx0 (x).e.length dx0] 33)) w4.heap.size 0 [.int .i64 (x).b.n, .slice Ax0 (x).b.w.length cx0, .slice Bx0 (x).e.length dx0] := by
      intro j u hu
      rcases j with _ | _ | _ | j <;> simp at hu <;> subst hu <;> simp [go_sem]
    have hclx0 : ∀ w1, Kept w4.heap.size (w4.alloc (.cells #[.int .i64 (x).b.n, .slice Ax0 (x).b.w.length cx0, .slice Bx0 (x).e.length dx0] 33)) w1 → CellsAt w1 w4.heap.size 0 [.int .i64 (x).b.n, .slice Ax0 (x).b.w.length cx0, .slice Bx0 (x).e.length dx0] := fun w1 hb1 => hb1.cells hqx0
    clear hqx0
    have BXx0 : Hid (Kept w4.heap.size (w4.alloc (.cells #[.int .i64 (x).b.n, .slice Ax0 (x).b.w.length cx0, .slice Bx0 (x).e.length dx0] 33)) (w4.alloc (.cells #[.int .i64 (x).b.n, .slice Ax0 (x).b.w.length cx0, .slice Bx0 (x).e.length dx0] 33))) := Kept.refl (by simp)
    have Tx0 : Hid (w4.heap.size < (w4.alloc (.cells #[.int .i64 (x).b.n, .slice Ax0 (x).b.w.length cx0, .slice Bx0 (x).e.length dx0] 33)).heap.size) := BXx0.out.lt
    obtain ⟨k1_0, k1_1, k1_2⟩ := (hcl1 _ B5.out).three
    go_wp2_with fail
    clear k1_0 k1_1 k1_2
    refine (toBlock_any _ y _ ((H1.out.below ((((Below.refl _ _).alloc (by first | exact Nat.le_refl _ | (simp; done) | (simp; omega)) _).alloc (by first | exact Nat.le_refl _ | (simp; done) | (simp; omega)) _).trans (B5.out.mono (by first | (simp; done) | (simp; omega))))).more ((((Below.refl _ _).alloc (by first | exact Nat.le_refl _ | (simp; done) | (simp; omega)) _).alloc (by first | exact Nat.le_refl _ | (simp; done) | (simp; omega)) _).trans (B5.out.mono (by first | (simp; done) | (simp; omega)))).size) s1.out.1 s1.out.2).mono ?_
    rintro e w6 ⟨vx1, rfl, ho, hb⟩
    obtain ⟨sx1, tx1, mx1, rfl, ex1, fx1, ho, hpx1⟩ := ho
    obtain ⟨Ax1, cx1, rfl, -⟩ := ho.cells
    obtain ⟨Bx1, dx1, rfl, -⟩ := hpx1.cells
    have Ox0' := Lib.hid (Ox0.out.below (hb.mono (by have := S1.out; have := S2.out; have := S3.out; have := S4.out; have := S5.out; have := Tx0.out; omega)))
    clear Ox0
    have Ox0 := Ox0'
    clear Ox0'
    have S6 := Lib.hid hb.size
    have B6 := Lib.hid (B5.out.trans (hb.mono B5.out.size))
    have BXx0' := Lib.hid (BXx0.out.next hb)
    clear BXx0
    have BXx0 := BXx0'
    clear BXx0'
    have Ox1 : Hid (OwBkV _ _ _ _ (y)) := ⟨_, _, _, rfl, ex1, fx1, ho, hpx1⟩
    clear ho
    clear hb B5
    have hb : Below w6.heap.size w6 (w6.alloc (.cells #[.int .i64 (y).b.n, .slice Ax1 (y).b.w.length cx1, .slice Bx1 (y).e.length dx1] 33)) := (Below.refl _ _).alloc (Nat.le_refl _) _
    have Ox0' := Lib.hid (Ox0.out.below (hb.mono (by have := S1.out; have := S2.out; have := S3.out; have := S4.out; have := S5.out; have := S6.out; have := Tx0.out; omega)))
    have Ox1' := Lib.hid (Ox1.out.below (hb.mono (by have := S1.out; have := S2.out; have := S3.out; have := S4.out; have := S5.out; have := S6.out; have := Tx0.out; omega)))
    clear Ox0 Ox1
    have Ox0 := Ox0'
    have Ox1 := Ox1'
    clear Ox0' Ox1'
    have S7 := Lib.hid hb.size
    have B7 := Lib.hid (B6.out.trans (hb.mono B6.out.size))
    have BXx0' := Lib.hid (BXx0.out.next hb)
    clear BXx0
    have BXx0 := BXx0'
    clear BXx0'
    clear hb B6
    have hqx1 : CellsAt (w6.alloc (.cells #[.int .i64 (y).b.n, .slice Ax1 (y).b.w.length cx1, .slice Bx1 (y).e.length dx1] 33)) w6.heap.size 0 [.int .i64 (y).b.n, .slice Ax1 (y).b.w.length cx1, .slice Bx1 (y).e.length dx1] := by
      intro j u hu
      rcases j with _ | _ | _ | j <;> simp at hu <;> subst hu <;> simp [go_sem]
    have hclx1 : ∀ w1, Kept w6.heap.size (w6.alloc (.cells #[.int .i64 (y).b.n, .slice Ax1 (y).b.w.length cx1, .slice Bx1 (y).e.length dx1] 33)) w1 → CellsAt w1 w6.heap.size 0 [.int .i64 (y).b.n, .slice Ax1 (y).b.w.length cx1, .slice Bx1 (y).e.length dx1] := fun w1 hb1 => hb1.cells hqx1
    clear hqx1
    have BXx1 : Hid (Kept w6.heap.size (w6.alloc (.cells #[.int .i64 (y).b.n, .slice Ax1 (y).b.w.length cx1, .slice Bx1 (y).e.length dx1] 33)) (w6.alloc (.cells #[.int .i64 (y).b.n, .slice Ax1 (y).b.w.length cx1, .slice Bx1 (y).e.length dx1] 33))) := Kept.refl (by simp)
    have Tx1 : Hid (w6.heap.size < (w6.alloc (.cells #[.int .i64 (y).b.n, .slice Ax1 (y).b.w.length cx1, .slice Bx1 (y).e.length dx1] 33)).heap.size) := BXx1.out.lt
    obtain ⟨kx0_0, kx0_1, kx0_2⟩ := (hclx0 _ BXx0.out).three
    obtain ⟨kx1_0, kx1_1, kx1_2⟩ := (hclx1 _ BXx1.out).three
    go_wp2_with fail
    clear kx0_0 kx0_1 kx0_2
    clear kx1_0 kx1_1 kx1_2
    refine (implEqualBlocks_any _ _ x y _ ((RdBkV.of_own Ox0.out).more (by have := S1.out; have := S2.out; have := S3.out; have := S4.out; have := S5.out; have := S6.out; have := S7.out; have := Tx0.out; have := Tx1.out; omega)) ((RdBkV.of_own Ox1.out).more (by have := S1.out; have := S2.out; have := S3.out; have := S4.out; have := S5.out; have := S6.out; have := S7.out; have := Tx0.out; have := Tx1.out; omega))).mono ?_
    rintro e w8 ⟨rfl, hb⟩
    have Ox0' := Lib.hid (Ox0.out.below (hb.mono (by have := S1.out; have := S2.out; have := S3.out; have := S4.out; have := S5.out; have := S6.out; have := S7.out; have := Tx0.out; have := Tx1.out; omega)))
    have Ox1' := Lib.hid (Ox1.out.below (hb.mono (by have := S1.out; have := S2.out; have := S3.out; have := S4.out; have := S5.out; have := S6.out; have := S7.out; have := Tx0.out; have := Tx1.out; omega)))
    clear Ox0 Ox1
    have Ox0 := Ox0'
    have Ox1 := Ox1'
    clear Ox0' Ox1'
    have S8 := Lib.hid hb.size
    have B8 := Lib.hid (B7.out.trans (hb.mono B7.out.size))
    have BXx0' := Lib.hid (BXx0.out.next hb)
    clear BXx0
    have BXx0 := BXx0'
    clear BXx0'
    have BXx1' := Lib.hid (BXx1.out.next hb)
    clear BXx1
    have BXx1 := BXx1'
    clear BXx1'
    clear hb B7
    obtain ⟨k0_0, k0_1, k0_2⟩ := (hcl0 _ B8.out).three
    obtain ⟨kx0_0, kx0_1, kx0_2⟩ := (hclx0 _ BXx0.out).three
    go_wp2
    go_region_held3 (fun w' => w'.cell? ⟨W.heap.size, 0, none⟩ = some (.int .i64 (x).b.n) ∧ w'.cell? ⟨W.heap.size, 1, none⟩ = some (.slice A0 n0 c0) ∧ w'.cell? ⟨W.heap.size, 2, none⟩ = some (.slice Ab0 nb0 cb0) ∧ w'.cell? ⟨w4.heap.size, 0, none⟩ = some (.int .i64 (x).b.n) ∧ w'.cell? ⟨w4.heap.size, 1, none⟩ = some (.slice Ax0 (x).b.w.length cx0) ∧ w'.cell? ⟨w4.heap.size, 2, none⟩ = some (.slice Bx0 (x).e.length dx0)) (first | exact ⟨k0_0, k0_1, k0_2, kx0_0, kx0_1, kx0_2⟩ | exact ⟨m0_0, m0_1, m0_2, mx0_0, mx0_1, mx0_2⟩ | exact ⟨q0_0, q0_1, q0_2, qx0_0, qx0_1, qx0_2⟩)
      (first
        | (go_at_call 10; refine (toBlock_any _ x _ ((H0.out.below ((((Below.refl _ _).alloc (by first | exact Nat.le_refl _ | (simp; done) | (simp; omega)) _).alloc (by first | exact Nat.le_refl _ | (simp; done) | (simp; omega)) _).trans (B8.out.mono (by first | (simp; done) | (simp; omega)))).drew).more (((((Below.refl _ _).alloc (by first | exact Nat.le_refl _ | (simp; done) | (simp; omega)) _).alloc (by first | exact Nat.le_refl _ | (simp; done) | (simp; omega)) _).trans (B8.out.mono (by first | (simp; done) | (simp; omega)))).drew).size) s0.out.1 s0.out.2).mono ?_; rintro e wy ⟨vy, rfl, ho, hb⟩; obtain ⟨sy, ty, my, rfl, ey, fy, ho, hpy⟩ := ho; obtain ⟨Ay, cy, rfl, -⟩ := ho.cells; obtain ⟨By, dy, rfl, -⟩ := hpy.cells; have hba : Below w8.heap.size w8 wy := ((Below.refl _ _).drew).trans hb; have Oy : Hid (OwBkV _ _ _ _ (x)) := ⟨_, _, _, rfl, ey, fy, ho, hpy⟩; have hbi := Lib.hid hba; have hb := hba; clear hba; have hbm := hb; have hbn := hb; clear hb; have hb := hbn; obtain ⟨m0_0, m0_1, m0_2⟩ := (hcl0 _ (B8.out.trans (hbm.mono (by have := B8.out.size; omega)))).three; obtain ⟨mx0_0, mx0_1, mx0_2⟩ := (hclx0 _ (BXx0.out.next hbm)).three)
        | (go_at_call 12; refine (eqBlock_any _ _ (x) (x) _ ((RdBkV.of_own Ox0.out).below (hbm.mono (by have := S1.out; have := S2.out; have := S3.out; have := S4.out; have := S5.out; have := S6.out; have := S7.out; have := S8.out; have := Tx0.out; have := Tx1.out; omega)) |>.more (by have := S1.out; have := S2.out; have := S3.out; have := S4.out; have := S5.out; have := S6.out; have := S7.out; have := S8.out; have := Tx0.out; have := Tx1.out; have := hbm.size; omega)) (RdBkV.of_own Oy.out)).mono ?_; rintro e we0 ⟨rfl, hbe⟩; have hbq : Below w8.heap.size w8 we0 := hbm.trans (hbe.mono hbm.size); obtain ⟨q0_0, q0_1, q0_2⟩ := (hcl0 _ (B8.out.trans (hbq.mono (by have := B8.out.size; omega)))).three; obtain ⟨qx0_0, qx0_1, qx0_2⟩ := (hclx0 _ (BXx0.out.next hbq)).three))
    clear k0_0 k0_1 k0_2
    clear kx0_0 kx0_1 kx0_2
    have hb := hbq
    clear hbq hbm hbe Oy hbn hbi
    have Ox0' := Lib.hid (Ox0.out.below (hb.mono (by have := S1.out; have := S2.out; have := S3.out; have := S4.out; have := S5.out; have := S6.out; have := S7.out; have := S8.out; have := Tx0.out; have := Tx1.out; omega)))
    have Ox1' := Lib.hid (Ox1.out.below (hb.mono (by have := S1.out; have := S2.out; have := S3.out; have := S4.out; have := S5.out; have := S6.out; have := S7.out; have := S8.out; have := Tx0.out; have := Tx1.out; omega)))
    clear Ox0 Ox1
    have Ox0 := Ox0'
    have Ox1 := Ox1'
    clear Ox0' Ox1'
    have S9 := Lib.hid hb.size
    have B9 := Lib.hid (B8.out.trans (hb.mono B8.out.size))
    have BXx0' := Lib.hid (BXx0.out.next hb)
    clear BXx0
    have BXx0 := BXx0'
    clear BXx0'
    have BXx1' := Lib.hid (BXx1.out.next hb)
    clear BXx1
    have BXx1 := BXx1'
    clear BXx1'
    clear hb B8
    obtain ⟨k1_0, k1_1, k1_2⟩ := (hcl1 _ B9.out).three
    obtain ⟨kx1_0, kx1_1, kx1_2⟩ := (hclx1 _ BXx1.out).three
    go_wp2
    go_region_held3 (fun w' => w'.cell? ⟨W.heap.size + 1, 0, none⟩ = some (.int .i64 (y).b.n) ∧ w'.cell? ⟨W.heap.size + 1, 1, none⟩ = some (.slice A1 n1 c1) ∧ w'.cell? ⟨W.heap.size + 1, 2, none⟩ = some (.slice Ab1 nb1 cb1) ∧ w'.cell? ⟨w6.heap.size, 0, none⟩ = some (.int .i64 (y).b.n) ∧ w'.cell? ⟨w6.heap.size, 1, none⟩ = some (.slice Ax1 (y).b.w.length cx1) ∧ w'.cell? ⟨w6.heap.size, 2, none⟩ = some (.slice Bx1 (y).e.length dx1)) (first | exact ⟨k1_0, k1_1, k1_2, kx1_0, kx1_1, kx1_2⟩ | exact ⟨m1_0, m1_1, m1_2, mx1_0, mx1_1, mx1_2⟩ | exact ⟨q1_0, q1_1, q1_2, qx1_0, qx1_1, qx1_2⟩)
      (first
        | (go_at_call 10; refine (toBlock_any _ y _ ((H1.out.below ((((Below.refl _ _).alloc (by first | exact Nat.le_refl _ | (simp; done) | (simp; omega)) _).alloc (by first | exact Nat.le_refl _ | (simp; done) | (simp; omega)) _).trans (B9.out.mono (by first | (simp; done) | (simp; omega)))).drew).more (((((Below.refl _ _).alloc (by first | exact Nat.le_refl _ | (simp; done) | (simp; omega)) _).alloc (by first | exact Nat.le_refl _ | (simp; done) | (simp; omega)) _).trans (B9.out.mono (by first | (simp; done) | (simp; omega)))).drew).size) s1.out.1 s1.out.2).mono ?_; rintro e wy ⟨vy, rfl, ho, hb⟩; obtain ⟨sy, ty, my, rfl, ey, fy, ho, hpy⟩ := ho; obtain ⟨Ay, cy, rfl, -⟩ := ho.cells; obtain ⟨By, dy, rfl, -⟩ := hpy.cells; have hba : Below we0.heap.size we0 wy := ((Below.refl _ _).drew).trans hb; have Oy : Hid (OwBkV _ _ _ _ (y)) := ⟨_, _, _, rfl, ey, fy, ho, hpy⟩; have hbi := Lib.hid hba; have hb := hba; clear hba; have hbm := hb; have hbn := hb; clear hb; have hb := hbn; obtain ⟨m1_0, m1_1, m1_2⟩ := (hcl1 _ (B9.out.trans (hbm.mono (by have := B9.out.size; omega)))).three; obtain ⟨mx1_0, mx1_1, mx1_2⟩ := (hclx1 _ (BXx1.out.next hbm)).three)
        | (go_at_call 12; refine (eqBlock_any _ _ (y) (y) _ ((RdBkV.of_own Ox1.out).below (hbm.mono (by have := S1.out; have := S2.out; have := S3.out; have := S4.out; have := S5.out; have := S6.out; have := S7.out; have := S8.out; have := S9.out; have := Tx0.out; have := Tx1.out; omega)) |>.more (by have := S1.out; have := S2.out; have := S3.out; have := S4.out; have := S5.out; have := S6.out; have := S7.out; have := S8.out; have := S9.out; have := Tx0.out; have := Tx1.out; have := hbm.size; omega)) (RdBkV.of_own Oy.out)).mono ?_; rintro e we1 ⟨rfl, hbe⟩; have hbq : Below we0.heap.size we0 we1 := hbm.trans (hbe.mono hbm.size); obtain ⟨q1_0, q1_1, q1_2⟩ := (hcl1 _ (B9.out.trans (hbq.mono (by have := B9.out.size; omega)))).three; obtain ⟨qx1_0, qx1_1, qx1_2⟩ := (hclx1 _ (BXx1.out.next hbq)).three))
    clear k1_0 k1_1 k1_2
    clear kx1_0 kx1_1 kx1_2
    have hb := hbq
    clear hbq hbm hbe Oy hbn hbi
    have Ox0' := Lib.hid (Ox0.out.below (hb.mono (by have := S1.out; have := S2.out; have := S3.out; have := S4.out; have := S5.out; have := S6.out; have := S7.out; have := S8.out; have := S9.out; have := Tx0.out; have := Tx1.out; omega)))
    have Ox1' := Lib.hid (Ox1.out.below (hb.mono (by have := S1.out; have := S2.out; have := S3.out; have := S4.out; have := S5.out; have := S6.out; have := S7.out; have := S8.out; have := S9.out; have := Tx0.out; have := Tx1.out; omega)))
    clear Ox0 Ox1
    have Ox0 := Ox0'
    have Ox1 := Ox1'
    clear Ox0' Ox1'
    have S10 := Lib.hid hb.size
    have B10 := Lib.hid (B9.out.trans (hb.mono B9.out.size))
    have BXx0' := Lib.hid (BXx0.out.next hb)
    clear BXx0
    have BXx0 := BXx0'
    clear BXx0'
    have BXx1' := Lib.hid (BXx1.out.next hb)
    clear BXx1
    have BXx1 := BXx1'
    clear BXx1'
    clear hb B9
    go_wp2
    go_ret
    exact ⟨rfl, ((((Below.refl _ _).alloc (by first | exact Nat.le_refl _ | (simp; done) | (simp; omega)) _).alloc (by first | exact Nat.le_refl _ | (simp; done) | (simp; omega)) _).trans (B10.out.mono (by first | (simp; done) | (simp; omega))))⟩

set_option maxRecDepth 100000 in
theorem FnExactEqualBlocks.walk {H : Type} {enc : TypeId × Value → H} {base : Nat} {d0 : DataW H} {p0 : List MemPlace} {d1 : DataW H} {p1 : List MemPlace} (W : World) (v0 : Value) (v1 : Value) (o0 : Value.okWide Try.prog W .any base 27 v0) (o1 : Value.okWide Try.prog W .any base 27 v1)
    (h0 : DataW.Trod enc Try.prog W 0 (fun _ => true) true 27 v0 d0 p0) (h1 : DataW.Trod enc Try.prog W 0 (fun _ => true) true 27 v1 d1 p1) : Calls Try.prog 3 #[v0, v1] W fun e W' => e = .returned (.bool true) ∧ Below W.heap.size W W' := by
  obtain ⟨x, k0, _⟩ := open_block o0 h0
  obtain ⟨y, k1, _⟩ := open_block o1 h1
  exact FnExactEqualBlocks.core v0 x v1 y W k0 k1

namespace FnExactEqualBlocks
theorem own : ownKnob Try.prog.godebug = none := by kernel_rfl
theorem laidOut : laidOutB Try.prog = true := by kernel_rfl

set_option maxRecDepth 100000 in
theorem lifted (os : Os) (started : os.Started) (H : Type) (enc : TypeId × Value → H) :
    ReturnsInHanded {} Try.checked os 3 .any (Rows.fnExactEqualBlocksSpec.pre6 enc Try.prog Try.f3 Rows.fnExactEqualBlocksRow.domain false) (Rows.fnExactEqualBlocksSpec.post enc Try.prog Try.f3 false true false false) := by
  refine returnsInHanded_of_change (C := Try.checked) own started (by kernel_rfl) Try.func3
    (ChangeSpec.witness6 (enc := enc) (C := Try.checked) false ⟨#[], #[.agg #[.int .i64 0, .slice none 0 0, .slice none 0 0], .agg #[.int .i64 0, .slice none 0 0, .slice none 0 0]], []⟩ 8 (by kernel_rfl) (by kernel_rfl) (by kernel_rfl) (by kernel_rfl)) ?_
  intro W base args ds gs before hval0 hW hcnd _
  have hval : ∀ (j : Nat) t v, Try.f3.params[j]? = some t → args[j]? = some v → Value.okWide Try.prog W .any base t v := hval0
  have hW' := hW
  obtain ⟨p, q, hA0, hV, rfl, hfz, hnd⟩ := hW
  have hA : DataW.TrodAll enc Try.prog W 0 (fun _ => true) true Try.f3.params.toList args.toList ds p := hA0
  rw [Try.params3] at hA hval
  obtain ⟨v0, vs0, d0, ds0, p0, q0, hargs, rfl, rfl, h0, r0⟩ := trodAll_cons hA
  obtain ⟨v1, vs1, d1, ds1, p1, q1, rfl, rfl, rfl, h1, r1⟩ := trodAll_cons r0
  obtain ⟨rfl, rfl, rfl⟩ := trodAll_nil r1
  obtain rfl : args = #[v0, v1] := by cases args; simp_all
  obtain ⟨rfl, rfl⟩ := trodVars_none hV
  have k0 := h0
  have lt0 : ∀ x ∈ p0, x.block < W.heap.size := by obtain ⟨m, hm⟩ := k0; exact DataW.trod_lt m _ _ _ hm
  have k1 := h1
  have lt1 : ∀ x ∈ p1, x.block < W.heap.size := by obtain ⟨m, hm⟩ := k1; exact DataW.trod_lt m _ _ _ hm
  clear hA0 hval0
  refine (walk W v0 v1 (hval 0 _ v0 rfl rfl) (hval 1 _ v1 rfl rfl) h0 h1).mono fun e W' ⟨he, bel⟩ => ?_
  subst he
  exact ⟨_, rfl, _, _, _, [], _, [], hW', trodAll_mk1 (shut_bool Try.underlying4 _), (trodAll_cons_mk (Below.trod laidOut (by kernel_rfl) (of_decide_eq_true (by kernel_rfl)) k0 bel lt0) (trodAll_cons_mk (Below.trod laidOut (by kernel_rfl) (of_decide_eq_true (by kernel_rfl)) k1 bel lt1) trodAll_mk0)), rfl, bel.frame _, fun h => by cases h⟩

theorem over : Rows.fnExactEqualBlocksRow.holds Try.pinned (OpenSpec.ofChange Rows.fnExactEqualBlocksSpec) :=
  OpenClaim.holds_of_wide 3 Try.f3 rfl rfl rfl rfl rfl rfl rfl ⟨rfl, rfl, rfl, rfl, rfl⟩ rfl rfl rfl rfl rfl (by kernel_rfl) Try.func3 (by kernel_rfl)
    (of_decide_eq_true (by kernel_rfl)) (by unfold Func.isWrapper; first | (rw [if_pos (by decide +kernel)]; kernel_rfl) | (rw [if_neg (by decide +kernel)]; exact ⟨rfl, rfl⟩))
    (fun os started H enc _ => lifted os started H enc)

theorem proved : Rows.FnExactEqualBlocksSaid := over
end FnExactEqualBlocks

end Go.Proofs.Ytfeonaocmnpkcaa
