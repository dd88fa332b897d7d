/-
  Texts joined: EvD.
-/
import Derived.Test.YtiampiakhkpcbaaPk2
import Derived.Test.YtiampiakhkpcbaaEv
import Derived.Deep.DeepCutAuto
import Derived.Deep.CutRange
import Derived.Deep.CutBlock
/-
  A draw of an event: l10DrawEvent.
-/
namespace Go.Proofs.Ytiampiakhkpcbaa
set_option linter.unusedVariables false
set_option linter.unusedSimpArgs false
open Go.RowKit

abbrev zEv : List Value := [.int .i64 0, .int .i64 0, .int .i64 0, .int .i64 0, .int .i64 0, .int .i64 0]
/-- Half way: the source, the boxes of the result and of the event. -/
structure DEv (w0 : World) (gs : Nat) (K : Int) (g5 : Nat) (x : Ev) (wx : World) : Prop where
  src : Src wx gs K
  only : Only gs (gs + 1) w0 wx
  res : Bx wx w0.heap.size zEv
  ev : Bx wx g5 x.cells
  lt5 : w0.heap.size < g5
theorem DEv.turn {w0 wx wy : World} {gs g5 : Nat} {K K' : Int} {x : Ev} (h : DEv w0 gs K g5 x wx) (hg : gs < w0.heap.size) (hs : Src wy gs K') (ho : Only gs (gs + 1) wx wy) : DEv w0 gs K' g5 x wy :=
  ⟨hs, h.only.trans ho, h.res.only ho (by omega), h.ev.only ho (by have := h.lt5; omega), h.lt5⟩
theorem DEv.setI {w0 wx : World} {gs g5 : Nat} {K : Int} {x y : Ev} (h : DEv w0 gs K g5 x wx) (hg : gs < w0.heap.size) (i : Nat) (u : Value) (hi : i < 6) (hy : x.cells.set i u = y.cells) : DEv w0 gs K g5 y (wx.setCell ⟨g5, i, none⟩ u) :=
  ⟨h.src.setNew (by have := h.lt5; omega) _ _, h.only.setNew (by have := h.lt5; omega) _ _, h.res.far (by have := h.lt5; omega) _ _, hy ▸ h.ev.set (i := i) (by simpa using hi) u, h.lt5⟩
theorem DEv.drewN {w0 wx : World} {gs g5 : Nat} {K : Int} {x : Ev} (h : DEv w0 gs K g5 x wx) (n : Nat) : DEv w0 gs K g5 x (wx.drewN n) :=
  ⟨h.src, ⟨h.only.os, h.only.tape, h.only.output, h.only.size, h.only.block⟩, h.res, h.ev, h.lt5⟩
theorem DEv.fin {w0 wx : World} {gs g5 : Nat} {K : Int} {x : Ev} (h : DEv w0 gs K g5 x wx) (hg : gs < w0.heap.size) (u0 u1 u2 u3 u4 u5 : Value) :
    Src ((((((wx.setCell ⟨w0.heap.size, 0, none⟩ u0).setCell ⟨w0.heap.size, 1, none⟩ u1).setCell ⟨w0.heap.size, 2, none⟩ u2).setCell ⟨w0.heap.size, 3, none⟩ u3).setCell ⟨w0.heap.size, 4, none⟩ u4).setCell ⟨w0.heap.size, 5, none⟩ u5) gs K ∧
    Only gs (gs + 1) w0 ((((((wx.setCell ⟨w0.heap.size, 0, none⟩ u0).setCell ⟨w0.heap.size, 1, none⟩ u1).setCell ⟨w0.heap.size, 2, none⟩ u2).setCell ⟨w0.heap.size, 3, none⟩ u3).setCell ⟨w0.heap.size, 4, none⟩ u4).setCell ⟨w0.heap.size, 5, none⟩ u5) :=
  ⟨(((((h.src.setNew hg 0 u0).setNew hg 1 u1).setNew hg 2 u2).setNew hg 3 u3).setNew hg 4 u4).setNew hg 5 u5, (((((h.only.setNew (Nat.le_refl _) 0 u0).setNew (Nat.le_refl _) 1 u1).setNew (Nat.le_refl _) 2 u2).setNew (Nat.le_refl _) 3 u3).setNew (Nat.le_refl _) 4 u4).setNew (Nat.le_refl _) 5 u5⟩
/-- An event that was drawn. -/
def DrawnEv (w : World) (g : Nat) (K n : Int) (e : Ending) (w' : World) : Prop := ∃ x : Ev, e = .returned x.v ∧ (7 < n → x.k = 4) ∧ Src w' g K ∧ Only g (g + 1) w w'
theorem l00Min_d (a b : Int) (w : World) : Calls Try.prog 53 #[.int .i64 a, .int .i64 b] w fun e w' => e = .returned (.int .i64 (min a b)) ∧ w = w' := by
  by_cases h : a < b
  all_goals
    go_enter Try.func53, Try.ntmps53
    go_wp2
    go_ret
    exact ⟨ret_int (by omega), rfl⟩
theorem pick_d {gs : Nat} {K : Int} (hK : K + 2 ≤ 1000000000) (n : Int) (X : World) (hX : Src X gs K) : Calls Try.prog 36 #[.pointer (some ⟨gs, 0, none⟩), .int .i64 n] X (Drawn X gs (K + 2) (PickOk n)) := pick_any X gs n K hX hK
set_option maxHeartbeats 8000000 in
set_option maxRecDepth 100000 in
theorem l10DrawEvent_any {w : World} {gs : Nat} {K n : Int} (hS : Src w gs K) (h0 : 0 ≤ n) (h1 : n ≤ 8) (hK : K + 20 ≤ 1000000000) :
    Calls Try.prog 37 #[.pointer (some ⟨gs, 0, none⟩), .int .i64 n] w (DrawnEv w gs (K + 20) n) := by
  have hgs := hS.lt
  have HS := Lib.hid hS
  have HR := Lib.hid (Bx.new w zEv 33)
  clear hS
  go_enter Try.func37, Try.ntmps37
  go_wp2_with fail
  refine (pick_any _ gs 5 K (HS.out.alloc _) (by omega)).mono ?_
  rintro e w1 ⟨x0, rfl, hx, hs1, ho1⟩
  have hx0 : 0 ≤ x0 := hx.1
  have hx5 : x0 < 5 := hx.2.1 (by omega)
  have hz1 : w.heap.size < w1.heap.size := by have := ho1.size; rw [World.size_alloc] at this; exact this
  have HD := Lib.hid (show DEv w gs (K + 2) w1.heap.size ⟨1 + x0, 0, 0, 0, 0, 0⟩ (w1.alloc (.cells #[.int .i64 (1 + x0), .int .i64 0, .int .i64 0, .int .i64 0, .int .i64 0, .int .i64 0] 33)) from
    ⟨hs1.alloc _, (((Only.refl gs (gs + 1) w).alloc (.cells zEv.toArray 33)).trans ho1).alloc _, (HR.out.only ho1 (by omega)).alloc _, Bx.new w1 [.int .i64 (1 + x0), .int .i64 0, .int .i64 0, .int .i64 0, .int .i64 0, .int .i64 0] 33, hz1⟩)
  have hw1 : IntKind.i64.wrap (1 + x0) = 1 + x0 := IntWalk.i64_in _ (by omega)
  obtain ⟨g5, hg5⟩ : ∃ g5, g5 = w1.heap.size := ⟨_, rfl⟩
  clear hx hs1 ho1 HS HR
  go_upto_block 0 with fail
  rw [← hg5] at hz1 HD ⊢
  generalize w1.alloc (.cells #[.int .i64 (1 + x0), .int .i64 0, .int .i64 0, .int .i64 0, .int .i64 0, .int .i64 0] 33) = W at *
  clear hg5 hw1
  go_cut [] (fun wx => ∃ (k : Int) (wy : World), wy = wx ∧ (7 < n → k = 4) ∧ Hid (DEv w gs (K + 2) g5 ⟨k, 0, 0, 0, 0, 0⟩ wx))
  case first =>
    have hc : x0 = 0 ∨ x0 = 1 ∨ x0 = 2 ∨ x0 = 3 ∨ x0 = 4 := by omega
    have d3 := Lib.hid (HD.out.setI (y := ⟨3, 0, 0, 0, 0, 0⟩) hgs 0 (.int .i64 3) (by decide) rfl)
    have d4 := Lib.hid (HD.out.setI (y := ⟨4, 0, 0, 0, 0, 0⟩) hgs 0 (.int .i64 4) (by decide) rfl)
    obtain ⟨e0, e1, e2, e3, e4, e5⟩ := HD.out.ev.six
    have ef := HD.out.ev.2.1
    by_cases h7 : 7 < n
    · have h2 : ¬ n < 2 := by omega
      have h1' : ¬ n < 1 := by omega
      go_wp2_with fail
      go_meet
      exact ⟨_, _, rfl, fun _ => rfl, d4.out⟩
    · have HN := Lib.hid (fun (k : Int) (h : 7 < n) => (absurd h h7 : k = 4))
      by_cases h1' : n < 1
      · have h2 : n < 2 := by omega
        rcases hc with rfl | rfl | rfl | rfl | rfl
        all_goals go_wp2_with fail
        all_goals go_meet
        all_goals first
          | exact ⟨_, _, rfl, HN.out _, HD.out⟩
          | exact ⟨_, _, rfl, HN.out _, d3.out⟩
      · by_cases h2 : n < 2
        · rcases hc with rfl | rfl | rfl | rfl | rfl
          all_goals go_wp2_with fail
          all_goals go_meet
          all_goals first
            | exact ⟨_, _, rfl, HN.out _, HD.out⟩
            | exact ⟨_, _, rfl, HN.out _, d3.out⟩
        · go_wp2_with fail
          go_meet
          exact ⟨_, _, rfl, HN.out _, HD.out⟩
  case rest =>
    obtain ⟨k, W3, rfl, hk4, HD3⟩ := hcut
    clear HD
    obtain ⟨e0, e1, e2, e3, e4, e5⟩ := HD3.out.ev.six
    have ef := HD3.out.ev.2.1
    by_cases hk1 : k = 1
    · subst hk1
      have hw2 : IntKind.i64.wrap (n - 1) = n - 1 := IntWalk.i64_in _ (by omega)
      have h47 : ¬ 7 < n := fun h => by have := hk4 h; omega
      go_wp2_with fail
      refine (pick_d (by omega) _ _ HD3.out.src).mono ?_
      rintro e wn ⟨y, rfl, hx, hs, ho⟩
      have HT := Lib.hid (HD3.out.turn hgs hs ho)
      have HD4 := Lib.hid (HT.out.setI (y := ⟨1, y, 0, 0, 0, 0⟩) hgs 1 (.int .i64 (y)) (by decide) rfl)
      clear hs ho hx e0 e1 e2 e3 e4 e5 ef
      obtain ⟨e0, e1, e2, e3, e4, e5⟩ := HT.out.ev.six
      have ef := HT.out.ev.2.1
      go_upto_region 9 with fail
      generalize wn.setCell ⟨g5, 1, none⟩ (.int .i64 (y)) = WHD4 at *
      clear HT HD3 e0 e1 e2 e3 e4 e5 ef
      obtain ⟨e0, e1, e2, e3, e4, e5⟩ := HD4.out.ev.six
      have ef := HD4.out.ev.2.1
      obtain ⟨p, hp⟩ : ∃ p, p = y := ⟨_, rfl⟩
      rw [← hp] at HD4 e1
      clear hp
      go_wp2_with fail
      refine (pick_d (by omega) _ _ HD4.out.src).mono ?_
      rintro e wn ⟨y, rfl, hx, hs, ho⟩
      have hy : y = 0 ∨ y = 1 := by obtain ⟨h1, h2, -⟩ := hx; have := h2 (by omega); omega
      have hw3 : IntKind.i64.wrap (2 * y) = 2 * y := IntWalk.i64_in _ (by omega)
      have hw4 : IntKind.i64.wrap (1 - 2 * y) = 1 - 2 * y := IntWalk.i64_in _ (by omega)
      have HT := Lib.hid (HD4.out.turn hgs hs ho)
      have HD5 := Lib.hid (HT.out.setI (y := ⟨1, p, 1 - 2 * y, 0, 0, 0⟩) hgs 2 (.int .i64 (1 - 2 * y)) (by decide) rfl)
      clear hs ho hx e0 e1 e2 e3 e4 e5 ef
      obtain ⟨e0, e1, e2, e3, e4, e5⟩ := HT.out.ev.six
      have ef := HT.out.ev.2.1
      go_upto_region 10 with fail
      generalize wn.setCell ⟨g5, 2, none⟩ (.int .i64 (1 - 2 * y)) = WHD5 at *
      clear HT HD4 e0 e1 e2 e3 e4 e5 ef
      obtain ⟨e0, e1, e2, e3, e4, e5⟩ := HD5.out.ev.six
      have ef := HD5.out.ev.2.1
      obtain ⟨r0, r1, r2, r3, r4, r5⟩ := HD5.out.res.six
      have rf := HD5.out.res.2.1
      have hne : g5 ≠ w.heap.size := by have := HD5.out.lt5; omega
      go_wp2
      refine bodyPost_ret (v := (⟨1, p, 1 - 2 * y, 0, 0, 0⟩ : Ev).v) (by simp [results, Try.results37, go_sem, r0, r1, r2, r3, r4, r5, World.cell?_setCell_other]) rfl ?_
      have hfin := HD5.out.fin hgs
      exact ⟨⟨1, p, 1 - 2 * y, 0, 0, 0⟩, rfl, fun h => by omega, (hfin _ _ _ _ _ _).1.more (by omega) hK, (hfin _ _ _ _ _ _).2⟩
    · have hk1' : (k == 1) = false := by simpa using hk1
      have hw2 : IntKind.i64.wrap (n + 1) = n + 1 := IntWalk.i64_in _ (by omega)
      have HK4 := Lib.hid hk4
      clear hk4
      go_wp2_with fail
      refine (pick_d (by omega) _ _ HD3.out.src).mono ?_
      rintro e wn ⟨y, rfl, hx, hs, ho⟩
      have hy0 : 0 ≤ y := hx.1
      have hyn : y ≤ n := by
        obtain ⟨h1, h2, h3⟩ := hx
        by_cases hc : 1 < n + 1
        · have := h2 hc; omega
        · have := h3 (by omega); omega
      have HT := Lib.hid (HD3.out.turn hgs hs ho)
      have HD4 := Lib.hid (HT.out.setI (y := ⟨k, y, 0, 0, 0, 0⟩) hgs 1 (.int .i64 (y)) (by decide) rfl)
      clear hs ho hx e0 e1 e2 e3 e4 e5 ef
      obtain ⟨e0, e1, e2, e3, e4, e5⟩ := HT.out.ev.six
      have ef := HT.out.ev.2.1
      go_upto_region 12 with fail
      generalize wn.setCell ⟨g5, 1, none⟩ (.int .i64 (y)) = WHD4 at *
      clear HT HD3 e0 e1 e2 e3 e4 e5 ef
      obtain ⟨e0, e1, e2, e3, e4, e5⟩ := HD4.out.ev.six
      have ef := HD4.out.ev.2.1
      obtain ⟨p, hp⟩ : ∃ p, p = y := ⟨_, rfl⟩
      rw [← hp] at HD4 e1 hy0 hyn
      clear hp
      go_upto_if 56 with fail
      go_cut [] (fun wx => ∃ (b y d : Int) (wy : World), wy = wx ∧ Hid (DEv w gs (K + 10) g5 ⟨k, p, 0, b, y, d⟩ wx))
      case first =>
        by_cases hk : k = 4
        · have hk' : (k != 4) = false := by simpa using hk
          go_wp2_with fail
          go_meet
          exact ⟨0, 0, 0, _, rfl, ⟨HD4.out.src.more (by omega) (by omega), HD4.out.only, HD4.out.res, HD4.out.ev, HD4.out.lt5⟩⟩
        · have hk' : (k != 4) = true := by simpa using hk
          go_wp2_with fail
          refine (pick_d (by omega) _ _ HD4.out.src).mono ?_
          rintro e wn ⟨y, rfl, hx, hs, ho⟩
          have hy : y = 0 ∨ y = 1 := by obtain ⟨h1, h2, -⟩ := hx; have := h2 (by omega); omega
          have hw3 : IntKind.i64.wrap (1 + y) = 1 + y := IntWalk.i64_in _ (by omega)
          have HT := Lib.hid (HD4.out.turn hgs hs ho)
          have HD5 := Lib.hid (HT.out.setI (y := ⟨k, p, 0, 1 + y, 0, 0⟩) hgs 3 (.int .i64 (1 + y)) (by decide) rfl)
          clear hs ho hx e0 e1 e2 e3 e4 e5 ef
          obtain ⟨e0, e1, e2, e3, e4, e5⟩ := HT.out.ev.six
          have ef := HT.out.ev.2.1
          go_upto_region 14 with fail
          generalize wn.setCell ⟨g5, 3, none⟩ (.int .i64 (1 + y)) = WHD5 at *
          clear HT HD4 e0 e1 e2 e3 e4 e5 ef
          obtain ⟨e0, e1, e2, e3, e4, e5⟩ := HD5.out.ev.six
          have ef := HD5.out.ev.2.1
          obtain ⟨b, hb⟩ : ∃ b, b = 1 + y := ⟨_, rfl⟩
          rw [← hb] at HD5 e3
          clear hb hw3 hy
          go_wp2_with fail
          refine (pick_d (by omega) _ _ HD5.out.src).mono ?_
          rintro e wn ⟨y, rfl, hx, hs, ho⟩
          have hy : y = 0 ∨ y = 1 := by obtain ⟨h1, h2, -⟩ := hx; have := h2 (by omega); omega
          have hw3 : IntKind.i64.wrap (1 + y) = 1 + y := IntWalk.i64_in _ (by omega)
          have HT := Lib.hid (HD5.out.turn hgs hs ho)
          have HD6 := Lib.hid (HT.out.setI (y := ⟨k, p, 0, b, 1 + y, 0⟩) hgs 4 (.int .i64 (1 + y)) (by decide) rfl)
          clear hs ho hx e0 e1 e2 e3 e4 e5 ef
          obtain ⟨e0, e1, e2, e3, e4, e5⟩ := HT.out.ev.six
          have ef := HT.out.ev.2.1
          go_upto_region 15 with fail
          generalize wn.setCell ⟨g5, 4, none⟩ (.int .i64 (1 + y)) = WHD6 at *
          clear HT HD5 e0 e1 e2 e3 e4 e5 ef
          obtain ⟨e0, e1, e2, e3, e4, e5⟩ := HD6.out.ev.six
          have ef := HD6.out.ev.2.1
          obtain ⟨b2, hb⟩ : ∃ b2, b2 = 1 + y := ⟨_, rfl⟩
          rw [← hb] at HD6 e4
          clear hb hw3 hy
          go_wp2_with fail
          refine (pick_d (by omega) _ _ HD6.out.src).mono ?_
          rintro e wn ⟨y, rfl, hx, hs, ho⟩
          have hy : y = 0 ∨ y = 1 := by obtain ⟨h1, h2, -⟩ := hx; have := h2 (by omega); omega
          have hw3 : IntKind.i64.wrap (2 * y) = 2 * y := IntWalk.i64_in _ (by omega)
          have hw4 : IntKind.i64.wrap (1 - 2 * y) = 1 - 2 * y := IntWalk.i64_in _ (by omega)
          have HT := Lib.hid (HD6.out.turn hgs hs ho)
          have HD7 := Lib.hid (HT.out.setI (y := ⟨k, p, 0, b, b2, 1 - 2 * y⟩) hgs 5 (.int .i64 (1 - 2 * y)) (by decide) rfl)
          clear hs ho hx e0 e1 e2 e3 e4 e5 ef
          obtain ⟨e0, e1, e2, e3, e4, e5⟩ := HT.out.ev.six
          have ef := HT.out.ev.2.1
          go_wp2_with fail
          go_meet
          exact ⟨b, b2, 1 - 2 * y, _, rfl, ⟨HD7.out.src.more (by omega) (by omega), HD7.out.only, HD7.out.res, HD7.out.ev, HD7.out.lt5⟩⟩
      case rest =>
        obtain ⟨b, yy, d, W5, rfl, HD5⟩ := hcut
        clear HD4 e0 e1 e2 e3 e4 e5 ef
        obtain ⟨e0, e1, e2, e3, e4, e5⟩ := HD5.out.ev.six
        have ef := HD5.out.ev.2.1
        by_cases hk2 : k = 2
        · subst hk2
          have hw3 : IntKind.i64.wrap (n - p) = n - p := IntWalk.i64_in _ (by omega)
          go_wp2_with fail
          refine (l00Min_d _ _ _).mono ?_
          rintro e w' ⟨rfl, rfl⟩
          have hw5 : IntKind.i64.wrap (min (n - p) 2 + 1) = min (n - p) 2 + 1 := IntWalk.i64_in _ (by omega)
          go_wp2_with fail
          refine (pick_d (by omega) _ _ HD5.out.src).mono ?_
          rintro e wn ⟨y, rfl, hx, hs, ho⟩
          have HT := Lib.hid (HD5.out.turn hgs hs ho)
          have HD6 := Lib.hid (HT.out.setI (y := ⟨2, p, y, b, yy, d⟩) hgs 2 (.int .i64 (y)) (by decide) rfl)
          clear hs ho hx e0 e1 e2 e3 e4 e5 ef
          obtain ⟨e0, e1, e2, e3, e4, e5⟩ := HT.out.ev.six
          have ef := HT.out.ev.2.1
          go_upto_region 27 with fail
          generalize wn.setCell ⟨g5, 2, none⟩ (.int .i64 (y)) = WHD6 at *
          clear HT HD5 e0 e1 e2 e3 e4 e5 ef
          obtain ⟨e0, e1, e2, e3, e4, e5⟩ := HD6.out.ev.six
          have ef := HD6.out.ev.2.1
          obtain ⟨r0, r1, r2, r3, r4, r5⟩ := HD6.out.res.six
          have rf := HD6.out.res.2.1
          have hne : g5 ≠ w.heap.size := by have := HD6.out.lt5; omega
          go_wp2
          refine bodyPost_ret (v := (⟨2, p, y, b, yy, d⟩ : Ev).v) (by simp [results, Try.results37, go_sem, r0, r1, r2, r3, r4, r5, World.cell?_setCell_other]) rfl ?_
          have hfin := HD6.out.fin hgs
          exact ⟨⟨2, p, y, b, yy, d⟩, rfl, HK4.out, (hfin _ _ _ _ _ _).1.more (by omega) hK, (hfin _ _ _ _ _ _).2⟩
        by_cases hk4 : k = 4
        · subst hk4
          go_wp2_with fail
          refine (pick_d (by omega) _ _ HD5.out.src).mono ?_
          rintro e wn ⟨y, rfl, hx, hs, ho⟩
          have HT := Lib.hid (HD5.out.turn hgs hs ho)
          have HD6 := Lib.hid (HT.out.setI (y := ⟨4, y, 0, b, yy, d⟩) hgs 1 (.int .i64 (y)) (by decide) rfl)
          clear hs ho hx e0 e1 e2 e3 e4 e5 ef
          obtain ⟨e0, e1, e2, e3, e4, e5⟩ := HT.out.ev.six
          have ef := HT.out.ev.2.1
          go_upto_region 21 with fail
          generalize wn.setCell ⟨g5, 1, none⟩ (.int .i64 (y)) = WHD6 at *
          clear HT HD5 e0 e1 e2 e3 e4 e5 ef
          obtain ⟨e0, e1, e2, e3, e4, e5⟩ := HD6.out.ev.six
          have ef := HD6.out.ev.2.1
          have HD7 := Lib.hid (HD6.out.setI (y := ⟨4, y, 1, b, yy, d⟩) hgs 2 (.int .i64 1) (by decide) rfl)
          go_upto_region 27 with fail
          generalize WHD6.setCell ⟨g5, 2, none⟩ (.int .i64 1) = W7 at *
          clear HD6 e0 e1 e2 e3 e4 e5 ef
          obtain ⟨e0, e1, e2, e3, e4, e5⟩ := HD7.out.ev.six
          have ef := HD7.out.ev.2.1
          obtain ⟨r0, r1, r2, r3, r4, r5⟩ := HD7.out.res.six
          have rf := HD7.out.res.2.1
          have hne : g5 ≠ w.heap.size := by have := HD7.out.lt5; omega
          go_wp2
          refine bodyPost_ret (v := (⟨4, y, 1, b, yy, d⟩ : Ev).v) (by simp [results, Try.results37, go_sem, r0, r1, r2, r3, r4, r5, World.cell?_setCell_other]) rfl ?_
          have hfin := HD7.out.fin hgs
          exact ⟨⟨4, y, 1, b, yy, d⟩, rfl, fun _ => rfl, (hfin _ _ _ _ _ _).1.more (by omega) hK, (hfin _ _ _ _ _ _).2⟩
        by_cases hk5 : k = 5
        · subst hk5
          have HD6 := Lib.hid (HD5.out.setI (y := ⟨5, p, 1, b, yy, d⟩) hgs 2 (.int .i64 1) (by decide) rfl)
          go_upto_region 24 with fail
          generalize W5.setCell ⟨g5, 2, none⟩ (.int .i64 1) = W6 at *
          clear HD5 e0 e1 e2 e3 e4 e5 ef
          obtain ⟨e0, e1, e2, e3, e4, e5⟩ := HD6.out.ev.six
          have ef := HD6.out.ev.2.1
          by_cases hb1 : b = 1
          · subst hb1
            go_wp2_with fail
            refine (pick_d (by omega) _ _ HD6.out.src).mono ?_
            rintro e wn ⟨y, rfl, hx, hs, ho⟩
            have HT := Lib.hid (HD6.out.turn hgs hs ho)
            have HD7 := Lib.hid (HT.out.setI (y := ⟨5, y, 1, 1, yy, d⟩) hgs 1 (.int .i64 (y)) (by decide) rfl)
            clear hs ho hx e0 e1 e2 e3 e4 e5 ef
            obtain ⟨e0, e1, e2, e3, e4, e5⟩ := HT.out.ev.six
            have ef := HT.out.ev.2.1
            go_upto_region 27 with fail
            generalize wn.setCell ⟨g5, 1, none⟩ (.int .i64 (y)) = WHD7 at *
            clear HT HD6 e0 e1 e2 e3 e4 e5 ef
            obtain ⟨e0, e1, e2, e3, e4, e5⟩ := HD7.out.ev.six
            have ef := HD7.out.ev.2.1
            obtain ⟨r0, r1, r2, r3, r4, r5⟩ := HD7.out.res.six
            have rf := HD7.out.res.2.1
            have hne : g5 ≠ w.heap.size := by have := HD7.out.lt5; omega
            go_wp2
            refine bodyPost_ret (v := (⟨5, y, 1, 1, yy, d⟩ : Ev).v) (by simp [results, Try.results37, go_sem, r0, r1, r2, r3, r4, r5, World.cell?_setCell_other]) rfl ?_
            have hfin := HD7.out.fin hgs
            exact ⟨⟨5, y, 1, 1, yy, d⟩, rfl, HK4.out, (hfin _ _ _ _ _ _).1.more (by omega) hK, (hfin _ _ _ _ _ _).2⟩
          · have hb1' : (b == 1) = false := by simpa using hb1
            go_wp2_with fail
            refine (pick_d (by omega) _ _ HD6.out.src).mono ?_
            rintro e wn ⟨y, rfl, hx, hs, ho⟩
            have hy0 : 0 ≤ y := hx.1
            have hyn : y ≤ n := by
              obtain ⟨h1, h2, h3⟩ := hx
              by_cases hc : 1 < n
              · have := h2 hc; omega
              · have := h3 (by omega); omega
            have hw5 : IntKind.i64.wrap (1 + y) = 1 + y := IntWalk.i64_in _ (by omega)
            have HT := Lib.hid (HD6.out.turn hgs hs ho)
            have HD7 := Lib.hid (HT.out.setI (y := ⟨5, 1 + y, 1, b, yy, d⟩) hgs 1 (.int .i64 (1 + y)) (by decide) rfl)
            clear hs ho hx e0 e1 e2 e3 e4 e5 ef
            obtain ⟨e0, e1, e2, e3, e4, e5⟩ := HT.out.ev.six
            have ef := HT.out.ev.2.1
            go_upto_region 27 with fail
            generalize wn.setCell ⟨g5, 1, none⟩ (.int .i64 (1 + y)) = WHD7 at *
            clear HT HD6 e0 e1 e2 e3 e4 e5 ef
            obtain ⟨e0, e1, e2, e3, e4, e5⟩ := HD7.out.ev.six
            have ef := HD7.out.ev.2.1
            obtain ⟨r0, r1, r2, r3, r4, r5⟩ := HD7.out.res.six
            have rf := HD7.out.res.2.1
            have hne : g5 ≠ w.heap.size := by have := HD7.out.lt5; omega
            go_wp2
            refine bodyPost_ret (v := (⟨5, 1 + y, 1, b, yy, d⟩ : Ev).v) (by simp [results, Try.results37, go_sem, r0, r1, r2, r3, r4, r5, World.cell?_setCell_other]) rfl ?_
            have hfin := HD7.out.fin hgs
            exact ⟨⟨5, 1 + y, 1, b, yy, d⟩, rfl, HK4.out, (hfin _ _ _ _ _ _).1.more (by omega) hK, (hfin _ _ _ _ _ _).2⟩
        · have hk2' : (k == 2) = false := by simpa using hk2
          have hk4' : (k == 4) = false := by simpa using hk4
          have hk5' : (k == 5) = false := by simpa using hk5
          go_upto_region 27 with fail
          obtain ⟨r0, r1, r2, r3, r4, r5⟩ := HD5.out.res.six
          have rf := HD5.out.res.2.1
          have hne : g5 ≠ w.heap.size := by have := HD5.out.lt5; omega
          go_wp2
          refine bodyPost_ret (v := (⟨k, p, 0, b, yy, d⟩ : Ev).v) (by simp [results, Try.results37, go_sem, r0, r1, r2, r3, r4, r5, World.cell?_setCell_other]) rfl ?_
          have hfin := HD5.out.fin hgs
          exact ⟨⟨k, p, 0, b, yy, d⟩, rfl, HK4.out, (hfin _ _ _ _ _ _).1.more (by omega) hK, (hfin _ _ _ _ _ _).2⟩

end Go.Proofs.Ytiampiakhkpcbaa
