/-
  Texts joined: CntI, Fev0, EvD, Onl, EvE, EbA.
-/
import Derived.Test.YtgkapjjolhnliaaGreatDoorStrands
import Derived.Test.YtgkapjjolhnliaaGreatDoorRdQ
import Derived.Test.YtgkapjjolhnliaaGreatDoorBraidE
import Derived.Test.YtgkapjjolhnliaaGreatDoorCross
import Derived.Test.YtgkapjjolhnliaaGreatDoorStitches
import Derived.Test.YtgkapjjolhnliaaGreatDoorBx
import Derived.Test.YtgkapjjolhnliaaGreatDoorEv
import Derived.Deep.DeepCutAuto
import Derived.Deep.CutRange
import Derived.Deep.CutBlock
import Derived.Test.YtgkapjjolhnliaaGreatDoorOwn
import Derived.Test.YtgkapjjolhnliaaGreatDoorMark
import Derived.Test.YtgkapjjolhnliaaGreatDoorL10e
import Derived.Test.YtgkapjjolhnliaaGreatDoorAppend
import Derived.Test.YtgkapjjolhnliaaGreatDoorBraidV
import Derived.Deep.RegionWith
/-
  ValidEvents and StrandsOf of the program.
-/
namespace Go.Proofs.YtgkapjjolhnliaaGreatDoor
set_option linter.unusedVariables false
set_option linter.unusedSimpArgs false
open Go.RowKit

def okEvs (l : List Ev) : Bool := (cntE 0 l).isSome && decide (l.length ≤ 2000)


def str0 (l : List Ev) : Int := if okEvs l = true then (cntE 0 l).getD 0 else 0
def str1 (l : List Ev) : Int := if okEvs l = true then 0 else 1
def strandsR (l : List Ev) (e : Ending) : Prop := e = .returned (.tuple #[.int .i64 (str0 l), .int .i64 (str1 l)])


end Go.Proofs.YtgkapjjolhnliaaGreatDoor

/-
  The law FnEventTexts: plain laws.
-/
namespace Go.Proofs.YtgkapjjolhnliaaGreatDoor
set_option linter.unusedVariables false
set_option linter.unusedSimpArgs false

theorem val_up {n : Int} {e : Ev} (h0 : 0 ≤ n) (h1 : n ≤ 12) (h : valE n e = true) : valE 12 e = true := by
  obtain ⟨k, p, c, b, y, d⟩ := e
  unfold valE at h ⊢
  simp only [Bool.and_eq_true, decide_eq_true_eq] at h ⊢
  obtain ⟨hp, h⟩ := h
  refine ⟨hp, ?_⟩
  by_cases k1 : k = 1
  · simp [k1] at h ⊢
    omega
  by_cases k2 : k = 2
  · simp [k2] at h ⊢
    exact ⟨h.1, by omega, h.2.2⟩
  by_cases k3 : k = 3
  · simp [k3] at h ⊢
    exact ⟨h.1, by omega, h.2.2⟩
  by_cases k4 : k = 4
  · simp [k4] at h ⊢
    omega
  by_cases k5 : k = 5
  · simp [k5] at h ⊢
    refine ⟨h.1, h.2.1, ?_⟩
    have h3 := h.2.2
    by_cases hb : b = 1
    · rw [if_pos hb] at h3 ⊢; omega
    · rw [if_neg hb] at h3 ⊢; omega
  simp [k1, k2, k3, k4, k5] at h
theorem cnt_val (l : List Ev) : ∀ n : Int, 0 ≤ n → n ≤ 12 → (cntE n l).isSome = true → ∀ x ∈ l, valE 12 x = true := by
  induction l with
  | nil => intro n _ _ _ x hx; cases hx
  | cons e es ih =>
    intro n h0 h1 h x hx
    rw [cntE] at h
    split at h
    · rename_i hc
      rcases List.mem_cons.1 hx with rfl | hx
      · exact val_up h0 h1 hc.1
      · exact ih _ (aft_bounds h0 h1 hc.1).1 hc.2 h x hx
    · cases h
theorem ok_val {l : List Ev} (h : okEvs l = true) : ∀ x ∈ l, valE 12 x = true := by
  unfold okEvs at h
  simp only [Bool.and_eq_true] at h
  exact cnt_val l 0 (by omega) (by omega) h.1
theorem rd_back {x : Ev} (hx : valE 12 x = true) {v : Value} (h : RdRes (evT x) v) : v = .tuple #[x.v, .bool true] := by
  rcases h with ⟨e, a1, a2, a3, rfl⟩ | ⟨a1, -⟩
  · rw [a3 x hx rfl]
  · exact absurd rfl (a1 x hx)
theorem tx_val {x : Ev} (hx : valE 12 x = true) : txE x = evT x := by unfold txE; rw [if_pos hx]
theorem st_kind {l : List Ev} {x : Ev} (h : x ∈ stOf l) : (x.k == 1) = false := by
  have := (List.mem_filter.1 h).2
  unfold isSt at this
  simpa using this
theorem letE_cr {n k : Int} (hn : n ≤ 12) (h0 : k ≠ 0) (h1 : 1 - n ≤ k) (h2 : k ≤ n - 1) : crE n (letE k) = true := by
  unfold crE valE letE
  by_cases h : k < 0
  · simp [h]; omega
  · simp [h]; omega
theorem letE_back {k : Int} (h0 : k ≠ 0) : letE1 (letE k) = k := by
  unfold letE1 letE
  by_cases h : k < 0
  · simp [h]
  · simp [h]
theorem cross_back {b : Br} (h : okBr b = true) : crC b.n (braidL b) = 0 ∧ crR b.n (braidL b) = b := by
  have hh := h
  unfold okBr at hh
  simp only [Bool.and_eq_true, decide_eq_true_eq, Bool.not_eq_true'] at hh
  obtain ⟨⟨n0, n1⟩, hl, hw⟩ := hh
  rw [List.any_eq_false] at hw
  have hb : ∀ x ∈ b.w, x ≠ 0 ∧ 1 - b.n ≤ x ∧ x ≤ b.n - 1 := by
    intro x hx
    have := hw x hx
    unfold badL at this
    simp at this
    omega
  have e1 : braidL b = letsE b.w := by unfold braidL; rw [if_pos h]
  have e2 : inS b.n = true := by unfold inS; simp; omega
  have e3 : crossB b.n (letsE b.w) = true := by
    unfold crossB letsE
    rw [List.all_map, List.all_eq_true]
    intro x hx
    exact letE_cr n1 (hb x hx).1 (hb x hx).2.1 (hb x hx).2.2
  have e4 : letW (letsE b.w) = b.w := by
    unfold letW letsE
    rw [List.map_map]
    conv => rhs; rw [← List.map_id b.w]
    exact List.map_congr_left (fun x hx => letE_back (hb x hx).1)
  have e5 : crC b.n (braidL b) = 0 := by rw [e1]; exact crC_ok e2 e3 (by unfold letsE; rw [List.length_map]; omega)
  refine ⟨e5, ?_⟩
  rw [crR_yes e5, e1, e4]

end Go.Proofs.YtgkapjjolhnliaaGreatDoor

/-
  A draw of an event: l10DrawEvent.
-/
namespace Go.Proofs.YtgkapjjolhnliaaGreatDoor
set_option linter.unusedVariables false
set_option linter.unusedSimpArgs false
open Go.RowKit

abbrev zEv : List Value := [.int .i64 0, .int .i64 0, .int .i64 0, .int .i64 0, .int .i64 0, .int .i64 0]
/-- Half way: the source, the boxes of the result and of the event. -/
structure DEv (w0 : World) (gs : Nat) (K : Int) (g5 : Nat) (x : Ev) (wx : World) : Prop where
  src : Src wx gs K
  only : Only gs (gs + 1) w0 wx
  res : Bx wx w0.heap.size zEv
  ev : Bx wx g5 x.cells
  lt5 : w0.heap.size < g5
theorem DEv.turn {w0 wx wy : World} {gs g5 : Nat} {K K' : Int} {x : Ev} (h : DEv w0 gs K g5 x wx) (hg : gs < w0.heap.size) (hs : Src wy gs K') (ho : Only gs (gs + 1) wx wy) : DEv w0 gs K' g5 x wy :=
  ⟨hs, h.only.trans ho, h.res.only ho (by omega), h.ev.only ho (by have := h.lt5; omega), h.lt5⟩
theorem DEv.setI {w0 wx : World} {gs g5 : Nat} {K : Int} {x y : Ev} (h : DEv w0 gs K g5 x wx) (hg : gs < w0.heap.size) (i : Nat) (u : Value) (hi : i < 6) (hy : x.cells.set i u = y.cells) : DEv w0 gs K g5 y (wx.setCell ⟨g5, i, none⟩ u) :=
  ⟨h.src.setNew (by have := h.lt5; omega) _ _, h.only.setNew (by have := h.lt5; omega) _ _, h.res.far (by have := h.lt5; omega) _ _, hy ▸ h.ev.set (i := i) (by simpa using hi) u, h.lt5⟩
theorem DEv.drewN {w0 wx : World} {gs g5 : Nat} {K : Int} {x : Ev} (h : DEv w0 gs K g5 x wx) (n : Nat) : DEv w0 gs K g5 x (wx.drewN n) :=
  ⟨h.src, ⟨h.only.os, h.only.tape, h.only.output, h.only.size, h.only.block⟩, h.res, h.ev, h.lt5⟩
theorem DEv.fin {w0 wx : World} {gs g5 : Nat} {K : Int} {x : Ev} (h : DEv w0 gs K g5 x wx) (hg : gs < w0.heap.size) (u0 u1 u2 u3 u4 u5 : Value) :
    Src ((((((wx.setCell ⟨w0.heap.size, 0, none⟩ u0).setCell ⟨w0.heap.size, 1, none⟩ u1).setCell ⟨w0.heap.size, 2, none⟩ u2).setCell ⟨w0.heap.size, 3, none⟩ u3).setCell ⟨w0.heap.size, 4, none⟩ u4).setCell ⟨w0.heap.size, 5, none⟩ u5) gs K ∧
    Only gs (gs + 1) w0 ((((((wx.setCell ⟨w0.heap.size, 0, none⟩ u0).setCell ⟨w0.heap.size, 1, none⟩ u1).setCell ⟨w0.heap.size, 2, none⟩ u2).setCell ⟨w0.heap.size, 3, none⟩ u3).setCell ⟨w0.heap.size, 4, none⟩ u4).setCell ⟨w0.heap.size, 5, none⟩ u5) :=
  ⟨(((((h.src.setNew hg 0 u0).setNew hg 1 u1).setNew hg 2 u2).setNew hg 3 u3).setNew hg 4 u4).setNew hg 5 u5, (((((h.only.setNew (Nat.le_refl _) 0 u0).setNew (Nat.le_refl _) 1 u1).setNew (Nat.le_refl _) 2 u2).setNew (Nat.le_refl _) 3 u3).setNew (Nat.le_refl _) 4 u4).setNew (Nat.le_refl _) 5 u5⟩
/-- An event that was drawn. -/
def DrawnEv (w : World) (g : Nat) (K n : Int) (e : Ending) (w' : World) : Prop := ∃ x : Ev, e = .returned x.v ∧ (7 < n → x.k = 4) ∧ Src w' g K ∧ Only g (g + 1) w w'
theorem l00Min_d (a b : Int) (w : World) : Calls Tryz.prog 50 #[.int .i64 a, .int .i64 b] w fun e w' => e = .returned (.int .i64 (min a b)) ∧ w = w' := by
  by_cases h : a < b
  all_goals
    go_enter Tryz.func50, Tryz.ntmps50
    go_wp2
    go_ret
    exact ⟨ret_int (by omega), rfl⟩
theorem pick_d {gs : Nat} {K : Int} (hK : K + 2 ≤ 1000000000) (n : Int) (X : World) (hX : Src X gs K) : Calls Tryz.prog 33 #[.pointer (some ⟨gs, 0, none⟩), .int .i64 n] X (Drawn X gs (K + 2) (PickOk n)) := pick_any X gs n K hX hK
set_option maxHeartbeats 8000000 in
set_option maxRecDepth 100000 in
theorem l10DrawEvent_any {w : World} {gs : Nat} {K n : Int} (hS : Src w gs K) (h0 : 0 ≤ n) (h1 : n ≤ 8) (hK : K + 20 ≤ 1000000000) :
    Calls Tryz.prog 34 #[.pointer (some ⟨gs, 0, none⟩), .int .i64 n] w (DrawnEv w gs (K + 20) n) := by
  have hgs := hS.lt
  have HS := Lib.hid hS
  have HR := Lib.hid (Bx.new w zEv 26)
  clear hS
  go_enter Tryz.func34, Tryz.ntmps34
  go_wp2_with fail
  refine (pick_any _ gs 5 K (HS.out.alloc _) (by omega)).mono ?_
  rintro e w1 ⟨x0, rfl, hx, hs1, ho1⟩
  have hx0 : 0 ≤ x0 := hx.1
  have hx5 : x0 < 5 := hx.2.1 (by omega)
  have hz1 : w.heap.size < w1.heap.size := by have := ho1.size; rw [World.size_alloc] at this; exact this
  have HD := Lib.hid (show DEv w gs (K + 2) w1.heap.size ⟨1 + x0, 0, 0, 0, 0, 0⟩ (w1.alloc (.cells #[.int .i64 (1 + x0), .int .i64 0, .int .i64 0, .int .i64 0, .int .i64 0, .int .i64 0] 26)) from
    ⟨hs1.alloc _, (((Only.refl gs (gs + 1) w).alloc (.cells zEv.toArray 26)).trans ho1).alloc _, (HR.out.only ho1 (by omega)).alloc _, Bx.new w1 [.int .i64 (1 + x0), .int .i64 0, .int .i64 0, .int .i64 0, .int .i64 0, .int .i64 0] 26, hz1⟩)
  have hw1 : IntKind.i64.wrap (1 + x0) = 1 + x0 := IntWalk.i64_in _ (by omega)
  obtain ⟨g5, hg5⟩ : ∃ g5, g5 = w1.heap.size := ⟨_, rfl⟩
  clear hx hs1 ho1 HS HR
  go_upto_block 0 with fail
  rw [← hg5] at hz1 HD ⊢
  generalize w1.alloc (.cells #[.int .i64 (1 + x0), .int .i64 0, .int .i64 0, .int .i64 0, .int .i64 0, .int .i64 0] 26) = W at *
  clear hg5 hw1
  go_cut [] (fun wx => ∃ (k : Int) (wy : World), wy = wx ∧ (7 < n → k = 4) ∧ Hid (DEv w gs (K + 2) g5 ⟨k, 0, 0, 0, 0, 0⟩ wx))
  case first =>
    have hc : x0 = 0 ∨ x0 = 1 ∨ x0 = 2 ∨ x0 = 3 ∨ x0 = 4 := by omega
    have d3 := Lib.hid (HD.out.setI (y := ⟨3, 0, 0, 0, 0, 0⟩) hgs 0 (.int .i64 3) (by decide) rfl)
    have d4 := Lib.hid (HD.out.setI (y := ⟨4, 0, 0, 0, 0, 0⟩) hgs 0 (.int .i64 4) (by decide) rfl)
    obtain ⟨e0, e1, e2, e3, e4, e5⟩ := HD.out.ev.six
    have ef := HD.out.ev.2.1
    by_cases h7 : 7 < n
    · have h2 : ¬ n < 2 := by omega
      have h1' : ¬ n < 1 := by omega
      go_wp2_with fail
      go_meet
      exact ⟨_, _, rfl, fun _ => rfl, d4.out⟩
    · have HN := Lib.hid (fun (k : Int) (h : 7 < n) => (absurd h h7 : k = 4))
      by_cases h1' : n < 1
      · have h2 : n < 2 := by omega
        rcases hc with rfl | rfl | rfl | rfl | rfl
        all_goals go_wp2_with fail
        all_goals go_meet
        all_goals first
          | exact ⟨_, _, rfl, HN.out _, HD.out⟩
          | exact ⟨_, _, rfl, HN.out _, d3.out⟩
      · by_cases h2 : n < 2
        · rcases hc with rfl | rfl | rfl | rfl | rfl
          all_goals go_wp2_with fail
          all_goals go_meet
          all_goals first
            | exact ⟨_, _, rfl, HN.out _, HD.out⟩
            | exact ⟨_, _, rfl, HN.out _, d3.out⟩
        · go_wp2_with fail
          go_meet
          exact ⟨_, _, rfl, HN.out _, HD.out⟩
  case rest =>
    obtain ⟨k, W3, rfl, hk4, HD3⟩ := hcut
    clear HD
    obtain ⟨e0, e1, e2, e3, e4, e5⟩ := HD3.out.ev.six
    have ef := HD3.out.ev.2.1
    by_cases hk1 : k = 1
    · subst hk1
      have hw2 : IntKind.i64.wrap (n - 1) = n - 1 := IntWalk.i64_in _ (by omega)
      have h47 : ¬ 7 < n := fun h => by have := hk4 h; omega
      go_wp2_with fail
      refine (pick_d (by omega) _ _ HD3.out.src).mono ?_
      rintro e wn ⟨y, rfl, hx, hs, ho⟩
      have HT := Lib.hid (HD3.out.turn hgs hs ho)
      have HD4 := Lib.hid (HT.out.setI (y := ⟨1, y, 0, 0, 0, 0⟩) hgs 1 (.int .i64 (y)) (by decide) rfl)
      clear hs ho hx e0 e1 e2 e3 e4 e5 ef
      obtain ⟨e0, e1, e2, e3, e4, e5⟩ := HT.out.ev.six
      have ef := HT.out.ev.2.1
      go_upto_region 9 with fail
      generalize wn.setCell ⟨g5, 1, none⟩ (.int .i64 (y)) = WHD4 at *
      clear HT HD3 e0 e1 e2 e3 e4 e5 ef
      obtain ⟨e0, e1, e2, e3, e4, e5⟩ := HD4.out.ev.six
      have ef := HD4.out.ev.2.1
      obtain ⟨p, hp⟩ : ∃ p, p = y := ⟨_, rfl⟩
      rw [← hp] at HD4 e1
      clear hp
      go_wp2_with fail
      refine (pick_d (by omega) _ _ HD4.out.src).mono ?_
      rintro e wn ⟨y, rfl, hx, hs, ho⟩
      have hy : y = 0 ∨ y = 1 := by obtain ⟨h1, h2, -⟩ := hx; have := h2 (by omega); omega
      have hw3 : IntKind.i64.wrap (2 * y) = 2 * y := IntWalk.i64_in _ (by omega)
      have hw4 : IntKind.i64.wrap (1 - 2 * y) = 1 - 2 * y := IntWalk.i64_in _ (by omega)
      have HT := Lib.hid (HD4.out.turn hgs hs ho)
      have HD5 := Lib.hid (HT.out.setI (y := ⟨1, p, 1 - 2 * y, 0, 0, 0⟩) hgs 2 (.int .i64 (1 - 2 * y)) (by decide) rfl)
      clear hs ho hx e0 e1 e2 e3 e4 e5 ef
      obtain ⟨e0, e1, e2, e3, e4, e5⟩ := HT.out.ev.six
      have ef := HT.out.ev.2.1
      go_upto_region 10 with fail
      generalize wn.setCell ⟨g5, 2, none⟩ (.int .i64 (1 - 2 * y)) = WHD5 at *
      clear HT HD4 e0 e1 e2 e3 e4 e5 ef
      obtain ⟨e0, e1, e2, e3, e4, e5⟩ := HD5.out.ev.six
      have ef := HD5.out.ev.2.1
      obtain ⟨r0, r1, r2, r3, r4, r5⟩ := HD5.out.res.six
      have rf := HD5.out.res.2.1
      have hne : g5 ≠ w.heap.size := by have := HD5.out.lt5; omega
      go_wp2
      refine bodyPost_ret (v := (⟨1, p, 1 - 2 * y, 0, 0, 0⟩ : Ev).v) (by simp [results, Tryz.results34, go_sem, r0, r1, r2, r3, r4, r5, World.cell?_setCell_other]) rfl ?_
      have hfin := HD5.out.fin hgs
      exact ⟨⟨1, p, 1 - 2 * y, 0, 0, 0⟩, rfl, fun h => by omega, (hfin _ _ _ _ _ _).1.more (by omega) hK, (hfin _ _ _ _ _ _).2⟩
    · have hk1' : (k == 1) = false := by simpa using hk1
      have hw2 : IntKind.i64.wrap (n + 1) = n + 1 := IntWalk.i64_in _ (by omega)
      have HK4 := Lib.hid hk4
      clear hk4
      go_wp2_with fail
      refine (pick_d (by omega) _ _ HD3.out.src).mono ?_
      rintro e wn ⟨y, rfl, hx, hs, ho⟩
      have hy0 : 0 ≤ y := hx.1
      have hyn : y ≤ n := by
        obtain ⟨h1, h2, h3⟩ := hx
        by_cases hc : 1 < n + 1
        · have := h2 hc; omega
        · have := h3 (by omega); omega
      have HT := Lib.hid (HD3.out.turn hgs hs ho)
      have HD4 := Lib.hid (HT.out.setI (y := ⟨k, y, 0, 0, 0, 0⟩) hgs 1 (.int .i64 (y)) (by decide) rfl)
      clear hs ho hx e0 e1 e2 e3 e4 e5 ef
      obtain ⟨e0, e1, e2, e3, e4, e5⟩ := HT.out.ev.six
      have ef := HT.out.ev.2.1
      go_upto_region 12 with fail
      generalize wn.setCell ⟨g5, 1, none⟩ (.int .i64 (y)) = WHD4 at *
      clear HT HD3 e0 e1 e2 e3 e4 e5 ef
      obtain ⟨e0, e1, e2, e3, e4, e5⟩ := HD4.out.ev.six
      have ef := HD4.out.ev.2.1
      obtain ⟨p, hp⟩ : ∃ p, p = y := ⟨_, rfl⟩
      rw [← hp] at HD4 e1 hy0 hyn
      clear hp
      go_upto_if 56 with fail
      go_cut [] (fun wx => ∃ (b y d : Int) (wy : World), wy = wx ∧ Hid (DEv w gs (K + 10) g5 ⟨k, p, 0, b, y, d⟩ wx))
      case first =>
        by_cases hk : k = 4
        · have hk' : (k != 4) = false := by simpa using hk
          go_wp2_with fail
          go_meet
          exact ⟨0, 0, 0, _, rfl, ⟨HD4.out.src.more (by omega) (by omega), HD4.out.only, HD4.out.res, HD4.out.ev, HD4.out.lt5⟩⟩
        · have hk' : (k != 4) = true := by simpa using hk
          go_wp2_with fail
          refine (pick_d (by omega) _ _ HD4.out.src).mono ?_
          rintro e wn ⟨y, rfl, hx, hs, ho⟩
          have hy : y = 0 ∨ y = 1 := by obtain ⟨h1, h2, -⟩ := hx; have := h2 (by omega); omega
          have hw3 : IntKind.i64.wrap (1 + y) = 1 + y := IntWalk.i64_in _ (by omega)
          have HT := Lib.hid (HD4.out.turn hgs hs ho)
          have HD5 := Lib.hid (HT.out.setI (y := ⟨k, p, 0, 1 + y, 0, 0⟩) hgs 3 (.int .i64 (1 + y)) (by decide) rfl)
          clear hs ho hx e0 e1 e2 e3 e4 e5 ef
          obtain ⟨e0, e1, e2, e3, e4, e5⟩ := HT.out.ev.six
          have ef := HT.out.ev.2.1
          go_upto_region 14 with fail
          generalize wn.setCell ⟨g5, 3, none⟩ (.int .i64 (1 + y)) = WHD5 at *
          clear HT HD4 e0 e1 e2 e3 e4 e5 ef
          obtain ⟨e0, e1, e2, e3, e4, e5⟩ := HD5.out.ev.six
          have ef := HD5.out.ev.2.1
          obtain ⟨b, hb⟩ : ∃ b, b = 1 + y := ⟨_, rfl⟩
          rw [← hb] at HD5 e3
          clear hb hw3 hy
          go_wp2_with fail
          refine (pick_d (by omega) _ _ HD5.out.src).mono ?_
          rintro e wn ⟨y, rfl, hx, hs, ho⟩
          have hy : y = 0 ∨ y = 1 := by obtain ⟨h1, h2, -⟩ := hx; have := h2 (by omega); omega
          have hw3 : IntKind.i64.wrap (1 + y) = 1 + y := IntWalk.i64_in _ (by omega)
          have HT := Lib.hid (HD5.out.turn hgs hs ho)
          have HD6 := Lib.hid (HT.out.setI (y := ⟨k, p, 0, b, 1 + y, 0⟩) hgs 4 (.int .i64 (1 + y)) (by decide) rfl)
          clear hs ho hx e0 e1 e2 e3 e4 e5 ef
          obtain ⟨e0, e1, e2, e3, e4, e5⟩ := HT.out.ev.six
          have ef := HT.out.ev.2.1
          go_upto_region 15 with fail
          generalize wn.setCell ⟨g5, 4, none⟩ (.int .i64 (1 + y)) = WHD6 at *
          clear HT HD5 e0 e1 e2 e3 e4 e5 ef
          obtain ⟨e0, e1, e2, e3, e4, e5⟩ := HD6.out.ev.six
          have ef := HD6.out.ev.2.1
          obtain ⟨b2, hb⟩ : ∃ b2, b2 = 1 + y := ⟨_, rfl⟩
          rw [← hb] at HD6 e4
          clear hb hw3 hy
          go_wp2_with fail
          refine (pick_d (by omega) _ _ HD6.out.src).mono ?_
          rintro e wn ⟨y, rfl, hx, hs, ho⟩
          have hy : y = 0 ∨ y = 1 := by obtain ⟨h1, h2, -⟩ := hx; have := h2 (by omega); omega
          have hw3 : IntKind.i64.wrap (2 * y) = 2 * y := IntWalk.i64_in _ (by omega)
          have hw4 : IntKind.i64.wrap (1 - 2 * y) = 1 - 2 * y := IntWalk.i64_in _ (by omega)
          have HT := Lib.hid (HD6.out.turn hgs hs ho)
          have HD7 := Lib.hid (HT.out.setI (y := ⟨k, p, 0, b, b2, 1 - 2 * y⟩) hgs 5 (.int .i64 (1 - 2 * y)) (by decide) rfl)
          clear hs ho hx e0 e1 e2 e3 e4 e5 ef
          obtain ⟨e0, e1, e2, e3, e4, e5⟩ := HT.out.ev.six
          have ef := HT.out.ev.2.1
          go_wp2_with fail
          go_meet
          exact ⟨b, b2, 1 - 2 * y, _, rfl, ⟨HD7.out.src.more (by omega) (by omega), HD7.out.only, HD7.out.res, HD7.out.ev, HD7.out.lt5⟩⟩
      case rest =>
        obtain ⟨b, yy, d, W5, rfl, HD5⟩ := hcut
        clear HD4 e0 e1 e2 e3 e4 e5 ef
        obtain ⟨e0, e1, e2, e3, e4, e5⟩ := HD5.out.ev.six
        have ef := HD5.out.ev.2.1
        by_cases hk2 : k = 2
        · subst hk2
          have hw3 : IntKind.i64.wrap (n - p) = n - p := IntWalk.i64_in _ (by omega)
          go_wp2_with fail
          refine (l00Min_d _ _ _).mono ?_
          rintro e w' ⟨rfl, rfl⟩
          have hw5 : IntKind.i64.wrap (min (n - p) 2 + 1) = min (n - p) 2 + 1 := IntWalk.i64_in _ (by omega)
          go_wp2_with fail
          refine (pick_d (by omega) _ _ HD5.out.src).mono ?_
          rintro e wn ⟨y, rfl, hx, hs, ho⟩
          have HT := Lib.hid (HD5.out.turn hgs hs ho)
          have HD6 := Lib.hid (HT.out.setI (y := ⟨2, p, y, b, yy, d⟩) hgs 2 (.int .i64 (y)) (by decide) rfl)
          clear hs ho hx e0 e1 e2 e3 e4 e5 ef
          obtain ⟨e0, e1, e2, e3, e4, e5⟩ := HT.out.ev.six
          have ef := HT.out.ev.2.1
          go_upto_region 27 with fail
          generalize wn.setCell ⟨g5, 2, none⟩ (.int .i64 (y)) = WHD6 at *
          clear HT HD5 e0 e1 e2 e3 e4 e5 ef
          obtain ⟨e0, e1, e2, e3, e4, e5⟩ := HD6.out.ev.six
          have ef := HD6.out.ev.2.1
          obtain ⟨r0, r1, r2, r3, r4, r5⟩ := HD6.out.res.six
          have rf := HD6.out.res.2.1
          have hne : g5 ≠ w.heap.size := by have := HD6.out.lt5; omega
          go_wp2
          refine bodyPost_ret (v := (⟨2, p, y, b, yy, d⟩ : Ev).v) (by simp [results, Tryz.results34, go_sem, r0, r1, r2, r3, r4, r5, World.cell?_setCell_other]) rfl ?_
          have hfin := HD6.out.fin hgs
          exact ⟨⟨2, p, y, b, yy, d⟩, rfl, HK4.out, (hfin _ _ _ _ _ _).1.more (by omega) hK, (hfin _ _ _ _ _ _).2⟩
        by_cases hk4 : k = 4
        · subst hk4
          go_wp2_with fail
          refine (pick_d (by omega) _ _ HD5.out.src).mono ?_
          rintro e wn ⟨y, rfl, hx, hs, ho⟩
          have HT := Lib.hid (HD5.out.turn hgs hs ho)
          have HD6 := Lib.hid (HT.out.setI (y := ⟨4, y, 0, b, yy, d⟩) hgs 1 (.int .i64 (y)) (by decide) rfl)
          clear hs ho hx e0 e1 e2 e3 e4 e5 ef
          obtain ⟨e0, e1, e2, e3, e4, e5⟩ := HT.out.ev.six
          have ef := HT.out.ev.2.1
          go_upto_region 21 with fail
          generalize wn.setCell ⟨g5, 1, none⟩ (.int .i64 (y)) = WHD6 at *
          clear HT HD5 e0 e1 e2 e3 e4 e5 ef
          obtain ⟨e0, e1, e2, e3, e4, e5⟩ := HD6.out.ev.six
          have ef := HD6.out.ev.2.1
          have HD7 := Lib.hid (HD6.out.setI (y := ⟨4, y, 1, b, yy, d⟩) hgs 2 (.int .i64 1) (by decide) rfl)
          go_upto_region 27 with fail
          generalize WHD6.setCell ⟨g5, 2, none⟩ (.int .i64 1) = W7 at *
          clear HD6 e0 e1 e2 e3 e4 e5 ef
          obtain ⟨e0, e1, e2, e3, e4, e5⟩ := HD7.out.ev.six
          have ef := HD7.out.ev.2.1
          obtain ⟨r0, r1, r2, r3, r4, r5⟩ := HD7.out.res.six
          have rf := HD7.out.res.2.1
          have hne : g5 ≠ w.heap.size := by have := HD7.out.lt5; omega
          go_wp2
          refine bodyPost_ret (v := (⟨4, y, 1, b, yy, d⟩ : Ev).v) (by simp [results, Tryz.results34, go_sem, r0, r1, r2, r3, r4, r5, World.cell?_setCell_other]) rfl ?_
          have hfin := HD7.out.fin hgs
          exact ⟨⟨4, y, 1, b, yy, d⟩, rfl, fun _ => rfl, (hfin _ _ _ _ _ _).1.more (by omega) hK, (hfin _ _ _ _ _ _).2⟩
        by_cases hk5 : k = 5
        · subst hk5
          have HD6 := Lib.hid (HD5.out.setI (y := ⟨5, p, 1, b, yy, d⟩) hgs 2 (.int .i64 1) (by decide) rfl)
          go_upto_region 24 with fail
          generalize W5.setCell ⟨g5, 2, none⟩ (.int .i64 1) = W6 at *
          clear HD5 e0 e1 e2 e3 e4 e5 ef
          obtain ⟨e0, e1, e2, e3, e4, e5⟩ := HD6.out.ev.six
          have ef := HD6.out.ev.2.1
          by_cases hb1 : b = 1
          · subst hb1
            go_wp2_with fail
            refine (pick_d (by omega) _ _ HD6.out.src).mono ?_
            rintro e wn ⟨y, rfl, hx, hs, ho⟩
            have HT := Lib.hid (HD6.out.turn hgs hs ho)
            have HD7 := Lib.hid (HT.out.setI (y := ⟨5, y, 1, 1, yy, d⟩) hgs 1 (.int .i64 (y)) (by decide) rfl)
            clear hs ho hx e0 e1 e2 e3 e4 e5 ef
            obtain ⟨e0, e1, e2, e3, e4, e5⟩ := HT.out.ev.six
            have ef := HT.out.ev.2.1
            go_upto_region 27 with fail
            generalize wn.setCell ⟨g5, 1, none⟩ (.int .i64 (y)) = WHD7 at *
            clear HT HD6 e0 e1 e2 e3 e4 e5 ef
            obtain ⟨e0, e1, e2, e3, e4, e5⟩ := HD7.out.ev.six
            have ef := HD7.out.ev.2.1
            obtain ⟨r0, r1, r2, r3, r4, r5⟩ := HD7.out.res.six
            have rf := HD7.out.res.2.1
            have hne : g5 ≠ w.heap.size := by have := HD7.out.lt5; omega
            go_wp2
            refine bodyPost_ret (v := (⟨5, y, 1, 1, yy, d⟩ : Ev).v) (by simp [results, Tryz.results34, go_sem, r0, r1, r2, r3, r4, r5, World.cell?_setCell_other]) rfl ?_
            have hfin := HD7.out.fin hgs
            exact ⟨⟨5, y, 1, 1, yy, d⟩, rfl, HK4.out, (hfin _ _ _ _ _ _).1.more (by omega) hK, (hfin _ _ _ _ _ _).2⟩
          · have hb1' : (b == 1) = false := by simpa using hb1
            go_wp2_with fail
            refine (pick_d (by omega) _ _ HD6.out.src).mono ?_
            rintro e wn ⟨y, rfl, hx, hs, ho⟩
            have hy0 : 0 ≤ y := hx.1
            have hyn : y ≤ n := by
              obtain ⟨h1, h2, h3⟩ := hx
              by_cases hc : 1 < n
              · have := h2 hc; omega
              · have := h3 (by omega); omega
            have hw5 : IntKind.i64.wrap (1 + y) = 1 + y := IntWalk.i64_in _ (by omega)
            have HT := Lib.hid (HD6.out.turn hgs hs ho)
            have HD7 := Lib.hid (HT.out.setI (y := ⟨5, 1 + y, 1, b, yy, d⟩) hgs 1 (.int .i64 (1 + y)) (by decide) rfl)
            clear hs ho hx e0 e1 e2 e3 e4 e5 ef
            obtain ⟨e0, e1, e2, e3, e4, e5⟩ := HT.out.ev.six
            have ef := HT.out.ev.2.1
            go_upto_region 27 with fail
            generalize wn.setCell ⟨g5, 1, none⟩ (.int .i64 (1 + y)) = WHD7 at *
            clear HT HD6 e0 e1 e2 e3 e4 e5 ef
            obtain ⟨e0, e1, e2, e3, e4, e5⟩ := HD7.out.ev.six
            have ef := HD7.out.ev.2.1
            obtain ⟨r0, r1, r2, r3, r4, r5⟩ := HD7.out.res.six
            have rf := HD7.out.res.2.1
            have hne : g5 ≠ w.heap.size := by have := HD7.out.lt5; omega
            go_wp2
            refine bodyPost_ret (v := (⟨5, 1 + y, 1, b, yy, d⟩ : Ev).v) (by simp [results, Tryz.results34, go_sem, r0, r1, r2, r3, r4, r5, World.cell?_setCell_other]) rfl ?_
            have hfin := HD7.out.fin hgs
            exact ⟨⟨5, 1 + y, 1, b, yy, d⟩, rfl, HK4.out, (hfin _ _ _ _ _ _).1.more (by omega) hK, (hfin _ _ _ _ _ _).2⟩
        · have hk2' : (k == 2) = false := by simpa using hk2
          have hk4' : (k == 4) = false := by simpa using hk4
          have hk5' : (k == 5) = false := by simpa using hk5
          go_upto_region 27 with fail
          obtain ⟨r0, r1, r2, r3, r4, r5⟩ := HD5.out.res.six
          have rf := HD5.out.res.2.1
          have hne : g5 ≠ w.heap.size := by have := HD5.out.lt5; omega
          go_wp2
          refine bodyPost_ret (v := (⟨k, p, 0, b, yy, d⟩ : Ev).v) (by simp [results, Tryz.results34, go_sem, r0, r1, r2, r3, r4, r5, World.cell?_setCell_other]) rfl ?_
          have hfin := HD5.out.fin hgs
          exact ⟨⟨k, p, 0, b, yy, d⟩, rfl, HK4.out, (hfin _ _ _ _ _ _).1.more (by omega) hK, (hfin _ _ _ _ _ _).2⟩

end Go.Proofs.YtgkapjjolhnliaaGreatDoor

/-
  A row of the call's own that stands while only the source turns.
-/
namespace Go.Proofs.YtgkapjjolhnliaaGreatDoor
set_option linter.unusedVariables false
set_option linter.unusedSimpArgs false
open Go.RowKit

theorem own_only {w w' : World} {B e size n gs : Nat} {v : Value} {xs : List Value} (h : w.ownsRow B e size v n xs) (ho : Only gs (gs + 1) w w') (hg : gs < B) : w'.ownsRow B e size v n xs := by
  refine ⟨h.1, ?_⟩
  rcases h.2 with h2 | ⟨g, cap, cur, hv, hg', hh, h3⟩
  · exact .inl h2
  · exact .inr ⟨g, cap, cur, hv, hg', (ho.block g (Array.getElem?_eq_some_iff.1 hh).1 (by omega)).trans hh, h3⟩

end Go.Proofs.YtgkapjjolhnliaaGreatDoor

/-
  A draw of events: l10Draw, E8Events.
-/
namespace Go.Proofs.YtgkapjjolhnliaaGreatDoor
set_option linter.unusedVariables false
set_option linter.unusedSimpArgs false
open Go.RowKit

theorem cnt_add {acc : List Ev} {n0 n : Int} {x : Ev} (h : cntE n0 acc = some n) (hv : valE n x = true) (ha : aftE n x ≤ 12) : cntE n0 (acc ++ [x]) = some (aftE n x) := by
  induction acc generalizing n0 with
  | nil =>
    rw [cntE] at h
    injection h with h
    subst h
    show cntE n0 (x :: []) = _
    rw [cntE, if_pos ⟨hv, ha⟩, cntE]
  | cons y acc ih =>
    show cntE n0 (y :: (acc ++ [x])) = _
    rw [cntE] at h ⊢
    split at h
    · rename_i hy
      rw [if_pos hy]
      exact ih h
    · cases h
theorem aft8 {n : Int} {x : Ev} (h0 : 0 ≤ n) (h8 : n ≤ 8) (hk : 7 < n → x.k = 4) (hv : valE n x = true) : 0 ≤ aftE n x ∧ aftE n x ≤ 8 := by
  refine ⟨(aft_bounds h0 (by omega) hv).1, ?_⟩
  by_cases h7 : 7 < n
  · have h4 := hk h7
    unfold valE at hv
    unfold aftE
    simp [h4] at hv ⊢
    omega
  · unfold aftE
    split
    · rename_i h2
      unfold valE at hv
      simp [h2] at hv
      omega
    · split
      · omega
      · split
        · omega
        · split
          · rename_i h4
            unfold valE at hv
            simp [h4] at hv
            omega
          · omega
/-- Events that were drawn: valid ones. -/
def DrawnEs (w : World) (g : Nat) (K most : Int) (e : Ending) (w' : World) : Prop := ∃ (v : Value) (l : List Ev), e = .returned v ∧ w'.ownsRow w.heap.size 26 6 v l.length (vE l) ∧ (cntE 0 l).isSome = true ∧ (l.length : Int) ≤ most ∧ Src w' g K ∧ Only g (g + 1) w w'
theorem vE_snoc2 (l : List Ev) (x : Ev) : vE (l ++ [x]) = vE l ++ x.cells := by simp [vS]
set_option maxHeartbeats 8000000 in
set_option maxRecDepth 100000 in
theorem l10Draw_any {w : World} {gs : Nat} {K most : Int} (hS : Src w gs K) (hm0 : 0 ≤ most) (hm1 : most ≤ 100) (hK : K + 4 + 20 * most ≤ 1000000000) :
    Calls Tryz.prog 13 #[.pointer (some ⟨gs, 0, none⟩), .int .i64 most] w (DrawnEs w gs (K + 4 + 20 * most) most) := by
  obtain ⟨i0, hi, hz0, hz1, hz2⟩ := info_parts info_ev
  have hgs := hS.lt
  have HS := Lib.hid hS
  have hw1 : IntKind.i64.wrap (most + 1) = most + 1 := IntWalk.i64_in _ (by omega)
  clear hS
  go_enter Tryz.func13, Tryz.ntmps13
  go_wp2_with fail
  have hO0 : (w.alloc (.cells #[] 26)).ownsRow w.heap.size 26 6 (.slice (some ⟨w.heap.size, 0, none⟩) 0 0) ([] : List Ev).length (vE []) := World.ownsRow_lit w #[] 0 (Nat.le_refl _) (by unfold maxLen; omega) rfl
  have hN0 := (Only.refl gs (gs + 1) w).alloc (.cells #[] 26)
  have hS0 := HS.out.alloc (.cells #[] 26)
  generalize w.alloc (.cells #[] 26) = W at *
  refine (pick_any W gs (most + 1) K hS0 (by omega)).mono ?_
  rintro e W1 ⟨k0, rfl, hk, hs1, ho1⟩
  have hk0 : 0 ≤ k0 := hk.1
  have hk1 : k0 ≤ most := by
    rcases (by omega : 1 < most + 1 ∨ most + 1 ≤ 1) with h1 | h1
    · have := hk.2.1 h1; omega
    · have := hk.2.2 h1; omega
  obtain ⟨n0, rfl⟩ := Int.eq_ofNat_of_zero_le hk0
  have S1 := Lib.hid hs1
  have O1 := Lib.hid (hN0.trans ho1)
  have R1 := Lib.hid (own_only hO0 ho1 hgs)
  clear hk hs1 ho1 hO0 hN0 hS0 hw1
  go_wp2_with fail
  go_loopw [5, 6, 7] (fun v5 v6 i wr => ∃ (n : Nat) (m : Int) (l : List Ev) (wq : World), wq = wr ∧ n ≤ n0 ∧ l.length + n ≤ n0 ∧ i = .int .i64 n ∧ v6 = .int .i64 m ∧ 0 ≤ m ∧ m ≤ 8 ∧ Hid (cntE 0 l = some m) ∧ Hid (wq.ownsRow w.heap.size 26 6 v5 l.length (vE l)) ∧ Hid (Src wq gs (K + 2 + 20 * ((n0 : Int) - n))) ∧ Hid (Only gs (gs + 1) w wq)) (fun _ _ i _ => (intOf i).toNat)
  case atStart => exact ⟨n0, 0, [], _, rfl, Nat.le_refl _, by simp, rfl, rfl, by omega, by omega, rfl, R1.out, S1.out.more (by omega) (by omega), O1.out⟩
  case round =>
    clear S1 O1 R1
    obtain ⟨n, m, l, wq, hwq, hn, hln, rfl, rfl, hm0', hm8, HC, HR, HSr, HO⟩ := hrel
    subst hwq
    by_cases hz : n = 0
    · subst hz
      obtain ⟨A, c, rfl⟩ := own_shape HR.out
      go_wp2
      go_ret
      exact ⟨_, l, rfl, HR.out, by rw [HC.out]; rfl, by omega, HSr.out.more (by omega) hK, HO.out⟩
    · have hlt0 : (0 : Int) < (n : Int) := by omega
      go_wp2_with fail
      refine (l10DrawEvent_any HSr.out hm0' hm8 (by omega)).mono ?_
      rintro e W5 ⟨x, rfl, hxk, hs5, ho5⟩
      have S5 := Lib.hid (hs5.alloc (.cells x.cells.toArray 26))
      have O5 := Lib.hid ((HO.out.trans ho5).alloc (.cells x.cells.toArray 26))
      have R5 := Lib.hid (own_below (own_only HR.out ho5 hgs) ((Below.refl _ _).alloc (Nat.le_refl _) (.cells x.cells.toArray 26)))
      have X5 := Lib.hid (Bx.new W5 x.cells 26)
      have HXK := Lib.hid hxk
      clear hs5 ho5 hxk HR HSr HO
      go_wp2_with fail
      obtain ⟨W6, hW6⟩ : ∃ W6, W6 = W5.alloc (.cells x.cells.toArray 26) := ⟨_, rfl⟩
      obtain ⟨g8, hg8⟩ : ∃ g8, g8 = W5.heap.size := ⟨_, rfl⟩
      have HQ := Lib.hid (l10Event_any x m hm0' (by omega) W5.heap.size 0 _ X5.out.1)
      rw [← hW6, ← hg8] at X5 HQ
      rw [← hW6] at S5 O5 R5
      rw [← hW6, ← hg8]
      clear hW6 hg8
      refine HQ.out.mono ?_
      rintro e W7 ⟨q, rfl, hq, hb7⟩
      have S7 := Lib.hid (S5.out.below hb7 S5.out.lt)
      have O7 := Lib.hid (O5.out.trans (Only.of_below hb7))
      have R7 := Lib.hid (own_below R5.out hb7)
      have X7 := Lib.hid (X5.out.below hb7 X5.out.2.2)
      clear hb7 S5 O5 R5 X5 HQ
      rcases hv : valE m x
      · clear hv hq
        go_wp2
        exact ⟨⟨n - 1, m, l, W7, rfl, by omega, by omega, by go_num, rfl, hm0', hm8, HC.out, R7.out, S7.out.more (by omega) (by omega), O7.out⟩, by simp [intOf]; omega⟩
      · obtain rfl := hq hv
        obtain ⟨ha0, ha8⟩ := aft8 hm0' hm8 HXK.out hv
        have HA := Lib.hid (cnt_add HC.out hv (by omega))
        obtain ⟨A, c, rfl⟩ := own_shape R7.out
        obtain ⟨e0, e1, e2, e3, e4, e5⟩ := X7.out.six
        have RA := Lib.hid (own_below R7.out ((Below.refl _ _).alloc (Nat.le_refl _) (.cells x.cells.toArray 26)))
        clear hv hq
        have hws := O7.out.size
        go_wp2_with (at_builtin; refine wpList_append_own_at _ rfl _ _ 23 rfl w.heap.size 26 i0 _ 6 48 Tryz.underlying23 hi hz0 hz1 hz2 rfl (by decide) _ _ _ rfl RA.out ⟨W7.heap.size, 0, none⟩ 1 1 x.cells rfl rfl (new_cells' _ _ rfl) (by intro u hu; simp at hu; rcases hu with rfl | rfl | rfl | rfl | rfl | rfl <;> rfl) (by unfold maxLen; omega) (by omega) (by simp; omega) ?_)
        intro v2 w2 hown2 hg2 _ hat2
        have hb2 : Below w.heap.size W7 w2 := (Below.grown ((Below.refl w.heap.size W7).alloc hws (.cells x.cells.toArray 26)) hg2 (by rw [World.size_alloc]; omega) (fun k hk => (RA.out.lt k hk).1))
        have S9 := Lib.hid (S7.out.below hb2 hgs)
        have O9 := Lib.hid (O7.out.below_ hb2)
        have R9 : Hid (w2.ownsRow w.heap.size 26 6 v2 (l ++ [x]).length (vE (l ++ [x]))) := by unfold Hid; rw [vE_snoc2, List.length_append]; exact hown2
        have hll : (l ++ [x]).length = l.length + 1 := by simp
        clear hown2 hg2 hat2 hb2 S7 O7 R7 X7 RA
        go_wp2
        exact ⟨⟨n - 1, _, l ++ [x], w2, rfl, by omega, by omega, by go_num, rfl, ha0, ha8, HA.out, R9.out, S9.out.more (by omega) (by omega), O9.out⟩, by simp [intOf]; omega⟩
/-- Valid events that a law draws. -/
def DrawnV (w : World) (e : Ending) (w' : World) : Prop := ∃ (v : Value) (l : List Ev), e = .returned v ∧ RdE w' w'.heap.size v l ∧ okEvs l = true ∧ l.length ≤ 18 ∧ Below w.heap.size w w'
set_option maxHeartbeats 1000000 in
theorem e8Events_any (w : World) (v0 : Value) (h : RdB w w.heap.size v0) : Calls Tryz.prog 4 #[v0] w (DrawnV w) := by
  have HB := Lib.hid h
  clear h
  go_enter Tryz.func4, Tryz.ntmps4
  go_wp2_with fail
  refine (l00From_any _ v0 HB.out).mono ?_
  rintro e w1 ⟨rfl, hs1, hb1, hz1⟩
  have B1 := Lib.hid hb1
  have S1 := Lib.hid hs1
  clear hb1 hs1
  go_wp2_with fail
  refine (l10Draw_any (gs := w.heap.size) (K := 0) S1.out (by decide) (by decide) (by decide)).mono ?_
  rintro e w2 ⟨v, l, rfl, hown, hc, hl, hs, ho⟩
  have hb2 := B1.out.trans (ho.below (Nat.le_refl _) (by omega))
  have hR := RdS.of_own Ev.len (OwC.of_own hown)
  have HR := Lib.hid hR
  have HB2 := Lib.hid hb2
  have HC := Lib.hid hc
  have hl18 : l.length ≤ 18 := by omega
  clear hc hl hs ho hown hb2 hR B1 S1 HB
  go_wp2
  go_ret
  exact ⟨_, l, rfl, HR.out, by unfold okEvs; rw [HC.out]; simp; omega, hl18, HB2.out⟩

end Go.Proofs.YtgkapjjolhnliaaGreatDoor

/-
  A draw of braids: l03DrawWord, l03Draw, E8Braids.
-/
namespace Go.Proofs.YtgkapjjolhnliaaGreatDoor
set_option linter.unusedVariables false
set_option linter.unusedSimpArgs false
open Go.RowKit

theorem RdB.up {w w' : World} {v : Value} (h : RdB w w.heap.size v) (hb : Below w.heap.size w w') : RdB w' w'.heap.size v := by
  obtain ⟨A', n', c', e, h1, h2⟩ := h
  exact ⟨A', n', c', e, h1, fun k hk => by
    obtain ⟨b, off, x, q1, q2, q3, q4, q5⟩ := h2 k hk
    exact ⟨b, off, x, q1, Nat.lt_of_lt_of_le q2 hb.size, q3, q4, (hb.cell (p := ⟨b, off + k, none⟩) q2).trans q5⟩⟩
/-- Letters of n strands. -/
def WordR (n : Int) (l : List Int) : Prop := ∀ x ∈ l, x ≠ 0 ∧ -(n - 1) ≤ x ∧ x ≤ n - 1
theorem vI_snocE (l : List Int) (x : Int) : vI (l ++ [x]) = vI l ++ [.int .i64 x] := by simp [vI]
theorem WordR.snoc {n : Int} {l : List Int} {x : Int} (h : WordR n l) (h1 : x ≠ 0) (h2 : -(n - 1) ≤ x) (h3 : x ≤ n - 1) : WordR n (l ++ [x]) := by
  intro y hy
  rcases List.mem_append.1 hy with h | h'
  · exact ‹WordR n l› y h
  · simp at h'; subst h'; exact ⟨h1, h2, h3⟩
/-- A word that was drawn. -/
def DrawnWd (w : World) (g : Nat) (K n most : Int) (e : Ending) (w' : World) : Prop := ∃ (v : Value) (l : List Int), e = .returned v ∧ w'.ownsRow w.heap.size 2 1 v l.length (vI l) ∧ WordR n l ∧ (l.length : Int) ≤ most ∧ Src w' g K ∧ Only g (g + 1) w w'
set_option maxHeartbeats 8000000 in
set_option maxRecDepth 100000 in
theorem l03DrawWord_any {w : World} {gs : Nat} {K n most : Int} (hS : Src w gs K) (hn0 : 0 ≤ n) (hn1 : n ≤ 12) (hm0 : 0 ≤ most) (hm1 : most ≤ 100) (hK : K + 2 + 4 * most ≤ 1000000000) :
    Calls Tryz.prog 25 #[.pointer (some ⟨gs, 0, none⟩), .int .i64 n, .int .i64 most] w (DrawnWd w gs (K + 2 + 4 * most) n most) := by
  obtain ⟨i0, hi, hz0, hz1, hz2⟩ := info_parts info_int
  have hgs := hS.lt
  have HS := Lib.hid hS
  have hw1 : IntKind.i64.wrap (most + 1) = most + 1 := IntWalk.i64_in _ (by omega)
  clear hS
  have HO0 : Hid ((w.alloc (.cells #[] 2)).ownsRow w.heap.size 2 1 (.slice (some ⟨w.heap.size, 0, none⟩) 0 0) ([] : List Int).length (vI [])) := World.ownsRow_lit w #[] 0 (Nat.le_refl _) (by unfold maxLen; omega) rfl
  have HN0 := Lib.hid ((Only.refl gs (gs + 1) w).alloc (.cells #[] 2))
  have HS0 := Lib.hid (HS.out.alloc (.cells #[] 2))
  by_cases h2 : n < 2
  · go_enter Tryz.func25, Tryz.ntmps25
    go_wp2
    go_ret
    exact ⟨_, [], rfl, HO0.out, (fun x hx => by cases hx), by simpa using hm0, HS0.out.more (by omega) hK, HN0.out⟩
  have hw2 : IntKind.i64.wrap (n - 1) = n - 1 := IntWalk.i64_in _ (by omega)
  go_enter Tryz.func25, Tryz.ntmps25
  go_wp2_with fail
  generalize w.alloc (.cells #[] 2) = W at *
  refine (pick_any W gs (most + 1) K HS0.out (by omega)).mono ?_
  rintro e W1 ⟨k0, rfl, hk, hs1, ho1⟩
  have hk0 : 0 ≤ k0 := hk.1
  have hk1 : k0 ≤ most := by
    rcases (by omega : 1 < most + 1 ∨ most + 1 ≤ 1) with h1 | h1
    · have := hk.2.1 h1; omega
    · have := hk.2.2 h1; omega
  obtain ⟨n0, rfl⟩ := Int.eq_ofNat_of_zero_le hk0
  have S1 := Lib.hid hs1
  have O1 := Lib.hid (HN0.out.trans ho1)
  have R1 := Lib.hid (own_only HO0.out ho1 hgs)
  clear hk hs1 ho1 HO0 HN0 HS0 hw1
  go_wp2_with fail
  go_loopw [7, 8] (fun v7 i wr => ∃ (j : Nat) (l : List Int) (wq : World), wq = wr ∧ j ≤ n0 ∧ l.length + j ≤ n0 ∧ i = .int .i64 j ∧ Hid (WordR n l) ∧ Hid (wq.ownsRow w.heap.size 2 1 v7 l.length (vI l)) ∧ Hid (Src wq gs (K + 2 + 4 * ((n0 : Int) - j))) ∧ Hid (Only gs (gs + 1) w wq)) (fun _ i _ => (intOf i).toNat)
  case atStart => exact ⟨n0, [], _, rfl, Nat.le_refl _, by simp, rfl, (fun x hx => by cases hx), R1.out, S1.out.more (by omega) (by omega), O1.out⟩
  case round =>
    clear S1 O1 R1
    obtain ⟨j, l, wq, hwq, hj, hlj, rfl, HWD, HR, HSr, HO⟩ := hrel
    subst hwq
    by_cases hz : j = 0
    · subst hz
      obtain ⟨A, c, rfl⟩ := own_shape HR.out
      go_wp2
      go_ret
      exact ⟨_, l, rfl, HR.out, HWD.out, by omega, HSr.out.more (by omega) hK, HO.out⟩
    · have hlt0 : (0 : Int) < (j : Int) := by omega
      go_wp2_with fail
      refine (pick_any wq gs (n - 1) _ HSr.out (by omega)).mono ?_
      rintro e W5 ⟨x0, rfl, hx, hs5, ho5⟩
      have hx0 : 0 ≤ x0 := hx.1
      have hx1 : 1 + x0 ≤ n - 1 := by
        rcases (by omega : 1 < n - 1 ∨ n - 1 ≤ 1) with h1 | h1
        · have := hx.2.1 h1; omega
        · have := hx.2.2 h1; omega
      have hw3 : IntKind.i64.wrap (1 + x0) = 1 + x0 := IntWalk.i64_in _ (by omega)
      have hw4 : IntKind.i64.wrap (-(1 + x0)) = -(1 + x0) := IntWalk.i64_in _ (by omega)
      have R5 := Lib.hid (own_only HR.out ho5 hgs)
      have O5 := Lib.hid (HO.out.trans ho5)
      have S5 := Lib.hid hs5
      clear hx hs5 ho5 HR HSr HO
      go_wp2_with fail
      refine (one_any W5 gs 2 _ S5.out (by omega)).mono ?_
      rintro e W6 ⟨q, rfl, hs6, ho6⟩
      have R6 := Lib.hid (own_only R5.out ho6 hgs)
      have O6 := Lib.hid (O5.out.trans ho6)
      have S6 := Lib.hid hs6
      clear hs6 ho6 R5 S5 O5
      obtain ⟨A, c, rfl⟩ := own_shape R6.out
      have hws := O6.out.size
      go_upto_if 28 with fail
      go_cut [9] (fun s9 wx => ∃ (x : Int), W6 = wx ∧ s9 = .int .i64 x ∧ x ≠ 0 ∧ -(n - 1) ≤ x ∧ x ≤ n - 1)
      case first =>
        cases q
        · go_wp2_with fail
          go_meet
          exact ⟨_, rfl, rfl, by omega, by omega, by omega⟩
        · go_wp2_with fail
          go_meet
          exact ⟨_, rfl, rfl, by omega, by omega, by omega⟩
      case rest =>
        obtain ⟨x, hw6, rfl, hx9, hx10, hx11⟩ := hcut
        subst hw6
        have HW2 := Lib.hid (HWD.out.snoc hx9 hx10 hx11)
        clear hw3 hw4 HWD hx9
        go_wp2_with (at_builtin; refine wpList_append_own_at _ rfl _ _ 31 rfl w.heap.size 2 i0 _ 1 8 Tryz.underlying31 hi hz0 hz1 hz2 rfl (by decide) _ _ _ rfl (R6.out.alloc _) ⟨W6.heap.size, 0, none⟩ 1 1 [.int .i64 x] rfl rfl ?c1 ?c2 ?c3 ?c4 ?c5 ?_)
        case c1 => exact new_cells' _ _ (by simp)
        case c2 => intro u hu; simp at hu; subst hu; rfl
        case c3 => unfold maxLen; omega
        case c4 => omega
        case c5 => simp; omega
        intro v2 w2 hown2 hg2 _ hat2
        have hb2 : Below w.heap.size W6 w2 := (Below.grown ((Below.refl w.heap.size W6).alloc hws (.cells #[.int .i64 x] 2)) hg2 (by rw [World.size_alloc]; omega) (fun k hk => (R6.out.lt k hk).1))
        have S9 := Lib.hid (S6.out.below hb2 hgs)
        have O9 := Lib.hid (O6.out.below_ hb2)
        have R9 : Hid (w2.ownsRow w.heap.size 2 1 v2 (l ++ [x]).length (vI (l ++ [x]))) := by unfold Hid; rw [vI_snocE, List.length_append]; exact hown2
        have hll : (l ++ [x]).length = l.length + 1 := by simp
        clear hown2 hg2 hat2 hb2 S6 O6 R6
        go_wp2_with fail
        exact ⟨⟨j - 1, l ++ [x], w2, rfl, by omega, by omega, by go_num, HW2.out, R9.out, S9.out.more (by omega) (by omega), O9.out⟩, by simp [intOf]; omega⟩

end Go.Proofs.YtgkapjjolhnliaaGreatDoor
