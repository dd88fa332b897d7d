/-
  Texts joined: DoD, DoE, DoF.
-/
import Derived.Test.YtolcgopfbbmjgaaPk2
import Derived.Test.YtolcgopfbbmjgaaMcTo
import Derived.Deep.RegionHeld3
import Derived.Deep.AppendLies
import Derived.Deep.RegionWith
/-
  The reference's l07Make on a machine of its own: a loop more.
-/
namespace Go.Proofs.Ytolcgopfbbmjgaa
set_option linter.unusedVariables false
set_option linter.unusedSimpArgs false
open Go.RowKit

theorem MSt.rowL {w : World} {B g : Nat} {m : Mc} {S : Nat → Spot} (h : MSt w B g m S) : ∃ xs, S 4 = ⟨76, 6, (S 4).v, m.ls.length, xs⟩ ∧ w.ownsRow B 76 6 (S 4).v m.ls.length xs := by
  obtain ⟨xs, e, _⟩ := h.ls
  exact ⟨xs, e, h.owned e⟩
/-- A loop more, with what moved. -/
theorem MSt.addLm {w1 w2 w0 : World} {B g : Nat} {m : Mc} {S S0 : Nat → Spot} {x : Inf} {vp vl : Value} {xs : List Value} (h : MSt w1 B g m S) (hm : Mv w0 S0 w1 S) (e4 : S 4 = ⟨76, 6, (S 4).v, m.ls.length, xs⟩)
    (hp : w1.ownsRow B 2 1 vp x.ps.length (vI x.ps)) (hnew : ∀ k, vp.ownBlock = some k → ¬ blk S k ∧ w0.heap.size ≤ k)
    (hown : w2.ownsRow B 76 6 vl (m.ls.length + 1) (xs ++ [.int .i64 x.k, .int .i64 x.y, .int .i64 x.b, .int .i64 x.p, .int .i64 x.d, vp])) (hg : w1.grownBy w2 (S 4).v.ownBlock) (hat : vl.ownBlock = (S 4).v.ownBlock ∨ vl.ownBlock = some w1.heap.size) :
    ∃ S', MSt (w2.setCell ⟨g, 5, none⟩ vl) B g { m with ls := m.ls ++ [x] } S' ∧ Mv w0 S0 (w2.setCell ⟨g, 5, none⟩ vl) S' := by
  have hne : iP m.ls.length ≠ 4 := by unfold iP; omega
  have hn0 : iP m.ls.length ≠ 0 := by unfold iP; omega
  have hsp1 := h.sp.putX (iP m.ls.length) hp (fun k hk => (hnew k hk).1)
  have hm1 := hm.put (iP m.ls.length) (spI vp x.ps) (fun k hk => .inr (hnew k hk).2)
  have e4' : putS S (iP m.ls.length) (spI vp x.ps) 4 = S 4 := putS_ne (fun e => hne e.symm)
  have hsp2 := hsp1.app (w' := w2) 4 ⟨76, 6, vl, m.ls.length + 1, xs ++ [.int .i64 x.k, .int .i64 x.y, .int .i64 x.b, .int .i64 x.p, .int .i64 x.d, vp]⟩ hown (by rw [e4']; exact hg) (by rw [e4']; exact hat)
  have hm2 := hm1.app (p := 4) (s := ⟨76, 6, vl, m.ls.length + 1, xs ++ [.int .i64 x.k, .int .i64 x.y, .int .i64 x.b, .int .i64 x.p, .int .i64 x.d, vp]⟩) (by rw [e4']; exact hg) (by rw [e4']; exact hat)
  have hA := h.addL e4 rfl hsp2
  refine ⟨_, hA, ?_⟩
  have e0 : (putS (putS S (iP m.ls.length) (spI vp x.ps)) 4 ⟨76, 6, vl, m.ls.length + 1, xs ++ [.int .i64 x.k, .int .i64 x.y, .int .i64 x.b, .int .i64 x.p, .int .i64 x.d, vp]⟩) 0 = S 0 := by rw [putS_ne (by omega), putS_ne (fun e => hn0 e.symm)]
  have := hm2.setCell (p := 0) (g := g) (i := 5) (by rw [e0]; exact h.gbox) vl ((S 0).xs.set 5 vl)
  rw [e0] at this
  exact this

theorem own_base {w : World} {B B' e size n : Nat} {v : Value} {xs : List Value} (h : w.ownsRow B' e size v n xs) (hB : B ≤ B') : w.ownsRow B e size v n xs := by
  refine ⟨h.1, ?_⟩
  rcases h.2 with h2 | ⟨g, cap, cur, hv, hg, h3⟩
  · exact .inl h2
  · exact .inr ⟨g, cap, cur, hv, Nat.le_trans hB hg, h3⟩
/-- The load of a cell that its region also writes: named, so that the walk does not try to take it ahead. -/
@[go_sem] def ldMake : Oper := { dst := some 11, op := Op.load 38 (Operand.tmp 10), type := 38, pos := "l07_machine.go:247", after := #[{ on := 3, ground := Ground.data }], guard := none }
set_option maxHeartbeats 4000000 in
set_option maxRecDepth 100000 in
theorem l07Make_any {w : World} {B g : Nat} {m : Mc} {S : Nat → Spot} (h : MSt w B g m S) (hB : B ≤ w.heap.size) (x : Opr) (b o : Nat) (ho : OpAt w b o x) (hnb : ¬ blk S b) (v : Value) (l : List Int) (hl : RdI w w.heap.size v l) (hl4 : l.length ≤ 4) (hls : m.ls.length < 300) :
    Calls Try.prog 70 #[.pointer (some ⟨g, 0, none⟩), .pointer (some ⟨b, o, none⟩), v] w (Did w S B g (.int .i64 m.ls.length) (addLp m x l)) := by
  obtain ⟨i0, hi, hz0, hz1, hz2⟩ := info_parts info_inf
  obtain ⟨xs, e4, hown4⟩ := h.rowL
  obtain ⟨k, d, fb, fa, tb, ta, c, r⟩ := x
  obtain ⟨o0, o1, o2, o3, o4, o5, o6, o7⟩ := ho.eight
  have hbw : b < w.heap.size := block_lt_of_cell o0
  have x5 : w.cell? ⟨g, 5, none⟩ = some (S 4).v := h.cells.seven.2.2.2.2.2.1
  have hgw := h.size.1
  have HO := Lib.hid ho
  have HM := Lib.hid h
  have HNB := Lib.hid hnb
  have HE4 := Lib.hid e4
  have HOW4 := Lib.hid hown4
  have HQ := Lib.hid (l00OwnR_any v l w.drew hl (by omega))
  have hgb : g ≠ b := fun e => hnb ⟨0, by rw [h.gbox, e]⟩
  obtain ⟨A4, c4, hv4⟩ : ∃ A c, (S 4).v = .slice A m.ls.length c := by
    obtain ⟨A, c, h1, -⟩ := (OwC.of_own hown4).cells
    exact ⟨A, c, h1⟩
  rw [hv4] at x5
  have HV4 := Lib.hid hv4
  have hb4 : (Value.slice A4 m.ls.length c4).ownBlock ≠ some b := fun e => hnb ⟨4, by rw [hv4]; exact e⟩
  have HB4 := Lib.hid hb4
  have HG4 : Hid ((Value.slice A4 m.ls.length c4).ownBlock ≠ some g) := fun e => h.sp.dis (i := 4) (j := 0) (by omega) (by rw [hv4]; exact e) h.gbox
  have hfgb := far_cell hgb
  generalize hN : m.ls.length = N at *
  have HN := Lib.hid hN
  have HD : Hid (∀ W, Did w S B g (.int .i64 N) (addLp m ⟨k, d, fb, fa, tb, ta, c, r⟩ l) (.returned (.int .i64 N)) W ↔ ∃ S', MSt W B g (addLp m ⟨k, d, fb, fa, tb, ta, c, r⟩ l) S' ∧ Mv w S W S') := fun W => ⟨fun ⟨_, h⟩ => h, fun h => ⟨rfl, h⟩⟩
  clear h ho hnb e4 hown4 hl hv4 hN hb4
  go_enter Try.func70, Try.ntmps70
  go_wp2
  rw [show ({ dst := some 11, op := Op.load 38 (Operand.tmp 10), type := 38, pos := "l07_machine.go:247", after := #[{ on := 3, ground := Ground.data }], guard := none } : Oper) = ldMake from rfl]
  go_region_held3 (fun w' => w'.cell? ⟨b, o, none⟩ = some (.int .i64 k) ∧ w'.cell? ⟨b, o + 6, none⟩ = some (.int .i64 c) ∧ w'.cell? ⟨b, o + 2, none⟩ = some (.int .i64 fb) ∧ w'.cell? ⟨b, o + 3, none⟩ = some (.int .i64 fa) ∧ w'.cell? ⟨b, o + 1, none⟩ = some (.int .i64 d))
    (first | exact ⟨o0, o6, o2, o3, o1⟩ | exact ⟨q0, q6, q2, q3, q1⟩ | exact ⟨s0, s6, s2, s3, s1⟩ | (rw [hfgb, hfgb, hfgb, hfgb, hfgb]; exact ⟨s0, s6, s2, s3, s1⟩) | go_keep)
    (first
      | (go_at_call 50; refine (HQ.out).mono ?_; rintro e w2 ⟨v2, rfl, hown2, hb2⟩; have hb2' : Below w.heap.size w w2 := (Below.refl w.heap.size w).drew.trans hb2; obtain ⟨q0, q1, q2, q3, q4, q5, q6, q7⟩ := (CellsAt.below HO.out hb2' hbw).eight; have z5 : w2.cell? ⟨g, 5, none⟩ = some (.slice A4 N c4) := (hb2'.cell (p := ⟨g, 5, none⟩) hgw).trans x5; have z5a : ∀ ob, (w2.alloc ob).cell? ⟨g, 5, none⟩ = some (.slice A4 N c4) := fun ob => (World.cell?_alloc_lt w2 ob ⟨g, 5, none⟩ (by have := hb2'.size; show g < _; omega)).trans z5; have hm2 := HM.out.below hb2'; have hw4 := own_below HOW4.out hb2'; rw [HV4.out] at hw4; obtain ⟨A2, c2, rfl⟩ : ∃ A c, v2 = .slice A l.length c := by (obtain ⟨A, c, h1, -⟩ := (OwC.of_own hown2).cells; exact ⟨A, c, h1⟩))
      | (refine step_append_lies _ (by rfl) _ _ _ (by rfl) B 76 i0 _ 6 64 Try.underlying38 hi hz0 hz1 hz2 rfl (by omega) (.slice A4 N c4) N xs (by rfl) (hw4.alloc _) ⟨w2.heap.size, 0, none⟩ 1 1 [.int .i64 k, .int .i64 c, .int .i64 fb, .int .i64 fa, .int .i64 d, .slice A2 l.length c2] (by rfl) (by rfl) (World.news_of_block (cs := #[.int .i64 k, .int .i64 c, .int .i64 fb, .int .i64 fa, .int .i64 d, .slice A2 l.length c2]) (t := 76) (fr := (0, 0)) (heap_alloc_new w2 _)) (by simp [Value.oneCell']) (by omega) (by unfold maxLen; omega) (by omega) (by have := hb2'.size; simp; omega) (w2.heap.size + 1) (by simp) ?_; intro gg cap w3 hown3 hgrow hat hlt; have hbw2 : b < w2.heap.size := Nat.lt_of_lt_of_le hbw hb2'.size; have hfar : ∀ (j : Nat) (u : Value), w2.cell? ⟨b, j, none⟩ = some u → w3.cell? ⟨b, j, none⟩ = some u := fun j u hu => (hgrow.cell_far ⟨b, j, none⟩ (by simp; omega) (Ne.symm HB4.out)).trans ((World.cell?_alloc_lt w2 _ ⟨b, j, none⟩ hbw2).trans hu); have s0 := hfar _ _ q0; have s1 := hfar _ _ q1; have s2 := hfar _ _ q2; have s3 := hfar _ _ q3; have s6 := hfar _ _ q6; clear hfar; have t5 : w3.cell? ⟨g, 5, none⟩ = some (.slice A4 N c4) := (hgrow.cell_far ⟨g, 5, none⟩ (by have := hb2'.size; simp; omega) (Ne.symm HG4.out)).trans ((World.cell?_alloc_lt w2 _ ⟨g, 5, none⟩ (by have := hb2'.size; show g < _; omega)).trans z5); have tf5 : w3.frozen? ⟨g, 5, none⟩ = false := (hgrow.frozen_far ⟨g, 5, none⟩ (by have := hb2'.size; simp; omega) (Ne.symm HG4.out)).trans (((((Below.refl w2.heap.size w2).alloc (Nat.le_refl _) _).frozen (p := ⟨g, 5, none⟩) (by have := hb2'.size; show g < _; omega))).trans (hm2.frozen 5))))
  all_goals
    have hF : ∃ S', MSt (w3.setCell ⟨g, 5, none⟩ (.slice (some ⟨gg, 0, none⟩) (N + 1) cap)) B g (addLp m ⟨k, d, fb, fa, tb, ta, c, r⟩ l) S' ∧ Mv w S (w3.setCell ⟨g, 5, none⟩ (.slice (some ⟨gg, 0, none⟩) (N + 1) cap)) S' := by
      have hN := HN.out
      subst hN
      have hWA : Below w2.heap.size w2 (w2.alloc (.cells #[.int .i64 k, .int .i64 c, .int .i64 fb, .int .i64 fa, .int .i64 d, .slice A2 l.length c2] 76)) := (Below.refl _ _).alloc (Nat.le_refl _) _
      refine MSt.addLm (w1 := w2.alloc (.cells #[.int .i64 k, .int .i64 c, .int .i64 fb, .int .i64 fa, .int .i64 d, .slice A2 l.length c2] 76)) (x := ⟨k, c, fb, fa, d, l⟩) (hm2.below hWA) ((Mv.of_below hb2').alloc _) HE4.out (own_base (own_below hown2 hWA) hB) (fun q hq => ?_) hown3 (by rw [HV4.out]; exact hgrow) (by rw [HV4.out]; rcases hat with h9 | h9; exact .inl h9.symm; exact .inr (by rw [h9]; simp [Value.ownBlock]))
      have h9 := (World.ownsRow.lt hown2 q hq).1
      exact ⟨fun e => by have := (HM.out.sp.ge e).2; have h10 : w.heap.size ≤ q := h9; omega, h9⟩
    have HF := Lib.hid hF
    clear hF hown3 hgrow hat hown2 hb2 hb2' hm2 hw4 HM HO HNB HQ HE4 HOW4 HV4 HB4 HG4
    have f5 : (w3.setCell ⟨g, 5, none⟩ (.slice (some ⟨gg, 0, none⟩) (N + 1) cap)).cell? ⟨g, 5, none⟩ = some (.slice (some ⟨gg, 0, none⟩) (N + 1) cap) := cell_set_same t5

    go_wp2
    go_ret
    exact (HD.out _).2 HF.out

end Go.Proofs.Ytolcgopfbbmjgaa

/-
  The reference's l07Move on a machine of its own.
-/
namespace Go.Proofs.Ytolcgopfbbmjgaa
set_option linter.unusedVariables false
set_option linter.unusedSimpArgs false
open Go.RowKit

theorem mv8 {m : Mc} {x : Opr} (h : plc x.fb x.fa m.rk ≠ plc x.tb x.ta m.rk) : mvCode m x = 8 := by unfold mvCode; rw [if_pos h]
theorem mv7 {m : Mc} {x : Opr} (h : plc x.fb x.fa m.rk = plc x.tb x.ta m.rk) (h1 : (onL m x.f).length = 0) : mvCode m x = 7 := by unfold mvCode; rw [if_neg (by simpa using h), if_pos h1]
theorem mv5 {m : Mc} {x : Opr} (h : plc x.fb x.fa m.rk = plc x.tb x.ta m.rk) (h1 : ¬ (onL m x.f).length = 0) (h2 : 4 < (onL m x.f).length + (onL m x.t).length) : mvCode m x = 5 := by unfold mvCode; rw [if_neg (by simpa using h), if_neg h1, if_pos h2]
theorem mv0 {m : Mc} {x : Opr} (h : plc x.fb x.fa m.rk = plc x.tb x.ta m.rk) (h1 : ¬ (onL m x.f).length = 0) (h2 : ¬ 4 < (onL m x.f).length + (onL m x.t).length) : mvCode m x = 0 := by unfold mvCode; rw [if_neg (by simpa using h), if_neg h1, if_neg h2]
theorem DidC.bad {w0 w : World} {S0 S : Nat → Spot} {B g : Nat} {code c : Int} {m : Mc} (hm : Mv w0 S0 w S) (he : code = c) (hc : c ≠ 0) : DidC w0 S0 B g code m (.returned (.int .i64 c)) w := ⟨by rw [he], S, hm, fun e => absurd (he.symm.trans e) hc⟩
/-- A machine's list, as it is read. -/
theorem MSt.onR {w : World} {B g : Nat} {m : Mc} {S : Nat → Spot} (h : MSt w B g m S) {n : Int × Int} (hn : ndIn m n) : RdI w w.heap.size (S (iN n)).v (onL m n) ∧ (∃ A c, (S (iN n)).v = .slice A (onL m n).length c ∧ (onL m n).length ≤ c) ∧ w.ownsRow B 2 1 (S (iN n)).v (onL m n).length (vI (onL m n)) := by
  obtain ⟨b, c, L, -, -, -, -, -, -, -, he, -⟩ := h.nd hn
  have h1 := h.sp.own (iN n)
  rw [he] at h1
  have h2 : w.ownsRow B 2 1 (S (iN n)).v (onL m n).length (vI (onL m n)) := h1
  obtain ⟨A, k, q, h3, h4⟩ := (OwC.of_own h2).cap
  obtain ⟨A', c', h5, -⟩ := (OwC.of_own h2).cells
  rw [h5] at h3
  injection h3 with e1 e2 e3
  subst e1 e2 e3
  exact ⟨RdI.of_own (OwC.of_own h2), ⟨_, _, h5, h4⟩, h2⟩

set_option maxHeartbeats 4000000 in
set_option maxRecDepth 100000 in
theorem l07Move_any {w : World} {B g : Nat} {m : Mc} {S : Nat → Spot} (h : MSt w B g m S) (hB : B ≤ w.heap.size) (x : Opr) (b o : Nat) (ho : OpAt w b o x) (hnb : ¬ blk S b) (hf : ndIn m x.f) (ht : ndIn m x.t) (hne : x.fb ≠ x.tb) (hok : OkP m) (hfa : x.fa ≤ 23) (hta : x.ta ≤ 23) :
    Calls Try.prog 53 #[.pointer (some ⟨g, 0, none⟩), .pointer (some ⟨b, o, none⟩)] w (DidC w S B g (mvCode m x) (mvTo m x)) := by
  obtain ⟨i0, hi, hz0, hz1, hz2⟩ := info_parts info_int
  obtain ⟨k, d, fb, fa, tb, ta, c, r⟩ := x
  obtain ⟨r0, r1⟩ := hok.rk
  have hl4 := hok.on4 (fb, fa)
  have hl5 := hok.on4 (tb, ta)
  have hfa' : fa ≤ 23 := hfa
  have hta' : ta ≤ 23 := hta
  have hfa0 : 0 ≤ fa := hf.2.1
  have hta0 : 0 ≤ ta := ht.2.1
  obtain ⟨o0, o1, o2, o3, o4, o5, o6, o7⟩ := ho.eight
  have hbw : b < w.heap.size := block_lt_of_cell o0
  have HO := Lib.hid ho
  have HM := Lib.hid h
  have HNB := Lib.hid hnb
  have HQ1 := Lib.hid (l07On_any h (fb, fa) hf)
  have HF := Lib.hid (show ndIn m (fb, fa) from hf)
  have HT := Lib.hid (show ndIn m (tb, ta) from ht)
  have hC8 := Lib.hid (fun h1 => mv8 (m := m) (x := ⟨k, d, fb, fa, tb, ta, c, r⟩) h1)
  have hC7 := Lib.hid (fun h1 h2 => mv7 (m := m) (x := ⟨k, d, fb, fa, tb, ta, c, r⟩) h1 h2)
  have hC5 := Lib.hid (fun h1 h2 h3 => mv5 (m := m) (x := ⟨k, d, fb, fa, tb, ta, c, r⟩) h1 h2 h3)
  have hC0 := Lib.hid (fun h1 h2 h3 => mv0 (m := m) (x := ⟨k, d, fb, fa, tb, ta, c, r⟩) h1 h2 h3)
  have HP1 := Lib.hid (fun X => l07Place_any fb fa m.rk (by omega) (by omega) (by omega) (by omega) X)
  have HP2 := Lib.hid (fun X => l07Place_any tb ta m.rk (by omega) (by omega) (by omega) (by omega) X)
  generalize hCC : mvCode m ⟨k, d, fb, fa, tb, ta, c, r⟩ = CC at *
  have hMV : mvTo m ⟨k, d, fb, fa, tb, ta, c, r⟩ = setL (setL m (tb, ta) (mvL m ⟨k, d, fb, fa, tb, ta, c, r⟩)) (fb, fa) [] := rfl
  have HMV := Lib.hid hMV
  generalize mvTo m ⟨k, d, fb, fa, tb, ta, c, r⟩ = M' at *
  clear h ho hf ht hCC hMV hnb
  go_enter Try.func53, Try.ntmps53
  go_wp2_with fail
  refine (HQ1.out).mono ?_
  rintro e w1 ⟨rfl, hb1⟩
  have HM1 := Lib.hid (HM.out.below hb1)
  have HO1 := Lib.hid (CellsAt.below HO.out hb1 hbw)
  have HB1 := Lib.hid hb1
  have HQ2 := Lib.hid (l07On_any HM1.out (tb, ta) HT.out)
  have hbw1 : b < w1.heap.size := Nat.lt_of_lt_of_le hbw hb1.size
  have HO0 := Lib.hid HO.out
  clear o0 o1 o2 o3 o4 o5 o6 o7 hb1 HO HQ1
  obtain ⟨o0, o1, o2, o3, o4, o5, o6, o7⟩ := HO1.out.eight
  go_wp2_with fail
  refine (HQ2.out).mono ?_
  rintro e w2 ⟨rfl, hb2⟩
  have HM2 := Lib.hid (HM1.out.below hb2)
  have HO2 := Lib.hid (CellsAt.below HO1.out hb2 hbw1)
  have HB2 := Lib.hid (HB1.out.trans (hb2.mono HB1.out.size))
  have hbw2 : b < w2.heap.size := Nat.lt_of_lt_of_le hbw1 hb2.size
  obtain ⟨-, ⟨Af, cf, hvf, hcf⟩, -⟩ := HM2.out.onR HF.out
  obtain ⟨-, ⟨At, ct, hvt, hct⟩, -⟩ := HM2.out.onR HT.out
  have HVF := Lib.hid hvf
  have HVT := Lib.hid hvt
  rw [hvf, hvt]
  clear o0 o1 o2 o3 o4 o5 o6 o7 hb2 HO1 HM1 HB1 HQ2 hvf hvt
  obtain ⟨-, -, p2, p3, p4, p5, -, -⟩ := HO2.out.grow8
  have x1 : ∀ X, (wgrow w2 X).cell? ⟨g, 1, none⟩ = some (.int .i64 m.rk) := fun X => HM2.out.cells.grow X 1 _ rfl
  generalize hPf : plc fb fa m.rk = Pf at *
  generalize hPt : plc tb ta m.rk = Pt at *
  clear hPf hPt
  go_wp2
  refine wp_region_grow (by kernel_rfl) (by kernel_rfl) ?_
  repeat (go_big_quiet_step ((first | (go_at_call_of 21 (Value.agg #[.int .i64 fb, .int .i64 fa]); exact calls_grow (HP1.out _)) | (go_at_call_of 21 (Value.agg #[.int .i64 tb, .int .i64 ta]); exact calls_grow (HP2.out _)))))
  refine wpQuiet_nil ?_
  intro w3 hb3
  have HM3 := Lib.hid (HM2.out.below hb3)
  have HO3 := Lib.hid (CellsAt.below HO2.out hb3 hbw2)
  have HB3 := Lib.hid (HB2.out.trans (hb3.mono HB2.out.size))
  have hbw3 : b < w3.heap.size := Nat.lt_of_lt_of_le hbw2 hb3.size
  have HMV3 := Lib.hid (Mv.of_below (S := S) HB3.out)
  clear hb3 HO2 HM2 HB2 x1 p2 p3 p4 p5 HP1 HP2
  obtain ⟨o0, o1, o2, o3, o4, o5, o6, o7⟩ := HO3.out.eight
  by_cases hp : Pf = Pt
  · subst hp
    have hpn : (Pf != Pf) = false := by simp
    by_cases h0 : (onL m (fb, fa)).length = 0
    · have hc := Lib.hid (hC7.out rfl h0)
      have h0' : (((onL m (fb, fa)).length : Int) == 0) = true := by rw [h0]; rfl
      clear h0 hC8 hC7 hC5 hC0
      go_wp2
      go_ret
      exact DidC.bad HMV3.out hc.out (by omega)
    · have h0' : (((onL m (fb, fa)).length : Int) == 0) = false := by simpa using h0
      by_cases h4 : 4 < (onL m (fb, fa)).length + (onL m (tb, ta)).length
      · have hc := Lib.hid (hC5.out rfl h0 h4)
        have h4' : (4 : Int) < ((onL m (fb, fa)).length : Int) + ((onL m (tb, ta)).length : Int) := by omega
        clear h0 h4 hC8 hC7 hC5 hC0
        go_wp2
        go_ret
        exact DidC.bad HMV3.out hc.out (by omega)
      · have hc := Lib.hid (hC0.out rfl h0 h4)
        have h4' : ¬ (4 : Int) < ((onL m (fb, fa)).length : Int) + ((onL m (tb, ta)).length : Int) := by omega
        clear h0 h4 hC8 hC7 hC5 hC0
        by_cases hb2 : tb = 2
        · subst hb2
          have HRD := Lib.hid ((HM3.out.onR (n := (2, ta)) HT.out).1)
          have HQO := Lib.hid (l00OwnR_any (.slice Af (onL m (fb, fa)).length cf) (onL m (fb, fa)) w3.drew (by have := (HM3.out.onR (n := (fb, fa)) HF.out).1; rw [HVF.out] at this; exact this) (by omega))
          rw [HVT.out] at HRD
          replace HRD := Lib.hid (HRD.out.reads).1
          go_wp2
          go_region_held3 (fun w' => w'.cell? ⟨b, o + 4, none⟩ = some (.int .i64 2) ∧ w'.cell? ⟨b, o + 5, none⟩ = some (.int .i64 ta))
            (first | exact ⟨o4, o5⟩ | exact ⟨q4, q5⟩ | exact ⟨r4, r5⟩ | exact ⟨t4, t5⟩ | go_keep)
            (first
              | (go_at_call 50; refine (HQO.out).mono ?_; rintro e w4 ⟨v4, rfl, hown4, hb4⟩; have hB4 : Below w3.heap.size w3 w4 := (Below.refl w3.heap.size w3).drew.trans hb4; obtain ⟨-, -, -, -, q4, q5, -, -⟩ := (CellsAt.below HO3.out hB4 hbw3).eight; have hrd4 := HRD.out.below hB4; have hsz4 := hB4.size)
              | (refine step_append_any _ (by rfl) _ _ _ (by rfl) w3.heap.size 2 i0 _ 1 8 Try.underlying39 hi hz0 hz1 hz2 rfl (by decide) v4 (onL m (fb, fa)).length (vI (onL m (fb, fa))) (by rfl) hown4 w3.heap.size At (onL m (2, ta)).length ct (vI (onL m (2, ta))) (by rfl) hrd4 (vI_one _) (by unfold maxLen; omega) (by omega) hsz4 ?_; intro v5 w5 hown5 hg5 hat5; have hB5 : Below w3.heap.size w3 w5 := hB4.grown hg5 hsz4 (fun q hq => (World.ownsRow.lt hown4 q hq).1); obtain ⟨-, -, -, -, r4, r5, -, -⟩ := (CellsAt.below HO3.out hB5 hbw3).eight; have hm5 := HM3.out.below hB5; (have hown5' : w5.ownsRow B 2 1 v5 (onL m (fb, fa) ++ onL m (2, ta)).length (vI (onL m (fb, fa) ++ onL m (2, ta))) := by (rw [List.length_append, vI_append]; exact own_base hown5 (Nat.le_trans hB HB3.out.size))); have hnew5 : ∀ q, v5.ownBlock = some q → w3.heap.size ≤ q := fun q hq => (World.ownsRow.lt hown5 q hq).1; have hQS := l07Set_any hm5 (2, ta) HT.out v5 (onL m (fb, fa) ++ onL m (2, ta)) (hm5.sp.putX _ hown5' (fun q hq e => by have := (HM3.out.sp.ge e).2; have := hnew5 q hq; omega)) ((HMV3.out.trans (Mv.of_below hB5)).put _ _ (fun q hq => .inr (Nat.le_trans HB3.out.size (hnew5 q hq)))))
              | (go_at_call 56; refine hQS.mono ?_; rintro e w6 ⟨rfl, S6, hm6, hv6⟩; obtain ⟨-, -, t2, t3, t4, t5, -, -⟩ := (hv6.only.cells HNB.out HO0.out).eight))
          have HM6 := Lib.hid hm6
          have HV6 := Lib.hid hv6
          clear hQS hown5' hnew5 hown5 hg5 hat5 hown4 hb4 hB4 hB5 hrd4 hm5 hm6 hv6 r4 r5 q4 q5
          have hWA : Below w6.heap.size w6 (w6.alloc (.cells #[] 2)) := (Below.refl _ _).alloc (Nat.le_refl _) _
          have hn6 : ndIn (setL m (2, ta) (onL m (fb, fa) ++ onL m (2, ta))) (fb, fa) := ndIn_set _ HF.out
          have HMA := Lib.hid (HM6.out.below hWA)
          have hlit := World.ownsRow_lit (base := w6.heap.size) (e := 2) (size := 1) w6 #[] 0 (Nat.le_refl _) (by unfold maxLen; omega) rfl
          have hBw6 : B ≤ w6.heap.size := Nat.le_trans hB HV6.out.size
          have HQS := Lib.hid (l07Set_any HMA.out (fb, fa) hn6 (.slice (some ⟨w6.heap.size, 0, none⟩) 0 0) [] (HMA.out.sp.putX _ (own_base hlit hBw6) (fun q hq e => by have := (HM6.out.sp.ge e).2; injection hq with hq; have hq' : w6.heap.size = q := hq; omega)) ((HV6.out.alloc _).put _ _ (fun q hq => .inr (by injection hq with hq; have hq' : w6.heap.size = q := hq; have := HV6.out.size; omega))))
          clear hWA hn6 hlit
          go_wp2_with fail
          refine (HQS.out).mono ?_
          rintro e w7 ⟨rfl, S7, hm7, hv7⟩
          have HFIN : Hid (DidC w S B g CC M' (.returned (.int .i64 0)) w7) := ⟨by rw [hc.out], S7, hv7, fun _ => by rw [HMV.out]; exact (by unfold mvL; rw [if_pos rfl]; exact hm7)⟩
          clear hm7 hv7
          go_wp2
          go_ret
          exact HFIN.out
        · have hb2' : (tb == 2) = false := by simpa using hb2
          have HRD := Lib.hid ((HM3.out.onR (n := (fb, fa)) HF.out).1)
          have HQO := Lib.hid (l00OwnR_any (.slice At (onL m (tb, ta)).length ct) (onL m (tb, ta)) w3.drew (by have := (HM3.out.onR (n := (tb, ta)) HT.out).1; rw [HVT.out] at this; exact this) (by omega))
          rw [HVF.out] at HRD
          replace HRD := Lib.hid (HRD.out.reads).1
          have HNB2 := Lib.hid hb2
          clear hb2
          go_wp2
          go_region_held3 (fun w' => w'.cell? ⟨b, o + 4, none⟩ = some (.int .i64 tb) ∧ w'.cell? ⟨b, o + 5, none⟩ = some (.int .i64 ta))
            (first | exact ⟨o4, o5⟩ | exact ⟨q4, q5⟩ | exact ⟨r4, r5⟩ | exact ⟨t4, t5⟩ | go_keep)
            (first
              | (go_at_call 50; refine (HQO.out).mono ?_; rintro e w4 ⟨v4, rfl, hown4, hb4⟩; have hB4 : Below w3.heap.size w3 w4 := (Below.refl w3.heap.size w3).drew.trans hb4; obtain ⟨-, -, -, -, q4, q5, -, -⟩ := (CellsAt.below HO3.out hB4 hbw3).eight; have hrd4 := HRD.out.below hB4; have hsz4 := hB4.size)
              | (refine step_append_any _ (by rfl) _ _ _ (by rfl) w3.heap.size 2 i0 _ 1 8 Try.underlying39 hi hz0 hz1 hz2 rfl (by decide) v4 (onL m (tb, ta)).length (vI (onL m (tb, ta))) (by rfl) hown4 w3.heap.size Af (onL m (fb, fa)).length cf (vI (onL m (fb, fa))) (by rfl) hrd4 (vI_one _) (by unfold maxLen; omega) (by omega) hsz4 ?_; intro v5 w5 hown5 hg5 hat5; have hB5 : Below w3.heap.size w3 w5 := hB4.grown hg5 hsz4 (fun q hq => (World.ownsRow.lt hown4 q hq).1); obtain ⟨-, -, -, -, r4, r5, -, -⟩ := (CellsAt.below HO3.out hB5 hbw3).eight; have hm5 := HM3.out.below hB5; (have hown5' : w5.ownsRow B 2 1 v5 (onL m (tb, ta) ++ onL m (fb, fa)).length (vI (onL m (tb, ta) ++ onL m (fb, fa))) := by (rw [List.length_append, vI_append]; exact own_base hown5 (Nat.le_trans hB HB3.out.size))); have hnew5 : ∀ q, v5.ownBlock = some q → w3.heap.size ≤ q := fun q hq => (World.ownsRow.lt hown5 q hq).1; have hQS := l07Set_any hm5 (tb, ta) HT.out v5 (onL m (tb, ta) ++ onL m (fb, fa)) (hm5.sp.putX _ hown5' (fun q hq e => by have := (HM3.out.sp.ge e).2; have := hnew5 q hq; omega)) ((HMV3.out.trans (Mv.of_below hB5)).put _ _ (fun q hq => .inr (Nat.le_trans HB3.out.size (hnew5 q hq)))))
              | (go_at_call 56; refine hQS.mono ?_; rintro e w6 ⟨rfl, S6, hm6, hv6⟩; obtain ⟨-, -, t2, t3, t4, t5, -, -⟩ := (hv6.only.cells HNB.out HO0.out).eight))
          have HM6 := Lib.hid hm6
          have HV6 := Lib.hid hv6
          clear hQS hown5' hnew5 hown5 hg5 hat5 hown4 hb4 hB4 hB5 hrd4 hm5 hm6 hv6 r4 r5 q4 q5
          have hWA : Below w6.heap.size w6 (w6.alloc (.cells #[] 2)) := (Below.refl _ _).alloc (Nat.le_refl _) _
          have hn6 : ndIn (setL m (tb, ta) (onL m (tb, ta) ++ onL m (fb, fa))) (fb, fa) := ndIn_set _ HF.out
          have HMA := Lib.hid (HM6.out.below hWA)
          have hlit := World.ownsRow_lit (base := w6.heap.size) (e := 2) (size := 1) w6 #[] 0 (Nat.le_refl _) (by unfold maxLen; omega) rfl
          have hBw6 : B ≤ w6.heap.size := Nat.le_trans hB HV6.out.size
          have HQS := Lib.hid (l07Set_any HMA.out (fb, fa) hn6 (.slice (some ⟨w6.heap.size, 0, none⟩) 0 0) [] (HMA.out.sp.putX _ (own_base hlit hBw6) (fun q hq e => by have := (HM6.out.sp.ge e).2; injection hq with hq; have hq' : w6.heap.size = q := hq; omega)) ((HV6.out.alloc _).put _ _ (fun q hq => .inr (by injection hq with hq; have hq' : w6.heap.size = q := hq; have := HV6.out.size; omega))))
          clear hWA hn6 hlit
          go_wp2_with fail
          refine (HQS.out).mono ?_
          rintro e w7 ⟨rfl, S7, hm7, hv7⟩
          have HFIN : Hid (DidC w S B g CC M' (.returned (.int .i64 0)) w7) := ⟨by rw [hc.out], S7, hv7, fun _ => by rw [HMV.out]; exact (by unfold mvL; rw [if_neg HNB2.out]; exact hm7)⟩
          clear hm7 hv7
          go_wp2
          go_ret
          exact HFIN.out
  · have hc := Lib.hid (hC8.out hp)
    have hpn : (Pf != Pt) = true := by simpa using hp
    clear hp hC8 hC7 hC5 hC0
    go_wp2
    go_ret
    exact DidC.bad HMV3.out hc.out (by omega)

end Go.Proofs.Ytolcgopfbbmjgaa

/-
  The reference's l07Form on a machine of its own.
-/
namespace Go.Proofs.Ytolcgopfbbmjgaa
set_option linter.unusedVariables false
set_option linter.unusedSimpArgs false
open Go.RowKit

/-- A row of one number, just made. -/
theorem lit1 (w : World) (n : Int) : (w.alloc (.cells #[.int .i64 n] 2)).ownsRow w.heap.size 2 1 (.slice (some ⟨w.heap.size, 0, none⟩) 1 1) ([n] : List Int).length (vI [n]) := World.ownsRow_lit (base := w.heap.size) (e := 2) (size := 1) w #[.int .i64 n] 1 (Nat.le_refl _) (by unfold maxLen; omega) rfl
/-- A needle gets a row of one number. -/
theorem set_lit1 {w w0 : World} {B g : Nat} {m : Mc} {S S0 : Nat → Spot} (h : MSt w B g m S) (hm : Mv w0 S0 w S) (hB : B ≤ w.heap.size) (n : Int × Int) (hn : ndIn m n) (k : Int) :
    Calls Try.prog 56 #[.pointer (some ⟨g, 0, none⟩), .agg #[.int .i64 n.1, .int .i64 n.2], .slice (some ⟨w.heap.size, 0, none⟩) 1 1] (w.alloc (.cells #[.int .i64 k] 2)) (Did w0 S0 B g (.tuple #[]) (setL m n [k])) := by
  have hWA : Below w.heap.size w (w.alloc (.cells #[.int .i64 k] 2)) := (Below.refl _ _).alloc (Nat.le_refl _) _
  have hMA := h.below hWA
  have hq : ∀ q, (Value.slice (some ⟨w.heap.size, 0, none⟩) 1 1).ownBlock = some q → w.heap.size = q := fun q hq => by injection hq
  exact l07Set_any hMA n hn _ [k] (hMA.sp.putX _ (own_base (lit1 w k) hB) (fun q hq' e => by have := (h.sp.ge e).2; have := hq q hq'; omega)) ((hm.alloc _).put _ _ (fun q hq' => .inr (by have := hm.size; have := hq q hq'; omega)))
theorem lit0 (w : World) : (w.alloc (.cells #[] 2)).ownsRow w.heap.size 2 1 (.slice (some ⟨w.heap.size, 0, none⟩) 0 0) ([] : List Int).length (vI []) := World.ownsRow_lit (base := w.heap.size) (e := 2) (size := 1) w #[] 0 (Nat.le_refl _) (by unfold maxLen; omega) rfl
/-- A needle is emptied. -/
theorem set_lit0 {w w0 : World} {B g : Nat} {m : Mc} {S S0 : Nat → Spot} (h : MSt w B g m S) (hm : Mv w0 S0 w S) (hB : B ≤ w.heap.size) (n : Int × Int) (hn : ndIn m n) :
    Calls Try.prog 56 #[.pointer (some ⟨g, 0, none⟩), .agg #[.int .i64 n.1, .int .i64 n.2], .slice (some ⟨w.heap.size, 0, none⟩) 0 0] (w.alloc (.cells #[] 2)) (Did w0 S0 B g (.tuple #[]) (setL m n [])) := by
  have hWA : Below w.heap.size w (w.alloc (.cells #[] 2)) := (Below.refl _ _).alloc (Nat.le_refl _) _
  have hMA := h.below hWA
  have hq : ∀ q, (Value.slice (some ⟨w.heap.size, 0, none⟩) 0 0).ownBlock = some q → w.heap.size = q := fun q hq => by injection hq
  exact l07Set_any hMA n hn _ [] (hMA.sp.putX _ (own_base (lit0 w) hB) (fun q hq' e => by have := (h.sp.ge e).2; have := hq q hq'; omega)) ((hm.alloc _).put _ _ (fun q hq' => .inr (by have := hm.size; have := hq q hq'; omega)))
/-- A needle gets a row that is none of the rows. -/
theorem set_row {w w0 : World} {B g : Nat} {m : Mc} {S S0 : Nat → Spot} (h : MSt w B g m S) (hm : Mv w0 S0 w S) (n : Int × Int) (hn : ndIn m n) (v : Value) (l : List Int) (ho : w.ownsRow B 2 1 v l.length (vI l)) (hnew : ∀ q, v.ownBlock = some q → ¬ blk S q ∧ w0.heap.size ≤ q) :
    Calls Try.prog 56 #[.pointer (some ⟨g, 0, none⟩), .agg #[.int .i64 n.1, .int .i64 n.2], v] w (Did w0 S0 B g (.tuple #[]) (setL m n l)) :=
  l07Set_any h n hn v l (h.sp.putX _ ho (fun q hq => (hnew q hq).1)) (hm.put _ _ (fun q hq => .inr (hnew q hq).2))

theorem fm9 {m : Mc} {x : Opr} (h : carOk m x = false) : fmCode m x = 9 := by unfold fmCode; rw [if_pos h]
theorem fm5 {m : Mc} {x : Opr} (h : carOk m x = true) (h1 : 300 ≤ m.ls.length) : fmCode m x = 5 := by unfold fmCode; rw [if_neg (by rw [h]; decide), if_pos h1]
theorem fm1 {m : Mc} {x : Opr} (h : carOk m x = true) (h1 : ¬ 300 ≤ m.ls.length) (hk : x.k = 1) : fmCode m x = 0 := by unfold fmCode; rw [if_neg (by rw [h]; decide), if_neg h1, if_pos hk]
theorem fm25 {m : Mc} {x : Opr} (h : carOk m x = true) (h1 : ¬ 300 ≤ m.ls.length) (hk : x.k = 2) (h4 : 4 ≤ (onL m x.f).length) : fmCode m x = 5 := by unfold fmCode; rw [if_neg (by rw [h]; decide), if_neg h1, if_neg (by omega), if_pos hk, if_pos h4]
theorem fm2 {m : Mc} {x : Opr} (h : carOk m x = true) (h1 : ¬ 300 ≤ m.ls.length) (hk : x.k = 2) (h4 : ¬ 4 ≤ (onL m x.f).length) : fmCode m x = 0 := by unfold fmCode; rw [if_neg (by rw [h]; decide), if_neg h1, if_neg (by omega), if_pos hk, if_neg h4]
theorem fmX {m : Mc} {x : Opr} (h : carOk m x = true) (h1 : ¬ 300 ≤ m.ls.length) (hk : x.k = 5) : fmCode m x = mvCode m x := by unfold fmCode; rw [if_neg (by rw [h]; decide), if_neg h1, if_neg (by omega), if_neg (by omega)]
theorem fmTo1 {m : Mc} {x : Opr} (hk : x.k = 1) : fmTo m x = setL (addLp (carTo m x) x (onL m x.f)) x.f [(m.ls.length : Int)] := by unfold fmTo; rw [if_pos hk]
theorem fmTo2 {m : Mc} {x : Opr} (hk : x.k = 2) : fmTo m x = setL (addLp (carTo m x) x []) x.f (onL m x.f ++ [(m.ls.length : Int)]) := by unfold fmTo; rw [if_neg (by omega), if_pos hk]
theorem fmTo5 {m : Mc} {x : Opr} (hk : x.k = 5) : fmTo m x = setL (addLp (mvTo (carTo m x) x) x (onL m x.f)) x.f [(m.ls.length : Int)] := by unfold fmTo; rw [if_neg (by omega), if_neg (by omega)]

set_option maxHeartbeats 4000000 in
set_option maxRecDepth 100000 in
theorem l07Form_any {w : World} {B g : Nat} {m : Mc} {S : Nat → Spot} (h : MSt w B g m S) (hB : B ≤ w.heap.size) (x : Opr) (b o : Nat) (ho : OpAt w b o x) (hnb : ¬ blk S b) (hok : OkP m) (hk : x.k = 1 ∨ x.k = 2 ∨ x.k = 5) (hc : 1 ≤ x.c ∧ x.c ≤ 4) (hf : ndIn m x.f) (hfa : x.fa ≤ 23)
    (ht : x.k = 5 → ndIn m x.t ∧ x.fb ≠ x.tb ∧ x.ta ≤ 23) :
    Calls Try.prog 51 #[.pointer (some ⟨g, 0, none⟩), .pointer (some ⟨b, o, none⟩)] w (DidC w S B g (fmCode m x) (fmTo m x)) := by
  obtain ⟨i0, hi, hz0, hz1, hz2⟩ := info_parts info_int
  have hl4 := hok.on4 x.f
  obtain ⟨o0, o1, o2, o3, o4, o5, o6, o7⟩ := ho.eight
  have hbw : b < w.heap.size := block_lt_of_cell o0
  have HO := Lib.hid ho
  have HNB := Lib.hid hnb
  have HF := Lib.hid hf
  have HQ := Lib.hid (l07Carry_any h x b o ho hnb hc hok.cs ⟨hf.2.1, hfa⟩ hok.rk)
  have HOK := Lib.hid hok
  have H9 := Lib.hid (fun h => fm9 (m := m) (x := x) h)
  have H5 := Lib.hid (fun h h1 => fm5 (m := m) (x := x) h h1)
  have H1 := Lib.hid (fun h h1 h2 => fm1 (m := m) (x := x) h h1 h2)
  have H25 := Lib.hid (fun h h1 h2 h3 => fm25 (m := m) (x := x) h h1 h2 h3)
  have H2 := Lib.hid (fun h h1 h2 h3 => fm2 (m := m) (x := x) h h1 h2 h3)
  have HX := Lib.hid (fun h h1 h2 => fmX (m := m) (x := x) h h1 h2)
  have HT1 := Lib.hid (fun h => fmTo1 (m := m) (x := x) h)
  have HT2 := Lib.hid (fun h => fmTo2 (m := m) (x := x) h)
  have HT5 := Lib.hid (fun h => fmTo5 (m := m) (x := x) h)
  have HT := Lib.hid ht
  generalize fmCode m x = CC at *
  generalize fmTo m x = M' at *
  clear ho hf hnb hok ht
  cases hco : carOk m x
  · have HC := Lib.hid hco
    clear hco
    go_enter Try.func51, Try.ntmps51
    go_wp2_with fail
    refine (HQ.out).mono ?_
    rintro e w1 ⟨rfl, S1, hm1, hv1⟩
    rw [HC.out]
    have HV1 := Lib.hid hv1
    clear hm1 hv1 o0 o1 o2 o3 o4 o5 o6 o7
    go_wp2
    go_ret
    exact DidC.bad HV1.out (H9.out HC.out) (by omega)
  · have HC := Lib.hid hco
    clear hco
    go_enter Try.func51, Try.ntmps51
    go_wp2_with fail
    refine (HQ.out).mono ?_
    rintro e w1 ⟨rfl, S1, hm1, hv1⟩
    rw [HC.out]
    rw [carIf_yes HC.out] at hm1
    have HV1 := Lib.hid hv1
    have HM1 := Lib.hid hm1
    have HNB1 := Lib.hid (hv1.nblk HNB.out hbw)
    have HO1 : Hid (OpAt w1 b o x) := hv1.only.cells HNB.out HO.out
    have hbw1 : b < w1.heap.size := Nat.lt_of_lt_of_le hbw hv1.size
    have hB1 : B ≤ w1.heap.size := Nat.le_trans hB hv1.size
    obtain ⟨A4, c4, hv4⟩ : ∃ A c, (S1 4).v = .slice A m.ls.length c := by
      obtain ⟨xs, e4, hown4⟩ := hm1.rowL
      obtain ⟨A, c, h1, -⟩ := (OwC.of_own hown4).cells
      exact ⟨A, c, h1⟩
    have x5 : w1.cell? ⟨g, 5, none⟩ = some (.slice A4 m.ls.length c4) := by rw [← hv4]; exact hm1.cells.seven.2.2.2.2.2.1
    clear hm1 hv1 o0 o1 o2 o3 o4 o5 o6 o7 hv4
    obtain ⟨o0, o1, o2, o3, o4, o5, o6, o7⟩ := HO1.out.eight
    by_cases h300 : 300 ≤ m.ls.length
    · have hc5 := Lib.hid (H5.out HC.out h300)
      have h3' : (300 : Int) ≤ (m.ls.length : Int) := by omega
      clear h300
      go_wp2
      go_ret
      exact DidC.bad HV1.out hc5.out (by omega)
    have h3' : ¬ (300 : Int) ≤ (m.ls.length : Int) := by omega
    have HQ2 := Lib.hid (l07On_any HM1.out x.f HF.out)
    have H300 := Lib.hid h300
    clear h300
    go_wp2_with fail
    refine (HQ2.out).mono ?_
    rintro e w2 ⟨rfl, hb2⟩
    have HM2 := Lib.hid (HM1.out.below hb2)
    have HV2 := Lib.hid (HV1.out.below_ hb2)
    have HO2 : Hid (OpAt w2 b o x) := CellsAt.below HO1.out hb2 hbw1
    have hB2 : B ≤ w2.heap.size := Nat.le_trans hB1 hb2.size
    have hbw2 : b < w2.heap.size := Nat.lt_of_lt_of_le hbw1 hb2.size
    obtain ⟨hrd, ⟨Af, cf, hvf, hcf⟩, -⟩ := HM2.out.onR (n := x.f) HF.out
    have HQ3 := Lib.hid (l00OwnR_any _ (onL m x.f) w2 hrd (by omega))
    rw [hvf] at HQ3
    rw [hvf]
    clear o0 o1 o2 o3 o4 o5 o6 o7 x5 hb2 hrd hvf HQ2 HO1
    go_wp2_with fail
    refine (HQ3.out).mono ?_
    rintro e w3 ⟨v3, rfl, hown3, hb3⟩
    obtain ⟨A3, c3, rfl⟩ : ∃ A c, v3 = .slice A (onL m x.f).length c := by
      obtain ⟨A, c, h1, -⟩ := (OwC.of_own hown3).cells
      exact ⟨A, c, h1⟩
    have HM3 := Lib.hid (HM2.out.below hb3)
    have HV3 := Lib.hid (HV2.out.below_ hb3)
    have HO3 : Hid (OpAt w3 b o x) := CellsAt.below HO2.out hb3 hbw2
    have hB3 : B ≤ w3.heap.size := Nat.le_trans hB2 hb3.size
    have hz3 : w2.heap.size ≤ w3.heap.size := hb3.size
    have HOW3 := Lib.hid hown3
    have HNEW := Lib.hid (fun q hq => (World.ownsRow.lt hown3 q hq).1)
    have HRD3 := Lib.hid (RdI.of_own (OwC.of_own hown3))
    clear hown3 hb3 HO2 HQ3
    obtain ⟨o0, o1, o2, o3, o4, o5, o6, o7⟩ := HO3.out.eight
    rcases hk with hk | hk | hk
    · have hc0 := Lib.hid (H1.out HC.out H300.out hk)
      have HQM := Lib.hid (l07Make_any HM3.out.drew hB3 x b o HO3.out HNB1.out _ (onL m x.f) HRD3.out hl4 (by have := H300.out; show m.ls.length < 300; omega))
      rw [hk] at o0
      go_wp2
      go_region_held3 (fun w' => w'.cell? ⟨b, o + 2, none⟩ = some (.int .i64 x.fb) ∧ w'.cell? ⟨b, o + 3, none⟩ = some (.int .i64 x.fa))
        (first | exact ⟨o2, o3⟩ | exact ⟨t2, t3⟩ | exact ⟨r2, r3⟩ | exact ⟨u2, u3⟩ | go_keep)
        (first
          | (go_at_call 70; refine (HQM.out).mono ?_; rintro e w4 ⟨rfl, S4, hm4, hv4⟩; have hv4' := HV3.out.drew.trans hv4; obtain ⟨-, -, t2, t3, -, -, -, -⟩ := (hv4'.only.cells HNB.out HO.out).eight; have hB4 := Nat.le_trans hB hv4'.size; have hqs := set_lit1 hm4 hv4' hB4 x.f HF.out ((carTo m x).ls.length : Int))
          | (go_at_call 56; refine hqs.mono ?_; rintro e w5 ⟨rfl, S5, hm5, hv5⟩; obtain ⟨-, -, u2, u3, -, -, -, -⟩ := (hv5.only.cells HNB.out HO.out).eight))
      have HFIN : Hid (DidC w S B g CC M' (.returned (.int .i64 0)) w5) := ⟨by rw [hc0.out], S5, hv5, fun _ => by rw [HT1.out hk]; exact hm5⟩
      clear hm5 hv5 hqs hm4 hv4 hv4' t2 t3 u2 u3
      go_wp2
      go_ret
      exact HFIN.out
    · by_cases h4 : 4 ≤ (onL m x.f).length
      · have hc5 := Lib.hid (H25.out HC.out H300.out hk h4)
        have h4' : (4 : Int) ≤ ((onL m x.f).length : Int) := by omega
        rw [hk] at o0
        clear h4
        go_wp2
        go_ret
        exact DidC.bad HV3.out hc5.out (by omega)
      · have hc0 := Lib.hid (H2.out HC.out H300.out hk h4)
        have h4' : ¬ (4 : Int) ≤ ((onL m x.f).length : Int) := by omega
        have HQM := Lib.hid (l07Make_any HM3.out.drew hB3 x b o HO3.out HNB1.out (.slice none 0 0) [] ⟨none, 0, 0, rfl, by omega, rfl, fun k hk => absurd hk (by omega)⟩ (by simp) (by have := H300.out; show m.ls.length < 300; omega))
        rw [hk] at o0
        go_wp2
        go_region_held3 (fun w' => w'.cell? ⟨b, o + 2, none⟩ = some (.int .i64 x.fb) ∧ w'.cell? ⟨b, o + 3, none⟩ = some (.int .i64 x.fa))
          (first | exact ⟨o2, o3⟩ | exact ⟨t2, t3⟩ | exact ⟨r2, r3⟩ | exact ⟨u2, u3⟩ | go_keep)
          (first
            | (go_at_call 70; refine (HQM.out).mono ?_; rintro e w4 ⟨rfl, S4, hm4, hv4⟩; have hv4' := HV3.out.drew.trans hv4; obtain ⟨-, -, t2, t3, -, -, -, -⟩ := (hv4'.only.cells HNB.out HO.out).eight; have hB4 := Nat.le_trans hB hv4'.size; have hown4 := hv4.only.own (show (w3.drew).ownsRow w2.heap.size 2 1 (.slice A3 (onL m x.f).length c3) (onL m x.f).length (vI (onL m x.f)) from HOW3.out) (fun q hq e => by have := (HM2.out.sp.ge e).2; have := HNEW.out q hq; omega); have hz4 : w2.heap.size ≤ w4.heap.size := Nat.le_trans hz3 hv4.size)
            | (refine step_append_lies _ (by rfl) _ _ _ (by rfl) w2.heap.size 2 i0 _ 1 8 Try.underlying39 hi hz0 hz1 hz2 rfl (by omega) (.slice A3 (onL m x.f).length c3) (onL m x.f).length (vI (onL m x.f)) (by rfl) (hown4.alloc _) ⟨w4.heap.size, 0, none⟩ 1 1 [.int .i64 ((carTo m x).ls.length : Int)] (by rfl) (by rfl) (World.news_of_block (cs := #[.int .i64 ((carTo m x).ls.length : Int)]) (t := 2) (fr := (0, 0)) (heap_alloc_new w4 _)) (by simp [Value.oneCell']) (by omega) (by unfold maxLen; omega) (by omega) (by simp; omega) (w4.heap.size + 1) (by simp) ?_; intro gg cap w5 hown5 hgrow5 hat5 hlt5; have hnb4 : ∀ q, (Value.slice A3 (onL m x.f).length c3).ownBlock = some q → ¬ blk S4 q := fun q hq e => (hv4.nblk (S := S1) (fun e' => by have := (HM2.out.sp.ge e').2; have := HNEW.out q hq; omega) (by have := (World.ownsRow.lt HOW3.out q hq).2; exact this)) e; have hWA : Below w4.heap.size w4 (w4.alloc (.cells #[.int .i64 ((carTo m x).ls.length : Int)] 2)) := (Below.refl _ _).alloc (Nat.le_refl _) _; have hm5 := (hm4.below hWA).keep (w' := w5) (fun j q hq => hgrow5.block q (by have := (hm4.sp.ge ⟨j, hq⟩).2; simp; omega) (fun e => hnb4 q e.symm ⟨j, hq⟩)); have hv5 : Mv w S w5 S4 := ⟨(hv4'.only.trans (OnlyT.of_below hWA)).grown hgrow5 (fun q hq => .inr (by have := HNEW.out q hq; have := HV2.out.size; omega)), hv4'.new⟩; obtain ⟨-, -, r2, r3, -, -, -, -⟩ := (hv5.only.cells HNB.out HO.out).eight; have hnew5 : ∀ q, (Value.slice (some ⟨gg, 0, none⟩) ((onL m x.f).length + 1) cap).ownBlock = some q → ¬ blk S4 q ∧ w.heap.size ≤ q := fun q hq => (by injection hq with hq; have hq' : gg = q := hq; subst hq'; rcases hat5 with h9 | h9; exact ⟨hnb4 _ h9, by have := HNEW.out _ h9; have := HV2.out.size; omega⟩; exact ⟨fun e => by have := (hm4.sp.ge e).2; omega, by have := hv4'.size; omega⟩); have hqs := set_row hm5 hv5 x.f HF.out _ (onL m x.f ++ [(m.ls.length : Int)]) (by (rw [List.length_append, vI_append]; exact own_base hown5 (Nat.le_trans hB HV2.out.size))) hnew5)
            | (go_at_call 56; refine hqs.mono ?_; rintro e w6 ⟨rfl, S6, hm6, hv6⟩; obtain ⟨-, -, u2, u3, -, -, -, -⟩ := (hv6.only.cells HNB.out HO.out).eight))
        have HFIN : Hid (DidC w S B g CC M' (.returned (.int .i64 0)) w6) := ⟨by rw [hc0.out], S6, hv6, fun _ => by rw [HT2.out hk]; exact hm6⟩
        clear hm6 hv6 hqs hm5 hv5 hm4 hv4 hv4' t2 t3 u2 u3 r2 r3 hown4 hown5 hgrow5 hnb4 hnew5
        go_wp2
        go_ret
        exact HFIN.out
    · have hT5 := HT.out hk
      have hneb : x.fb ≠ x.tb := hT5.2.1
      have HQV := Lib.hid (l07Move_any HM3.out hB3 x b o HO3.out HNB1.out HF.out hT5.1 hT5.2.1 (HOK.out.carTo HC.out HF.out.2.1 (by have h1 : x.fa.toNat < m.fr.length := HF.out.2.2.1; have h2 := HOK.out.fr; have h3 : 0 ≤ x.fa := HF.out.2.1; omega)) hfa hT5.2.2)
      have hcx := Lib.hid (show CC = mvCode (carTo m x) x from HX.out HC.out H300.out hk)
      have HZ := Lib.hid (fun h => mvCode_zero (m := carTo m x) (o := x) h)
      generalize mvCode (carTo m x) x = MC at *
      rw [hk] at o0
      clear hT5 hneb
      go_wp2_with fail
      refine (HQV.out).mono ?_
      rintro e w5 ⟨rfl, S5, hv5, hm5⟩
      have HV5 := Lib.hid (HV3.out.trans hv5)
      have HO5 : Hid (OpAt w5 b o x) := HV5.out.only.cells HNB.out HO.out
      have HOW5 := Lib.hid (hv5.only.own HOW3.out (fun q hq e => by have := (HM2.out.sp.ge e).2; have := HNEW.out q hq; omega))
      have hB5 : B ≤ w5.heap.size := Nat.le_trans hB HV5.out.size
      have HNB5 := Lib.hid (HV5.out.nblk HNB.out hbw)
      clear hv5 HQV o0 o1 o2 o3 o4 o5 o6 o7
      obtain ⟨o0, o1, o2, o3, o4, o5, o6, o7⟩ := HO5.out.eight
      by_cases hmc : MC = 0
      · subst hmc
        have hm5' := hm5 rfl
        have hc0 := Lib.hid (show CC = 0 from hcx.out)
        have hn5 : ndIn (mvTo (carTo m x) x) x.f := ndIn_set _ (ndIn_set _ HF.out)
        have hls5 : (mvTo (carTo m x) x).ls.length = m.ls.length := by unfold mvTo; rw [(setL_fr _ _ _).2.2.2.2.2.1, (setL_fr _ _ _).2.2.2.2.2.1]; rfl
        have HQM := Lib.hid (l07Make_any hm5'.drew hB5 x b o HO5.out HNB5.out _ (onL m x.f) (RdI.of_own (OwC.of_own HOW5.out)) hl4 (by have := H300.out; omega))
        clear hm5 hm5'
        go_wp2
        go_region_held3 (fun w' => w'.cell? ⟨b, o + 2, none⟩ = some (.int .i64 x.fb) ∧ w'.cell? ⟨b, o + 3, none⟩ = some (.int .i64 x.fa))
          (first | exact ⟨o2, o3⟩ | exact ⟨t2, t3⟩ | exact ⟨r2, r3⟩ | exact ⟨u2, u3⟩ | go_keep)
          (first
            | (go_at_call 70; refine (HQM.out).mono ?_; rintro e w4 ⟨rfl, S4, hm4, hv4⟩; have hv4' := HV5.out.drew.trans hv4; obtain ⟨-, -, t2, t3, -, -, -, -⟩ := (hv4'.only.cells HNB.out HO.out).eight; have hB4 := Nat.le_trans hB hv4'.size; have hqs := set_lit1 hm4 hv4' hB4 x.f hn5 (m.ls.length : Int))
            | (go_at_call 56; refine hqs.mono ?_; rintro e w5 ⟨rfl, S5, hm5, hv5⟩; obtain ⟨-, -, u2, u3, -, -, -, -⟩ := (hv5.only.cells HNB.out HO.out).eight))
        have HFIN : Hid (DidC w S B g CC M' (.returned (.int .i64 0)) w5) := ⟨by rw [hc0.out], S5, hv5, fun _ => by rw [HT5.out hk]; exact hm5⟩
        clear hm5 hv5 hqs hm4 hv4 hv4' t2 t3 u2 u3
        go_wp2
        go_ret
        exact HFIN.out
      · have hmn : (MC != 0) = true := by simpa using hmc
        have HMC := Lib.hid hmc
        clear hmc hm5
        go_wp2
        go_ret
        exact DidC.bad HV5.out hcx.out HMC.out

end Go.Proofs.Ytolcgopfbbmjgaa
