/-
  The reference's l07Carry and l07In on a machine of its own.
-/
import Derived.Test.YtogaellhkjjeaaaDoA
namespace Go.Proofs.Ytogaellhkjjeaaa
set_option linter.unusedVariables false
set_option linter.unusedSimpArgs false
open Go.RowKit

/-- The machine behind l07Carry. -/
def carIf (m : Mc) (x : Opr) : Mc := if carOk m x = true then carTo m x else m
theorem setC_twice (m : Mc) (c : Int) (a b : Car) : setC (setC m c a) c b = setC m c b := by
  unfold setC
  simp
theorem carAt_setC {m : Mc} {c : Int} (a : Car) (h : (c - 1).toNat < m.cs.length) : carAt (setC m c a) c = a := by
  unfold carAt setC
  show (m.cs.set _ _).getD _ _ = _
  rw [List.getD_eq_getElem?_getD, List.getElem?_set_self h]; rfl
theorem carOk_of {m : Mc} {x : Opr} {P p : Int} {i : Bool} (h : plcO m x = P) (hi : (carAt m x.c).i = i) (hp : (carAt m x.c).p = p) : carOk m x = (i && (!(decide (x.d = 1) && decide (P < p)) && !(decide (x.d = -1) && decide (p < P + 1)))) := by
  unfold carOk
  rw [h, hi, hp]
theorem carIf_no {m : Mc} {x : Opr} (h : carOk m x = false) : carIf m x = m := by unfold carIf; rw [h]; rfl
theorem carIf_yes {m : Mc} {x : Opr} (h : carOk m x = true) : carIf m x = carTo m x := by unfold carIf; rw [h]; rfl
set_option maxHeartbeats 2000000 in
theorem l07Carry_any {w : World} {B g : Nat} {m : Mc} {S : Nat → Spot} (h : MSt w B g m S) (x : Opr) (b o : Nat) (ho : OpAt w b o x) (hnb : ¬ blk S b) (hc : 1 ≤ x.c ∧ x.c ≤ 4) (hcs : m.cs.length = 4) (hf : 0 ≤ x.fa ∧ x.fa ≤ 23)
    (hr : -3 ≤ m.rk ∧ m.rk ≤ 3) : Calls Try.prog 172 #[.pointer (some ⟨g, 0, none⟩), .pointer (some ⟨b, o, none⟩)] w (Did w S B g (.bool (carOk m x)) (carIf m x)) := by
  obtain ⟨k, d, fb, fa, tb, ta, c, r⟩ := x
  obtain ⟨c1, c4⟩ := hc
  have c1' : 1 ≤ c := c1
  have c4' : c ≤ 4 := c4
  obtain ⟨j, rfl⟩ : ∃ j : Nat, c = (j : Int) + 1 := ⟨(c - 1).toNat, by omega⟩
  obtain ⟨bc, cp, hv, hbl, hBc, hbw, hoc, hc0, hc1, hfc⟩ := h.cars ((j : Int) + 1) c1' (by omega)
  have hj : ((j : Int) + 1 - 1).toNat = j := by omega
  rw [hj] at hc0 hc1
  rw [hcs] at hv
  obtain ⟨x0, x1, x2, x3, x4, x5, x6⟩ := h.cells.seven
  rw [hv] at x4
  obtain ⟨f0, f1⟩ := hf
  obtain ⟨r0, r1⟩ := hr
  have f0' : 0 ≤ fa := f0
  have f1' : fa ≤ 23 := f1
  obtain ⟨o0, o1, o2, o3, o4, o5, o6, o7⟩ := ho.eight
  have HO := Lib.hid ho
  have HM := Lib.hid h
  have HNB := Lib.hid hnb
  have hjl : (j : Int) < 4 := by omega
  have hj0 : (0 : Int) ≤ (j : Int) := by omega
  clear h ho hv c1 c4 c1' c4' f0 f1
  go_enter Try.func172, Try.ntmps172
  go_wp2
  go_quiet (fail)
  have HM1 := Lib.hid (HM.out.drewN nq)
  have HO1 : Hid (OpAt (w.drewN nq) b o ⟨k, d, fb, fa, tb, ta, (j : Int) + 1, r⟩) := HO.out
  have HB1 := Lib.hid (below_drewN (Below.refl w.heap.size w) nq)
  have hz1 : (w.drewN nq).heap.size = w.heap.size := rfl
  clear x0 x1 x2 x3 x4 x5 x6 o0 o1 o2 o3 o4 o5 o6 o7 hc0 hc1 hfc HM HO
  generalize w.drewN nq = w1 at *
  clear nq
  have hg8 := HO1.out.grow8
  obtain ⟨-, -, o2, o3, -⟩ := hg8
  have x1 : ∀ X, (wgrow w1 X).cell? ⟨g, 0 + 1, none⟩ = some (.int .i64 m.rk) := fun X => HM1.out.cells.grow X 1 _ rfl
  have HQ := Lib.hid (fun X => l07Place_any fb fa m.rk (by omega) (by omega) (by omega) (by omega) X)
  have hPb : -100 ≤ plc fb fa m.rk ∧ plc fb fa m.rk ≤ 100 := by unfold plc; split <;> omega
  generalize hP : plc fb fa m.rk = P at *
  obtain ⟨p0, p1⟩ := hPb
  have HP := Lib.hid hP
  clear hP
  go_wp2
  refine wp_region_grow (by kernel_rfl) (by kernel_rfl) ?_
  repeat (go_big_quiet_step ((go_at_call 185; exact calls_grow (HQ.out _))))
  refine wpQuiet_nil ?_
  intro w2 hb2
  have HM2 := Lib.hid (HM1.out.below hb2)
  have HO2 := Lib.hid (CellsAt.below HO1.out hb2 (block_lt_of_cell HO1.out.eight.1))
  have HB2 := Lib.hid (HB1.out.trans (hb2.mono HB1.out.size))
  clear hb2 x1 o2 o3 HM1 HO1 HB1 HQ
  obtain ⟨bc', cp', hv', -, -, -, hoc', hc0, hc1, hfc⟩ := HM2.out.cars ((j : Int) + 1) (by omega) (by omega)
  rw [hoc] at hoc'
  injection hoc' with hoc'
  subst hoc'
  rw [hj] at hc0 hc1
  obtain ⟨o0, o1, -⟩ := HO2.out.eight
  have hff := hfc (j * 2 + 1)
  have HMV := Lib.hid (Mv.of_below (S := S) HB2.out)
  have HOK := Lib.hid (fun i p => carOk_of (m := m) (x := ⟨k, d, fb, fa, tb, ta, (j : Int) + 1, r⟩) (P := P) (i := i) (p := p) HP.out)
  have HSET := Lib.hid (fun p => HM2.out.setCp (c := (j : Int) + 1) (by omega) (by omega) hoc p HMV.out)
  have HAT := Lib.hid (fun a => carAt_setC (m := m) (c := (j : Int) + 1) a (by omega))
  rw [hj] at HSET
  have HTO := Lib.hid (show carTo m ⟨k, d, fb, fa, tb, ta, (j : Int) + 1, r⟩ = setC m ((j : Int) + 1) ⟨(carAt m ((j : Int) + 1)).i, if d = 1 then P + 1 else P⟩ by unfold carTo; rw [show plcO m ⟨k, d, fb, fa, tb, ta, (j : Int) + 1, r⟩ = P from HP.out])
  generalize hci : (carAt m ((j : Int) + 1)).i = ci at *
  generalize hcp : (carAt m ((j : Int) + 1)).p = pp at *
  have HNO := Lib.hid (fun (hk : carOk m ⟨k, d, fb, fa, tb, ta, (j : Int) + 1, r⟩ = false) => show Did w S B g (.bool (carOk m ⟨k, d, fb, fa, tb, ta, (j : Int) + 1, r⟩)) (carIf m ⟨k, d, fb, fa, tb, ta, (j : Int) + 1, r⟩) (.returned (.bool false)) w2 from ⟨by rw [hk], S, by rw [carIf_no hk]; exact HM2.out, HMV.out⟩)
  have HYES := Lib.hid (fun (hk : carOk m ⟨k, d, fb, fa, tb, ta, (j : Int) + 1, r⟩ = true) (W : World) (h : ∃ S', MSt W B g (carTo m ⟨k, d, fb, fa, tb, ta, (j : Int) + 1, r⟩) S' ∧ Mv w S W S') => show Did w S B g (.bool (carOk m ⟨k, d, fb, fa, tb, ta, (j : Int) + 1, r⟩)) (carIf m ⟨k, d, fb, fa, tb, ta, (j : Int) + 1, r⟩) (.returned (.bool true)) W from by
    obtain ⟨S', h1, h2⟩ := h
    exact ⟨by rw [hk], S', by rw [carIf_yes hk]; exact h1, h2⟩)
  have hk := HOK.out ci pp rfl rfl
  clear HOK hci hcp
  have hne : bc ≠ b := fun e => HNB.out (by rw [← e]; exact hbl)
  have HOS := Lib.hid (fun u => (World.cell?_setCell_other w2 ⟨bc, j * 2 + 1, none⟩ ⟨b, o + 1, none⟩ u (by intro e; injection e with e; exact hne e)).trans o1)
  cases ci
  · have hk' := Lib.hid (HNO.out (by rw [hk]; rfl))
    clear hk HNO HYES
    go_wp2
    go_ret
    exact hk'.out
  by_cases hd1 : d = 1
  · subst hd1
    by_cases hg : P < pp
    · have hk' := Lib.hid (HNO.out (by rw [hk]; simp [hg]))
      clear hk HNO HYES
      go_wp2
      go_ret
      exact hk'.out
    · have HK := Lib.hid (HYES.out (by rw [hk]; simp [hg]))
      clear hk HNO HYES
      have o1s := HOS.out (.int .i64 P)
      go_wp2
      go_ret
      refine HK.out _ ?_
      rw [HTO.out, if_pos trivial]
      obtain ⟨S1, k1, k2, k3⟩ := HSET.out P
      obtain ⟨S2, m1, m2, m3⟩ := k1.setCp (c := (j : Int) + 1) (by omega) (by show (j : Int) + 1 - 1 < ((m.cs.set _ _).length : Int); rw [List.length_set]; omega) k3 (P + 1) k2
      rw [setC_twice, HAT.out, hj] at m1
      rw [hj] at m2
      exact ⟨S2, m1, m2⟩
  · have hd0 : (d == 1) = false := by simpa using hd1
    have o1s := HOS.out (.int .i64 P)
    by_cases hd2 : d = -1
    · subst hd2
      by_cases hg : pp < P + 1
      · have hk' := Lib.hid (HNO.out (by rw [hk]; simp [hg]))
        clear hk HNO HYES
        go_wp2
        go_ret
        exact hk'.out
      · have HK := Lib.hid (HYES.out (by rw [hk]; simp [hg]))
        clear hk HNO HYES
        go_wp2
        go_ret
        refine HK.out _ ?_
        rw [HTO.out, if_neg (by omega)]
        obtain ⟨S1, k1, k2, k3⟩ := HSET.out P
        exact ⟨S1, k1, k2⟩
    · have hd3 : (d == -1) = false := by simpa using hd2
      have HK := Lib.hid (HYES.out (by rw [hk]; simp [hd1, hd2]))
      have HD := Lib.hid hd1
      clear hk HNO HYES hd1 hd2
      go_wp2
      go_ret
      refine HK.out _ ?_
      rw [HTO.out, if_neg HD.out]
      obtain ⟨S1, k1, k2, k3⟩ := HSET.out P
      exact ⟨S1, k1, k2⟩

/-- Brought in: put to nothing, then in, then to a place. -/
theorem MSt.carIn {w w0 : World} {B g b : Nat} {m : Mc} {S S0 : Nat → Spot} (h : MSt w B g m S) {j : Nat} (h4 : j < m.cs.length) (ho : (S 3).v.ownBlock = some b) (p : Int) (hm : Mv w0 S0 w S) :
    ∃ S', MSt ((((w.setCell ⟨b, j * 2, none⟩ (.bool false)).setCell ⟨b, j * 2 + 1, none⟩ (.int .i64 0)).setCell ⟨b, j * 2, none⟩ (.bool true)).setCell ⟨b, j * 2 + 1, none⟩ (.int .i64 p)) B g (setC m ((j : Int) + 1) ⟨true, p⟩) S' ∧
      Mv w0 S0 ((((w.setCell ⟨b, j * 2, none⟩ (.bool false)).setCell ⟨b, j * 2 + 1, none⟩ (.int .i64 0)).setCell ⟨b, j * 2, none⟩ (.bool true)).setCell ⟨b, j * 2 + 1, none⟩ (.int .i64 p)) S' ∧ (S' 3).v.ownBlock = some b := by
  have hj : ((j : Int) + 1 - 1).toNat = j := by omega
  obtain ⟨S1, k1, k2, k3⟩ := h.setCb (c := (j : Int) + 1) (by omega) (by omega) ho false 0 hm
  obtain ⟨S2, l1, l2, l3⟩ := k1.setCi (c := (j : Int) + 1) (by omega) (by show (j : Int) + 1 - 1 < ((m.cs.set _ _).length : Int); rw [List.length_set]; omega) k3 true k2
  rw [setC_twice, carAt_setC _ (by omega)] at l1
  obtain ⟨S3, m1, m2, m3⟩ := l1.setCp (c := (j : Int) + 1) (by omega) (by show (j : Int) + 1 - 1 < ((m.cs.set _ _).length : Int); rw [List.length_set]; omega) l3 p l2
  rw [setC_twice, carAt_setC _ (by omega)] at m1
  simp only [hj] at m1 m2
  exact ⟨S3, m1, m2, m3⟩
/-- The code of l07In. -/
def inC (m : Mc) (x : Opr) : Int := if (carAt m x.c).i = decide (x.k = 8) then 9 else 0
/-- The machine behind l07In. -/
def inM (m : Mc) (x : Opr) : Mc := setC m x.c (if x.k = 8 then ⟨true, if x.d = -1 then m.wd + 3 else -3⟩ else ⟨false, 0⟩)
/-- What a step of a machine gives: a code; if that is OK, the machine behind it. -/
def DidC (w0 : World) (S0 : Nat → Spot) (B g : Nat) (code : Int) (m : Mc) (e : Ending) (w' : World) : Prop := e = .returned (.int .i64 code) ∧ ∃ S', Mv w0 S0 w' S' ∧ (code = 0 → MSt w' B g m S')
set_option maxHeartbeats 2000000 in
theorem l07In_any {w : World} {B g : Nat} {m : Mc} {S : Nat → Spot} (h : MSt w B g m S) (x : Opr) (b o : Nat) (ho : OpAt w b o x) (hnb : ¬ blk S b) (hc : 1 ≤ x.c ∧ x.c ≤ 4) (hcs : m.cs.length = 4) (hk : x.k = 8 ∨ x.k = 9)
    (hwd : 1 ≤ m.wd ∧ m.wd ≤ 24) : Calls Try.prog 176 #[.pointer (some ⟨g, 0, none⟩), .pointer (some ⟨b, o, none⟩)] w (DidC w S B g (inC m x) (inM m x)) := by
  obtain ⟨k, d, fb, fa, tb, ta, c, r⟩ := x
  obtain ⟨c1, c4⟩ := hc
  have c1' : 1 ≤ c := c1
  have c4' : c ≤ 4 := c4
  have hk' : k = 8 ∨ k = 9 := hk
  obtain ⟨j, rfl⟩ : ∃ j : Nat, c = (j : Int) + 1 := ⟨(c - 1).toNat, by omega⟩
  obtain ⟨bc, cp, hv, hbl, hBc, hbw, hoc, hc0, hc1, hfc⟩ := h.cars ((j : Int) + 1) c1' (by omega)
  have hj : ((j : Int) + 1 - 1).toNat = j := by omega
  rw [hj] at hc0 hc1
  rw [hcs] at hv
  obtain ⟨x0, x1, x2, x3, x4, x5, x6⟩ := h.cells.seven
  rw [hv] at x4
  obtain ⟨w0, w1⟩ := hwd
  obtain ⟨o0, o1, o2, o3, o4, o5, o6, o7⟩ := ho.eight
  have HO := Lib.hid ho
  have HM := Lib.hid h
  have HNB := Lib.hid hnb
  have hjl : (j : Int) < 4 := by omega
  have hj0 : (0 : Int) ≤ (j : Int) := by omega
  have hIC : inC m ⟨k, d, fb, fa, tb, ta, (j : Int) + 1, r⟩ = (if (carAt m ((j : Int) + 1)).i = decide (k = 8) then 9 else 0) := rfl
  have hIM : inM m ⟨k, d, fb, fa, tb, ta, (j : Int) + 1, r⟩ = setC m ((j : Int) + 1) (if k = 8 then ⟨true, if d = -1 then m.wd + 3 else -3⟩ else ⟨false, 0⟩) := rfl
  generalize inC m ⟨k, d, fb, fa, tb, ta, (j : Int) + 1, r⟩ = IC at *
  generalize inM m ⟨k, d, fb, fa, tb, ta, (j : Int) + 1, r⟩ = IM at *
  generalize hci : (carAt m ((j : Int) + 1)).i = ci at *
  have HIM := Lib.hid hIM
  have HCI := Lib.hid hci
  clear h ho hv c1 c4 c1' c4' hk hIM hci
  have hz : IC = 9 ∨ IC = 0 := by rw [hIC]; split <;> simp
  rcases hk' with rfl | rfl <;> cases ci
  · have hz : IC = 0 := by rw [hIC]; rfl
    subst hz
    clear hIC
    go_enter Try.func176, Try.ntmps176
    go_wp2
    go_quiet (fail)
    have HM1 := Lib.hid (HM.out.drewN nq)
    have HO1 : Hid (OpAt (w.drewN nq) b o ⟨8, d, fb, fa, tb, ta, (j : Int) + 1, r⟩) := HO.out
    have HB1 := Lib.hid (below_drewN (Below.refl w.heap.size w) nq)
    clear x0 x1 x2 x3 x4 x5 x6 o0 o1 o2 o3 o4 o5 o6 o7 hc0 hc1 hfc HM HO
    generalize w.drewN nq = w1 at *
    clear nq
    obtain ⟨bc', cp', hv', -, -, -, hoc', hc0, hc1, hfc⟩ := HM1.out.cars ((j : Int) + 1) (by omega) (by omega)
    rw [hoc] at hoc'
    injection hoc' with hoc'
    subst hoc'
    rw [hj] at hc0 hc1
    rw [HCI.out] at hc0
    obtain ⟨o0, o1, -⟩ := HO1.out.eight
    go_wp2
    go_quiet (fail)
    have HM2 := Lib.hid (HM1.out.drewN nq)
    have HO2 : Hid (OpAt (w1.drewN nq) b o ⟨8, d, fb, fa, tb, ta, (j : Int) + 1, r⟩) := HO1.out
    have HB2 := Lib.hid (below_drewN HB1.out nq)
    have q0 : (w1.drewN nq).cell? ⟨bc, j * 2, none⟩ = _ := hc0
    have q1 : (w1.drewN nq).cell? ⟨bc, j * 2 + 1, none⟩ = _ := hc1
    have qf : ∀ i, (w1.drewN nq).frozen? ⟨bc, i, none⟩ = false := hfc
    clear o0 o1 hc0 hc1 hfc HM1 HO1 HB1
    generalize w1.drewN nq = w2 at *
    clear nq
    obtain ⟨o0, o1, -⟩ := HO2.out.eight
    obtain ⟨x0, -⟩ := HM2.out.cells.seven
    have hne : bc ≠ b := fun e => HNB.out (by rw [← e]; exact hbl)
    have hng : bc ≠ g := fun e => HM2.out.sp.dis (i := 3) (j := 0) (by omega) (by rw [hoc, e]) HM2.out.gbox
    have hfb := far_cell hne
    have hfg := far_cell hng
    have hn1 := near_cell (show j * 2 ≠ j * 2 + 1 by omega) bc
    have hn0 := near_cell (show j * 2 + 1 ≠ j * 2 by omega) bc
    have HMV := Lib.hid (Mv.of_below (S := S) HB2.out)
    have qf0 := qf (j * 2)
    have qf1 := qf (j * 2 + 1)
    clear qf
    go_wp2
    all_goals go_ret
    all_goals refine ⟨rfl, ?_⟩
    · obtain ⟨S1, k1, k2, k3⟩ := HM2.out.carIn (j := j) (by omega) hoc (-3) HMV.out
      obtain ⟨S2, l1, l2, l3⟩ := k1.setCp (c := (j : Int) + 1) (by omega) (by show (j : Int) + 1 - 1 < ((m.cs.set _ _).length : Int); rw [List.length_set]; omega) k3 (m.wd + 3) k2
      rw [setC_twice, carAt_setC _ (by omega)] at l1
      simp only [hj] at l1 l2
      have hd1 : d = -1 := by simpa using ‹(d == -1) = true›
      refine ⟨S2, l2, fun _ => ?_⟩
      rw [HIM.out, if_pos trivial, if_pos hd1]
      exact l1
    · obtain ⟨S1, k1, k2, k3⟩ := HM2.out.carIn (j := j) (by omega) hoc (-3) HMV.out
      have hd1 : ¬ d = -1 := by simpa using ‹(d == -1) = false›
      refine ⟨S1, k2, fun _ => ?_⟩
      rw [HIM.out, if_pos trivial, if_neg hd1]
      exact k1
  · have hz : IC = 9 := by rw [hIC]; rfl
    subst hz
    clear hIC
    go_enter Try.func176, Try.ntmps176
    go_wp2
    go_quiet (fail)
    have HM1 := Lib.hid (HM.out.drewN nq)
    have HO1 : Hid (OpAt (w.drewN nq) b o ⟨8, d, fb, fa, tb, ta, (j : Int) + 1, r⟩) := HO.out
    have HB1 := Lib.hid (below_drewN (Below.refl w.heap.size w) nq)
    clear x0 x1 x2 x3 x4 x5 x6 o0 o1 o2 o3 o4 o5 o6 o7 hc0 hc1 hfc HM HO
    generalize w.drewN nq = w1 at *
    clear nq
    obtain ⟨bc', cp', hv', -, -, -, hoc', hc0, hc1, hfc⟩ := HM1.out.cars ((j : Int) + 1) (by omega) (by omega)
    rw [hoc] at hoc'
    injection hoc' with hoc'
    subst hoc'
    rw [hj] at hc0 hc1
    rw [HCI.out] at hc0
    obtain ⟨o0, o1, -⟩ := HO1.out.eight
    go_wp2
    go_quiet (fail)
    go_wp2
    go_ret
    exact ⟨rfl, S, (Mv.of_below HB1.out).drewN _, fun e => by omega⟩
  · have hz : IC = 9 := by rw [hIC]; rfl
    subst hz
    clear hIC
    go_enter Try.func176, Try.ntmps176
    go_wp2
    go_quiet (fail)
    have HM1 := Lib.hid (HM.out.drewN nq)
    have HO1 : Hid (OpAt (w.drewN nq) b o ⟨9, d, fb, fa, tb, ta, (j : Int) + 1, r⟩) := HO.out
    have HB1 := Lib.hid (below_drewN (Below.refl w.heap.size w) nq)
    clear x0 x1 x2 x3 x4 x5 x6 o0 o1 o2 o3 o4 o5 o6 o7 hc0 hc1 hfc HM HO
    generalize w.drewN nq = w1 at *
    clear nq
    obtain ⟨bc', cp', hv', -, -, -, hoc', hc0, hc1, hfc⟩ := HM1.out.cars ((j : Int) + 1) (by omega) (by omega)
    rw [hoc] at hoc'
    injection hoc' with hoc'
    subst hoc'
    rw [hj] at hc0 hc1
    rw [HCI.out] at hc0
    obtain ⟨o0, o1, -⟩ := HO1.out.eight
    go_wp2
    go_quiet (fail)
    go_wp2
    go_ret
    exact ⟨rfl, S, (Mv.of_below HB1.out).drewN _, fun e => by omega⟩
  · have hz : IC = 0 := by rw [hIC]; rfl
    subst hz
    clear hIC
    go_enter Try.func176, Try.ntmps176
    go_wp2
    go_quiet (fail)
    have HM1 := Lib.hid (HM.out.drewN nq)
    have HO1 : Hid (OpAt (w.drewN nq) b o ⟨9, d, fb, fa, tb, ta, (j : Int) + 1, r⟩) := HO.out
    have HB1 := Lib.hid (below_drewN (Below.refl w.heap.size w) nq)
    clear x0 x1 x2 x3 x4 x5 x6 o0 o1 o2 o3 o4 o5 o6 o7 hc0 hc1 hfc HM HO
    generalize w.drewN nq = w1 at *
    clear nq
    obtain ⟨bc', cp', hv', -, -, -, hoc', hc0, hc1, hfc⟩ := HM1.out.cars ((j : Int) + 1) (by omega) (by omega)
    rw [hoc] at hoc'
    injection hoc' with hoc'
    subst hoc'
    rw [hj] at hc0 hc1
    rw [HCI.out] at hc0
    obtain ⟨o0, o1, -⟩ := HO1.out.eight
    go_wp2
    go_quiet (fail)
    have HM2 := Lib.hid (HM1.out.drewN nq)
    have HO2 : Hid (OpAt (w1.drewN nq) b o ⟨9, d, fb, fa, tb, ta, (j : Int) + 1, r⟩) := HO1.out
    have HB2 := Lib.hid (below_drewN HB1.out nq)
    have q0 : (w1.drewN nq).cell? ⟨bc, j * 2, none⟩ = _ := hc0
    have q1 : (w1.drewN nq).cell? ⟨bc, j * 2 + 1, none⟩ = _ := hc1
    have qf : ∀ i, (w1.drewN nq).frozen? ⟨bc, i, none⟩ = false := hfc
    clear o0 o1 hc0 hc1 hfc HM1 HO1 HB1
    generalize w1.drewN nq = w2 at *
    clear nq
    obtain ⟨o0, o1, -⟩ := HO2.out.eight
    obtain ⟨x0, -⟩ := HM2.out.cells.seven
    have hne : bc ≠ b := fun e => HNB.out (by rw [← e]; exact hbl)
    have hng : bc ≠ g := fun e => HM2.out.sp.dis (i := 3) (j := 0) (by omega) (by rw [hoc, e]) HM2.out.gbox
    have hfb := far_cell hne
    have hfg := far_cell hng
    have hn1 := near_cell (show j * 2 ≠ j * 2 + 1 by omega) bc
    have hn0 := near_cell (show j * 2 + 1 ≠ j * 2 by omega) bc
    have HMV := Lib.hid (Mv.of_below (S := S) HB2.out)
    have qf0 := qf (j * 2)
    have qf1 := qf (j * 2 + 1)
    clear qf
    go_wp2
    go_ret
    obtain ⟨S1, k1, k2, k3⟩ := HM2.out.setCb (c := (j : Int) + 1) (by omega) (by omega) hoc false 0 HMV.out
    simp only [hj] at k1 k2
    refine ⟨rfl, S1, k2, fun _ => ?_⟩
    rw [HIM.out, if_neg (by omega)]
    exact k1

end Go.Proofs.Ytogaellhkjjeaaa
