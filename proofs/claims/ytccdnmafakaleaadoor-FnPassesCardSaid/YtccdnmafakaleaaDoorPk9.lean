/-
  Texts joined: Fps, OpenB.
-/
import Derived.Test.YtccdnmafakaleaaDoorPk8
import Derived.Test.YtccdnmafakaleaaDoorPk3
import Derived.Test.YtccdnmafakaleaaDoorPk2
import Derived.BigQuiet
import Derived.Test.YtccdnmafakaleaaDoorPk5
import Derived.Test.YtccdnmafakaleaaDoorOpen
/-
  The law FnPasses: its walk.
-/
namespace Go.Proofs.YtccdnmafakaleaaDoor
set_option linter.unusedVariables false
set_option linter.unusedSimpArgs false
open Go.RowKit

theorem low_rng {r lo hi : Int} : ∀ {l : List Opr} {z : Int}, lo ≤ z ∧ z ≤ hi → (∀ o ∈ l, lo ≤ plc o.fb o.fa r ∧ plc o.fb o.fa r ≤ hi) → lo ≤ lowG r z l ∧ lowG r z l ≤ hi
  | [], z, hz, h => hz
  | o :: t, z, hz, h => by
    have h1 := h o List.mem_cons_self
    exact low_rng (l := t) (z := mn z (plc o.fb o.fa r)) (by unfold mn; split <;> omega) (fun x hx => h x (List.mem_cons_of_mem _ hx))
theorem high_rng {r lo hi : Int} : ∀ {l : List Opr} {z : Int}, lo ≤ z ∧ z ≤ hi → (∀ o ∈ l, lo ≤ plc o.fb o.fa r ∧ plc o.fb o.fa r ≤ hi) → lo ≤ highG r z l ∧ highG r z l ≤ hi
  | [], z, hz, h => hz
  | o :: t, z, hz, h => by
    have h1 := h o List.mem_cons_self
    exact high_rng (l := t) (z := mx z (plc o.fb o.fa r)) (by unfold mx; split <;> omega) (fun x hx => h x (List.mem_cons_of_mem _ hx))
theorem plc_rng2 {b a r : Int} (ha : -100 ≤ a ∧ a ≤ 100) (hr : -3 ≤ r ∧ r ≤ 3) : -200 ≤ plc b a r ∧ plc b a r ≤ 200 := by unfold plc; split <;> omega
/-- The span of a pass lies within small numbers. -/
theorem span_rng {l : List Opr} {p : Pas} {n : Int} (h : opsB n l = true) (hr : -3 ≤ p.r ∧ p.r ≤ 3) :
    (-200 ≤ lowG p.r (spnZ l p) (spnS l p) ∧ lowG p.r (spnZ l p) (spnS l p) ≤ 200) ∧ (-200 ≤ highG p.r (spnZ l p) (spnS l p) ∧ highG p.r (spnZ l p) (spnS l p) ≤ 200) := by
  have hall : ∀ o ∈ l, -200 ≤ plc o.fb o.fa p.r ∧ plc o.fb o.fa p.r ≤ 200 := fun o ho => by
    obtain ⟨k, hk, e⟩ := List.getElem_of_mem ho
    exact plc_rng2 (okOp_fa (ops_at h (k := k) (by rw [List.getElem?_eq_getElem hk, e]))) hr
  have hz : -200 ≤ spnZ l p ∧ spnZ l p ≤ 200 := by
    unfold spnZ
    split
    · rename_i o ho
      exact hall o (List.mem_of_getElem? ho)
    · omega
  have hs : ∀ o ∈ spnS l p, -200 ≤ plc o.fb o.fa p.r ∧ plc o.fb o.fa p.r ≤ 200 := fun o ho => hall o (List.mem_of_mem_drop (List.mem_of_mem_take ho))
  exact ⟨low_rng hz hs, high_rng hz hs⟩
theorem a2Long_s (A : Option Addr) (n c : Nat) (hn : n ≤ 9223372036854775807) (b : Bool) (hb : decide ((3000 : Int) < (n : Int)) = b) (w : World) : Calls Tryd.prog 10 #[.slice A n c, .slice none 0 0] w fun e w' => e = .returned (.bool b) ∧ w = w' := by
  cases b
  all_goals
    go_enter Tryd.func10, Tryd.ntmps10
    go_wp2
    go_ret
    exact ⟨ret_bool (by simp_all), rfl⟩
attribute [local go_sem] strV
set_option maxHeartbeats 40000000 in
set_option maxRecDepth 100000 in
theorem fnPasses_any (v0 : Value) (W : World) (hb0 : RdB W W.heap.size v0) (ht : TabW W.heap.size W) : Calls Tryd.prog 4 #[v0] W fun e W' => e = .returned (.bool true) ∧ Below W.heap.size W W' := by
  have HB0 := Lib.hid hb0
  have HT0 := Lib.hid ht
  obtain ⟨A0, n0, c0, rfl, hn0, -⟩ := hb0
  clear ht
  by_cases hl0 : (3000 : Int) < (n0 : Int)
  · have hd0 := Lib.hid (show decide ((3000 : Int) < (n0 : Int)) = true by simpa using hl0)
    clear hl0
    go_enter Tryd.func4, Tryd.ntmps4
    go_wp2_with fail
    refine (a2Long_s A0 n0 c0 hn0 true hd0.out _).mono ?_
    rintro e w' ⟨rfl, rfl⟩
    go_wp2
    go_ret
    exact ⟨rfl, Below.refl _ _⟩
  have hd0 := Lib.hid (show decide ((3000 : Int) < (n0 : Int)) = false by simpa using hl0)
  clear hl0
  go_enter Tryd.func4, Tryd.ntmps4
  go_wp2_with fail
  refine (a2Long_s A0 n0 c0 hn0 false hd0.out _).mono ?_
  rintro e w' ⟨rfl, rfl⟩
  go_wp2_with fail
  refine (DrawPassesOf_any HB0.out).mono ?_
  rintro e w1 ⟨u, l, rfl, hr, hcp, hl3, hb1⟩
  have HR1 := Lib.hid hr
  have HCP := Lib.hid hcp
  have B1 := Lib.hid hb1
  obtain ⟨A, N, c, rfl, hbig, hln, gl⟩ := hr
  have HLN := Lib.hid hln.out
  have hN3 : N ≤ 3000 := by have := hln.out; omega
  have GL := Lib.hid gl
  clear hcp hl3 hb1 hln gl hd0 HB0 hn0
  go_wp2_with fail
  refine (implPassesOf_any _ l w1 HR1.out).mono ?_
  rintro e w2 ⟨v2, rfl, ho2, hb2⟩
  have B2 := Lib.hid (B1.out.trans (hb2.mono B1.out.size))
  have B12 := Lib.hid hb2
  have HR2 := Lib.hid ((HR1.out.below hb2).more hb2.size)
  obtain ⟨A2, c2, rfl, -⟩ := ho2.cells
  cases hok : opsB 24 l
  · rw [show psC l = 1 by simp [psC, hok]]
    have HC := Lib.hid (show cntP l = -1 by simp [cntP, hok])
    have hlen0 : (psR l).length = 0 := by simp [psR, hok]
    clear ho2 hb2 hok
    generalize (psR l).length = n at *
    go_wp2_with fail
    refine (implCount_any _ l w2 HR2.out).mono ?_
    rintro e w3 ⟨rfl, hb3⟩
    rw [HC.out]
    have B3 := Lib.hid (B2.out.trans (hb3.mono B2.out.size))
    clear hb3
    go_wp2
    go_ret
    exact ⟨rfl, B3.out⟩
  rw [show psC l = 0 by simp [psC, hok]]
  have HC := Lib.hid (show cntP l = ((psL l).length : Int) by simp [cntP, hok])
  rw [show psR l = psL l by simp [psR, hok]] at ho2 ⊢
  have RL2 := Lib.hid (RdS.of_own Pas.len ho2)
  have HOK := Lib.hid hok
  have hlen := ops_len hok
  have hpl := psL_len hok
  have hN15 : N ≤ 1500 := by have := HLN.out; omega
  obtain ⟨eN, heN, hlay, hgapN⟩ := psL_lay (ops_g hok)
  have LAY := Lib.hid hlay
  have GAPN := Lib.hid hgapN
  have HOG := Lib.hid (ops_g hok)
  have HEND := Lib.hid hlay.ends
  have HRET := Lib.hid (ret_ok (lay_dir hlay))
  have HLEN := Lib.hid hlen
  have HTW := Lib.hid (fun (X : World) (h : Below w2.heap.size w2 X) => HT0.out.on (B2.out.trans (h.mono B2.out.size)))
  have HSW := Lib.hid (fun (X : World) (h : Below w2.heap.size w2 X) => Nat.le_trans B2.out.size h.size)
  have HRO := Lib.hid (fun (X : World) (h : Below w2.heap.size w2 X) => (HR2.out.below h).more h.size)
  clear ho2 hb2 hok hlay hgapN
  generalize hL : psL l = L at *
  have HL := Lib.hid hL
  generalize hn : L.length = n at *
  have HN := Lib.hid hn
  clear hL hn
  go_wp2_with fail
  refine (implCount_any _ l w2 HR2.out).mono ?_
  rintro e w3 ⟨rfl, hb3⟩
  rw [HC.out]
  have B3 := Lib.hid hb3
  clear hb3
  go_wp2
  go_loopw [6, 7] (fun v6 v7 wr => ∃ (i a : Nat) (wq : World), wq = wr ∧ v7 = .int .i64 (i : Int) ∧ i ≤ n ∧ v6 = .int .i64 (a : Int) ∧ a ≤ N ∧ Hid (endP L i = (a : Int)) ∧ Hid (Below w2.heap.size w2 wq)) (fun _ v7 _ => n - (intOf v7).toNat)
  case atStart => exact ⟨0, 0, _, rfl, rfl, Nat.zero_le _, rfl, Nat.zero_le _, rfl, B3.out⟩
  case round =>
    clear B3
    obtain ⟨i, a, wq, hwq, rfl, hi, rfl, haN, HA, HBq⟩ := hrel
    subst hwq
    by_cases hlt : i < n
    · obtain ⟨b, off, p, rfl, hbb, hlk, hc⟩ := (RL2.out.below HBq.out).at_ (k := i) (by omega)
      obtain ⟨a', f, nn, e1, e2, haf, hgap, hbody, hcond⟩ := LAY.out.at hlk
      obtain rfl : a = a' := by have := HA.out; omega
      have HLK := Lib.hid hlk
      have HE2 := Lib.hid e2
      have HGAP := Lib.hid hgap
      have HBODY := Lib.hid hbody
      have HCOND := Lib.hid hcond
      have hsp := span_ok hbody
      have hsr := span_rng HOK.out hbody.rk
      have HPM := Lib.hid (show p ∈ psL l by rw [HL.out]; exact List.mem_of_getElem? hlk)
      obtain ⟨pk, pd, pc, pr, pf, pn⟩ := p
      obtain rfl : pf = (f : Int) := hbody.pf
      obtain rfl : pn = (nn : Int) := hbody.pn
      have hn1 := hbody.n1
      have hfN : f + nn ≤ N := by have := hbody.le; have := HLN.out; omega
      have HSPN := Lib.hid (spn_yes HOK.out HPM.out)
      simp only at hsp hsr hc
      generalize hlo : lowG pr (spnZ l ⟨pk, pd, pc, pr, (f : Int), (nn : Int)⟩) (spnS l ⟨pk, pd, pc, pr, (f : Int), (nn : Int)⟩) = lo at *
      generalize hhi : highG pr (spnZ l ⟨pk, pd, pc, pr, (f : Int), (nn : Int)⟩) (spnS l ⟨pk, pd, pc, pr, (f : Int), (nn : Int)⟩) = hh at *
      obtain ⟨hsp1, hsp2⟩ := hsp
      have HSP2 := Lib.hid hsp2
      obtain ⟨⟨sl0, sl1⟩, sh0, sh1⟩ := hsr
      have HVP := Lib.hid (fun X => implValidPass_yes l _ f nn HBODY.out HLEN.out X)
      have HPT := Lib.hid (fun (X : World) (hX : Below w2.heap.size w2 X) => implPassText_any l _ f nn HBODY.out HLEN.out W.heap.size X (HSW.out X hX) (HTW.out X hX))
      obtain ⟨c0', c1', c2', c3', c4', c5'⟩ := hc.six
      clear hlk e1 e2 hgap hbody hcond hc hlo hhi hsp2
      go_upto_region 14 with fail
      have HP3 := Lib.hid (CellsAt.of_alloc (w := wq) (us := [.int .i64 pk, .int .i64 pd, .int .i64 pc, .int .i64 pr, .int .i64 (f : Int), .int .i64 (nn : Int)]) (t := 46))
      have HB3 := Lib.hid (HBq.out.alloc HBq.out.size (.cells #[.int .i64 pk, .int .i64 pd, .int .i64 pc, .int .i64 pr, .int .i64 (f : Int), .int .i64 (nn : Int)] 46))
      have hz3 : wq.heap.size < (wq.alloc (.cells #[.int .i64 pk, .int .i64 pd, .int .i64 pc, .int .i64 pr, .int .i64 (f : Int), .int .i64 (nn : Int)] 46)).heap.size := by simp
      generalize wq.alloc (.cells #[.int .i64 pk, .int .i64 pd, .int .i64 pc, .int .i64 pr, .int .i64 (f : Int), .int .i64 (nn : Int)] 46) = w4 at *
      have hbq : b < wq.heap.size := Nat.lt_of_lt_of_le hbb HBq.out.size
      have hq2 : w2.heap.size ≤ wq.heap.size := HBq.out.size
      generalize wq.heap.size = gp at *
      clear c0' c1' c2' c3' c4' c5'
      obtain ⟨x0, x1, x2, x3, x4, x5⟩ := HP3.out.six
      have hfa : ¬ (f : Int) < (a : Int) := by omega
      have hfaN : ¬ f < a := by omega
      have hfN2 : ¬ (N : Int) < (f : Int) + (nn : Int) := by omega
      have hwfn : IntKind.i64.wrap ((f : Int) + (nn : Int)) = (f : Int) + (nn : Int) := IntWalk.i64_in _ (by omega)
      go_cut [72] (fun s72 wx => ∃ wy : World, wy = wx ∧ s72 = .bool false ∧ Hid (Below w2.heap.size w2 wx) ∧ Hid (CellsAt wx gp 0 [.int .i64 pk, .int .i64 pd, .int .i64 pc, .int .i64 pr, .int .i64 (f : Int), .int .i64 (nn : Int)]) ∧ gp < wx.heap.size)
      case first =>
        go_wp2_with (first
          | (go_at_call 14; refine (HVP.out _).mono ?_; rintro e w5 ⟨rfl, hb5⟩; have HB5 := Lib.hid (HB3.out.trans (hb5.mono HB3.out.size)); have HP5 := Lib.hid (HP3.out.below hb5 hz3); have hz5 := Nat.lt_of_lt_of_le hz3 hb5.size; obtain ⟨y0, y1, y2, y3, y4, y5⟩ := HP5.out.six)
          | (go_at_call 15; refine (HPT.out _ HB5.out).mono ?_; rintro e w6 ⟨t, rfl, htne, hb6⟩; have HB6 := Lib.hid (HB5.out.trans (hb6.mono HB5.out.size)); have HP6 := Lib.hid (HP5.out.below hb6 hz5); have hz6 := Nat.lt_of_lt_of_le hz5 hb6.size; have ht1 : (t == []) = false := (by simpa using htne); have ht2 : t.isEmpty = false := (by simpa using htne); clear htne))
        go_meet
        refine ⟨_, rfl, ?_, HB6.out, HP6.out, hz6⟩
        first | rfl | (congr 1; simp; omega) | (simp; omega)
      case rest =>
      obtain ⟨w6, hw6, rfl, HB6, HP6, hz6⟩ := hcut
      subst hw6
      clear x0 x1 x2 x3 x4 x5 HP3 HB3 hz3 HVP HPT hfa hfaN hfN2
      go_wp2_with fail
      go_loopw [9] (fun v9 wr => ∃ (k : Nat) (wi : World), wi = wr ∧ v9 = .int .i64 (k : Int) ∧ a ≤ k ∧ k ≤ f ∧ Hid (Below w6.heap.size w6 wi)) (fun v9 _ => f - (intOf v9).toNat)
      case atStart => exact ⟨a, _, rfl, rfl, Nat.le_refl _, haf, Below.refl _ _⟩
      case round =>
        obtain ⟨k, wi, hwi, rfl, hka, hkf, HBi⟩ := hrel
        subst hwi
        obtain ⟨y0, y1, y2, y3, y4, y5⟩ := (HP6.out.below HBi.out hz6).six
        by_cases hk2 : k < f
        · obtain ⟨o, ho1, ho2⟩ := HGAP.out k hka hk2
          obtain ⟨bo, oo, x, rfl, hbo, hlx, hcx⟩ := GL.out k (by omega)
          obtain rfl : o = x := by rw [ho1] at hlx; injection hlx
          have hg := (HOG.out o (List.mem_of_getElem? ho1)).g ho2
          have hcx2 := hcx.below (B12.out.trans ((HB6.out.trans (HBi.out.mono HB6.out.size)).mono B12.out.size)) hbo
          obtain ⟨o0, o1, o2, o3, o4, o5, o6, o7⟩ := hcx2.eight
          have HBI2 := Lib.hid HBi.out
          have hk2i : (k : Int) < (f : Int) := by omega
          have hkN : (k : Int) < (N : Int) := by omega
          obtain ⟨ok_, od, ofb, ofa, otb, ota, oc, or_⟩ := o
          simp only at hg o0
          clear ho1 ho2 hlx hcx hcx2 o1 o2 o3 o4 o5 o6 o7
          rcases hg with rfl | rfl | rfl
          all_goals
            go_wp2
            exact ⟨⟨k + 1, _, rfl, by go_num, by omega, by omega, HBI2.out⟩, by simp [intOf]; omega⟩
        · obtain rfl : k = f := by omega
          have HB7 := Lib.hid (HB6.out.trans (HBi.out.mono HB6.out.size))
          have HP7 := Lib.hid (HP6.out.below HBi.out hz6)
          have hz7 : gp < wi.heap.size := Nat.lt_of_lt_of_le hz6 HBi.out.size
          go_wp2
          clear y0 y1 y2 y3 y4 y5
          go_loopw [11] (fun v11 wr => ∃ (j : Nat) (wj : World), wj = wr ∧ v11 = .int .i64 (j : Int) ∧ k ≤ j ∧ j ≤ k + nn ∧ Hid (Below wi.heap.size wi wj)) (fun v11 _ => k + nn - (intOf v11).toNat)
          case atStart => exact ⟨k, _, rfl, rfl, Nat.le_refl _, Nat.le_add_right _ _, Below.refl _ _⟩
          case round =>
            obtain ⟨j, wj, hwj, rfl, hjk, hjn, HBj⟩ := hrel
            subst hwj
            have HBJ := Lib.hid (HB7.out.trans (HBj.out.mono HB7.out.size))
            have HPJ := Lib.hid (HP7.out.below HBj.out hz7)
            have hzJ : gp < wj.heap.size := Nat.lt_of_lt_of_le hz7 HBj.out.size
            obtain ⟨y0, y1, y2, y3, y4, y5⟩ := HPJ.out.six
            by_cases hj2 : j < k + nn
            · have hj2i : (j : Int) < (k : Int) + (nn : Int) := by omega
              have HPO := Lib.hid (psOf_at (l := l) (e := eN) (by rw [HL.out]; exact LAY.out) (i := i) (p := ⟨pk, pd, pc, pr, (k : Int), (nn : Int)⟩) (by rw [HL.out]; exact HLK.out) (k := (j : Int)) (by show (k : Int) ≤ (j : Int); omega) (by show (j : Int) ≤ (k : Int) + (nn : Int) - 1; omega))
              have HPF := Lib.hid (fun (X : World) (hX : Below w2.heap.size w2 X) => implPassOf_any _ l j _ X (HRO.out X hX) HOK.out (by have := HLN.out; omega) HPO.out)
              have hne : ∀ X : World, (binOp .neq 46 (.agg #[.int .i64 pk, .int .i64 pd, .int .i64 pc, .int .i64 pr, .int .i64 (k : Int), .int .i64 (nn : Int)]) (.agg #[.int .i64 pk, .int .i64 pd, .int .i64 pc, .int .i64 pr, .int .i64 (k : Int), .int .i64 (nn : Int)])).run Tryd.prog X = .ok (.bool false) X := fun X => by
                have h9 := neq_ps ⟨pk, pd, pc, pr, (k : Int), (nn : Int)⟩ ⟨pk, pd, pc, pr, (k : Int), (nn : Int)⟩ X
                simpa using h9
              go_wp2_with fail
              refine (HPF.out _ HBJ.out).mono ?_
              rintro e w8 ⟨rfl, hb8⟩
              have HB8 := Lib.hid (HBj.out.trans (hb8.mono HBj.out.size))
              have hz8 : gp < w8.heap.size := Nat.lt_of_lt_of_le hzJ hb8.size
              obtain ⟨z0, z1, z2, z3, z4, z5⟩ := (HPJ.out.below hb8 hzJ).six
              clear y0 y1 y2 y3 y4 y5 hb8
              go_wp2
              exact ⟨⟨j + 1, _, rfl, by go_num, by omega, by omega, HB8.out.alloc HB8.out.size _⟩, by simp [intOf]; omega⟩
            · obtain rfl : j = k + nn := by omega
              have hj2i : ¬ (((k + nn : Nat) : Int)) < (k : Int) + (nn : Int) := by omega
              go_upto_region 28 with fail
              go_cut [142] (fun s142 wx => ∃ wy : World, wy = wx ∧ s142 = .bool false ∧ Hid (Below w2.heap.size w2 wx) ∧ Hid (CellsAt wx gp 0 [.int .i64 pk, .int .i64 pd, .int .i64 pc, .int .i64 pr, .int .i64 (k : Int), .int .i64 (nn : Int)]) ∧ gp < wx.heap.size)
              case first =>
                by_cases hi0 : i = 0
                · have g1 : decide ((0 : Int) < (i : Int)) = false := by simp [hi0]
                  have g2 : decide (0 < i) = false := by simp [hi0]
                  clear hi0
                  go_quiet (fail)
                  have HBQ := Lib.hid (below_drewN HBJ.out nq)
                  have HPQ := Lib.hid (HPJ.out.below (below_drewN (Below.refl wj.heap.size wj) nq) hzJ)
                  go_wp2_with fail
                  go_meet
                  exact ⟨_, rfl, rfl, HBQ.out, HPQ.out, hzJ⟩
                · have g1 : decide ((0 : Int) < (i : Int)) = true := by simp; omega
                  have g2 : decide (0 < i) = true := by simp; omega
                  obtain ⟨i1, hi1⟩ : ∃ i1 : Nat, i = i1 + 1 := ⟨i - 1, by omega⟩
                  have hwi : IntKind.i64.wrap ((i : Int) - 1) = (i1 : Int) := by rw [IntWalk.i64_in _ (by omega)]; omega
                  have hin : (i1 : Int) < (n : Int) := by omega
                  obtain ⟨b', off', q, eq, hbb', hlq, hcq⟩ := (RL2.out.below HBJ.out).at_ (k := i1) (by omega)
                  injection eq with eq
                  injection eq with eq1 eq2
                  subst eq1 eq2
                  have HQC := Lib.hid (HCOND.out i1 q hi1 hlq)
                  obtain ⟨q0, q1, q2, q3, q4, q5⟩ := hcq.six
                  obtain ⟨qk, qd, qc, qr, qf, qn⟩ := q
                  simp only at q0 HQC
                  clear hi1 hlq hcq q1 q2 q3 q4 q5 hi0
                  by_cases hak : a = k
                  · have g3 : ((a : Int) == (k : Int)) = true := by simp [hak]
                    have g4 : (a == k) = true := by simp [hak]
                    have HAK := Lib.hid hak
                    clear hak
                    by_cases hqk : qk = pk
                    · have g5 : (qk == pk) = true := by simp [hqk]
                      have hp1 := HQC.out HAK.out hqk
                      have g6 : (pk != 1) = false := by simp [hp1]
                      clear hqk hp1
                      go_quiet (fail)
                      have HBQ := Lib.hid (below_drewN HBJ.out nq)
                      have HPQ := Lib.hid (HPJ.out.below (below_drewN (Below.refl wj.heap.size wj) nq) hzJ)
                      go_wp2_with fail
                      go_meet
                      exact ⟨_, rfl, rfl, HBQ.out, HPQ.out, hzJ⟩
                    · have g5 : (qk == pk) = false := by simpa using hqk
                      clear hqk
                      go_quiet (fail)
                      have HBQ := Lib.hid (below_drewN HBJ.out nq)
                      have HPQ := Lib.hid (HPJ.out.below (below_drewN (Below.refl wj.heap.size wj) nq) hzJ)
                      go_wp2_with fail
                      go_meet
                      exact ⟨_, rfl, rfl, HBQ.out, HPQ.out, hzJ⟩
                  · have g3 : ((a : Int) == (k : Int)) = false := by simp; omega
                    have g4 : (a == k) = false := by simpa using hak
                    clear hak
                    go_quiet (fail)
                    have HBQ := Lib.hid (below_drewN HBJ.out nq)
                    have HPQ := Lib.hid (HPJ.out.below (below_drewN (Below.refl wj.heap.size wj) nq) hzJ)
                    go_wp2_with fail
                    go_meet
                    exact ⟨_, rfl, rfl, HBQ.out, HPQ.out, hzJ⟩
              case rest =>
                obtain ⟨w9, hw9, rfl, HB9, HP9, hz9⟩ := hcut
                subst hw9
                clear y0 y1 y2 y3 y4 y5 HPJ HBJ hzJ hj2i
                obtain ⟨y0, y1, y2, y3, y4, y5⟩ := HP9.out.six
                have HSO := Lib.hid (implSpan_any _ l ⟨pk, pd, pc, pr, (k : Int), (nn : Int)⟩ w9 (HRO.out w9 HB9.out) HCP.out)
                go_wp2_with fail
                refine HSO.out.mono ?_
                rintro e w10 ⟨rfl, hb10⟩
                rw [HSPN.out]
                have HB10 := Lib.hid (HB9.out.trans (hb10.mono HB9.out.size))
                have HP10 := Lib.hid (HP9.out.below hb10 hz9)
                have hz10 : gp < w10.heap.size := Nat.lt_of_lt_of_le hz9 hb10.size
                clear y0 y1 y2 y3 y4 y5 hb10 HP9 HB9 hz9
                obtain ⟨y0, y1, y2, y3, y4, y5⟩ := HP10.out.six
                go_upto_region 31 with fail
                go_cut [170] (fun s170 wx => wx = w10 ∧ s170 = .bool false)
                case first =>
                  have hsp1' : ¬ hh < lo := by omega
                  have hws : IntKind.i64.wrap (hh - lo) = hh - lo := IntWalk.i64_in _ (by omega)
                  have hws2 : IntKind.i64.wrap (hh - lo + 1) = hh - lo + 1 := IntWalk.i64_in _ (by omega)
                  by_cases hp1 : pk = 1
                  · have g6 : (pk == 1) = true := by simp [hp1]
                    have hsp3 : ¬ hh - lo + 1 < (nn : Int) := by have h9 := HSP2.out hp1; (try simp only at h9); omega
                    clear hp1
                    go_wp2_with fail
                    go_meet
                    exact ⟨rfl, by first | rfl | (congr 1; simp; omega) | (simp; omega)⟩
                  · have g6 : (pk == 1) = false := by simpa using hp1
                    clear hp1
                    go_wp2_with fail
                    go_meet
                    exact ⟨rfl, by first | rfl | (congr 1; simp; omega) | (simp; omega)⟩
                case rest =>
                  obtain ⟨hwx, rfl⟩ := hcut
                  replace hwx := hwx.symm
                  subst hwx
                  go_wp2
                  exact ⟨⟨i + 1, k + nn, _, rfl, by go_num, by omega, by go_num, by omega, HE2.out, HB10.out⟩, by simp [intOf]; omega⟩
    · obtain rfl : i = n := by omega
      have haE : a = eN := by have h1 := HA.out; have h2 := HEND.out; omega
      have HAE := Lib.hid haE
      clear haE hlt
      go_wp2
      go_loopw [17] (fun v17 wr => ∃ (k : Nat) (wi : World), wi = wr ∧ v17 = .int .i64 (k : Int) ∧ a ≤ k ∧ k ≤ N ∧ Hid (Below wq.heap.size wq wi)) (fun v17 _ => N - (intOf v17).toNat)
      case atStart => exact ⟨a, _, rfl, rfl, Nat.le_refl _, haN, Below.refl _ _⟩
      case round =>
        obtain ⟨k, wi, hwi, rfl, hka, hkN', HBi⟩ := hrel
        subst hwi
        have HBI := Lib.hid (HBq.out.trans (HBi.out.mono HBq.out.size))
        by_cases hk2 : k < N
        · obtain ⟨o, ho1, ho2⟩ := GAPN.out k (by have := HAE.out; omega) (by have := HLN.out; omega)
          obtain ⟨bo, oo, x, rfl, hbo, hlx, hcx⟩ := GL.out k (by omega)
          obtain rfl : o = x := by rw [ho1] at hlx; injection hlx
          have hg := (HOG.out o (List.mem_of_getElem? ho1)).g ho2
          have hcx2 := hcx.below (B12.out.trans (HBI.out.mono B12.out.size)) hbo
          obtain ⟨o0, o1, o2, o3, o4, o5, o6, o7⟩ := hcx2.eight
          have HBI2 := Lib.hid HBi.out
          have hkN : (k : Int) < (N : Int) := by omega
          obtain ⟨ok_, od, ofb, ofa, otb, ota, oc, or_⟩ := o
          simp only at hg o0
          clear ho1 ho2 hlx hcx hcx2 o1 o2 o3 o4 o5 o6 o7
          rcases hg with rfl | rfl | rfl
          all_goals
            go_wp2
            exact ⟨⟨k + 1, _, rfl, by go_num, by omega, by omega, HBI2.out⟩, by simp [intOf]; omega⟩
        · obtain rfl : k = N := by omega
          have HRT := Lib.hid (implReturns_any _ l wi (HRO.out wi HBI.out) HOK.out)
          obtain ⟨hr0, hr1⟩ := HRET.out
          generalize retN l = R at *
          have HR1' := Lib.hid hr1
          clear hr1
          go_wp2_with fail
          refine HRT.out.mono ?_
          rintro e w10 ⟨rfl, hb10⟩
          have HB10 := Lib.hid (B2.out.trans ((HBI.out.trans (hb10.mono HBI.out.size)).mono B2.out.size))
          clear hb10
          have hge : (0 : Int) ≤ R := hr0
          by_cases hRz : R = 0
          · have g7 : (R == 0) = true := by simp [hRz]
            clear hRz
            go_wp2
            go_ret
            exact ⟨ret_bool (by first | rfl | (simp; omega) | simp_all), HB10.out⟩
          · have g7 : (R == 0) = false := by simpa using hRz
            have g8 : R < (i : Int) := by rcases HR1'.out with h | h; · exact absurd h hRz
                                          · exact h
            clear hRz
            go_wp2
            go_ret
            exact ⟨ret_bool (by first | rfl | (simp; omega) | simp_all), HB10.out⟩

end Go.Proofs.YtccdnmafakaleaaDoor

/-
  A slice of bytes that came in; the bound on its length.
-/
namespace Go.Proofs.YtccdnmafakaleaaDoor
set_option linter.unusedVariables false
set_option linter.unusedSimpArgs false
open Go.ChangeShapes Go.WideShapes Go.ChangeAt Go.RowKit Go.Deep

theorem byte_of_wf {x : Int} (h : (Lit.int .u8 x).wf = true) : 0 ≤ x ∧ x ≤ 255 := by
  simp [Lit.wf, IntKind.min, IntKind.max, IntKind.signed, IntKind.bits] at h
  exact ⟨by omega, by omega⟩
section
variable {H : Type} {enc : TypeId × Value → H} {P : Program} {W : World} {base : Nat} {d : DataW H} {p : List MemPlace} {v : Value}
theorem open_rdB {t e : TypeId} (ht : P.underlying t = some (.slice e)) (he : P.underlying e = some (.int .u8)) (hc : P.cellsOf e = 1) (ho : Value.okWide P W .any base t v)
    (h : DataW.Trod enc P W 0 (fun _ => true) true t v d p) : RdB W W.heap.size v := by
  obtain ⟨A, n, c, rfl⟩ := okWide_slice ht ho
  obtain ⟨fuel, hf⟩ := h
  rcases open_ints ht he hc hf with ⟨hcs, _⟩ | ⟨a, l', c', zs, hcs, _, hl, hm, hz, _, hcell, hwz⟩
  · simp [Value.cells] at hcs
    obtain ⟨rfl, rfl, rfl⟩ := hcs
    exact ⟨none, 0, 0, rfl, by omega, fun k hk => absurd hk (by omega)⟩
  · simp [Value.cells] at hcs
    obtain ⟨rfl, rfl, rfl⟩ := hcs
    simp only [if_true] at hz
    refine ⟨some a, n, c, rfl, by unfold maxLen at hm; omega, fun k hk => ?_⟩
    obtain ⟨h1, h2, h3⟩ := addr_of_cell (hcell k (by omega)) ⟨_, hcell 0 (by omega)⟩
    have hb : 0 ≤ zs.getD k 0 ∧ zs.getD k 0 ≤ 255 := by
      rw [List.getD_eq_getElem?_getD]
      cases hx : zs[k]? with
      | none => simp
      | some x => exact byte_of_wf (hwz x (List.mem_of_getElem? hx))
    exact ⟨a.block, a.off, zs.getD k 0, by rw [← h1], h2, hb.1, hb.2, h3⟩
end

end Go.Proofs.YtccdnmafakaleaaDoor
