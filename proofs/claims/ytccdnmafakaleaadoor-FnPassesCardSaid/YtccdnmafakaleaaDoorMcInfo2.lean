/-
  Is a loop described rightly: l07Info of the reference.
-/
import Derived.Test.YtccdnmafakaleaaDoorMcInfo0
namespace Go.Proofs.YtccdnmafakaleaaDoor
set_option linter.unusedVariables false
set_option linter.unusedSimpArgs false
open Go.RowKit

set_option maxHeartbeats 8000000 in
set_option maxRecDepth 100000 in
theorem l07Info_any (x : Inf) (A0 : Option Addr) (c0 : Nat) (hcap : x.ps.length ≤ c0) (i wd : Int) (g o : Nat) (w : World) (i0 : 0 ≤ i) (i1 : i ≤ 300) (w0 : 1 ≤ wd) (w1 : wd ≤ 24)
    (hc : CellsAt w g o [.int .i64 x.k, .int .i64 x.y, .int .i64 x.b, .int .i64 x.p, .int .i64 x.d, .slice A0 x.ps.length c0]) (hs : RdI w w.heap.size (.slice A0 x.ps.length c0) x.ps) :
    Calls Tryd.prog 55 #[.pointer (some ⟨g, o, none⟩), .int .i64 wd, .int .i64 i] w
      fun e w' => e = .returned (.bool (okInf wd i x)) ∧ Below w.heap.size w w' := by
  have hbig := hs.len_le
  have hgl : g < w.heap.size := block_lt_of_cell (hc.six).1
  have HS := Lib.hid hs
  have HC := Lib.hid hc
  obtain ⟨x0, x1, x2, x3, x4, x5⟩ := hc.six
  clear hs hc
  cases hk : kindM x.k
  · have HK := Lib.hid (okInf_kind (wd := wd) (i := i) hk)
    have m1 : (x.k != 1) = true := by simp [kindM] at hk; simp [hk]
    have m2 : (x.k != 2) = true := by simp [kindM] at hk; simp [hk]
    have m5 : (x.k != 5) = true := by simp [kindM] at hk; simp [hk]
    clear hk
    go_enter Tryd.func55, Tryd.ntmps55
    go_wp2
    go_ret
    exact ⟨ret_bool HK.out.symm, Below.refl _ _⟩
  have hkk := kindM_cases hk
  have HK := Lib.hid hk
  clear hk
  have hkc : ((x.k == 1) = true ∧ (x.k != 1) = false ∧ (x.k == 2) = false ∧ (x.k != 2) = true ∧ (x.k == 5) = false ∧ (x.k != 5) = true) ∨ ((x.k == 1) = false ∧ (x.k != 1) = true ∧ (x.k == 2) = true ∧ (x.k != 2) = false ∧ (x.k == 5) = false ∧ (x.k != 5) = true) ∨
      ((x.k == 1) = false ∧ (x.k != 1) = true ∧ (x.k == 2) = false ∧ (x.k != 2) = true ∧ (x.k == 5) = true ∧ (x.k != 5) = false) := by
    rcases hkk with h | h | h <;> rw [h] <;> decide
  clear hkk
  have hy := fun W => l07Yarn_s x.y W
  have hb := fun W => l01Bed_s x.b W
  have hp := fun W => l00In_s x.p 0 (wd - 1) W
  have hd := fun W => l07Dir_s x.d W
  rcases headI_cases wd x with ⟨a1, hh⟩ | ⟨a1, a2, hh⟩ | ⟨a1, a2, a3, hh⟩ | ⟨a1, a2, a3, a4, hh⟩ | ⟨a1, a2, a3, a4, hh⟩
  /- l07Info where the head fails: simp only [a1] at hy lays the questions' answers -/
  · simp only [a1] at hy
    have hk := Lib.hid (okInf_head (i := i) hh)
    clear hh
    have HY := Lib.hid hy
    have HBD := Lib.hid hb
    have HP := Lib.hid hp
    have HD := Lib.hid hd
    clear hy hb hp hd
    rcases hkc with ⟨k1, m1, k2, m2, k5, m5⟩ | ⟨k1, m1, k2, m2, k5, m5⟩ | ⟨k1, m1, k2, m2, k5, m5⟩
    all_goals
      go_enter Tryd.func55, Tryd.ntmps55
      go_wp2_with (first | (go_at_call 84; refine (HY.out _).mono ?_; rintro e w' ⟨rfl, rfl⟩) | (go_at_call 85; refine (HBD.out _).mono ?_; rintro e w' ⟨rfl, rfl⟩) | (go_at_call 54; refine (HP.out _).mono ?_; rintro e w' ⟨rfl, rfl⟩) | (go_at_call 86; refine (HD.out _).mono ?_; rintro e w' ⟨rfl, rfl⟩))
      go_ret
      exact ⟨ret_bool hk.out.symm, Below.refl _ _⟩
  /- l07Info where the head fails: simp only [a1] at hy; simp only [a2] at hb lays the questions' answers -/
  · simp only [a1] at hy; simp only [a2] at hb
    have hk := Lib.hid (okInf_head (i := i) hh)
    clear hh
    have HY := Lib.hid hy
    have HBD := Lib.hid hb
    have HP := Lib.hid hp
    have HD := Lib.hid hd
    clear hy hb hp hd
    rcases hkc with ⟨k1, m1, k2, m2, k5, m5⟩ | ⟨k1, m1, k2, m2, k5, m5⟩ | ⟨k1, m1, k2, m2, k5, m5⟩
    all_goals
      go_enter Tryd.func55, Tryd.ntmps55
      go_wp2_with (first | (go_at_call 84; refine (HY.out _).mono ?_; rintro e w' ⟨rfl, rfl⟩) | (go_at_call 85; refine (HBD.out _).mono ?_; rintro e w' ⟨rfl, rfl⟩) | (go_at_call 54; refine (HP.out _).mono ?_; rintro e w' ⟨rfl, rfl⟩) | (go_at_call 86; refine (HD.out _).mono ?_; rintro e w' ⟨rfl, rfl⟩))
      go_ret
      exact ⟨ret_bool hk.out.symm, Below.refl _ _⟩
  /- l07Info where the head fails: simp only [a1] at hy; simp only [a2] at hb; simp only [a3] at hp lays the questions' answers -/
  · simp only [a1] at hy; simp only [a2] at hb; simp only [a3] at hp
    have hk := Lib.hid (okInf_head (i := i) hh)
    clear hh
    have HY := Lib.hid hy
    have HBD := Lib.hid hb
    have HP := Lib.hid hp
    have HD := Lib.hid hd
    clear hy hb hp hd
    rcases hkc with ⟨k1, m1, k2, m2, k5, m5⟩ | ⟨k1, m1, k2, m2, k5, m5⟩ | ⟨k1, m1, k2, m2, k5, m5⟩
    all_goals
      go_enter Tryd.func55, Tryd.ntmps55
      go_wp2_with (first | (go_at_call 84; refine (HY.out _).mono ?_; rintro e w' ⟨rfl, rfl⟩) | (go_at_call 85; refine (HBD.out _).mono ?_; rintro e w' ⟨rfl, rfl⟩) | (go_at_call 54; refine (HP.out _).mono ?_; rintro e w' ⟨rfl, rfl⟩) | (go_at_call 86; refine (HD.out _).mono ?_; rintro e w' ⟨rfl, rfl⟩))
      go_ret
      exact ⟨ret_bool hk.out.symm, Below.refl _ _⟩
  /- l07Info where the head fails: simp only [a1] at hy; simp only [a2] at hb; simp only [a3] at hp; simp only [a4] at hd lays the questions' answers -/
  · simp only [a1] at hy; simp only [a2] at hb; simp only [a3] at hp; simp only [a4] at hd
    have hk := Lib.hid (okInf_head (i := i) hh)
    clear hh
    have HY := Lib.hid hy
    have HBD := Lib.hid hb
    have HP := Lib.hid hp
    have HD := Lib.hid hd
    clear hy hb hp hd
    rcases hkc with ⟨k1, m1, k2, m2, k5, m5⟩ | ⟨k1, m1, k2, m2, k5, m5⟩ | ⟨k1, m1, k2, m2, k5, m5⟩
    all_goals
      go_enter Tryd.func55, Tryd.ntmps55
      go_wp2_with (first | (go_at_call 84; refine (HY.out _).mono ?_; rintro e w' ⟨rfl, rfl⟩) | (go_at_call 85; refine (HBD.out _).mono ?_; rintro e w' ⟨rfl, rfl⟩) | (go_at_call 54; refine (HP.out _).mono ?_; rintro e w' ⟨rfl, rfl⟩) | (go_at_call 86; refine (HD.out _).mono ?_; rintro e w' ⟨rfl, rfl⟩))
      go_ret
      exact ⟨ret_bool hk.out.symm, Below.refl _ _⟩
  · simp only [a1] at hy; simp only [a2] at hb; simp only [a3] at hp; simp only [a4] at hd
    have HH := Lib.hid hh
    clear hh a1 a2 a3 a4
    have HY := Lib.hid hy
    have HBD := Lib.hid hb
    have HP := Lib.hid hp
    have HD := Lib.hid hd
    clear hy hb hp hd
    rcases hkc with ⟨k1, m1, k2, m2, k5, m5⟩ | ⟨k1, m1, k2, m2, k5, m5⟩ | ⟨k1, m1, k2, m2, k5, m5⟩
    all_goals
      go_enter Tryd.func55, Tryd.ntmps55
      go_wp2_with (first | (go_at_call 84; refine (HY.out _).mono ?_; rintro e w' ⟨rfl, rfl⟩) | (go_at_call 85; refine (HBD.out _).mono ?_; rintro e w' ⟨rfl, rfl⟩) | (go_at_call 54; refine (HP.out _).mono ?_; rintro e w' ⟨rfl, rfl⟩) | (go_at_call 86; refine (HD.out _).mono ?_; rintro e w' ⟨rfl, rfl⟩))
      clear x0 x1 x2 x3 x4 x5
      go_loopw [7] (fun j wr => ∃ k : Nat, k ≤ x.ps.length ∧ j = .int .i64 k ∧ Hid (parsB i [] x.ps = parsB i (x.ps.take k) (x.ps.drop k)) ∧ Below w.heap.size w wr) (fun j _ => x.ps.length - (intOf j).toNat)
      case atStart => exact ⟨0, Nat.zero_le _, rfl, rfl, Below.refl _ _⟩
      case round =>
        rename_i wr
        obtain ⟨k, hkl, rfl, hd, hb⟩ := hrel
        have HB := Lib.hid hb
        clear hb
        have hcw := HC.out.below HB.out hgl
        obtain ⟨y0, y1, y2, y3, y4, y5⟩ := hcw.six
        obtain ⟨x0, x1, x2, x3, x4, x5⟩ := hcw.grow6
        have hw := HB.out
        by_cases hlt : k < x.ps.length
        · obtain ⟨b, off, p, rfl, hbb, hlk, hcp⟩ := (HS.out.below hw).at_ hlt
          have e0 := fun X => wgrow_cell (x := X) hcp
          have HSK := fun X => Lib.hid ((RdI.take (HS.out.up' (hw.trans ((below_wgrow wr X).mono hw.size)) (Nat.le_trans hw.size (below_wgrow wr X).size)) (Nat.le_of_lt hlt)))
          clear hw hcw
          cases h1 : inB 0 p (i - 1)
          · have HT := Lib.hid (show okInf wd i x = false by
              unfold okInf; rw [show parsB i [] x.ps = false from pars_no1 hd.out hlk h1]; simp)
            have H1 := Lib.hid h1
            clear h1 hlk hd
            go_wp2
            refine wp_region_grow (by kernel_rfl) (by kernel_rfl) ?_
            repeat (go_big_quiet_step ((go_at_call 54; exact calls_grow ((l00In_b p 0 (i - 1) _).mono fun e w' ⟨h1, h2⟩ => ⟨by rw [h1, H1.out], h2⟩))))
            refine wpQuiet_nil ?_
            intro w2 hb2
            have HB2 := Lib.hid (HB.out.trans (hb2.mono HB.out.size))
            clear hb2 y0 y1 y2 y3 y4 y5 hcp
            go_wp2
            go_ret
            exact ⟨ret_bool HT.out.symm, HB2.out⟩
          · have H1 := Lib.hid h1
            cases h2 : (x.ps.take k).contains p
            · have HT := Lib.hid (pars_yes hd.out hlk h1 h2)
              have H2 := Lib.hid h2
              clear h1 h2 hlk hd
              go_wp2
              refine wp_region_grow (by kernel_rfl) (by kernel_rfl) ?_
              repeat (go_big_quiet_step ((first | (go_at_call 54; exact calls_grow ((l00In_b p 0 (i - 1) _).mono fun e w' ⟨h1, h2⟩ => ⟨by rw [h1, H1.out], h2⟩)) | (go_at_call 58; exact calls_grow ((l00Has_any _ (x.ps.take k) p _ (HSK _).out).mono fun e w' ⟨h1, h2⟩ => ⟨by rw [h1, H2.out], h2⟩)))))
              refine wpQuiet_nil ?_
              intro w3 hb3
              have HB3 := Lib.hid (HB.out.trans (hb3.mono HB.out.size))
              clear hb3 y0 y1 y2 y3 y4 y5
              go_wp2
              exact ⟨⟨k + 1, by omega, by go_num, HT.out, HB3.out⟩, by simp [intOf]; omega⟩
            · have HT := Lib.hid (show okInf wd i x = false by
                unfold okInf; rw [show parsB i [] x.ps = false from pars_no2 hd.out hlk h2]; simp)
              have H2 := Lib.hid h2
              clear h1 h2 hlk hd
              go_wp2
              refine wp_region_grow (by kernel_rfl) (by kernel_rfl) ?_
              repeat (go_big_quiet_step ((first | (go_at_call 54; exact calls_grow ((l00In_b p 0 (i - 1) _).mono fun e w' ⟨h1, h2⟩ => ⟨by rw [h1, H1.out], h2⟩)) | (go_at_call 58; exact calls_grow ((l00Has_any _ (x.ps.take k) p _ (HSK _).out).mono fun e w' ⟨h1, h2⟩ => ⟨by rw [h1, H2.out], h2⟩)))))
              refine wpQuiet_nil ?_
              intro w3 hb3
              have HB3 := Lib.hid (HB.out.trans (hb3.mono HB.out.size))
              clear hb3 y0 y1 y2 y3 y4 y5
              go_wp2
              go_ret
              exact ⟨ret_bool HT.out.symm, HB3.out⟩
        · have HW := Lib.hid hw
          have HT := Lib.hid (show okInf wd i x = (decide (x.ps.length ≤ 4) && tailI x) by unfold okInf; rw [HK.out, HH.out, hd.out, List.drop_of_length_le (by omega)]; rfl)
          clear hw hd hcw x0 x1 x2 x3 x4 x5
          by_cases hn0 : ((x.ps.length : Nat) : Int) = 0
          · have e0 : ((x.ps.length : Nat) : Int) ≤ 0 := by omega
            have e4 : ((x.ps.length : Nat) : Int) ≤ 4 := by omega
            have HV := Lib.hid (show (decide (x.ps.length ≤ 4) && tailI x) = ((!(x.k == 2) || true) && (!(x.k == 5) || false)) by unfold tailI; rw [decide_eq_true (show x.ps.length = 0 by omega), decide_eq_false (show ¬ 0 < x.ps.length by omega), decide_eq_true (show x.ps.length ≤ 4 by omega)]; first | done | rfl)
            go_wp2
            all_goals go_ret
            all_goals first
              | (exfalso; omega)
              | (exfalso; rename_i hnil; simp [hnil] at hn0; done)
              | exact ⟨ret_bool (by rw [HT.out, HV.out, k2, k5]; first | done | rfl | exact decide_eq_true (by omega) | exact decide_eq_false (by omega) | (simp; done)), HW.out⟩
          · have e0 : 0 < ((x.ps.length : Nat) : Int) := by omega
            by_cases h4 : ((x.ps.length : Nat) : Int) ≤ 4
            · have HV := Lib.hid (show (decide (x.ps.length ≤ 4) && tailI x) = ((!(x.k == 2) || false) && (!(x.k == 5) || true)) by unfold tailI; rw [decide_eq_false (show ¬ x.ps.length = 0 by omega), decide_eq_true (show 0 < x.ps.length by omega), decide_eq_true (show x.ps.length ≤ 4 by omega)]; first | done | rfl)
              go_wp2
              all_goals go_ret
              all_goals first
                | (exfalso; omega)
                | (exfalso; rename_i hnil; simp [hnil] at hn0; done)
                | exact ⟨ret_bool (by rw [HT.out, HV.out, k2, k5]; first | done | rfl | exact decide_eq_true (by omega) | exact decide_eq_false (by omega) | (simp; done)), HW.out⟩
            · have HV := Lib.hid (show (decide (x.ps.length ≤ 4) && tailI x) = false by simp [show ¬ x.ps.length ≤ 4 by omega])
              go_wp2
              all_goals go_ret
              all_goals first
                | (exfalso; omega)
                | (exfalso; rename_i hnil; simp [hnil] at hn0; done)
                | exact ⟨ret_bool (by rw [HT.out, HV.out]; first | done | rfl | exact decide_eq_true (by omega) | exact decide_eq_false (by omega) | (simp; done)), HW.out⟩

end Go.Proofs.YtccdnmafakaleaaDoor
