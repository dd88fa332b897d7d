/-
  Is a loop described rightly: isInfo of the program.
-/
import Derived.Test.YtccdnmafakaleaaDoorMcInfo0
namespace Go.Proofs.YtccdnmafakaleaaDoor
set_option linter.unusedVariables false
set_option linter.unusedSimpArgs false
open Go.RowKit

set_option maxHeartbeats 8000000 in
set_option maxRecDepth 100000 in
theorem isInfo_any (x : Inf) (A0 : Option Addr) (c0 : Nat) (hcap : x.ps.length ≤ c0) (i wd : Int) (g : Nat) (w : World) (i0 : 0 ≤ i) (i1 : i ≤ 300) (w0 : 1 ≤ wd) (w1 : wd ≤ 24) (hc : w.cell? ⟨g, 0, none⟩ = some (.int .i64 wd)) (hs : RdI w w.heap.size (.slice A0 x.ps.length c0) x.ps) :
    Calls Tryd.prog 65 #[.pointer (some ⟨g, 0, none⟩), .int .i64 i, .agg #[.int .i64 x.k, .int .i64 x.y, .int .i64 x.b, .int .i64 x.p, .int .i64 x.d, .slice A0 x.ps.length c0]] w
      fun e w' => e = .returned (.bool (okInf wd i x)) ∧ Below w.heap.size w w' := by
  have hbig := hs.len_le
  have HS := Lib.hid hs
  obtain ⟨x0, x1, x2, x3, x4, x5⟩ := (CellsAt.of_alloc (w := w) (us := [.int .i64 x.k, .int .i64 x.y, .int .i64 x.b, .int .i64 x.p, .int .i64 x.d, .slice A0 x.ps.length c0]) (t := 78)).grow6
  have hm : ∀ X, (wgrow (w.alloc (.cells #[.int .i64 x.k, .int .i64 x.y, .int .i64 x.b, .int .i64 x.p, .int .i64 x.d, .slice A0 x.ps.length c0] 78)) X).cell? ⟨g, 0, none⟩ = some (.int .i64 wd) :=
    fun X => wgrow_cell ((World.cell?_alloc_lt _ _ _ (block_lt_of_cell hc)).trans hc)
  clear hs
  cases hk : kindM x.k
  · have HK := Lib.hid (okInf_kind (wd := wd) (i := i) hk)
    have k1 : (x.k == 1) = false := by simp [kindM] at hk; simp [hk]
    have k2 : (x.k == 2) = false := by simp [kindM] at hk; simp [hk]
    have k5 : (x.k == 5) = false := by simp [kindM] at hk; simp [hk]
    have m1 : (x.k != 1) = true := by simp [kindM] at hk; simp [hk]
    have m2 : (x.k != 2) = true := by simp [kindM] at hk; simp [hk]
    have m5 : (x.k != 5) = true := by simp [kindM] at hk; simp [hk]
    clear hk
    go_enter Tryd.func65, Tryd.ntmps65
    go_wp2
    go_ret
    exact ⟨ret_bool HK.out.symm, (Below.refl _ _).alloc (Nat.le_refl _) _⟩
  have hkk := kindM_cases hk
  have HK := Lib.hid hk
  clear hk
  have hkc : ((x.k == 1) = true ∧ (x.k != 1) = false ∧ (x.k == 2) = false ∧ (x.k != 2) = true ∧ (x.k == 5) = false ∧ (x.k != 5) = true) ∨ ((x.k == 1) = false ∧ (x.k != 1) = true ∧ (x.k == 2) = true ∧ (x.k != 2) = false ∧ (x.k == 5) = false ∧ (x.k != 5) = true) ∨
      ((x.k == 1) = false ∧ (x.k != 1) = true ∧ (x.k == 2) = false ∧ (x.k != 2) = true ∧ (x.k == 5) = true ∧ (x.k != 5) = false) := by
    rcases hkk with h | h | h <;> rw [h] <;> decide
  clear hkk
  have hy := fun W => isCarrier_b x.y W
  have hb := fun W => isBed_b x.b W
  have hp := fun W => within_b x.p 0 (wd - 1) W
  have hd := fun W => isDirection_b x.d W
  rcases headI_cases wd x with ⟨a1, hh⟩ | ⟨a1, a2, hh⟩ | ⟨a1, a2, a3, hh⟩ | ⟨a1, a2, a3, a4, hh⟩ | ⟨a1, a2, a3, a4, hh⟩
  /- isInfo where the head fails: simp only [a1] at hy lays the questions' answers -/
  · simp only [a1] at hy
    have hk := Lib.hid (okInf_head (i := i) hh)
    clear hh
    have HY := Lib.hid hy
    have HBD := Lib.hid hb
    have HP := Lib.hid hp
    have HD := Lib.hid hd
    clear hy hb hp hd
    rcases hkc with ⟨k1, m1, k2, m2, k5, m5⟩ | ⟨k1, m1, k2, m2, k5, m5⟩ | ⟨k1, m1, k2, m2, k5, m5⟩
    all_goals
      go_enter Tryd.func65, Tryd.ntmps65
      go_wp2
      refine wp_region_grow (by kernel_rfl) (by kernel_rfl) ?_
      repeat (go_big_quiet_step ((first | (go_at_call 49; exact calls_grow (HY.out _)) | (go_at_call 90; exact calls_grow (HBD.out _)) | (go_at_call 47; exact calls_grow (HP.out _)) | (go_at_call 48; exact calls_grow (HD.out _)))))
      refine wpQuiet_nil ?_
      intro wq hq
      go_wp2
      go_ret
      exact ⟨ret_bool hk.out.symm, ((Below.refl _ _).alloc (Nat.le_refl _) _).trans (hq.mono (by simp))⟩
  /- isInfo where the head fails: simp only [a1] at hy; simp only [a2] at hb lays the questions' answers -/
  · simp only [a1] at hy; simp only [a2] at hb
    have hk := Lib.hid (okInf_head (i := i) hh)
    clear hh
    have HY := Lib.hid hy
    have HBD := Lib.hid hb
    have HP := Lib.hid hp
    have HD := Lib.hid hd
    clear hy hb hp hd
    rcases hkc with ⟨k1, m1, k2, m2, k5, m5⟩ | ⟨k1, m1, k2, m2, k5, m5⟩ | ⟨k1, m1, k2, m2, k5, m5⟩
    all_goals
      go_enter Tryd.func65, Tryd.ntmps65
      go_wp2
      refine wp_region_grow (by kernel_rfl) (by kernel_rfl) ?_
      repeat (go_big_quiet_step ((first | (go_at_call 49; exact calls_grow (HY.out _)) | (go_at_call 90; exact calls_grow (HBD.out _)) | (go_at_call 47; exact calls_grow (HP.out _)) | (go_at_call 48; exact calls_grow (HD.out _)))))
      refine wpQuiet_nil ?_
      intro wq hq
      go_wp2
      go_ret
      exact ⟨ret_bool hk.out.symm, ((Below.refl _ _).alloc (Nat.le_refl _) _).trans (hq.mono (by simp))⟩
  /- isInfo where the head fails: simp only [a1] at hy; simp only [a2] at hb; simp only [a3] at hp lays the questions' answers -/
  · simp only [a1] at hy; simp only [a2] at hb; simp only [a3] at hp
    have hk := Lib.hid (okInf_head (i := i) hh)
    clear hh
    have HY := Lib.hid hy
    have HBD := Lib.hid hb
    have HP := Lib.hid hp
    have HD := Lib.hid hd
    clear hy hb hp hd
    rcases hkc with ⟨k1, m1, k2, m2, k5, m5⟩ | ⟨k1, m1, k2, m2, k5, m5⟩ | ⟨k1, m1, k2, m2, k5, m5⟩
    all_goals
      go_enter Tryd.func65, Tryd.ntmps65
      go_wp2
      refine wp_region_grow (by kernel_rfl) (by kernel_rfl) ?_
      repeat (go_big_quiet_step ((first | (go_at_call 49; exact calls_grow (HY.out _)) | (go_at_call 90; exact calls_grow (HBD.out _)) | (go_at_call 47; exact calls_grow (HP.out _)) | (go_at_call 48; exact calls_grow (HD.out _)))))
      refine wpQuiet_nil ?_
      intro wq hq
      go_wp2
      go_ret
      exact ⟨ret_bool hk.out.symm, ((Below.refl _ _).alloc (Nat.le_refl _) _).trans (hq.mono (by simp))⟩
  /- isInfo where the head fails: simp only [a1] at hy; simp only [a2] at hb; simp only [a3] at hp; simp only [a4] at hd lays the questions' answers -/
  · simp only [a1] at hy; simp only [a2] at hb; simp only [a3] at hp; simp only [a4] at hd
    have hk := Lib.hid (okInf_head (i := i) hh)
    clear hh
    have HY := Lib.hid hy
    have HBD := Lib.hid hb
    have HP := Lib.hid hp
    have HD := Lib.hid hd
    clear hy hb hp hd
    rcases hkc with ⟨k1, m1, k2, m2, k5, m5⟩ | ⟨k1, m1, k2, m2, k5, m5⟩ | ⟨k1, m1, k2, m2, k5, m5⟩
    all_goals
      go_enter Tryd.func65, Tryd.ntmps65
      go_wp2
      refine wp_region_grow (by kernel_rfl) (by kernel_rfl) ?_
      repeat (go_big_quiet_step ((first | (go_at_call 49; exact calls_grow (HY.out _)) | (go_at_call 90; exact calls_grow (HBD.out _)) | (go_at_call 47; exact calls_grow (HP.out _)) | (go_at_call 48; exact calls_grow (HD.out _)))))
      refine wpQuiet_nil ?_
      intro wq hq
      go_wp2
      go_ret
      exact ⟨ret_bool hk.out.symm, ((Below.refl _ _).alloc (Nat.le_refl _) _).trans (hq.mono (by simp))⟩
  · simp only [a1] at hy; simp only [a2] at hb; simp only [a3] at hp; simp only [a4] at hd
    have HH := Lib.hid hh
    clear hh a1 a2 a3 a4
    have HY := Lib.hid hy
    have HBD := Lib.hid hb
    have HP := Lib.hid hp
    have HD := Lib.hid hd
    clear hy hb hp hd
    by_cases h4 : ((x.ps.length : Nat) : Int) ≤ 4
    case neg =>
      have hk := Lib.hid (okInf_len (wd := wd) (i := i) (x := x) (by omega))
      rcases hkc with ⟨k1, m1, k2, m2, k5, m5⟩ | ⟨k1, m1, k2, m2, k5, m5⟩ | ⟨k1, m1, k2, m2, k5, m5⟩
      all_goals
        go_enter Tryd.func65, Tryd.ntmps65
        go_wp2
        refine wp_region_grow (by kernel_rfl) (by kernel_rfl) ?_
        repeat (go_big_quiet_step ((first | (go_at_call 49; exact calls_grow (HY.out _)) | (go_at_call 90; exact calls_grow (HBD.out _)) | (go_at_call 47; exact calls_grow (HP.out _)) | (go_at_call 48; exact calls_grow (HD.out _)))))
        refine wpQuiet_nil ?_
        intro wq hq
        go_wp2
        go_ret
        exact ⟨ret_bool hk.out.symm, ((Below.refl _ _).alloc (Nat.le_refl _) _).trans (hq.mono (by simp))⟩
    have hl4 : x.ps.length ≤ 4 := by omega
    have hk := Lib.hid (okInf_rest (wd := wd) (i := i) HK.out HH.out hl4)
    have hcl : ∀ w1, Below (w.alloc (.cells #[.int .i64 x.k, .int .i64 x.y, .int .i64 x.b, .int .i64 x.p, .int .i64 x.d, .slice A0 x.ps.length c0] 78)).heap.size (w.alloc (.cells #[.int .i64 x.k, .int .i64 x.y, .int .i64 x.b, .int .i64 x.p, .int .i64 x.d, .slice A0 x.ps.length c0] 78)) w1 →
        CellsAt w1 w.heap.size 0 [.int .i64 x.k, .int .i64 x.y, .int .i64 x.b, .int .i64 x.p, .int .i64 x.d, .slice A0 x.ps.length c0] := fun w1 hb => CellsAt.below CellsAt.of_alloc hb (by simp)
    have BW := Lib.hid (show Below w.heap.size w (w.alloc (.cells #[.int .i64 x.k, .int .i64 x.y, .int .i64 x.b, .int .i64 x.p, .int .i64 x.d, .slice A0 x.ps.length c0] 78)) from (Below.refl _ _).alloc (Nat.le_refl _) _)
    clear HH HK
    rcases hkc with ⟨k1, m1, k2, m2, k5, m5⟩ | ⟨k1, m1, k2, m2, k5, m5⟩ | ⟨k1, m1, k2, m2, k5, m5⟩
    all_goals
      go_enter Tryd.func65, Tryd.ntmps65
      go_wp2
      refine wp_region_grow (by kernel_rfl) (by kernel_rfl) ?_
      repeat (go_big_quiet_step ((first | (go_at_call 49; exact calls_grow (HY.out _)) | (go_at_call 90; exact calls_grow (HBD.out _)) | (go_at_call 47; exact calls_grow (HP.out _)) | (go_at_call 48; exact calls_grow (HD.out _)))))
      refine wpQuiet_nil ?_
      intro wq hq
      obtain ⟨y0, y1, y2, y3, y4, y5⟩ := (hcl _ hq).six
      have HQ := Lib.hid hq
      clear hq
      go_wp2
      go_loopw [58] (fun j wr => ∃ k : Nat, k ≤ x.ps.length ∧ j = .int .i64 k ∧ Hid (parsB i [] x.ps = parsB i (x.ps.take k) (x.ps.drop k)) ∧ Below (w.alloc (.cells #[.int .i64 x.k, .int .i64 x.y, .int .i64 x.b, .int .i64 x.p, .int .i64 x.d, .slice A0 x.ps.length c0] 78)).heap.size (w.alloc (.cells #[.int .i64 x.k, .int .i64 x.y, .int .i64 x.b, .int .i64 x.p, .int .i64 x.d, .slice A0 x.ps.length c0] 78)) wr) (fun j _ => x.ps.length - (intOf j).toNat)
      case atStart => exact ⟨0, Nat.zero_le _, rfl, rfl, HQ.out⟩
      case round =>
        rename_i wr
        obtain ⟨k, hkl, rfl, hd, hb⟩ := hrel
        have HB := Lib.hid hb
        clear hb y0 y1 y2 y3 y4 y5
        obtain ⟨y0, y1, y2, y3, y4, y5⟩ := (hcl _ HB.out).six
        have hw := BW.out.trans (HB.out.mono (by simp))
        by_cases hlt : k < x.ps.length
        · obtain ⟨b, off, p, rfl, hbb, hlk, hcp⟩ := (HS.out.below hw).at_ hlt
          have HSK := Lib.hid ((RdI.take (HS.out.up' hw hw.size) (Nat.le_of_lt hlt)))
          have HW := Lib.hid hw
          clear hw
          cases h1 : inB 0 p (i - 1)
          · have HT := Lib.hid (show okInf wd i x = false by rw [hk.out, pars_no1 hd.out hlk h1]; rfl)
            have H1 := Lib.hid h1
            clear h1 hlk hd
            go_wp2_with fail
            refine (within_b _ _ _ _).mono ?_
            rintro e w2 ⟨rfl, hb2⟩
            rw [H1.out]
            have HB2 := Lib.hid (HW.out.trans (hb2.mono HW.out.size))
            clear hb2 y0 y1 y2 y3 y4 y5 hcp
            go_wp2
            go_ret
            exact ⟨ret_bool HT.out.symm, HB2.out⟩
          · have H1 := Lib.hid h1
            cases h2 : (x.ps.take k).contains p
            · have HT := Lib.hid (pars_yes hd.out hlk h1 h2)
              have H2 := Lib.hid h2
              clear h1 h2 hlk hd
              go_wp2_with fail
              refine (within_b _ _ _ _).mono ?_
              rintro e w2 ⟨rfl, hb2⟩
              rw [H1.out]
              have HB2 := Lib.hid (HB.out.trans (hb2.mono HB.out.size))
              clear hb2 y0 y1 y2 y3 y4 y5 hcp
              obtain ⟨y0, y1, y2, y3, y4, y5⟩ := (hcl _ HB2.out).six
              have hw2 := BW.out.trans (HB2.out.mono (by simp))
              have HSK2 := Lib.hid ((RdI.take (HS.out.up' hw2 hw2.size) (Nat.le_of_lt hlt)))
              clear hw2
              go_wp2_with fail
              refine (containsI_any _ (x.ps.take k) p _ HSK2.out).mono ?_
              rintro e w3 ⟨rfl, hb3⟩
              rw [H2.out]
              have HB3 := Lib.hid (HB2.out.trans (hb3.mono HB2.out.size))
              clear hb3 y0 y1 y2 y3 y4 y5
              go_wp2
              exact ⟨⟨k + 1, by omega, by go_num, HT.out, HB3.out⟩, by simp [intOf]; omega⟩
            · have HT := Lib.hid (show okInf wd i x = false by rw [hk.out, pars_no2 hd.out hlk h2]; rfl)
              have H2 := Lib.hid h2
              clear h1 h2 hlk hd
              go_wp2_with fail
              refine (within_b _ _ _ _).mono ?_
              rintro e w2 ⟨rfl, hb2⟩
              rw [H1.out]
              have HB2 := Lib.hid (HB.out.trans (hb2.mono HB.out.size))
              clear hb2 y0 y1 y2 y3 y4 y5 hcp
              obtain ⟨y0, y1, y2, y3, y4, y5⟩ := (hcl _ HB2.out).six
              have hw2 := BW.out.trans (HB2.out.mono (by simp))
              have HSK2 := Lib.hid ((RdI.take (HS.out.up' hw2 hw2.size) (Nat.le_of_lt hlt)))
              clear hw2
              go_wp2_with fail
              refine (containsI_any _ (x.ps.take k) p _ HSK2.out).mono ?_
              rintro e w3 ⟨rfl, hb3⟩
              rw [H2.out]
              have HB3 := Lib.hid (BW.out.trans ((HB2.out.trans (hb3.mono HB2.out.size)).mono (by simp)))
              clear hb3 y0 y1 y2 y3 y4 y5
              go_wp2
              go_ret
              exact ⟨ret_bool HT.out.symm, HB3.out⟩
        · have HW := Lib.hid hw
          have HT := Lib.hid (show okInf wd i x = tailI x by rw [hk.out, hd.out, List.drop_of_length_le (by omega)]; rfl)
          clear hw hd
          by_cases hn0 : ((x.ps.length : Nat) : Int) = 0
          · have e0 : ((x.ps.length : Nat) : Int) ≤ 0 := by omega
            have HV := Lib.hid (show tailI x = ((!(x.k == 2) || true) && (!(x.k == 5) || false)) by unfold tailI; rw [decide_eq_true (show x.ps.length = 0 by omega), decide_eq_false (show ¬ 0 < x.ps.length by omega)])
            go_wp2
            all_goals go_ret
            all_goals first
              | (exfalso; omega)
              | (exfalso; rename_i hnil; simp [hnil] at hn0; done)
              | exact ⟨ret_bool (by rw [HT.out, HV.out, k2, k5]; first | rfl | exact decide_eq_true (by omega) | exact decide_eq_false (by omega) | (simp; done)), HW.out⟩
          · have e0 : 0 < ((x.ps.length : Nat) : Int) := by omega
            have HV := Lib.hid (show tailI x = ((!(x.k == 2) || false) && (!(x.k == 5) || true)) by unfold tailI; rw [decide_eq_false (show ¬ x.ps.length = 0 by omega), decide_eq_true (show 0 < x.ps.length by omega)])
            go_wp2
            all_goals go_ret
            all_goals first
              | (exfalso; omega)
              | (exfalso; rename_i hnil; simp [hnil] at hn0; done)
              | exact ⟨ret_bool (by rw [HT.out, HV.out, k2, k5]; first | rfl | exact decide_eq_true (by omega) | exact decide_eq_false (by omega) | (simp; done)), HW.out⟩

end Go.Proofs.YtccdnmafakaleaaDoor
