/-
  l07Ok of the reference where the head of the machine is right.
-/
import Derived.Test.YtccdnmafakaleaaDoorMcOkS0
import Derived.Deep.RegionLaw
namespace Go.Proofs.YtccdnmafakaleaaDoor
set_option linter.unusedVariables false
set_option linter.unusedSimpArgs false
open Go.RowKit

set_option maxHeartbeats 16000000 in
set_option maxRecDepth 100000 in
theorem l07Ok_main (m : Mc) (AF : Option Addr) (cF : Nat) (AG : Option Addr) (cG : Nat) (AC : Option Addr) (cC : Nat) (AI : Option Addr) (cI : Nat) (AD : Option Addr) (cD : Nat) (g : Nat) (w : World)
    (hc : CellsAt w g 0 [.int .i64 m.wd, .int .i64 m.rk, .slice AF m.fr.length cF, .slice AG m.bk.length cG, .slice AC m.cs.length cC, .slice AI m.ls.length cI, .slice AD m.dr.length cD])
    (hF : RdLL w w.heap.size (.slice AF m.fr.length cF) m.fr) (hG : RdLL w w.heap.size (.slice AG m.bk.length cG) m.bk) (hC : RdCs w w.heap.size (.slice AC m.cs.length cC) m.cs) (hL : RdIs w w.heap.size (.slice AI m.ls.length cI) m.ls) (hD : RdI w w.heap.size (.slice AD m.dr.length cD) m.dr)
    (hdr : m.dr.length ≤ 1048576) (hh : headM m = true) :
    Calls Tryd.prog 23 #[.pointer (some ⟨g, 0, none⟩)] w fun e w' => e = .returned (.bool (okM m)) ∧ Below w.heap.size w w' := by
  have b3 := RdS.le hC
  have b5 := hD.len_le
  obtain ⟨a1, a2, a3, a4, a5, a6, wb0, wb1, l1, l2, -⟩ := headM_yes hh
  obtain ⟨x0, x1, x2, x3, x4, x5, x6⟩ := hc.seven
  have hgl : g < w.heap.size := block_lt_of_cell x0
  have e0 := fun X => wgrow_cell (x := X) x0
  have e1 := fun X => wgrow_cell (x := X) x1
  have e2 := fun X => wgrow_cell (x := X) x2
  have e3 := fun X => wgrow_cell (x := X) x3
  have e4 := fun X => wgrow_cell (x := X) x4
  have e5 := fun X => wgrow_cell (x := X) x5
  have HC0 := Lib.hid hc
  have HF := Lib.hid hF
  have HG := Lib.hid hG
  have HC := Lib.hid hC
  have HI := Lib.hid hL
  have HD := Lib.hid hD
  have hq1 := fun W => l00In_b m.wd 1 24 W
  have hq2 := fun W => l00In_b m.rk (-3) 3 W
  simp only [a1] at hq1
  simp only [a2] at hq2
  have HQ1 := Lib.hid hq1
  have HQ2 := Lib.hid hq2
  have a7 : decide ((300 : Int) < (m.ls.length : Int)) = false := decide_eq_false (by omega)
  have a8 : decide (300 < m.ls.length) = false := decide_eq_false (by omega)
  generalize hR : okM m = R
  have HR1 := Lib.hid (show R = (carsB m.wd (m.cs.drop 0) && (infsB m.wd 0 m.ls && (lens4 m.fr && (lens4 m.bk && ((rngB 0 ((m.ls.length : Int) - 1) m.dr && risB m.dr) && parsB m.ls.length [] (m.fr.flatten ++ (m.bk.flatten ++ m.dr))))))) by rw [← hR, okM_spec hh]; rfl)
  clear hF hG hC hL hD hc x0 x1 x2 x3 x4 x5 x6 hh hq1 hq2 hR
  go_enter Tryd.func23, Tryd.ntmps23
  go_wp2
  refine wp_region_grow (by kernel_rfl) (by kernel_rfl) ?_
  repeat (go_big_quiet_step ((first | (go_at_call_of 54 (Value.int .i64 m.wd); exact calls_grow (HQ1.out _)) | (go_at_call_of 54 (Value.int .i64 m.rk); exact calls_grow (HQ2.out _)))))
  refine wpQuiet_nil ?_
  intro wq hq
  have HQ := Lib.hid hq
  clear hq e0 e1 e2 e3 e4 e5 a1 a2 a3 a4 a5 a7 a8 HQ1 HQ2
  go_wp2
  go_loopw [3] (fun i wr => ∃ k : Nat, k ≤ m.cs.length ∧ i = .int .i64 k ∧ Hid (R = (carsB m.wd (m.cs.drop k) && (infsB m.wd 0 m.ls && (lens4 m.fr && (lens4 m.bk && ((rngB 0 ((m.ls.length : Int) - 1) m.dr && risB m.dr) && parsB m.ls.length [] (m.fr.flatten ++ (m.bk.flatten ++ m.dr)))))))) ∧ Below w.heap.size w wr) (fun i _ => m.cs.length - (intOf i).toNat)
  case atStart => exact ⟨0, Nat.zero_le _, rfl, HR1.out, HQ.out⟩
  case round =>
    rename_i wr
    obtain ⟨k, hk, rfl, hd, hb⟩ := hrel
    have hcw := HC0.out.below hb hgl
    obtain ⟨x0, x1, x2, x3, x4, x5, x6⟩ := hcw.seven
    by_cases hlt : k < m.cs.length
    · obtain ⟨A', n', c', e', hn', hl', gl⟩ := RdS.below HC.out hb
      injection e' with e1 e2 e3
      subst e1 e2 e3
      obtain ⟨b, off, x, rfl, hbb, hlk, hcc⟩ := gl k hlt
      have hnx := cars_next hd.out hlk
      unfold carB at hnx
      have hw3 : IntKind.i64.wrap (m.wd + 3) = m.wd + 3 := IntWalk.i64_in _ (by omega)
      have f0 := fun o X => wgrow_cell (x := X) ((World.cell?_alloc_lt wr o ⟨g, 0, none⟩ (block_lt_of_cell x0)).trans x0)
      have hal := (CellsAt.of_alloc (w := wr) (us := [.bool x.i, .int .i64 x.p]) (t := 105)).grow2
      have HB := Lib.hid hb
      cases q1 : inB (-3) x.p (m.wd + 3)
      · have HN := Lib.hid (show R = false by rw [hnx, q1]; rfl)
        have Q1 := Lib.hid q1
        obtain ⟨c0, c1⟩ := hcc.two
        obtain ⟨d0, d1⟩ := hal
        clear hb hd hlk hcc gl hnx hcw q1
        go_wp2
        refine wp_region_grow (by kernel_rfl) (by kernel_rfl) ?_
        repeat (go_big_quiet_step ((go_at_call 54; exact calls_grow ((l00In_b x.p (-3) (m.wd + 3) _).mono fun e w' ⟨h1, h2⟩ => ⟨by rw [h1, Q1.out], h2⟩))))
        refine wpQuiet_nil ?_
        intro w2 hb2
        have HB2 := Lib.hid ((HB.out.alloc HB.out.size _).trans (hb2.mono (by simp; have := HB.out.size; omega)))
        clear hb2
        go_wp2
        go_ret
        exact ⟨ret_bool HN.out.symm, HB2.out⟩
      · have Q1 := Lib.hid q1
        cases q2 : x.i
        · obtain ⟨c0, c1⟩ := hcc.two
          rw [q2] at hal c0
          obtain ⟨d0, d1⟩ := hal
          by_cases q3 : x.p = 0
          · have HN := Lib.hid (show R = (carsB m.wd (m.cs.drop (k + 1)) && (infsB m.wd 0 m.ls && (lens4 m.fr && (lens4 m.bk && ((rngB 0 ((m.ls.length : Int) - 1) m.dr && risB m.dr) && parsB m.ls.length [] (m.fr.flatten ++ (m.bk.flatten ++ m.dr))))))) by rw [hnx, q1, q2, decide_eq_true q3]; rfl)
            have q4 : (x.p != 0) = false := by simpa using q3
            clear hb hd hlk hcc gl hnx hcw q1 q3
            go_wp2
            refine wp_region_grow (by kernel_rfl) (by kernel_rfl) ?_
            repeat (go_big_quiet_step ((go_at_call 54; exact calls_grow ((l00In_b x.p (-3) (m.wd + 3) _).mono fun e w' ⟨h1, h2⟩ => ⟨by rw [h1, Q1.out], h2⟩))))
            refine wpQuiet_nil ?_
            intro w2 hb2
            have HB2 := Lib.hid ((HB.out.alloc HB.out.size _).trans (hb2.mono (by simp; have := HB.out.size; omega)))
            clear hb2
            go_wp2
            exact ⟨⟨k + 1, by omega, by go_num, HN.out, HB2.out⟩, by simp [intOf]; omega⟩
          · have HN := Lib.hid (show R = false by rw [hnx, q1, q2, decide_eq_false q3]; rfl)
            have q4 : (x.p != 0) = true := by simpa using q3
            clear hb hd hlk hcc gl hnx hcw q1 q3
            go_wp2
            refine wp_region_grow (by kernel_rfl) (by kernel_rfl) ?_
            repeat (go_big_quiet_step ((go_at_call 54; exact calls_grow ((l00In_b x.p (-3) (m.wd + 3) _).mono fun e w' ⟨h1, h2⟩ => ⟨by rw [h1, Q1.out], h2⟩))))
            refine wpQuiet_nil ?_
            intro w2 hb2
            have HB2 := Lib.hid ((HB.out.alloc HB.out.size _).trans (hb2.mono (by simp; have := HB.out.size; omega)))
            clear hb2
            go_wp2
            go_ret
            exact ⟨ret_bool HN.out.symm, HB2.out⟩
        · obtain ⟨c0, c1⟩ := hcc.two
          rw [q2] at hal c0
          obtain ⟨d0, d1⟩ := hal
          have HN := Lib.hid (show R = (carsB m.wd (m.cs.drop (k + 1)) && (infsB m.wd 0 m.ls && (lens4 m.fr && (lens4 m.bk && ((rngB 0 ((m.ls.length : Int) - 1) m.dr && risB m.dr) && parsB m.ls.length [] (m.fr.flatten ++ (m.bk.flatten ++ m.dr))))))) by rw [hnx, q1, q2]; rfl)
          clear hb hd hlk hcc gl hnx hcw q1
          go_wp2
          refine wp_region_grow (by kernel_rfl) (by kernel_rfl) ?_
          repeat (go_big_quiet_step ((go_at_call 54; exact calls_grow ((l00In_b x.p (-3) (m.wd + 3) _).mono fun e w' ⟨h1, h2⟩ => ⟨by rw [h1, Q1.out], h2⟩))))
          refine wpQuiet_nil ?_
          intro w2 hb2
          have HB2 := Lib.hid ((HB.out.alloc HB.out.size _).trans (hb2.mono (by simp; have := HB.out.size; omega)))
          clear hb2
          go_wp2
          exact ⟨⟨k + 1, by omega, by go_num, HN.out, HB2.out⟩, by simp [intOf]; omega⟩
    · have HR2 := Lib.hid (show R = (infsB m.wd ((0 : Nat) : Int) (m.ls.drop 0) && (lens4 m.fr && (lens4 m.bk && ((rngB 0 ((m.ls.length : Int) - 1) m.dr && risB m.dr) && parsB m.ls.length [] (m.fr.flatten ++ (m.bk.flatten ++ m.dr)))))) by rw [hd.out, List.drop_of_length_le (by omega)]; rfl)
      have HB := Lib.hid hb
      clear hb hd hcw HR1 HQ
      go_wp2
      clear x0 x1 x2 x3 x4 x5 x6
      go_loopw [5] (fun i wr => ∃ (k : Nat) (W2 : World), W2 = wr ∧ k ≤ m.ls.length ∧ i = .int .i64 k ∧ Hid (R = (infsB m.wd (k : Int) (m.ls.drop k) && (lens4 m.fr && (lens4 m.bk && ((rngB 0 ((m.ls.length : Int) - 1) m.dr && risB m.dr) && parsB m.ls.length [] (m.fr.flatten ++ (m.bk.flatten ++ m.dr))))))) ∧ Below w.heap.size w W2) (fun i _ => m.ls.length - (intOf i).toNat)
      case atStart => exact ⟨0, _, rfl, Nat.zero_le _, rfl, HR2.out, HB.out⟩
      case round =>
        obtain ⟨k, wz, hwr, hk, rfl, hd, hb⟩ := hrel
        subst hwr
        have hcw := HC0.out.below hb hgl
        obtain ⟨x0, x1, x2, x3, x4, x5, x6⟩ := hcw.seven
        by_cases hlt : k < m.ls.length
        · obtain ⟨b, off, x, A5, c5, rfl, hbb, hlk, hcc, hs, hcap⟩ := (RdIs.below HI.out hb).at_cap hlt
          have hnx := infs_next hd.out hlk
          have f0 := fun X => wgrow_cell (x := X) x0
          have f5 := fun X => wgrow_cell (x := X) x5
          have HB1 := Lib.hid hb
          have hinf := fun X => l07Info_any x A5 c5 hcap (k : Int) m.wd b (off + k * 6) (wgrow wz X) (by omega) (by omega) wb0 wb1 (hcc.grow X) ((hs.below ((below_wgrow wz X).mono hb.size)).more (Nat.le_trans hb.size (below_wgrow wz X).size))
          cases q1 : okInf m.wd (k : Int) x
          · have HN := Lib.hid (show R = false by rw [hnx, q1]; rfl)
            simp only [q1] at hinf
            have HINF := Lib.hid hinf
            clear hb hd hlk hcc hnx hcw hs hinf
            go_wp2
            refine wp_region_grow (by kernel_rfl) (by kernel_rfl) ?_
            repeat (go_big_quiet_step ((go_at_call 55; exact calls_grow (HINF.out _))))
            refine wpQuiet_nil ?_
            intro w2 hb2
            have HB2 := Lib.hid (HB1.out.trans (hb2.mono HB1.out.size))
            clear hb2
            go_wp2
            go_ret
            exact ⟨ret_bool HN.out.symm, HB2.out⟩
          · have HN := Lib.hid (show R = (infsB m.wd ((k + 1 : Nat) : Int) (m.ls.drop (k + 1)) && (lens4 m.fr && (lens4 m.bk && ((rngB 0 ((m.ls.length : Int) - 1) m.dr && risB m.dr) && parsB m.ls.length [] (m.fr.flatten ++ (m.bk.flatten ++ m.dr)))))) by rw [hnx, q1, show ((k + 1 : Nat) : Int) = (k : Int) + 1 by omega]; rfl)
            simp only [q1] at hinf
            have HINF := Lib.hid hinf
            clear hb hd hlk hcc hnx hcw hs hinf
            go_wp2
            refine wp_region_grow (by kernel_rfl) (by kernel_rfl) ?_
            repeat (go_big_quiet_step ((go_at_call 55; exact calls_grow (HINF.out _))))
            refine wpQuiet_nil ?_
            intro w2 hb2
            have HB2 := Lib.hid (HB1.out.trans (hb2.mono HB1.out.size))
            clear hb2
            go_wp2
            exact ⟨⟨k + 1, _, rfl, by omega, by go_num, HN.out, HB2.out⟩, by simp [intOf]; omega⟩
        · have HR3 := Lib.hid (show R = (lens4 m.fr && (lens4 m.bk && ((rngB 0 ((m.ls.length : Int) - 1) m.dr && risB m.dr) && parsB m.ls.length [] (m.fr.flatten ++ (m.bk.flatten ++ m.dr))))) by rw [hd.out, List.drop_of_length_le (by omega)]; rfl)
          have HB1 := Lib.hid hb
          clear hb hd hcw HR2 HB
          go_wp2_with fail
          refine (l07Lists_any _ m.fr _ (RdLL.more (RdLL.below HF.out HB1.out) HB1.out.size) l1).mono ?_
          rintro e w3 ⟨va, rfl, hoa, hla, hb3⟩
          have HB3 := Lib.hid (HB1.out.trans (hb3.mono HB1.out.size))
          have HOA := Lib.hid (own_lo hoa HB1.out.size)
          clear hoa hb3 x0 x1 x2 x3 x4 x5 x6
          obtain ⟨x0, x1, x2, x3, x4, x5, x6⟩ := (HC0.out.below HB3.out hgl).seven
          go_wp2_with fail
          refine (l07Lists_any _ m.bk _ (RdLL.more (RdLL.below HG.out HB3.out) HB3.out.size) l2).mono ?_
          rintro e w4 ⟨vb, rfl, hob, hlb, hb4⟩
          have HOA4 := Lib.hid (own_below HOA.out hb4)
          have HB4 := Lib.hid (HB3.out.trans (hb4.mono HB3.out.size))
          have HOB := Lib.hid hob
          clear hob hb4 x0 x1 x2 x3 x4 x5 x6 HOA
          have hcw4 := HC0.out.below HB4.out hgl
          obtain ⟨x0, x1, x2, x3, x4, x5, x6⟩ := hcw4.seven
          have f5 := fun X => wgrow_cell (x := X) x5
          have f6 := fun X => wgrow_cell (x := X) x6
          have hwn : IntKind.i64.wrap ((m.ls.length : Int) - 1) = (m.ls.length : Int) - 1 := IntWalk.i64_in _ (by omega)
          have HDX := fun X => Lib.hid ((HD.out.below (HB4.out.trans ((below_wgrow w4 X).mono HB4.out.size))).more (Nat.le_trans HB4.out.size (below_wgrow w4 X).size))
          cases hfr : lens4 m.fr
          · have HN := Lib.hid (show R = false by rw [HR3.out, hfr]; rfl)
            clear hcw4 hfr
            go_wp2
            refine wp_region_grow (by kernel_rfl) (by kernel_rfl) ?_
            repeat (go_big_quiet_step (fail))
            refine wpQuiet_nil ?_
            intro w5 hb5
            have HB5 := Lib.hid (HB4.out.trans (hb5.mono HB4.out.size))
            clear hb5
            go_wp2
            go_ret
            exact ⟨ret_bool HN.out.symm, HB5.out⟩
          cases hbk : lens4 m.bk
          · have HN := Lib.hid (show R = false by rw [HR3.out, hfr, hbk]; rfl)
            clear hcw4 hfr hbk
            go_wp2
            refine wp_region_grow (by kernel_rfl) (by kernel_rfl) ?_
            repeat (go_big_quiet_step (fail))
            refine wpQuiet_nil ?_
            intro w5 hb5
            have HB5 := Lib.hid (HB4.out.trans (hb5.mono HB4.out.size))
            clear hb5
            go_wp2
            go_ret
            exact ⟨ret_bool HN.out.symm, HB5.out⟩
          rw [flatOf_yes hfr] at HOA4 hla
          rw [flatOf_yes hbk] at HOB hlb
          cases hrs : (rngB 0 ((m.ls.length : Int) - 1) m.dr && risB m.dr)
          · have HN := Lib.hid (show R = false by rw [HR3.out, hfr, hbk, hrs]; rfl)
            have HRS := Lib.hid hrs
            clear hcw4 hfr hbk hrs
            go_wp2
            refine wp_region_grow (by kernel_rfl) (by kernel_rfl) ?_
            repeat (go_big_quiet_step ((go_at_call 57; exact calls_grow ((l00Rises_any _ m.dr 0 ((m.ls.length : Int) - 1) _ (HDX _).out).mono fun e w' ⟨h1, h2⟩ => ⟨by rw [h1, HRS.out], h2⟩))))
            refine wpQuiet_nil ?_
            intro w5 hb5
            have HB5 := Lib.hid (HB4.out.trans (hb5.mono HB4.out.size))
            clear hb5
            go_wp2
            go_ret
            exact ⟨ret_bool HN.out.symm, HB5.out⟩
          have HR4 := Lib.hid (show R = parsB m.ls.length [] (m.fr.flatten ++ (m.bk.flatten ++ m.dr)) by rw [HR3.out, hfr, hbk, hrs]; rfl)
          have HRS := Lib.hid hrs
          clear hcw4 hfr hbk hrs HR3
          go_wp2
          refine wp_region_grow (by kernel_rfl) (by kernel_rfl) ?_
          repeat (go_big_quiet_step ((go_at_call 57; exact calls_grow ((l00Rises_any _ m.dr 0 ((m.ls.length : Int) - 1) _ (HDX _).out).mono fun e w' ⟨h1, h2⟩ => ⟨by rw [h1, HRS.out], h2⟩))))
          refine wpQuiet_nil ?_
          intro w5 hb5
          have HB5 := Lib.hid (HB4.out.trans (hb5.mono HB4.out.size))
          have HOA5 := Lib.hid (own_below HOA4.out hb5)
          have HOB5 := Lib.hid (own_below HOB.out hb5)
          clear hb5 f5 f6 HDX HOA4 HOB x0 x1 x2 x3 x4 x5 x6
          obtain ⟨x0, x1, x2, x3, x4, x5, x6⟩ := (HC0.out.below HB5.out hgl).seven
          go_wp2
          obtain ⟨i0, hi, hz0, hz1, hz2⟩ := info_parts info_int
          generalize hFA : m.fr.flatten = FA at *
          generalize hFB : m.bk.flatten = FB at *
          clear hFA hFB
          obtain ⟨Aa, ca, rfl, -⟩ := (OwC.of_own HOA5.out).cells
          obtain ⟨Ab, cb, rfl, -⟩ := (OwC.of_own HOB5.out).cells
          have hrb := Lib.hid (Reads.of_own HOB5.out)
          have hrd := Lib.hid ((HD.out.below HB5.out).reads).1
          have hoA := Lib.hid (show (w5.drew).ownsRow w.heap.size 2 1 (.slice Aa FA.length ca) FA.length (vI FA) from HOA5.out)
          have hbs := HB5.out.size
          have hx6 := x6
          have hx5 := x5
          go_region_law (first
            | (refine step_append_any _ rfl (.tmp 159) (.tmp 160) _ rfl w.heap.size 2 i0 _ 1 8 Tryd.underlying25 hi hz0 hz1 hz2 rfl (by decide) _ _ _ rfl hoA.out _ Ab _ cb _ rfl hrb.out.drew (vI_one _) (by unfold maxLen; omega) (by omega) hbs ?_; intro v6 w6 hown6 hg6 hat6; have hrd6 : Reads w6 w.heap.size 1 AD m.dr.length (vI m.dr) := Reads.grown (w := w5.drew) hrd.out.drew hg6 hbs (fun gg hgg => (HOA5.out.lt gg hgg).1); have hx6 : w6.cell? ⟨g, 6, none⟩ = some (.slice AD m.dr.length cD) := (World.cell?_of_block (hg6.block g (by show g < w5.heap.size; omega) (fun e => by have := (HOA5.out.lt _ e.symm).1; omega))).trans x6; have hx5 : w6.cell? ⟨g, 5, none⟩ = some (.slice AI m.ls.length cI) := (World.cell?_of_block (hg6.block g (by show g < w5.heap.size; omega) (fun e => by have := (HOA5.out.lt _ e.symm).1; omega))).trans x5; have hb6 : Below w.heap.size w w6 := HB5.out.drew.grown hg6 hbs (fun gg hgg => (HOA5.out.lt gg hgg).1); clear hat6)
            | (refine step_append_any _ rfl (.tmp 161) (.tmp 165) _ rfl w.heap.size 2 i0 _ 1 8 Tryd.underlying25 hi hz0 hz1 hz2 rfl (by decide) _ _ _ rfl hown6 _ AD _ cD _ rfl hrd6 (vI_one _) (by unfold maxLen; omega) (by omega) hb6.size ?_; intro v7 w7 hown7 hg7 hat7; have hb7 : Below w.heap.size w w7 := hb6.grown hg7 hb6.size (fun gg hgg => (hown6.lt gg hgg).1); clear hat7))
          all_goals
            have HO7 : Hid (w7.ownsRow w.heap.size 2 1 v7 (FA ++ (FB ++ m.dr)).length (vI (FA ++ (FB ++ m.dr)))) := by
              unfold Hid
              rw [show (FA ++ (FB ++ m.dr)).length = FA.length + FB.length + m.dr.length by simp; omega, vI_append, vI_append, ← List.append_assoc]
              exact hown7
            have HB7 := Lib.hid hb7
            clear hown6 hg6 hrd6 hx6 hx5 hb6 hown7 hg7 hb7 hrb hrd hoA HOA5 HOB5 x0 x1 x2 x3 x4 x5 x6
            have hal0 : (FA ++ (FB ++ m.dr)).length ≤ 2097152 := by simp; omega
            generalize hALL : FA ++ (FB ++ m.dr) = ALL at *
            clear hALL
            have how := OwC.of_own HO7.out
            obtain ⟨A7, n7, c7, hv7, hcap7⟩ := how.cap
            obtain ⟨A8, c8, hv8, -⟩ := how.cells
            have hRA := Lib.hid (RdI.of_own how)
            rw [hv8] at hv7 hRA
            injection hv7 with q1 q2 q3
            subst q1 q2 q3
            subst hv8
            clear how HO7
            have hcw7 := HC0.out.below HB7.out hgl
            generalize hal : ALL.length = an at *
            have HAL := Lib.hid hal
            have HR5 := Lib.hid (show R = parsB m.ls.length (ALL.take 0) (ALL.drop 0) from HR4.out)
            have HCW := Lib.hid hcw7
            clear hal HR4 hcw7
            go_wp2
            go_loopw [11] (fun i wr => ∃ (k : Nat) (W2 : World), W2 = wr ∧ k ≤ an ∧ i = .int .i64 k ∧ Hid (R = parsB m.ls.length (ALL.take k) (ALL.drop k)) ∧ Below w7.heap.size w7 W2) (fun i _ => an - (intOf i).toNat)
            case atStart => exact ⟨0, _, rfl, Nat.zero_le _, rfl, HR5.out, Below.refl _ _⟩
            case round =>
              obtain ⟨k, wy, hwr, hk, rfl, hd, hb⟩ := hrel
              subst hwr
              have hgl7 : g < w7.heap.size := Nat.lt_of_lt_of_le hgl HB7.out.size
              have hcy := HCW.out.below hb hgl7
              obtain ⟨x0, x1, x2, x3, x4, x5, x6⟩ := hcy.seven
              have f5 := fun X => wgrow_cell (x := X) x5
              have HBB := Lib.hid (HB7.out.trans (hb.mono HB7.out.size))
              by_cases hlt : k < an
              · obtain ⟨b, off, y, rfl, hbb, hlk, hcc⟩ := (hRA.out.below hb).at_ hlt
                have e0 := fun X => wgrow_cell (x := X) hcc
                have HSK := fun X => Lib.hid (RdI.take (hRA.out.up' (hb.trans ((below_wgrow wy X).mono hb.size)) (Nat.le_trans hb.size (below_wgrow wy X).size)) (Nat.le_of_lt hlt))
                have HB8 := Lib.hid hb
                cases h1 : inB 0 y ((m.ls.length : Int) - 1)
                · have HT := Lib.hid (pars_no1 hd.out hlk h1)
                  have H1 := Lib.hid h1
                  clear hb hd hlk hcc hcy h1
                  go_wp2
                  refine wp_region_grow (by kernel_rfl) (by kernel_rfl) ?_
                  repeat (go_big_quiet_step ((go_at_call 54; exact calls_grow ((l00In_b y 0 ((m.ls.length : Int) - 1) _).mono fun e w' ⟨h1, h2⟩ => ⟨by rw [h1, H1.out], h2⟩))))
                  refine wpQuiet_nil ?_
                  intro w9 hb9
                  have HB9 := Lib.hid (HBB.out.trans (hb9.mono HBB.out.size))
                  clear hb9
                  go_wp2
                  go_ret
                  exact ⟨ret_bool HT.out.symm, HB9.out⟩
                · have H1 := Lib.hid h1
                  cases h2 : (ALL.take k).contains y
                  · have HT := Lib.hid (pars_yes hd.out hlk h1 h2)
                    have H2 := Lib.hid h2
                    clear hb hd hlk hcc hcy h1 h2
                    go_wp2
                    refine wp_region_grow (by kernel_rfl) (by kernel_rfl) ?_
                    repeat (go_big_quiet_step ((first | (go_at_call 54; exact calls_grow ((l00In_b y 0 ((m.ls.length : Int) - 1) _).mono fun e w' ⟨h1, h2⟩ => ⟨by rw [h1, H1.out], h2⟩)) | (go_at_call 58; exact calls_grow ((l00Has_any _ (ALL.take k) y _ (HSK _).out).mono fun e w' ⟨h1, h2⟩ => ⟨by rw [h1, H2.out], h2⟩)))))
                    refine wpQuiet_nil ?_
                    intro w9 hb9
                    have HB9 := Lib.hid (HB8.out.trans (hb9.mono HB8.out.size))
                    clear hb9
                    go_wp2
                    exact ⟨⟨k + 1, _, rfl, by omega, by go_num, HT.out, HB9.out⟩, by simp [intOf]; omega⟩
                  · have HT := Lib.hid (pars_no2 hd.out hlk h2)
                    have H2 := Lib.hid h2
                    clear hb hd hlk hcc hcy h1 h2
                    go_wp2
                    refine wp_region_grow (by kernel_rfl) (by kernel_rfl) ?_
                    repeat (go_big_quiet_step ((first | (go_at_call 54; exact calls_grow ((l00In_b y 0 ((m.ls.length : Int) - 1) _).mono fun e w' ⟨h1, h2⟩ => ⟨by rw [h1, H1.out], h2⟩)) | (go_at_call 58; exact calls_grow ((l00Has_any _ (ALL.take k) y _ (HSK _).out).mono fun e w' ⟨h1, h2⟩ => ⟨by rw [h1, H2.out], h2⟩)))))
                    refine wpQuiet_nil ?_
                    intro w9 hb9
                    have HB9 := Lib.hid (HBB.out.trans (hb9.mono HBB.out.size))
                    clear hb9
                    go_wp2
                    go_ret
                    exact ⟨ret_bool HT.out.symm, HB9.out⟩
              · have HT := Lib.hid (show R = true by rw [hd.out, List.drop_of_length_le (by have := HAL.out; omega)]; rfl)
                clear hb hd hcy
                go_wp2
                go_ret
                exact ⟨ret_bool HT.out.symm, HBB.out⟩

end Go.Proofs.YtccdnmafakaleaaDoor
