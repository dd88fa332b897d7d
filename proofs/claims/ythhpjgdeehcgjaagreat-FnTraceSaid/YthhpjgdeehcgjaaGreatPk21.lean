/-
  Texts joined: ExF.
-/
import Derived.Test.YthhpjgdeehcgjaaGreatPk20
/-
  The program's execute on a machine of its own: transfers and splits.
-/
namespace Go.Proofs.YthhpjgdeehcgjaaGreat
set_option linter.unusedVariables false
set_option linter.unusedSimpArgs false
open Go.RowKit


set_option maxHeartbeats 4000000 in
set_option maxRecDepth 100000 in
theorem exec_4b {w : World} {B g : Nat} {m : Mc} {S : Nat → Spot} (h : MSt w B g m S) (hB : B ≤ w.heap.size) (ok : okM m = true) (d fa ta c r : Int) (hop : okOpW m.wd ⟨4, d, 1, fa, 2, ta, c, r⟩ = true) (h0 : doCode m ⟨4, d, 1, fa, 2, ta, c, r⟩ = 0) (hn : ndIn m (1, fa)) (ht : ndIn m (2, ta)) :
    Calls Tryz.prog 41 #[.pointer (some ⟨g, 0, none⟩), (⟨4, d, 1, fa, 2, ta, c, r⟩ : Opr).v] w fun e w' => e = .returned (.int .i64 0) ∧ ∃ S', MSt w' B g (doTo m ⟨4, d, 1, fa, 2, ta, c, r⟩) S' ∧ Mv w S w' S' := by
  have hok := okM_iff.1 ok
  obtain ⟨d1, d2, d3, d4, d5, d6, d7⟩ := ok_wd ok
  have HOP := Lib.hid hop
  have hb0 := (Below.refl w.heap.size w).alloc (Nat.le_refl _) (.cells #[.int .i64 4, .int .i64 d, .int .i64 1, .int .i64 fa, .int .i64 2, .int .i64 ta, .int .i64 c, .int .i64 r] 41)
  have HM1 := Lib.hid (h.below hb0)
  have HV1 := Lib.hid (Mv.of_below (S := S) hb0)
  have HO1 := Lib.hid (Bx.new w [.int .i64 4, .int .i64 d, .int .i64 1, .int .i64 fa, .int .i64 2, .int .i64 ta, .int .i64 c, .int .i64 r] 41)
  have HNB := Lib.hid (show ¬ blk S w.heap.size from fun e => by have := (h.sp.ge e).2; omega)
  have HQ0 := Lib.hid (fun (W : World) (hW : RdP W g m) => opCode_any m g W hW ok ⟨4, d, 1, fa, 2, ta, c, r⟩ hop)
  rw [h0] at HQ0
  have hs1 : (w.alloc (.cells #[.int .i64 4, .int .i64 d, .int .i64 1, .int .i64 fa, .int .i64 2, .int .i64 ta, .int .i64 c, .int .i64 r] 41)).heap.size = w.heap.size + 1 := by simp
  have HNF := Lib.hid hn
  have HNT := Lib.hid ht
  have h4 := hok.on4
  obtain ⟨-, HT⟩ := do4 (m := m) (x := ⟨4, d, 1, fa, 2, ta, c, r⟩) rfl
  have hmv : doTo m ⟨4, d, 1, fa, 2, ta, c, r⟩ = setL (setL m (2, ta) (onL m (1, fa) ++ onL m (2, ta))) (1, fa) [] := by
    rw [HT]
    show setL (setL m (2, ta) (mvL m ⟨4, d, 1, fa, 2, ta, c, r⟩)) (1, fa) [] = _
    rw [show mvL m ⟨4, d, 1, fa, 2, ta, c, r⟩ = onL m (1, fa) ++ onL m (2, ta) from if_pos rfl]
  rw [hmv]
  clear hmv HT
  clear h hb0 ok hop h0
  go_enter Tryz.func41, Tryz.ntmps41
  obtain ⟨o0, o1, o2, o3, o4, o5, o6, o7⟩ := HO1.out.eight
  go_wp2_with fail
  generalize w.alloc (.cells #[.int .i64 4, .int .i64 d, .int .i64 1, .int .i64 fa, .int .i64 2, .int .i64 ta, .int .i64 c, .int .i64 r] 41) = W1 at *
  refine (HQ0.out _ HM1.out.rd).mono ?_
  rintro e w2 ⟨rfl, hb2⟩
  have HM2 := Lib.hid (HM1.out.below hb2)
  have HV2 := Lib.hid (HV1.out.below_ hb2)
  have HO2 := Lib.hid (HO1.out.below hb2 HO1.out.2.2)
  have hsz2 : w.heap.size < w2.heap.size := by have := hb2.size; omega
  clear hb2 o0 o1 o2 o3 o4 o5 o6 o7 HM1 HV1 HO1 HQ0
  obtain ⟨o0, o1, o2, o3, o4, o5, o6, o7⟩ := HO2.out.eight
  have HTR := Lib.hid (transfer_b HM2.out (by omega) fa ta HNF.out HNT.out h4)
  go_wp2_with fail
  refine (HTR.out).mono ?_
  rintro e w3 ⟨v3, S3, rfl, -, -, hm3, hv3⟩
  have HFIN := Lib.hid (And.intro hm3 (HV2.out.trans hv3))
  have hob : OpAt w3 w.heap.size 0 ⟨4, d, 1, fa, 2, ta, c, r⟩ := hv3.only.cells HNB.out HO2.out.1
  clear o0 o1 o2 o3 o4 o5 o6 o7 HTR hm3 hv3
  obtain ⟨o0, o1, o2, o3, o4, o5, o6, o7⟩ := hob.eight
  go_wp2_with fail
  refine (makesLoop_rk 4 _).mono ?_
  rintro e wz ⟨rfl, rfl⟩
  go_wp2
  go_ret
  exact ⟨rfl, S3, HFIN.out.1, HFIN.out.2⟩

set_option maxHeartbeats 4000000 in
set_option maxRecDepth 100000 in
theorem exec_5br {w : World} {B g : Nat} {m : Mc} {S : Nat → Spot} (h : MSt w B g m S) (hB : B ≤ w.heap.size) (ok : okM m = true) (fa ta r : Int) (j : Nat) (hj4 : j < 4) (hop : okOpW m.wd ⟨5, 1, 1, fa, 2, ta, ((j : Int) + 1), r⟩ = true) (h0 : doCode m ⟨5, 1, 1, fa, 2, ta, ((j : Int) + 1), r⟩ = 0) (f0 : 0 ≤ fa) (f1 : fa < m.wd) (hn : ndIn m (1, fa)) (ht : ndIn m (2, ta)) (hl3 : m.ls.length < 300) :
    Calls Tryz.prog 41 #[.pointer (some ⟨g, 0, none⟩), (⟨5, 1, 1, fa, 2, ta, ((j : Int) + 1), r⟩ : Opr).v] w fun e w' => e = .returned (.int .i64 0) ∧ ∃ S', MSt w' B g (doTo m ⟨5, 1, 1, fa, 2, ta, ((j : Int) + 1), r⟩) S' ∧ Mv w S w' S' := by
  have hok := okM_iff.1 ok
  obtain ⟨d1, d2, d3, d4, d5, d6, d7⟩ := ok_wd ok
  have HOP := Lib.hid hop
  have hb0 := (Below.refl w.heap.size w).alloc (Nat.le_refl _) (.cells #[.int .i64 5, .int .i64 1, .int .i64 1, .int .i64 fa, .int .i64 2, .int .i64 ta, .int .i64 ((j : Int) + 1), .int .i64 r] 41)
  have HM1 := Lib.hid (h.below hb0)
  have HV1 := Lib.hid (Mv.of_below (S := S) hb0)
  have HO1 := Lib.hid (Bx.new w [.int .i64 5, .int .i64 1, .int .i64 1, .int .i64 fa, .int .i64 2, .int .i64 ta, .int .i64 ((j : Int) + 1), .int .i64 r] 41)
  have HNB := Lib.hid (show ¬ blk S w.heap.size from fun e => by have := (h.sp.ge e).2; omega)
  have HQ0 := Lib.hid (fun (W : World) (hW : RdP W g m) => opCode_any m g W hW ok ⟨5, 1, 1, fa, 2, ta, ((j : Int) + 1), r⟩ hop)
  rw [h0] at HQ0
  have hs1 : (w.alloc (.cells #[.int .i64 5, .int .i64 1, .int .i64 1, .int .i64 fa, .int .i64 2, .int .i64 ta, .int .i64 ((j : Int) + 1), .int .i64 r] 41)).heap.size = w.heap.size + 1 := by simp
  have HNF := Lib.hid hn
  have HNT := Lib.hid ht
  have h4 := hok.on4
  have hon4 : (onL m (1, fa)).length ≤ 4 := hok.on4 (1, fa)
  obtain ⟨Y, hY⟩ : ∃ Y, Y = doTo m ⟨5, 1, 1, fa, 2, ta, ((j : Int) + 1), r⟩ := ⟨_, rfl⟩
  have hY2 : Y = setC (setL (addLp (setL (setL m (2, ta) (onL m (1, fa) ++ onL m (2, ta))) (1, fa) []) ⟨5, 1, 1, fa, 2, ta, ((j : Int) + 1), r⟩ (onL m (1, fa))) (1, fa) (onL (setL (setL m (2, ta) (onL m (1, fa) ++ onL m (2, ta))) (1, fa) []) (1, fa) ++ [((setL (setL m (2, ta) (onL m (1, fa) ++ onL m (2, ta))) (1, fa) []).ls.length : Int)])) ((j : Int) + 1) ⟨(carAt (setL (addLp (setL (setL m (2, ta) (onL m (1, fa) ++ onL m (2, ta))) (1, fa) []) ⟨5, 1, 1, fa, 2, ta, ((j : Int) + 1), r⟩ (onL m (1, fa))) (1, fa) (onL (setL (setL m (2, ta) (onL m (1, fa) ++ onL m (2, ta))) (1, fa) []) (1, fa) ++ [((setL (setL m (2, ta) (onL m (1, fa) ++ onL m (2, ta))) (1, fa) []).ls.length : Int)])) ((j : Int) + 1)).i, plc 1 fa m.rk + 1⟩ := by
    have e1 := (do125 (m := m) (x := ⟨5, 1, 1, fa, 2, ta, ((j : Int) + 1), r⟩) (.inr (.inr rfl))).2
    have e2 : onL (setL (setL m (2, ta) (onL m (1, fa) ++ onL m (2, ta))) (1, fa) []) (1, fa) = [] := onL_setL [] (ndIn_setL hn)
    have e3 : mvTo m ⟨5, 1, 1, fa, 2, ta, ((j : Int) + 1), r⟩ = setL (setL m (2, ta) (onL m (1, fa) ++ onL m (2, ta))) (1, fa) [] := by
      show setL (setL m (2, ta) (mvL m ⟨5, 1, 1, fa, 2, ta, ((j : Int) + 1), r⟩)) (1, fa) [] = _
      rw [show mvL m ⟨5, 1, 1, fa, 2, ta, ((j : Int) + 1), r⟩ = onL m (1, fa) ++ onL m (2, ta) from if_pos rfl]
    rw [hY, e1, e2, carAt_cs (m := m) (by rw [setL_cs]; show (setL (setL m _ _) _ _).cs = _; rw [setL_cs, setL_cs]), setL_ls, setL_ls, ← e3]
    show setL (addLp (mvTo (carTo m ⟨5, 1, 1, fa, 2, ta, ((j : Int) + 1), r⟩) ⟨5, 1, 1, fa, 2, ta, ((j : Int) + 1), r⟩) ⟨5, 1, 1, fa, 2, ta, ((j : Int) + 1), r⟩ (onL m (1, fa))) (1, fa) [(m.ls.length : Int)] = _
    rw [show carTo m ⟨5, 1, 1, fa, 2, ta, ((j : Int) + 1), r⟩ = setC m ((j : Int) + 1) ⟨(carAt m ((j : Int) + 1)).i, plc 1 fa m.rk + 1⟩ from rfl]
    exact (fin5 m ⟨5, 1, 1, fa, 2, ta, ((j : Int) + 1), r⟩ _ _ _ _).symm
  rw [← hY]
  have HY := Lib.hid hY2
  clear hY hY2
  clear h hb0 ok hop h0
  go_enter Tryz.func41, Tryz.ntmps41
  obtain ⟨o0, o1, o2, o3, o4, o5, o6, o7⟩ := HO1.out.eight
  go_wp2_with fail
  generalize w.alloc (.cells #[.int .i64 5, .int .i64 1, .int .i64 1, .int .i64 fa, .int .i64 2, .int .i64 ta, .int .i64 ((j : Int) + 1), .int .i64 r] 41) = W1 at *
  refine (HQ0.out _ HM1.out.rd).mono ?_
  rintro e w2 ⟨rfl, hb2⟩
  have HM2 := Lib.hid (HM1.out.below hb2)
  have HV2 := Lib.hid (HV1.out.below_ hb2)
  have HO2 := Lib.hid (HO1.out.below hb2 HO1.out.2.2)
  have hsz2 : w.heap.size < w2.heap.size := by have := hb2.size; omega
  clear hb2 o0 o1 o2 o3 o4 o5 o6 o7 HM1 HV1 HO1 HQ0
  obtain ⟨o0, o1, o2, o3, o4, o5, o6, o7⟩ := HO2.out.eight
  have HTR := Lib.hid (transfer_b HM2.out.drew (by show B ≤ w2.heap.size; omega) fa ta HNF.out HNT.out h4)
  have HLS := Lib.hid (show (setL (setL m (2, ta) (onL m (1, fa) ++ onL m (2, ta))) (1, fa) []).ls.length < 300 by rw [setL_ls, setL_ls]; exact hl3)
  have HN1 := Lib.hid (ndIn_setL (t := (1, fa)) (l := []) (ndIn_setL (t := (2, ta)) (l := onL m (1, fa) ++ onL m (2, ta)) HNF.out))
  have HOL := Lib.hid (show (onL (setL (setL m (2, ta) (onL m (1, fa) ++ onL m (2, ta))) (1, fa) []) (1, fa)).length ≤ 4 by rw [onL_setL [] (ndIn_setL HNF.out)]; simp)
  go_upto_region 14 with fail
  go_region_held3 (fun w' => w'.cell? ⟨w.heap.size, 0, none⟩ = some (.int .i64 5) ∧ w'.cell? ⟨w.heap.size, 1, none⟩ = some (.int .i64 1) ∧ w'.cell? ⟨w.heap.size, 2, none⟩ = some (.int .i64 1) ∧ w'.cell? ⟨w.heap.size, 3, none⟩ = some (.int .i64 fa) ∧ w'.cell? ⟨w.heap.size, 4, none⟩ = some (.int .i64 2) ∧ w'.cell? ⟨w.heap.size, 5, none⟩ = some (.int .i64 ta) ∧ w'.cell? ⟨w.heap.size, 6, none⟩ = some (.int .i64 ((j : Int) + 1)) ∧ w'.cell? ⟨w.heap.size, 7, none⟩ = some (.int .i64 r))
    (first | with_reducible exact ⟨o0, o1, o2, o3, o4, o5, o6, o7⟩ | with_reducible exact ⟨q0, q1, q2, q3, q4, q5, q6, q7⟩ | with_reducible exact ⟨s0, s1, s2, s3, s4, s5, s6, s7⟩ | go_keep)
    (first
      | (go_at_call 82; refine (HTR.out).mono ?_; rintro e w3 ⟨v3, S3, rfl, hr3, hd3, hm3, hv3⟩; obtain ⟨q0, q1, q2, q3, q4, q5, q6, q7⟩ := (show OpAt w3 w.heap.size 0 ⟨5, 1, 1, fa, 2, ta, ((j : Int) + 1), r⟩ from hv3.only.cells HNB.out HO2.out.1).eight)
      | (go_at_call 81; refine (loop_any hm3 (Nat.le_trans hB (Nat.le_trans (Nat.le_of_lt hsz2) hv3.size)) ⟨5, 1, 1, fa, 2, ta, ((j : Int) + 1), r⟩ v3 (onL m (1, fa)) hr3 hd3 hon4 HLS.out HN1.out HOL.out).mono ?_; rintro e w4 ⟨rfl, S4, hm4, hv4⟩; have hob4 : OpAt w4 w.heap.size 0 ⟨5, 1, 1, fa, 2, ta, ((j : Int) + 1), r⟩ := hv4.only.cells (hv3.nblk HNB.out hsz2) (hv3.only.cells HNB.out HO2.out.1); obtain ⟨s0, s1, s2, s3, s4, s5, s6, s7⟩ := hob4.eight))
  all_goals
    have HM6 := Lib.hid hm4
    have HV6 := Lib.hid ((HV2.out.drew.trans hv3).trans hv4)
    have hw3 : w.heap.size < w3.heap.size := Nat.lt_of_lt_of_le hsz2 hv3.size
    have hw6 : w.heap.size < w4.heap.size := Nat.lt_of_lt_of_le hw3 hv4.size
    have HNBX := Lib.hid (hv4.nblk (hv3.nblk HNB.out hsz2) hw3)
    have hfz : ∀ i, w4.frozen? ⟨w.heap.size, i, none⟩ = false := fun i => (hv4.only.frozen (p := ⟨w.heap.size, i, none⟩) hw3 (hv3.nblk HNB.out hsz2)).trans ((hv3.only.frozen (p := ⟨w.heap.size, i, none⟩) hsz2 HNB.out).trans (HO2.out.2.1 i))
    have HO6 : Hid (Bx w4 w.heap.size [.int .i64 5, .int .i64 1, .int .i64 1, .int .i64 fa, .int .i64 2, .int .i64 ta, .int .i64 ((j : Int) + 1), .int .i64 r]) := ⟨hob4, hfz, hw6⟩
    clear o0 o1 o2 o3 o4 o5 o6 o7 q0 q1 q2 q3 q4 q5 q6 q7 s0 s1 s2 s3 s4 s5 s6 s7 hm4 hv4 hm3 hv3 hr3 hd3 hob4 hfz hw3 HTR HLS HN1 HOL HM2 HV2 HO2
    obtain ⟨o0, o1, o2, o3, o4, o5, o6, o7⟩ := HO6.out.eight
    have HCS : Hid ((setL (addLp (setL (setL m (2, ta) (onL m (1, fa) ++ onL m (2, ta))) (1, fa) []) ⟨5, 1, 1, fa, 2, ta, ((j : Int) + 1), r⟩ (onL m (1, fa))) (1, fa) (onL (setL (setL m (2, ta) (onL m (1, fa) ++ onL m (2, ta))) (1, fa) []) (1, fa) ++ [((setL (setL m (2, ta) (onL m (1, fa) ++ onL m (2, ta))) (1, fa) []).ls.length : Int)])).cs.length = 4) := by
      unfold Hid; rw [setL_cs]; show (setL (setL m _ _) _ _).cs.length = 4; rw [setL_cs, setL_cs]; exact d7
    have HRK : Hid ((setL (addLp (setL (setL m (2, ta) (onL m (1, fa) ++ onL m (2, ta))) (1, fa) []) ⟨5, 1, 1, fa, 2, ta, ((j : Int) + 1), r⟩ (onL m (1, fa))) (1, fa) (onL (setL (setL m (2, ta) (onL m (1, fa) ++ onL m (2, ta))) (1, fa) []) (1, fa) ++ [((setL (setL m (2, ta) (onL m (1, fa) ++ onL m (2, ta))) (1, fa) []).ls.length : Int)])).rk = m.rk) := by
      unfold Hid; rw [setL_rk]; show (setL (setL m _ _) _ _).rk = _; rw [setL_rk, setL_rk]
    generalize setL (addLp (setL (setL m (2, ta) (onL m (1, fa) ++ onL m (2, ta))) (1, fa) []) ⟨5, 1, 1, fa, 2, ta, ((j : Int) + 1), r⟩ (onL m (1, fa))) (1, fa) (onL (setL (setL m (2, ta) (onL m (1, fa) ++ onL m (2, ta))) (1, fa) []) (1, fa) ++ [((setL (setL m (2, ta) (onL m (1, fa) ++ onL m (2, ta))) (1, fa) []).ls.length : Int)]) = MX at *
    go_wp2_with fail
    refine (makesLoop_rk 5 _).mono ?_
    rintro e wz ⟨rfl, rfl⟩
    obtain ⟨bc, cp, hvc, hblc, hBc, hbwc, hoc, hc0, hc1, hfc⟩ := HM6.out.cars ((j : Int) + 1) (by omega) (by rw [HCS.out]; omega)
    have hjn : (((j : Int) + 1) - 1).toNat = j := by omega
    rw [hjn] at hc0 hc1
    rw [HCS.out] at hvc
    have z4 : w4.cell? ⟨g, 4, none⟩ = some (.slice (some ⟨bc, 0, none⟩) 4 cp) := by rw [← hvc]; exact HM6.out.cells.seven.2.2.2.2.1
    have z1 : w4.cell? ⟨g, 1, none⟩ = some (.int .i64 m.rk) := by have h9 := HM6.out.cells.seven.2.1; rw [HRK.out] at h9; exact h9
    have hgz := HM6.out.size.1
    have hjl : (j : Int) < 4 := by omega
    have hj0 : (0 : Int) ≤ (j : Int) := by omega
    have HQP := Lib.hid (fun (X : World) => place_any 1 fa m.rk (by omega) (by omega) (by omega) (by omega) X)
    have hPb : -100 ≤ plc 1 fa m.rk ∧ plc 1 fa m.rk ≤ 100 := by unfold plc; split <;> omega
    generalize hP : plc 1 fa m.rk = P at *
    have HP := Lib.hid hP
    obtain ⟨p0, p1⟩ := hPb
    have hwj : IntKind.i64.wrap (j : Int) = (j : Int) := wrap_sm (by omega) (by omega)
    have hwj1 : IntKind.i64.wrap ((j : Int) + 1 - 1) = (j : Int) := by rw [show (j : Int) + 1 - 1 = (j : Int) by omega]; exact hwj
    have hnj : ¬ ((j : Int) < 0) := by omega
    have hnj4 : ¬ (4 ≤ (j : Int)) := by omega
    have hwP : IntKind.i64.wrap (P + 1) = P + 1 := wrap_sm (by omega) (by omega)
    have hwq : IntKind.i64.wrap ((IntKind.i64.wrap (2)).tdiv 2) = 1 := by decide
    have HSW := Lib.hid (fun (X : World) (hX : Below w4.heap.size w4 X) => show X.cell? ⟨g, 4, none⟩ = some (.slice (some ⟨bc, 0, none⟩) 4 cp) ∧ X.cell? ⟨g, 1, none⟩ = some (.int .i64 m.rk) ∧ X.cell? ⟨w.heap.size, 6, none⟩ = some (.int .i64 ((j : Int) + 1)) ∧ X.cell? ⟨w.heap.size, 2, none⟩ = some (.int .i64 1) ∧ X.cell? ⟨w.heap.size, 3, none⟩ = some (.int .i64 fa) ∧ X.cell? ⟨w.heap.size, 1, none⟩ = some (.int .i64 (1)) from by
      obtain ⟨-, e1, e2, e3, -, -, e6, -⟩ := (HO6.out.below hX HO6.out.2.2).eight
      exact ⟨(hX.cell (p := ⟨g, 4, none⟩) hgz).trans z4, (hX.cell (p := ⟨g, 1, none⟩) hgz).trans z1, e6, e2, e3, e1⟩)
    have HC1 := Lib.hid (fun (X : World) (hX : Below w4.heap.size w4 X) => (hX.cell (p := ⟨bc, j * 2 + 1, none⟩) hbwc).trans hc1)
    have HFC := Lib.hid (fun (X : World) (hX : Below w4.heap.size w4 X) => (hX.frozen (p := ⟨bc, j * 2 + 1, none⟩) hbwc).trans (hfc _))
    have hcg : bc ≠ g := fun e => HM6.out.sp.dis (i := 3) (j := 0) (by omega) (by rw [hoc, e]) HM6.out.gbox
    have hcw : bc ≠ w.heap.size := fun e => HNBX.out (by rw [← e]; exact hblc)
    have hfg := far_cell hcg
    have hfw := far_cell hcw
    clear hP hvc hc0 hc1 hfc o1 o2 o3 o4 o5 o6 o7
    go_upto_region 28 with fail
    go_region_held3 (fun w' => w'.cell? ⟨g, 4, none⟩ = some (.slice (some ⟨bc, 0, none⟩) 4 cp) ∧ w'.cell? ⟨g, 1, none⟩ = some (.int .i64 m.rk) ∧ w'.cell? ⟨w.heap.size, 6, none⟩ = some (.int .i64 ((j : Int) + 1)) ∧ w'.cell? ⟨w.heap.size, 2, none⟩ = some (.int .i64 1) ∧ w'.cell? ⟨w.heap.size, 3, none⟩ = some (.int .i64 fa) ∧ w'.cell? ⟨w.heap.size, 1, none⟩ = some (.int .i64 (1)))
      (first | with_reducible exact HSW.out _ (Below.refl _ _) | with_reducible exact HSW.out _ (Below.refl _ _).drew | with_reducible exact HSW.out _ hbP | (simp only [hfg, hfw]; with_reducible exact HSW.out _ hbP) | go_keep)
      (first
        | (go_at_call 84; refine (HQP.out _).mono ?_; rintro e wP ⟨rfl, hbP0⟩; have hbP : Below w4.heap.size w4 wP := (Below.refl w4.heap.size w4).drew.trans hbP0; have tc := HC1.out _ hbP; have tf := HFC.out _ hbP))
    all_goals
      obtain ⟨S5, hm5, hv5, -⟩ := (HM6.out.below hbP).setCp (c := ((j : Int) + 1)) (by omega) (by rw [HCS.out]; omega) hoc (P + 1) (HV6.out.below_ hbP)
      simp only [hjn] at hm5 hv5
      have HM5 := Lib.hid hm5
      have HV5 := Lib.hid hv5
      clear hm5 hv5 hbP hbP0 tc tf HSW HC1 HFC hfg hfw
      go_wp2
      go_ret
      exact ⟨rfl, S5, by rw [HY.out]; exact HM5.out, HV5.out⟩

set_option maxHeartbeats 4000000 in
set_option maxRecDepth 100000 in
theorem exec_5bl {w : World} {B g : Nat} {m : Mc} {S : Nat → Spot} (h : MSt w B g m S) (hB : B ≤ w.heap.size) (ok : okM m = true) (fa ta r : Int) (j : Nat) (hj4 : j < 4) (hop : okOpW m.wd ⟨5, -1, 1, fa, 2, ta, ((j : Int) + 1), r⟩ = true) (h0 : doCode m ⟨5, -1, 1, fa, 2, ta, ((j : Int) + 1), r⟩ = 0) (f0 : 0 ≤ fa) (f1 : fa < m.wd) (hn : ndIn m (1, fa)) (ht : ndIn m (2, ta)) (hl3 : m.ls.length < 300) :
    Calls Tryz.prog 41 #[.pointer (some ⟨g, 0, none⟩), (⟨5, -1, 1, fa, 2, ta, ((j : Int) + 1), r⟩ : Opr).v] w fun e w' => e = .returned (.int .i64 0) ∧ ∃ S', MSt w' B g (doTo m ⟨5, -1, 1, fa, 2, ta, ((j : Int) + 1), r⟩) S' ∧ Mv w S w' S' := by
  have hok := okM_iff.1 ok
  obtain ⟨d1, d2, d3, d4, d5, d6, d7⟩ := ok_wd ok
  have HOP := Lib.hid hop
  have hb0 := (Below.refl w.heap.size w).alloc (Nat.le_refl _) (.cells #[.int .i64 5, .int .i64 (-1), .int .i64 1, .int .i64 fa, .int .i64 2, .int .i64 ta, .int .i64 ((j : Int) + 1), .int .i64 r] 41)
  have HM1 := Lib.hid (h.below hb0)
  have HV1 := Lib.hid (Mv.of_below (S := S) hb0)
  have HO1 := Lib.hid (Bx.new w [.int .i64 5, .int .i64 (-1), .int .i64 1, .int .i64 fa, .int .i64 2, .int .i64 ta, .int .i64 ((j : Int) + 1), .int .i64 r] 41)
  have HNB := Lib.hid (show ¬ blk S w.heap.size from fun e => by have := (h.sp.ge e).2; omega)
  have HQ0 := Lib.hid (fun (W : World) (hW : RdP W g m) => opCode_any m g W hW ok ⟨5, -1, 1, fa, 2, ta, ((j : Int) + 1), r⟩ hop)
  rw [h0] at HQ0
  have hs1 : (w.alloc (.cells #[.int .i64 5, .int .i64 (-1), .int .i64 1, .int .i64 fa, .int .i64 2, .int .i64 ta, .int .i64 ((j : Int) + 1), .int .i64 r] 41)).heap.size = w.heap.size + 1 := by simp
  have HNF := Lib.hid hn
  have HNT := Lib.hid ht
  have h4 := hok.on4
  have hon4 : (onL m (1, fa)).length ≤ 4 := hok.on4 (1, fa)
  obtain ⟨Y, hY⟩ : ∃ Y, Y = doTo m ⟨5, -1, 1, fa, 2, ta, ((j : Int) + 1), r⟩ := ⟨_, rfl⟩
  have hY2 : Y = setC (setL (addLp (setL (setL m (2, ta) (onL m (1, fa) ++ onL m (2, ta))) (1, fa) []) ⟨5, -1, 1, fa, 2, ta, ((j : Int) + 1), r⟩ (onL m (1, fa))) (1, fa) (onL (setL (setL m (2, ta) (onL m (1, fa) ++ onL m (2, ta))) (1, fa) []) (1, fa) ++ [((setL (setL m (2, ta) (onL m (1, fa) ++ onL m (2, ta))) (1, fa) []).ls.length : Int)])) ((j : Int) + 1) ⟨(carAt (setL (addLp (setL (setL m (2, ta) (onL m (1, fa) ++ onL m (2, ta))) (1, fa) []) ⟨5, -1, 1, fa, 2, ta, ((j : Int) + 1), r⟩ (onL m (1, fa))) (1, fa) (onL (setL (setL m (2, ta) (onL m (1, fa) ++ onL m (2, ta))) (1, fa) []) (1, fa) ++ [((setL (setL m (2, ta) (onL m (1, fa) ++ onL m (2, ta))) (1, fa) []).ls.length : Int)])) ((j : Int) + 1)).i, plc 1 fa m.rk⟩ := by
    have e1 := (do125 (m := m) (x := ⟨5, -1, 1, fa, 2, ta, ((j : Int) + 1), r⟩) (.inr (.inr rfl))).2
    have e2 : onL (setL (setL m (2, ta) (onL m (1, fa) ++ onL m (2, ta))) (1, fa) []) (1, fa) = [] := onL_setL [] (ndIn_setL hn)
    have e3 : mvTo m ⟨5, -1, 1, fa, 2, ta, ((j : Int) + 1), r⟩ = setL (setL m (2, ta) (onL m (1, fa) ++ onL m (2, ta))) (1, fa) [] := by
      show setL (setL m (2, ta) (mvL m ⟨5, -1, 1, fa, 2, ta, ((j : Int) + 1), r⟩)) (1, fa) [] = _
      rw [show mvL m ⟨5, -1, 1, fa, 2, ta, ((j : Int) + 1), r⟩ = onL m (1, fa) ++ onL m (2, ta) from if_pos rfl]
    rw [hY, e1, e2, carAt_cs (m := m) (by rw [setL_cs]; show (setL (setL m _ _) _ _).cs = _; rw [setL_cs, setL_cs]), setL_ls, setL_ls, ← e3]
    show setL (addLp (mvTo (carTo m ⟨5, -1, 1, fa, 2, ta, ((j : Int) + 1), r⟩) ⟨5, -1, 1, fa, 2, ta, ((j : Int) + 1), r⟩) ⟨5, -1, 1, fa, 2, ta, ((j : Int) + 1), r⟩ (onL m (1, fa))) (1, fa) [(m.ls.length : Int)] = _
    rw [show carTo m ⟨5, -1, 1, fa, 2, ta, ((j : Int) + 1), r⟩ = setC m ((j : Int) + 1) ⟨(carAt m ((j : Int) + 1)).i, plc 1 fa m.rk⟩ from rfl]
    exact (fin5 m ⟨5, -1, 1, fa, 2, ta, ((j : Int) + 1), r⟩ _ _ _ _).symm
  rw [← hY]
  have HY := Lib.hid hY2
  clear hY hY2
  clear h hb0 ok hop h0
  go_enter Tryz.func41, Tryz.ntmps41
  obtain ⟨o0, o1, o2, o3, o4, o5, o6, o7⟩ := HO1.out.eight
  go_wp2_with fail
  generalize w.alloc (.cells #[.int .i64 5, .int .i64 (-1), .int .i64 1, .int .i64 fa, .int .i64 2, .int .i64 ta, .int .i64 ((j : Int) + 1), .int .i64 r] 41) = W1 at *
  refine (HQ0.out _ HM1.out.rd).mono ?_
  rintro e w2 ⟨rfl, hb2⟩
  have HM2 := Lib.hid (HM1.out.below hb2)
  have HV2 := Lib.hid (HV1.out.below_ hb2)
  have HO2 := Lib.hid (HO1.out.below hb2 HO1.out.2.2)
  have hsz2 : w.heap.size < w2.heap.size := by have := hb2.size; omega
  clear hb2 o0 o1 o2 o3 o4 o5 o6 o7 HM1 HV1 HO1 HQ0
  obtain ⟨o0, o1, o2, o3, o4, o5, o6, o7⟩ := HO2.out.eight
  have HTR := Lib.hid (transfer_b HM2.out.drew (by show B ≤ w2.heap.size; omega) fa ta HNF.out HNT.out h4)
  have HLS := Lib.hid (show (setL (setL m (2, ta) (onL m (1, fa) ++ onL m (2, ta))) (1, fa) []).ls.length < 300 by rw [setL_ls, setL_ls]; exact hl3)
  have HN1 := Lib.hid (ndIn_setL (t := (1, fa)) (l := []) (ndIn_setL (t := (2, ta)) (l := onL m (1, fa) ++ onL m (2, ta)) HNF.out))
  have HOL := Lib.hid (show (onL (setL (setL m (2, ta) (onL m (1, fa) ++ onL m (2, ta))) (1, fa) []) (1, fa)).length ≤ 4 by rw [onL_setL [] (ndIn_setL HNF.out)]; simp)
  go_upto_region 14 with fail
  go_region_held3 (fun w' => w'.cell? ⟨w.heap.size, 0, none⟩ = some (.int .i64 5) ∧ w'.cell? ⟨w.heap.size, 1, none⟩ = some (.int .i64 (-1)) ∧ w'.cell? ⟨w.heap.size, 2, none⟩ = some (.int .i64 1) ∧ w'.cell? ⟨w.heap.size, 3, none⟩ = some (.int .i64 fa) ∧ w'.cell? ⟨w.heap.size, 4, none⟩ = some (.int .i64 2) ∧ w'.cell? ⟨w.heap.size, 5, none⟩ = some (.int .i64 ta) ∧ w'.cell? ⟨w.heap.size, 6, none⟩ = some (.int .i64 ((j : Int) + 1)) ∧ w'.cell? ⟨w.heap.size, 7, none⟩ = some (.int .i64 r))
    (first | with_reducible exact ⟨o0, o1, o2, o3, o4, o5, o6, o7⟩ | with_reducible exact ⟨q0, q1, q2, q3, q4, q5, q6, q7⟩ | with_reducible exact ⟨s0, s1, s2, s3, s4, s5, s6, s7⟩ | go_keep)
    (first
      | (go_at_call 82; refine (HTR.out).mono ?_; rintro e w3 ⟨v3, S3, rfl, hr3, hd3, hm3, hv3⟩; obtain ⟨q0, q1, q2, q3, q4, q5, q6, q7⟩ := (show OpAt w3 w.heap.size 0 ⟨5, -1, 1, fa, 2, ta, ((j : Int) + 1), r⟩ from hv3.only.cells HNB.out HO2.out.1).eight)
      | (go_at_call 81; refine (loop_any hm3 (Nat.le_trans hB (Nat.le_trans (Nat.le_of_lt hsz2) hv3.size)) ⟨5, -1, 1, fa, 2, ta, ((j : Int) + 1), r⟩ v3 (onL m (1, fa)) hr3 hd3 hon4 HLS.out HN1.out HOL.out).mono ?_; rintro e w4 ⟨rfl, S4, hm4, hv4⟩; have hob4 : OpAt w4 w.heap.size 0 ⟨5, -1, 1, fa, 2, ta, ((j : Int) + 1), r⟩ := hv4.only.cells (hv3.nblk HNB.out hsz2) (hv3.only.cells HNB.out HO2.out.1); obtain ⟨s0, s1, s2, s3, s4, s5, s6, s7⟩ := hob4.eight))
  all_goals
    have HM6 := Lib.hid hm4
    have HV6 := Lib.hid ((HV2.out.drew.trans hv3).trans hv4)
    have hw3 : w.heap.size < w3.heap.size := Nat.lt_of_lt_of_le hsz2 hv3.size
    have hw6 : w.heap.size < w4.heap.size := Nat.lt_of_lt_of_le hw3 hv4.size
    have HNBX := Lib.hid (hv4.nblk (hv3.nblk HNB.out hsz2) hw3)
    have hfz : ∀ i, w4.frozen? ⟨w.heap.size, i, none⟩ = false := fun i => (hv4.only.frozen (p := ⟨w.heap.size, i, none⟩) hw3 (hv3.nblk HNB.out hsz2)).trans ((hv3.only.frozen (p := ⟨w.heap.size, i, none⟩) hsz2 HNB.out).trans (HO2.out.2.1 i))
    have HO6 : Hid (Bx w4 w.heap.size [.int .i64 5, .int .i64 (-1), .int .i64 1, .int .i64 fa, .int .i64 2, .int .i64 ta, .int .i64 ((j : Int) + 1), .int .i64 r]) := ⟨hob4, hfz, hw6⟩
    clear o0 o1 o2 o3 o4 o5 o6 o7 q0 q1 q2 q3 q4 q5 q6 q7 s0 s1 s2 s3 s4 s5 s6 s7 hm4 hv4 hm3 hv3 hr3 hd3 hob4 hfz hw3 HTR HLS HN1 HOL HM2 HV2 HO2
    obtain ⟨o0, o1, o2, o3, o4, o5, o6, o7⟩ := HO6.out.eight
    have HCS : Hid ((setL (addLp (setL (setL m (2, ta) (onL m (1, fa) ++ onL m (2, ta))) (1, fa) []) ⟨5, -1, 1, fa, 2, ta, ((j : Int) + 1), r⟩ (onL m (1, fa))) (1, fa) (onL (setL (setL m (2, ta) (onL m (1, fa) ++ onL m (2, ta))) (1, fa) []) (1, fa) ++ [((setL (setL m (2, ta) (onL m (1, fa) ++ onL m (2, ta))) (1, fa) []).ls.length : Int)])).cs.length = 4) := by
      unfold Hid; rw [setL_cs]; show (setL (setL m _ _) _ _).cs.length = 4; rw [setL_cs, setL_cs]; exact d7
    have HRK : Hid ((setL (addLp (setL (setL m (2, ta) (onL m (1, fa) ++ onL m (2, ta))) (1, fa) []) ⟨5, -1, 1, fa, 2, ta, ((j : Int) + 1), r⟩ (onL m (1, fa))) (1, fa) (onL (setL (setL m (2, ta) (onL m (1, fa) ++ onL m (2, ta))) (1, fa) []) (1, fa) ++ [((setL (setL m (2, ta) (onL m (1, fa) ++ onL m (2, ta))) (1, fa) []).ls.length : Int)])).rk = m.rk) := by
      unfold Hid; rw [setL_rk]; show (setL (setL m _ _) _ _).rk = _; rw [setL_rk, setL_rk]
    generalize setL (addLp (setL (setL m (2, ta) (onL m (1, fa) ++ onL m (2, ta))) (1, fa) []) ⟨5, -1, 1, fa, 2, ta, ((j : Int) + 1), r⟩ (onL m (1, fa))) (1, fa) (onL (setL (setL m (2, ta) (onL m (1, fa) ++ onL m (2, ta))) (1, fa) []) (1, fa) ++ [((setL (setL m (2, ta) (onL m (1, fa) ++ onL m (2, ta))) (1, fa) []).ls.length : Int)]) = MX at *
    go_wp2_with fail
    refine (makesLoop_rk 5 _).mono ?_
    rintro e wz ⟨rfl, rfl⟩
    obtain ⟨bc, cp, hvc, hblc, hBc, hbwc, hoc, hc0, hc1, hfc⟩ := HM6.out.cars ((j : Int) + 1) (by omega) (by rw [HCS.out]; omega)
    have hjn : (((j : Int) + 1) - 1).toNat = j := by omega
    rw [hjn] at hc0 hc1
    rw [HCS.out] at hvc
    have z4 : w4.cell? ⟨g, 4, none⟩ = some (.slice (some ⟨bc, 0, none⟩) 4 cp) := by rw [← hvc]; exact HM6.out.cells.seven.2.2.2.2.1
    have z1 : w4.cell? ⟨g, 1, none⟩ = some (.int .i64 m.rk) := by have h9 := HM6.out.cells.seven.2.1; rw [HRK.out] at h9; exact h9
    have hgz := HM6.out.size.1
    have hjl : (j : Int) < 4 := by omega
    have hj0 : (0 : Int) ≤ (j : Int) := by omega
    have HQP := Lib.hid (fun (X : World) => place_any 1 fa m.rk (by omega) (by omega) (by omega) (by omega) X)
    have hPb : -100 ≤ plc 1 fa m.rk ∧ plc 1 fa m.rk ≤ 100 := by unfold plc; split <;> omega
    generalize hP : plc 1 fa m.rk = P at *
    have HP := Lib.hid hP
    obtain ⟨p0, p1⟩ := hPb
    have hwj : IntKind.i64.wrap (j : Int) = (j : Int) := wrap_sm (by omega) (by omega)
    have hwj1 : IntKind.i64.wrap ((j : Int) + 1 - 1) = (j : Int) := by rw [show (j : Int) + 1 - 1 = (j : Int) by omega]; exact hwj
    have hnj : ¬ ((j : Int) < 0) := by omega
    have hnj4 : ¬ (4 ≤ (j : Int)) := by omega
    have hwP : IntKind.i64.wrap (P) = P := wrap_sm (by omega) (by omega)
    have hwq : IntKind.i64.wrap ((IntKind.i64.wrap (0)).tdiv 2) = 0 := by decide
    have HSW := Lib.hid (fun (X : World) (hX : Below w4.heap.size w4 X) => show X.cell? ⟨g, 4, none⟩ = some (.slice (some ⟨bc, 0, none⟩) 4 cp) ∧ X.cell? ⟨g, 1, none⟩ = some (.int .i64 m.rk) ∧ X.cell? ⟨w.heap.size, 6, none⟩ = some (.int .i64 ((j : Int) + 1)) ∧ X.cell? ⟨w.heap.size, 2, none⟩ = some (.int .i64 1) ∧ X.cell? ⟨w.heap.size, 3, none⟩ = some (.int .i64 fa) ∧ X.cell? ⟨w.heap.size, 1, none⟩ = some (.int .i64 (-1)) from by
      obtain ⟨-, e1, e2, e3, -, -, e6, -⟩ := (HO6.out.below hX HO6.out.2.2).eight
      exact ⟨(hX.cell (p := ⟨g, 4, none⟩) hgz).trans z4, (hX.cell (p := ⟨g, 1, none⟩) hgz).trans z1, e6, e2, e3, e1⟩)
    have HC1 := Lib.hid (fun (X : World) (hX : Below w4.heap.size w4 X) => (hX.cell (p := ⟨bc, j * 2 + 1, none⟩) hbwc).trans hc1)
    have HFC := Lib.hid (fun (X : World) (hX : Below w4.heap.size w4 X) => (hX.frozen (p := ⟨bc, j * 2 + 1, none⟩) hbwc).trans (hfc _))
    have hcg : bc ≠ g := fun e => HM6.out.sp.dis (i := 3) (j := 0) (by omega) (by rw [hoc, e]) HM6.out.gbox
    have hcw : bc ≠ w.heap.size := fun e => HNBX.out (by rw [← e]; exact hblc)
    have hfg := far_cell hcg
    have hfw := far_cell hcw
    clear hP hvc hc0 hc1 hfc o1 o2 o3 o4 o5 o6 o7
    go_upto_region 28 with fail
    go_region_held3 (fun w' => w'.cell? ⟨g, 4, none⟩ = some (.slice (some ⟨bc, 0, none⟩) 4 cp) ∧ w'.cell? ⟨g, 1, none⟩ = some (.int .i64 m.rk) ∧ w'.cell? ⟨w.heap.size, 6, none⟩ = some (.int .i64 ((j : Int) + 1)) ∧ w'.cell? ⟨w.heap.size, 2, none⟩ = some (.int .i64 1) ∧ w'.cell? ⟨w.heap.size, 3, none⟩ = some (.int .i64 fa) ∧ w'.cell? ⟨w.heap.size, 1, none⟩ = some (.int .i64 (-1)))
      (first | with_reducible exact HSW.out _ (Below.refl _ _) | with_reducible exact HSW.out _ (Below.refl _ _).drew | with_reducible exact HSW.out _ hbP | (simp only [hfg, hfw]; with_reducible exact HSW.out _ hbP) | go_keep)
      (first
        | (go_at_call 84; refine (HQP.out _).mono ?_; rintro e wP ⟨rfl, hbP0⟩; have hbP : Below w4.heap.size w4 wP := (Below.refl w4.heap.size w4).drew.trans hbP0; have tc := HC1.out _ hbP; have tf := HFC.out _ hbP))
    all_goals
      obtain ⟨S5, hm5, hv5, -⟩ := (HM6.out.below hbP).setCp (c := ((j : Int) + 1)) (by omega) (by rw [HCS.out]; omega) hoc (P) (HV6.out.below_ hbP)
      simp only [hjn] at hm5 hv5
      have HM5 := Lib.hid hm5
      have HV5 := Lib.hid hv5
      clear hm5 hv5 hbP hbP0 tc tf HSW HC1 HFC hfg hfw
      go_wp2
      go_ret
      exact ⟨rfl, S5, by rw [HY.out]; exact HM5.out, HV5.out⟩

set_option maxHeartbeats 4000000 in
set_option maxRecDepth 100000 in
theorem exec_4f {w : World} {B g : Nat} {m : Mc} {S : Nat → Spot} (h : MSt w B g m S) (hB : B ≤ w.heap.size) (ok : okM m = true) (d fa ta c r : Int) (hop : okOpW m.wd ⟨4, d, 2, fa, 1, ta, c, r⟩ = true) (h0 : doCode m ⟨4, d, 2, fa, 1, ta, c, r⟩ = 0) (hn : ndIn m (2, fa)) (ht : ndIn m (1, ta)) :
    Calls Tryz.prog 41 #[.pointer (some ⟨g, 0, none⟩), (⟨4, d, 2, fa, 1, ta, c, r⟩ : Opr).v] w fun e w' => e = .returned (.int .i64 0) ∧ ∃ S', MSt w' B g (doTo m ⟨4, d, 2, fa, 1, ta, c, r⟩) S' ∧ Mv w S w' S' := by
  have hok := okM_iff.1 ok
  obtain ⟨d1, d2, d3, d4, d5, d6, d7⟩ := ok_wd ok
  have HOP := Lib.hid hop
  have hb0 := (Below.refl w.heap.size w).alloc (Nat.le_refl _) (.cells #[.int .i64 4, .int .i64 d, .int .i64 2, .int .i64 fa, .int .i64 1, .int .i64 ta, .int .i64 c, .int .i64 r] 41)
  have HM1 := Lib.hid (h.below hb0)
  have HV1 := Lib.hid (Mv.of_below (S := S) hb0)
  have HO1 := Lib.hid (Bx.new w [.int .i64 4, .int .i64 d, .int .i64 2, .int .i64 fa, .int .i64 1, .int .i64 ta, .int .i64 c, .int .i64 r] 41)
  have HNB := Lib.hid (show ¬ blk S w.heap.size from fun e => by have := (h.sp.ge e).2; omega)
  have HQ0 := Lib.hid (fun (W : World) (hW : RdP W g m) => opCode_any m g W hW ok ⟨4, d, 2, fa, 1, ta, c, r⟩ hop)
  rw [h0] at HQ0
  have hs1 : (w.alloc (.cells #[.int .i64 4, .int .i64 d, .int .i64 2, .int .i64 fa, .int .i64 1, .int .i64 ta, .int .i64 c, .int .i64 r] 41)).heap.size = w.heap.size + 1 := by simp
  have HNF := Lib.hid hn
  have HNT := Lib.hid ht
  have h4 := hok.on4
  obtain ⟨-, HT⟩ := do4 (m := m) (x := ⟨4, d, 2, fa, 1, ta, c, r⟩) rfl
  have hmv : doTo m ⟨4, d, 2, fa, 1, ta, c, r⟩ = setL (setL m (1, ta) (onL m (1, ta) ++ onL m (2, fa))) (2, fa) [] := by
    rw [HT]
    show setL (setL m (1, ta) (mvL m ⟨4, d, 2, fa, 1, ta, c, r⟩)) (2, fa) [] = _
    rw [show mvL m ⟨4, d, 2, fa, 1, ta, c, r⟩ = onL m (1, ta) ++ onL m (2, fa) from if_neg (by show ¬ (1 : Int) = 2; decide)]
  rw [hmv]
  clear hmv HT
  clear h hb0 ok hop h0
  go_enter Tryz.func41, Tryz.ntmps41
  obtain ⟨o0, o1, o2, o3, o4, o5, o6, o7⟩ := HO1.out.eight
  go_wp2_with fail
  generalize w.alloc (.cells #[.int .i64 4, .int .i64 d, .int .i64 2, .int .i64 fa, .int .i64 1, .int .i64 ta, .int .i64 c, .int .i64 r] 41) = W1 at *
  refine (HQ0.out _ HM1.out.rd).mono ?_
  rintro e w2 ⟨rfl, hb2⟩
  have HM2 := Lib.hid (HM1.out.below hb2)
  have HV2 := Lib.hid (HV1.out.below_ hb2)
  have HO2 := Lib.hid (HO1.out.below hb2 HO1.out.2.2)
  have hsz2 : w.heap.size < w2.heap.size := by have := hb2.size; omega
  clear hb2 o0 o1 o2 o3 o4 o5 o6 o7 HM1 HV1 HO1 HQ0
  obtain ⟨o0, o1, o2, o3, o4, o5, o6, o7⟩ := HO2.out.eight
  have HTR := Lib.hid (transfer_f HM2.out (by omega) fa ta HNF.out HNT.out h4)
  go_wp2_with fail
  refine (HTR.out).mono ?_
  rintro e w3 ⟨v3, S3, rfl, -, -, hm3, hv3⟩
  have HFIN := Lib.hid (And.intro hm3 (HV2.out.trans hv3))
  have hob : OpAt w3 w.heap.size 0 ⟨4, d, 2, fa, 1, ta, c, r⟩ := hv3.only.cells HNB.out HO2.out.1
  clear o0 o1 o2 o3 o4 o5 o6 o7 HTR hm3 hv3
  obtain ⟨o0, o1, o2, o3, o4, o5, o6, o7⟩ := hob.eight
  go_wp2_with fail
  refine (makesLoop_rk 4 _).mono ?_
  rintro e wz ⟨rfl, rfl⟩
  go_wp2
  go_ret
  exact ⟨rfl, S3, HFIN.out.1, HFIN.out.2⟩

set_option maxHeartbeats 4000000 in
set_option maxRecDepth 100000 in
theorem exec_5fr {w : World} {B g : Nat} {m : Mc} {S : Nat → Spot} (h : MSt w B g m S) (hB : B ≤ w.heap.size) (ok : okM m = true) (fa ta r : Int) (j : Nat) (hj4 : j < 4) (hop : okOpW m.wd ⟨5, 1, 2, fa, 1, ta, ((j : Int) + 1), r⟩ = true) (h0 : doCode m ⟨5, 1, 2, fa, 1, ta, ((j : Int) + 1), r⟩ = 0) (f0 : 0 ≤ fa) (f1 : fa < m.wd) (hn : ndIn m (2, fa)) (ht : ndIn m (1, ta)) (hl3 : m.ls.length < 300) :
    Calls Tryz.prog 41 #[.pointer (some ⟨g, 0, none⟩), (⟨5, 1, 2, fa, 1, ta, ((j : Int) + 1), r⟩ : Opr).v] w fun e w' => e = .returned (.int .i64 0) ∧ ∃ S', MSt w' B g (doTo m ⟨5, 1, 2, fa, 1, ta, ((j : Int) + 1), r⟩) S' ∧ Mv w S w' S' := by
  have hok := okM_iff.1 ok
  obtain ⟨d1, d2, d3, d4, d5, d6, d7⟩ := ok_wd ok
  have HOP := Lib.hid hop
  have hb0 := (Below.refl w.heap.size w).alloc (Nat.le_refl _) (.cells #[.int .i64 5, .int .i64 1, .int .i64 2, .int .i64 fa, .int .i64 1, .int .i64 ta, .int .i64 ((j : Int) + 1), .int .i64 r] 41)
  have HM1 := Lib.hid (h.below hb0)
  have HV1 := Lib.hid (Mv.of_below (S := S) hb0)
  have HO1 := Lib.hid (Bx.new w [.int .i64 5, .int .i64 1, .int .i64 2, .int .i64 fa, .int .i64 1, .int .i64 ta, .int .i64 ((j : Int) + 1), .int .i64 r] 41)
  have HNB := Lib.hid (show ¬ blk S w.heap.size from fun e => by have := (h.sp.ge e).2; omega)
  have HQ0 := Lib.hid (fun (W : World) (hW : RdP W g m) => opCode_any m g W hW ok ⟨5, 1, 2, fa, 1, ta, ((j : Int) + 1), r⟩ hop)
  rw [h0] at HQ0
  have hs1 : (w.alloc (.cells #[.int .i64 5, .int .i64 1, .int .i64 2, .int .i64 fa, .int .i64 1, .int .i64 ta, .int .i64 ((j : Int) + 1), .int .i64 r] 41)).heap.size = w.heap.size + 1 := by simp
  have HNF := Lib.hid hn
  have HNT := Lib.hid ht
  have h4 := hok.on4
  have hon4 : (onL m (2, fa)).length ≤ 4 := hok.on4 (2, fa)
  obtain ⟨Y, hY⟩ : ∃ Y, Y = doTo m ⟨5, 1, 2, fa, 1, ta, ((j : Int) + 1), r⟩ := ⟨_, rfl⟩
  have hY2 : Y = setC (setL (addLp (setL (setL m (1, ta) (onL m (1, ta) ++ onL m (2, fa))) (2, fa) []) ⟨5, 1, 2, fa, 1, ta, ((j : Int) + 1), r⟩ (onL m (2, fa))) (2, fa) (onL (setL (setL m (1, ta) (onL m (1, ta) ++ onL m (2, fa))) (2, fa) []) (2, fa) ++ [((setL (setL m (1, ta) (onL m (1, ta) ++ onL m (2, fa))) (2, fa) []).ls.length : Int)])) ((j : Int) + 1) ⟨(carAt (setL (addLp (setL (setL m (1, ta) (onL m (1, ta) ++ onL m (2, fa))) (2, fa) []) ⟨5, 1, 2, fa, 1, ta, ((j : Int) + 1), r⟩ (onL m (2, fa))) (2, fa) (onL (setL (setL m (1, ta) (onL m (1, ta) ++ onL m (2, fa))) (2, fa) []) (2, fa) ++ [((setL (setL m (1, ta) (onL m (1, ta) ++ onL m (2, fa))) (2, fa) []).ls.length : Int)])) ((j : Int) + 1)).i, plc 2 fa m.rk + 1⟩ := by
    have e1 := (do125 (m := m) (x := ⟨5, 1, 2, fa, 1, ta, ((j : Int) + 1), r⟩) (.inr (.inr rfl))).2
    have e2 : onL (setL (setL m (1, ta) (onL m (1, ta) ++ onL m (2, fa))) (2, fa) []) (2, fa) = [] := onL_setL [] (ndIn_setL hn)
    have e3 : mvTo m ⟨5, 1, 2, fa, 1, ta, ((j : Int) + 1), r⟩ = setL (setL m (1, ta) (onL m (1, ta) ++ onL m (2, fa))) (2, fa) [] := by
      show setL (setL m (1, ta) (mvL m ⟨5, 1, 2, fa, 1, ta, ((j : Int) + 1), r⟩)) (2, fa) [] = _
      rw [show mvL m ⟨5, 1, 2, fa, 1, ta, ((j : Int) + 1), r⟩ = onL m (1, ta) ++ onL m (2, fa) from if_neg (by show ¬ (1 : Int) = 2; decide)]
    rw [hY, e1, e2, carAt_cs (m := m) (by rw [setL_cs]; show (setL (setL m _ _) _ _).cs = _; rw [setL_cs, setL_cs]), setL_ls, setL_ls, ← e3]
    show setL (addLp (mvTo (carTo m ⟨5, 1, 2, fa, 1, ta, ((j : Int) + 1), r⟩) ⟨5, 1, 2, fa, 1, ta, ((j : Int) + 1), r⟩) ⟨5, 1, 2, fa, 1, ta, ((j : Int) + 1), r⟩ (onL m (2, fa))) (2, fa) [(m.ls.length : Int)] = _
    rw [show carTo m ⟨5, 1, 2, fa, 1, ta, ((j : Int) + 1), r⟩ = setC m ((j : Int) + 1) ⟨(carAt m ((j : Int) + 1)).i, plc 2 fa m.rk + 1⟩ from rfl]
    exact (fin5 m ⟨5, 1, 2, fa, 1, ta, ((j : Int) + 1), r⟩ _ _ _ _).symm
  rw [← hY]
  have HY := Lib.hid hY2
  clear hY hY2
  clear h hb0 ok hop h0
  go_enter Tryz.func41, Tryz.ntmps41
  obtain ⟨o0, o1, o2, o3, o4, o5, o6, o7⟩ := HO1.out.eight
  go_wp2_with fail
  generalize w.alloc (.cells #[.int .i64 5, .int .i64 1, .int .i64 2, .int .i64 fa, .int .i64 1, .int .i64 ta, .int .i64 ((j : Int) + 1), .int .i64 r] 41) = W1 at *
  refine (HQ0.out _ HM1.out.rd).mono ?_
  rintro e w2 ⟨rfl, hb2⟩
  have HM2 := Lib.hid (HM1.out.below hb2)
  have HV2 := Lib.hid (HV1.out.below_ hb2)
  have HO2 := Lib.hid (HO1.out.below hb2 HO1.out.2.2)
  have hsz2 : w.heap.size < w2.heap.size := by have := hb2.size; omega
  clear hb2 o0 o1 o2 o3 o4 o5 o6 o7 HM1 HV1 HO1 HQ0
  obtain ⟨o0, o1, o2, o3, o4, o5, o6, o7⟩ := HO2.out.eight
  have HTR := Lib.hid (transfer_f HM2.out.drew (by show B ≤ w2.heap.size; omega) fa ta HNF.out HNT.out h4)
  have HLS := Lib.hid (show (setL (setL m (1, ta) (onL m (1, ta) ++ onL m (2, fa))) (2, fa) []).ls.length < 300 by rw [setL_ls, setL_ls]; exact hl3)
  have HN1 := Lib.hid (ndIn_setL (t := (2, fa)) (l := []) (ndIn_setL (t := (1, ta)) (l := onL m (1, ta) ++ onL m (2, fa)) HNF.out))
  have HOL := Lib.hid (show (onL (setL (setL m (1, ta) (onL m (1, ta) ++ onL m (2, fa))) (2, fa) []) (2, fa)).length ≤ 4 by rw [onL_setL [] (ndIn_setL HNF.out)]; simp)
  go_upto_region 14 with fail
  go_region_held3 (fun w' => w'.cell? ⟨w.heap.size, 0, none⟩ = some (.int .i64 5) ∧ w'.cell? ⟨w.heap.size, 1, none⟩ = some (.int .i64 1) ∧ w'.cell? ⟨w.heap.size, 2, none⟩ = some (.int .i64 2) ∧ w'.cell? ⟨w.heap.size, 3, none⟩ = some (.int .i64 fa) ∧ w'.cell? ⟨w.heap.size, 4, none⟩ = some (.int .i64 1) ∧ w'.cell? ⟨w.heap.size, 5, none⟩ = some (.int .i64 ta) ∧ w'.cell? ⟨w.heap.size, 6, none⟩ = some (.int .i64 ((j : Int) + 1)) ∧ w'.cell? ⟨w.heap.size, 7, none⟩ = some (.int .i64 r))
    (first | with_reducible exact ⟨o0, o1, o2, o3, o4, o5, o6, o7⟩ | with_reducible exact ⟨q0, q1, q2, q3, q4, q5, q6, q7⟩ | with_reducible exact ⟨s0, s1, s2, s3, s4, s5, s6, s7⟩ | go_keep)
    (first
      | (go_at_call 82; refine (HTR.out).mono ?_; rintro e w3 ⟨v3, S3, rfl, hr3, hd3, hm3, hv3⟩; obtain ⟨q0, q1, q2, q3, q4, q5, q6, q7⟩ := (show OpAt w3 w.heap.size 0 ⟨5, 1, 2, fa, 1, ta, ((j : Int) + 1), r⟩ from hv3.only.cells HNB.out HO2.out.1).eight)
      | (go_at_call 81; refine (loop_any hm3 (Nat.le_trans hB (Nat.le_trans (Nat.le_of_lt hsz2) hv3.size)) ⟨5, 1, 2, fa, 1, ta, ((j : Int) + 1), r⟩ v3 (onL m (2, fa)) hr3 hd3 hon4 HLS.out HN1.out HOL.out).mono ?_; rintro e w4 ⟨rfl, S4, hm4, hv4⟩; have hob4 : OpAt w4 w.heap.size 0 ⟨5, 1, 2, fa, 1, ta, ((j : Int) + 1), r⟩ := hv4.only.cells (hv3.nblk HNB.out hsz2) (hv3.only.cells HNB.out HO2.out.1); obtain ⟨s0, s1, s2, s3, s4, s5, s6, s7⟩ := hob4.eight))
  all_goals
    have HM6 := Lib.hid hm4
    have HV6 := Lib.hid ((HV2.out.drew.trans hv3).trans hv4)
    have hw3 : w.heap.size < w3.heap.size := Nat.lt_of_lt_of_le hsz2 hv3.size
    have hw6 : w.heap.size < w4.heap.size := Nat.lt_of_lt_of_le hw3 hv4.size
    have HNBX := Lib.hid (hv4.nblk (hv3.nblk HNB.out hsz2) hw3)
    have hfz : ∀ i, w4.frozen? ⟨w.heap.size, i, none⟩ = false := fun i => (hv4.only.frozen (p := ⟨w.heap.size, i, none⟩) hw3 (hv3.nblk HNB.out hsz2)).trans ((hv3.only.frozen (p := ⟨w.heap.size, i, none⟩) hsz2 HNB.out).trans (HO2.out.2.1 i))
    have HO6 : Hid (Bx w4 w.heap.size [.int .i64 5, .int .i64 1, .int .i64 2, .int .i64 fa, .int .i64 1, .int .i64 ta, .int .i64 ((j : Int) + 1), .int .i64 r]) := ⟨hob4, hfz, hw6⟩
    clear o0 o1 o2 o3 o4 o5 o6 o7 q0 q1 q2 q3 q4 q5 q6 q7 s0 s1 s2 s3 s4 s5 s6 s7 hm4 hv4 hm3 hv3 hr3 hd3 hob4 hfz hw3 HTR HLS HN1 HOL HM2 HV2 HO2
    obtain ⟨o0, o1, o2, o3, o4, o5, o6, o7⟩ := HO6.out.eight
    have HCS : Hid ((setL (addLp (setL (setL m (1, ta) (onL m (1, ta) ++ onL m (2, fa))) (2, fa) []) ⟨5, 1, 2, fa, 1, ta, ((j : Int) + 1), r⟩ (onL m (2, fa))) (2, fa) (onL (setL (setL m (1, ta) (onL m (1, ta) ++ onL m (2, fa))) (2, fa) []) (2, fa) ++ [((setL (setL m (1, ta) (onL m (1, ta) ++ onL m (2, fa))) (2, fa) []).ls.length : Int)])).cs.length = 4) := by
      unfold Hid; rw [setL_cs]; show (setL (setL m _ _) _ _).cs.length = 4; rw [setL_cs, setL_cs]; exact d7
    have HRK : Hid ((setL (addLp (setL (setL m (1, ta) (onL m (1, ta) ++ onL m (2, fa))) (2, fa) []) ⟨5, 1, 2, fa, 1, ta, ((j : Int) + 1), r⟩ (onL m (2, fa))) (2, fa) (onL (setL (setL m (1, ta) (onL m (1, ta) ++ onL m (2, fa))) (2, fa) []) (2, fa) ++ [((setL (setL m (1, ta) (onL m (1, ta) ++ onL m (2, fa))) (2, fa) []).ls.length : Int)])).rk = m.rk) := by
      unfold Hid; rw [setL_rk]; show (setL (setL m _ _) _ _).rk = _; rw [setL_rk, setL_rk]
    generalize setL (addLp (setL (setL m (1, ta) (onL m (1, ta) ++ onL m (2, fa))) (2, fa) []) ⟨5, 1, 2, fa, 1, ta, ((j : Int) + 1), r⟩ (onL m (2, fa))) (2, fa) (onL (setL (setL m (1, ta) (onL m (1, ta) ++ onL m (2, fa))) (2, fa) []) (2, fa) ++ [((setL (setL m (1, ta) (onL m (1, ta) ++ onL m (2, fa))) (2, fa) []).ls.length : Int)]) = MX at *
    go_wp2_with fail
    refine (makesLoop_rk 5 _).mono ?_
    rintro e wz ⟨rfl, rfl⟩
    obtain ⟨bc, cp, hvc, hblc, hBc, hbwc, hoc, hc0, hc1, hfc⟩ := HM6.out.cars ((j : Int) + 1) (by omega) (by rw [HCS.out]; omega)
    have hjn : (((j : Int) + 1) - 1).toNat = j := by omega
    rw [hjn] at hc0 hc1
    rw [HCS.out] at hvc
    have z4 : w4.cell? ⟨g, 4, none⟩ = some (.slice (some ⟨bc, 0, none⟩) 4 cp) := by rw [← hvc]; exact HM6.out.cells.seven.2.2.2.2.1
    have z1 : w4.cell? ⟨g, 1, none⟩ = some (.int .i64 m.rk) := by have h9 := HM6.out.cells.seven.2.1; rw [HRK.out] at h9; exact h9
    have hgz := HM6.out.size.1
    have hjl : (j : Int) < 4 := by omega
    have hj0 : (0 : Int) ≤ (j : Int) := by omega
    have HQP := Lib.hid (fun (X : World) => place_any 2 fa m.rk (by omega) (by omega) (by omega) (by omega) X)
    have hPb : -100 ≤ plc 2 fa m.rk ∧ plc 2 fa m.rk ≤ 100 := by unfold plc; split <;> omega
    generalize hP : plc 2 fa m.rk = P at *
    have HP := Lib.hid hP
    obtain ⟨p0, p1⟩ := hPb
    have hwj : IntKind.i64.wrap (j : Int) = (j : Int) := wrap_sm (by omega) (by omega)
    have hwj1 : IntKind.i64.wrap ((j : Int) + 1 - 1) = (j : Int) := by rw [show (j : Int) + 1 - 1 = (j : Int) by omega]; exact hwj
    have hnj : ¬ ((j : Int) < 0) := by omega
    have hnj4 : ¬ (4 ≤ (j : Int)) := by omega
    have hwP : IntKind.i64.wrap (P + 1) = P + 1 := wrap_sm (by omega) (by omega)
    have hwq : IntKind.i64.wrap ((IntKind.i64.wrap (2)).tdiv 2) = 1 := by decide
    have HSW := Lib.hid (fun (X : World) (hX : Below w4.heap.size w4 X) => show X.cell? ⟨g, 4, none⟩ = some (.slice (some ⟨bc, 0, none⟩) 4 cp) ∧ X.cell? ⟨g, 1, none⟩ = some (.int .i64 m.rk) ∧ X.cell? ⟨w.heap.size, 6, none⟩ = some (.int .i64 ((j : Int) + 1)) ∧ X.cell? ⟨w.heap.size, 2, none⟩ = some (.int .i64 2) ∧ X.cell? ⟨w.heap.size, 3, none⟩ = some (.int .i64 fa) ∧ X.cell? ⟨w.heap.size, 1, none⟩ = some (.int .i64 (1)) from by
      obtain ⟨-, e1, e2, e3, -, -, e6, -⟩ := (HO6.out.below hX HO6.out.2.2).eight
      exact ⟨(hX.cell (p := ⟨g, 4, none⟩) hgz).trans z4, (hX.cell (p := ⟨g, 1, none⟩) hgz).trans z1, e6, e2, e3, e1⟩)
    have HC1 := Lib.hid (fun (X : World) (hX : Below w4.heap.size w4 X) => (hX.cell (p := ⟨bc, j * 2 + 1, none⟩) hbwc).trans hc1)
    have HFC := Lib.hid (fun (X : World) (hX : Below w4.heap.size w4 X) => (hX.frozen (p := ⟨bc, j * 2 + 1, none⟩) hbwc).trans (hfc _))
    have hcg : bc ≠ g := fun e => HM6.out.sp.dis (i := 3) (j := 0) (by omega) (by rw [hoc, e]) HM6.out.gbox
    have hcw : bc ≠ w.heap.size := fun e => HNBX.out (by rw [← e]; exact hblc)
    have hfg := far_cell hcg
    have hfw := far_cell hcw
    clear hP hvc hc0 hc1 hfc o1 o2 o3 o4 o5 o6 o7
    go_upto_region 28 with fail
    go_region_held3 (fun w' => w'.cell? ⟨g, 4, none⟩ = some (.slice (some ⟨bc, 0, none⟩) 4 cp) ∧ w'.cell? ⟨g, 1, none⟩ = some (.int .i64 m.rk) ∧ w'.cell? ⟨w.heap.size, 6, none⟩ = some (.int .i64 ((j : Int) + 1)) ∧ w'.cell? ⟨w.heap.size, 2, none⟩ = some (.int .i64 2) ∧ w'.cell? ⟨w.heap.size, 3, none⟩ = some (.int .i64 fa) ∧ w'.cell? ⟨w.heap.size, 1, none⟩ = some (.int .i64 (1)))
      (first | with_reducible exact HSW.out _ (Below.refl _ _) | with_reducible exact HSW.out _ (Below.refl _ _).drew | with_reducible exact HSW.out _ hbP | (simp only [hfg, hfw]; with_reducible exact HSW.out _ hbP) | go_keep)
      (first
        | (go_at_call 84; refine (HQP.out _).mono ?_; rintro e wP ⟨rfl, hbP0⟩; have hbP : Below w4.heap.size w4 wP := (Below.refl w4.heap.size w4).drew.trans hbP0; have tc := HC1.out _ hbP; have tf := HFC.out _ hbP))
    all_goals
      obtain ⟨S5, hm5, hv5, -⟩ := (HM6.out.below hbP).setCp (c := ((j : Int) + 1)) (by omega) (by rw [HCS.out]; omega) hoc (P + 1) (HV6.out.below_ hbP)
      simp only [hjn] at hm5 hv5
      have HM5 := Lib.hid hm5
      have HV5 := Lib.hid hv5
      clear hm5 hv5 hbP hbP0 tc tf HSW HC1 HFC hfg hfw
      go_wp2
      go_ret
      exact ⟨rfl, S5, by rw [HY.out]; exact HM5.out, HV5.out⟩

set_option maxHeartbeats 4000000 in
set_option maxRecDepth 100000 in
theorem exec_5fl {w : World} {B g : Nat} {m : Mc} {S : Nat → Spot} (h : MSt w B g m S) (hB : B ≤ w.heap.size) (ok : okM m = true) (fa ta r : Int) (j : Nat) (hj4 : j < 4) (hop : okOpW m.wd ⟨5, -1, 2, fa, 1, ta, ((j : Int) + 1), r⟩ = true) (h0 : doCode m ⟨5, -1, 2, fa, 1, ta, ((j : Int) + 1), r⟩ = 0) (f0 : 0 ≤ fa) (f1 : fa < m.wd) (hn : ndIn m (2, fa)) (ht : ndIn m (1, ta)) (hl3 : m.ls.length < 300) :
    Calls Tryz.prog 41 #[.pointer (some ⟨g, 0, none⟩), (⟨5, -1, 2, fa, 1, ta, ((j : Int) + 1), r⟩ : Opr).v] w fun e w' => e = .returned (.int .i64 0) ∧ ∃ S', MSt w' B g (doTo m ⟨5, -1, 2, fa, 1, ta, ((j : Int) + 1), r⟩) S' ∧ Mv w S w' S' := by
  have hok := okM_iff.1 ok
  obtain ⟨d1, d2, d3, d4, d5, d6, d7⟩ := ok_wd ok
  have HOP := Lib.hid hop
  have hb0 := (Below.refl w.heap.size w).alloc (Nat.le_refl _) (.cells #[.int .i64 5, .int .i64 (-1), .int .i64 2, .int .i64 fa, .int .i64 1, .int .i64 ta, .int .i64 ((j : Int) + 1), .int .i64 r] 41)
  have HM1 := Lib.hid (h.below hb0)
  have HV1 := Lib.hid (Mv.of_below (S := S) hb0)
  have HO1 := Lib.hid (Bx.new w [.int .i64 5, .int .i64 (-1), .int .i64 2, .int .i64 fa, .int .i64 1, .int .i64 ta, .int .i64 ((j : Int) + 1), .int .i64 r] 41)
  have HNB := Lib.hid (show ¬ blk S w.heap.size from fun e => by have := (h.sp.ge e).2; omega)
  have HQ0 := Lib.hid (fun (W : World) (hW : RdP W g m) => opCode_any m g W hW ok ⟨5, -1, 2, fa, 1, ta, ((j : Int) + 1), r⟩ hop)
  rw [h0] at HQ0
  have hs1 : (w.alloc (.cells #[.int .i64 5, .int .i64 (-1), .int .i64 2, .int .i64 fa, .int .i64 1, .int .i64 ta, .int .i64 ((j : Int) + 1), .int .i64 r] 41)).heap.size = w.heap.size + 1 := by simp
  have HNF := Lib.hid hn
  have HNT := Lib.hid ht
  have h4 := hok.on4
  have hon4 : (onL m (2, fa)).length ≤ 4 := hok.on4 (2, fa)
  obtain ⟨Y, hY⟩ : ∃ Y, Y = doTo m ⟨5, -1, 2, fa, 1, ta, ((j : Int) + 1), r⟩ := ⟨_, rfl⟩
  have hY2 : Y = setC (setL (addLp (setL (setL m (1, ta) (onL m (1, ta) ++ onL m (2, fa))) (2, fa) []) ⟨5, -1, 2, fa, 1, ta, ((j : Int) + 1), r⟩ (onL m (2, fa))) (2, fa) (onL (setL (setL m (1, ta) (onL m (1, ta) ++ onL m (2, fa))) (2, fa) []) (2, fa) ++ [((setL (setL m (1, ta) (onL m (1, ta) ++ onL m (2, fa))) (2, fa) []).ls.length : Int)])) ((j : Int) + 1) ⟨(carAt (setL (addLp (setL (setL m (1, ta) (onL m (1, ta) ++ onL m (2, fa))) (2, fa) []) ⟨5, -1, 2, fa, 1, ta, ((j : Int) + 1), r⟩ (onL m (2, fa))) (2, fa) (onL (setL (setL m (1, ta) (onL m (1, ta) ++ onL m (2, fa))) (2, fa) []) (2, fa) ++ [((setL (setL m (1, ta) (onL m (1, ta) ++ onL m (2, fa))) (2, fa) []).ls.length : Int)])) ((j : Int) + 1)).i, plc 2 fa m.rk⟩ := by
    have e1 := (do125 (m := m) (x := ⟨5, -1, 2, fa, 1, ta, ((j : Int) + 1), r⟩) (.inr (.inr rfl))).2
    have e2 : onL (setL (setL m (1, ta) (onL m (1, ta) ++ onL m (2, fa))) (2, fa) []) (2, fa) = [] := onL_setL [] (ndIn_setL hn)
    have e3 : mvTo m ⟨5, -1, 2, fa, 1, ta, ((j : Int) + 1), r⟩ = setL (setL m (1, ta) (onL m (1, ta) ++ onL m (2, fa))) (2, fa) [] := by
      show setL (setL m (1, ta) (mvL m ⟨5, -1, 2, fa, 1, ta, ((j : Int) + 1), r⟩)) (2, fa) [] = _
      rw [show mvL m ⟨5, -1, 2, fa, 1, ta, ((j : Int) + 1), r⟩ = onL m (1, ta) ++ onL m (2, fa) from if_neg (by show ¬ (1 : Int) = 2; decide)]
    rw [hY, e1, e2, carAt_cs (m := m) (by rw [setL_cs]; show (setL (setL m _ _) _ _).cs = _; rw [setL_cs, setL_cs]), setL_ls, setL_ls, ← e3]
    show setL (addLp (mvTo (carTo m ⟨5, -1, 2, fa, 1, ta, ((j : Int) + 1), r⟩) ⟨5, -1, 2, fa, 1, ta, ((j : Int) + 1), r⟩) ⟨5, -1, 2, fa, 1, ta, ((j : Int) + 1), r⟩ (onL m (2, fa))) (2, fa) [(m.ls.length : Int)] = _
    rw [show carTo m ⟨5, -1, 2, fa, 1, ta, ((j : Int) + 1), r⟩ = setC m ((j : Int) + 1) ⟨(carAt m ((j : Int) + 1)).i, plc 2 fa m.rk⟩ from rfl]
    exact (fin5 m ⟨5, -1, 2, fa, 1, ta, ((j : Int) + 1), r⟩ _ _ _ _).symm
  rw [← hY]
  have HY := Lib.hid hY2
  clear hY hY2
  clear h hb0 ok hop h0
  go_enter Tryz.func41, Tryz.ntmps41
  obtain ⟨o0, o1, o2, o3, o4, o5, o6, o7⟩ := HO1.out.eight
  go_wp2_with fail
  generalize w.alloc (.cells #[.int .i64 5, .int .i64 (-1), .int .i64 2, .int .i64 fa, .int .i64 1, .int .i64 ta, .int .i64 ((j : Int) + 1), .int .i64 r] 41) = W1 at *
  refine (HQ0.out _ HM1.out.rd).mono ?_
  rintro e w2 ⟨rfl, hb2⟩
  have HM2 := Lib.hid (HM1.out.below hb2)
  have HV2 := Lib.hid (HV1.out.below_ hb2)
  have HO2 := Lib.hid (HO1.out.below hb2 HO1.out.2.2)
  have hsz2 : w.heap.size < w2.heap.size := by have := hb2.size; omega
  clear hb2 o0 o1 o2 o3 o4 o5 o6 o7 HM1 HV1 HO1 HQ0
  obtain ⟨o0, o1, o2, o3, o4, o5, o6, o7⟩ := HO2.out.eight
  have HTR := Lib.hid (transfer_f HM2.out.drew (by show B ≤ w2.heap.size; omega) fa ta HNF.out HNT.out h4)
  have HLS := Lib.hid (show (setL (setL m (1, ta) (onL m (1, ta) ++ onL m (2, fa))) (2, fa) []).ls.length < 300 by rw [setL_ls, setL_ls]; exact hl3)
  have HN1 := Lib.hid (ndIn_setL (t := (2, fa)) (l := []) (ndIn_setL (t := (1, ta)) (l := onL m (1, ta) ++ onL m (2, fa)) HNF.out))
  have HOL := Lib.hid (show (onL (setL (setL m (1, ta) (onL m (1, ta) ++ onL m (2, fa))) (2, fa) []) (2, fa)).length ≤ 4 by rw [onL_setL [] (ndIn_setL HNF.out)]; simp)
  go_upto_region 14 with fail
  go_region_held3 (fun w' => w'.cell? ⟨w.heap.size, 0, none⟩ = some (.int .i64 5) ∧ w'.cell? ⟨w.heap.size, 1, none⟩ = some (.int .i64 (-1)) ∧ w'.cell? ⟨w.heap.size, 2, none⟩ = some (.int .i64 2) ∧ w'.cell? ⟨w.heap.size, 3, none⟩ = some (.int .i64 fa) ∧ w'.cell? ⟨w.heap.size, 4, none⟩ = some (.int .i64 1) ∧ w'.cell? ⟨w.heap.size, 5, none⟩ = some (.int .i64 ta) ∧ w'.cell? ⟨w.heap.size, 6, none⟩ = some (.int .i64 ((j : Int) + 1)) ∧ w'.cell? ⟨w.heap.size, 7, none⟩ = some (.int .i64 r))
    (first | with_reducible exact ⟨o0, o1, o2, o3, o4, o5, o6, o7⟩ | with_reducible exact ⟨q0, q1, q2, q3, q4, q5, q6, q7⟩ | with_reducible exact ⟨s0, s1, s2, s3, s4, s5, s6, s7⟩ | go_keep)
    (first
      | (go_at_call 82; refine (HTR.out).mono ?_; rintro e w3 ⟨v3, S3, rfl, hr3, hd3, hm3, hv3⟩; obtain ⟨q0, q1, q2, q3, q4, q5, q6, q7⟩ := (show OpAt w3 w.heap.size 0 ⟨5, -1, 2, fa, 1, ta, ((j : Int) + 1), r⟩ from hv3.only.cells HNB.out HO2.out.1).eight)
      | (go_at_call 81; refine (loop_any hm3 (Nat.le_trans hB (Nat.le_trans (Nat.le_of_lt hsz2) hv3.size)) ⟨5, -1, 2, fa, 1, ta, ((j : Int) + 1), r⟩ v3 (onL m (2, fa)) hr3 hd3 hon4 HLS.out HN1.out HOL.out).mono ?_; rintro e w4 ⟨rfl, S4, hm4, hv4⟩; have hob4 : OpAt w4 w.heap.size 0 ⟨5, -1, 2, fa, 1, ta, ((j : Int) + 1), r⟩ := hv4.only.cells (hv3.nblk HNB.out hsz2) (hv3.only.cells HNB.out HO2.out.1); obtain ⟨s0, s1, s2, s3, s4, s5, s6, s7⟩ := hob4.eight))
  all_goals
    have HM6 := Lib.hid hm4
    have HV6 := Lib.hid ((HV2.out.drew.trans hv3).trans hv4)
    have hw3 : w.heap.size < w3.heap.size := Nat.lt_of_lt_of_le hsz2 hv3.size
    have hw6 : w.heap.size < w4.heap.size := Nat.lt_of_lt_of_le hw3 hv4.size
    have HNBX := Lib.hid (hv4.nblk (hv3.nblk HNB.out hsz2) hw3)
    have hfz : ∀ i, w4.frozen? ⟨w.heap.size, i, none⟩ = false := fun i => (hv4.only.frozen (p := ⟨w.heap.size, i, none⟩) hw3 (hv3.nblk HNB.out hsz2)).trans ((hv3.only.frozen (p := ⟨w.heap.size, i, none⟩) hsz2 HNB.out).trans (HO2.out.2.1 i))
    have HO6 : Hid (Bx w4 w.heap.size [.int .i64 5, .int .i64 (-1), .int .i64 2, .int .i64 fa, .int .i64 1, .int .i64 ta, .int .i64 ((j : Int) + 1), .int .i64 r]) := ⟨hob4, hfz, hw6⟩
    clear o0 o1 o2 o3 o4 o5 o6 o7 q0 q1 q2 q3 q4 q5 q6 q7 s0 s1 s2 s3 s4 s5 s6 s7 hm4 hv4 hm3 hv3 hr3 hd3 hob4 hfz hw3 HTR HLS HN1 HOL HM2 HV2 HO2
    obtain ⟨o0, o1, o2, o3, o4, o5, o6, o7⟩ := HO6.out.eight
    have HCS : Hid ((setL (addLp (setL (setL m (1, ta) (onL m (1, ta) ++ onL m (2, fa))) (2, fa) []) ⟨5, -1, 2, fa, 1, ta, ((j : Int) + 1), r⟩ (onL m (2, fa))) (2, fa) (onL (setL (setL m (1, ta) (onL m (1, ta) ++ onL m (2, fa))) (2, fa) []) (2, fa) ++ [((setL (setL m (1, ta) (onL m (1, ta) ++ onL m (2, fa))) (2, fa) []).ls.length : Int)])).cs.length = 4) := by
      unfold Hid; rw [setL_cs]; show (setL (setL m _ _) _ _).cs.length = 4; rw [setL_cs, setL_cs]; exact d7
    have HRK : Hid ((setL (addLp (setL (setL m (1, ta) (onL m (1, ta) ++ onL m (2, fa))) (2, fa) []) ⟨5, -1, 2, fa, 1, ta, ((j : Int) + 1), r⟩ (onL m (2, fa))) (2, fa) (onL (setL (setL m (1, ta) (onL m (1, ta) ++ onL m (2, fa))) (2, fa) []) (2, fa) ++ [((setL (setL m (1, ta) (onL m (1, ta) ++ onL m (2, fa))) (2, fa) []).ls.length : Int)])).rk = m.rk) := by
      unfold Hid; rw [setL_rk]; show (setL (setL m _ _) _ _).rk = _; rw [setL_rk, setL_rk]
    generalize setL (addLp (setL (setL m (1, ta) (onL m (1, ta) ++ onL m (2, fa))) (2, fa) []) ⟨5, -1, 2, fa, 1, ta, ((j : Int) + 1), r⟩ (onL m (2, fa))) (2, fa) (onL (setL (setL m (1, ta) (onL m (1, ta) ++ onL m (2, fa))) (2, fa) []) (2, fa) ++ [((setL (setL m (1, ta) (onL m (1, ta) ++ onL m (2, fa))) (2, fa) []).ls.length : Int)]) = MX at *
    go_wp2_with fail
    refine (makesLoop_rk 5 _).mono ?_
    rintro e wz ⟨rfl, rfl⟩
    obtain ⟨bc, cp, hvc, hblc, hBc, hbwc, hoc, hc0, hc1, hfc⟩ := HM6.out.cars ((j : Int) + 1) (by omega) (by rw [HCS.out]; omega)
    have hjn : (((j : Int) + 1) - 1).toNat = j := by omega
    rw [hjn] at hc0 hc1
    rw [HCS.out] at hvc
    have z4 : w4.cell? ⟨g, 4, none⟩ = some (.slice (some ⟨bc, 0, none⟩) 4 cp) := by rw [← hvc]; exact HM6.out.cells.seven.2.2.2.2.1
    have z1 : w4.cell? ⟨g, 1, none⟩ = some (.int .i64 m.rk) := by have h9 := HM6.out.cells.seven.2.1; rw [HRK.out] at h9; exact h9
    have hgz := HM6.out.size.1
    have hjl : (j : Int) < 4 := by omega
    have hj0 : (0 : Int) ≤ (j : Int) := by omega
    have HQP := Lib.hid (fun (X : World) => place_any 2 fa m.rk (by omega) (by omega) (by omega) (by omega) X)
    have hPb : -100 ≤ plc 2 fa m.rk ∧ plc 2 fa m.rk ≤ 100 := by unfold plc; split <;> omega
    generalize hP : plc 2 fa m.rk = P at *
    have HP := Lib.hid hP
    obtain ⟨p0, p1⟩ := hPb
    have hwj : IntKind.i64.wrap (j : Int) = (j : Int) := wrap_sm (by omega) (by omega)
    have hwj1 : IntKind.i64.wrap ((j : Int) + 1 - 1) = (j : Int) := by rw [show (j : Int) + 1 - 1 = (j : Int) by omega]; exact hwj
    have hnj : ¬ ((j : Int) < 0) := by omega
    have hnj4 : ¬ (4 ≤ (j : Int)) := by omega
    have hwP : IntKind.i64.wrap (P) = P := wrap_sm (by omega) (by omega)
    have hwq : IntKind.i64.wrap ((IntKind.i64.wrap (0)).tdiv 2) = 0 := by decide
    have HSW := Lib.hid (fun (X : World) (hX : Below w4.heap.size w4 X) => show X.cell? ⟨g, 4, none⟩ = some (.slice (some ⟨bc, 0, none⟩) 4 cp) ∧ X.cell? ⟨g, 1, none⟩ = some (.int .i64 m.rk) ∧ X.cell? ⟨w.heap.size, 6, none⟩ = some (.int .i64 ((j : Int) + 1)) ∧ X.cell? ⟨w.heap.size, 2, none⟩ = some (.int .i64 2) ∧ X.cell? ⟨w.heap.size, 3, none⟩ = some (.int .i64 fa) ∧ X.cell? ⟨w.heap.size, 1, none⟩ = some (.int .i64 (-1)) from by
      obtain ⟨-, e1, e2, e3, -, -, e6, -⟩ := (HO6.out.below hX HO6.out.2.2).eight
      exact ⟨(hX.cell (p := ⟨g, 4, none⟩) hgz).trans z4, (hX.cell (p := ⟨g, 1, none⟩) hgz).trans z1, e6, e2, e3, e1⟩)
    have HC1 := Lib.hid (fun (X : World) (hX : Below w4.heap.size w4 X) => (hX.cell (p := ⟨bc, j * 2 + 1, none⟩) hbwc).trans hc1)
    have HFC := Lib.hid (fun (X : World) (hX : Below w4.heap.size w4 X) => (hX.frozen (p := ⟨bc, j * 2 + 1, none⟩) hbwc).trans (hfc _))
    have hcg : bc ≠ g := fun e => HM6.out.sp.dis (i := 3) (j := 0) (by omega) (by rw [hoc, e]) HM6.out.gbox
    have hcw : bc ≠ w.heap.size := fun e => HNBX.out (by rw [← e]; exact hblc)
    have hfg := far_cell hcg
    have hfw := far_cell hcw
    clear hP hvc hc0 hc1 hfc o1 o2 o3 o4 o5 o6 o7
    go_upto_region 28 with fail
    go_region_held3 (fun w' => w'.cell? ⟨g, 4, none⟩ = some (.slice (some ⟨bc, 0, none⟩) 4 cp) ∧ w'.cell? ⟨g, 1, none⟩ = some (.int .i64 m.rk) ∧ w'.cell? ⟨w.heap.size, 6, none⟩ = some (.int .i64 ((j : Int) + 1)) ∧ w'.cell? ⟨w.heap.size, 2, none⟩ = some (.int .i64 2) ∧ w'.cell? ⟨w.heap.size, 3, none⟩ = some (.int .i64 fa) ∧ w'.cell? ⟨w.heap.size, 1, none⟩ = some (.int .i64 (-1)))
      (first | with_reducible exact HSW.out _ (Below.refl _ _) | with_reducible exact HSW.out _ (Below.refl _ _).drew | with_reducible exact HSW.out _ hbP | (simp only [hfg, hfw]; with_reducible exact HSW.out _ hbP) | go_keep)
      (first
        | (go_at_call 84; refine (HQP.out _).mono ?_; rintro e wP ⟨rfl, hbP0⟩; have hbP : Below w4.heap.size w4 wP := (Below.refl w4.heap.size w4).drew.trans hbP0; have tc := HC1.out _ hbP; have tf := HFC.out _ hbP))
    all_goals
      obtain ⟨S5, hm5, hv5, -⟩ := (HM6.out.below hbP).setCp (c := ((j : Int) + 1)) (by omega) (by rw [HCS.out]; omega) hoc (P) (HV6.out.below_ hbP)
      simp only [hjn] at hm5 hv5
      have HM5 := Lib.hid hm5
      have HV5 := Lib.hid hv5
      clear hm5 hv5 hbP hbP0 tc tf HSW HC1 HFC hfg hfw
      go_wp2
      go_ret
      exact ⟨rfl, S5, by rw [HY.out]; exact HM5.out, HV5.out⟩


end Go.Proofs.YthhpjgdeehcgjaaGreat
