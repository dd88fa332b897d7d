/-
  Proved: the trace of operations consists of the events of each of them, and a knitted stitch takes exactly the strands that are the parents of the new loop, whatever the bytes are: the law answers true. No condition.
-/
import Derived.Test.YthhpjgdeehcgjaaGreatPk23
import Derived.Test.YthhpjgdeehcgjaaGreatPk25
import Derived.Test.YthhpjgdeehcgjaaGreatPk24
namespace Go.Proofs.YthhpjgdeehcgjaaGreat
set_option linter.unusedVariables false
set_option linter.unusedSimpArgs false
open Go.ChangeShapes Go.WideShapes Go.ChangeAt Go.RowKit Go.Deep

theorem trR_ok {wd : Int} {l : List Opr} (h : (trR wd l).2 = 0) : opsB wd l = true ∧ trR wd l = trGo l (newMc wd) [] := by
  unfold trR at h ⊢
  split at h
  · rename_i ho
    exact ⟨ho, by rw [if_pos ho]⟩
  · simp at h
theorem evD_knit {m : Mc} {x : Opr} {e : Ev} {k : Nat} (h : (evD m x)[k]? = some e) (hk : e.k = 2) : x.k = 1 ∧ e = ⟨2, befS m x.f, szN m x.f, x.fb, x.c, x.d⟩ := by
  have hm := List.mem_of_getElem? h
  by_cases h1 : x.k = 1
  · rw [evD1 h1] at hm
    exact ⟨h1, by simpa using hm⟩
  exfalso
  by_cases h2 : x.k = 2
  · rw [evD2 h2] at hm
    simp at hm; subst hm; simp at hk
  by_cases h5 : x.k = 5
  · rw [evD5 h5] at hm
    simp at hm; subst hm; simp at hk
  by_cases h6 : x.k = 6
  · rw [evD6 h6] at hm
    simp at hm; subst hm; simp at hk
  by_cases h7 : x.k = 7
  · rw [evD7 h7] at hm
    unfold crEs at hm
    obtain ⟨a, _, rfl⟩ := List.mem_map.1 hm
    simp [crEv] at hk
  · rw [evD0 h1 h2 h5 h6 h7] at hm
    simp at hm

set_option maxHeartbeats 40000000 in
set_option maxRecDepth 100000 in
theorem FnTrace.core (v0 : Value) (W : World) (hb : RdB W W.heap.size v0) : Calls Tryz.prog 3 #[v0] W fun e W' => e = .returned (.bool true) ∧ Below W.heap.size W W' := by
  have HB := Lib.hid hb
  obtain ⟨A0, n0, c0, rfl, hn0, -⟩ := hb
  by_cases hlong : 1048576 < n0
  · have hl1 : decide ((1048576 : Int) < (n0 : Int)) = true := by simp; omega
    have hl2 : (1048576 : Int) < (n0 : Int) := by omega
    go_enter Tryz.func3, Tryz.ntmps3
    go_wp2
    go_ret
    exact ⟨rfl, Below.refl _ _⟩
  have hl1 : decide ((1048576 : Int) < (n0 : Int)) = false := by simp; omega
  have hl2 : ¬ (1048576 : Int) < (n0 : Int) := by omega
  go_enter Tryz.func3, Tryz.ntmps3
  go_wp2_with fail
  refine (e8Ops_any W _ HB.out).mono ?_
  rintro e w1 ⟨wd, v, l, rfl, hl, hb1⟩
  have L1 := Lib.hid hl
  have B1 := Lib.hid hb1
  obtain ⟨Ao, no, co, rfl, hno, hlo, -⟩ := hl
  clear hb1 hlong HB
  go_wp2_with fail
  refine (implTraceOf_any wd _ l w1 L1.out).mono ?_
  rintro e w2 ⟨va, rfl, hoa, hb2⟩
  have L2 := Lib.hid (L1.out.below hb2)
  have B2 := Lib.hid (B1.out.trans (hb2.mono B1.out.size))
  have hz2 := hb2.size
  obtain ⟨Aa, ca, rfl, hna, -⟩ := hoa.cells
  have HA2 := Lib.hid hoa
  clear hb2 hoa L1 B1 hl1 hl2
  by_cases hc : (trR wd l).2 = 0
  case neg =>
    have hc' : ((trR wd l).2 != 0) = true := by simpa using hc
    have L3 := Lib.hid (L2.out.more hz2)
    go_wp2_with fail
    refine (specTraceOf_any wd _ l w2 L3.out).mono ?_
    rintro e w3 ⟨vb, rfl, hob, hb3⟩
    have B3 := Lib.hid (B2.out.trans (hb3.mono B2.out.size))
    clear hob hb3 HA2 L2 L3
    generalize (trR wd l).2 = cc at *
    have hcc : (cc == cc) = true := by simp
    go_wp2
    go_ret
    exact ⟨ret_bool (by simp), B3.out⟩
  obtain ⟨hop, hY⟩ := trR_ok hc
  have hop' := hop
  unfold opsB at hop'
  simp only [Bool.and_eq_true, decide_eq_true_eq, inB_iff, List.all_eq_true] at hop'
  obtain ⟨⟨n1, n24⟩, hl15, hall⟩ := hop'
  rw [hc]
  obtain ⟨Y, hYY⟩ : ∃ Y, Y = trR wd l := ⟨_, rfl⟩
  rw [← hYY] at HA2 hna hc hY ⊢
  have HALL := Lib.hid hall
  have HC := Lib.hid hc
  have HY := Lib.hid (show Y = trGo (l.drop 0) (newMc wd) [] from hY)
  have HNEW := Lib.hid (okM_new n1 n24)
  have hno15 : no ≤ 1500 := by have := hlo.out; omega
  have HLO := Lib.hid hlo.out
  have HNT := Lib.hid (newT_any wd n1 n24)
  have HT0 := Lib.hid (tot_new wd)
  have HW0 := Lib.hid (show (newMc wd).wd = wd from rfl)
  clear hop hall hl15 hY hYY hc hlo
  generalize newMc wd = m0 at *
  go_wp2_with fail
  refine (HNT.out _).mono ?_
  rintro e w3 ⟨vm, rfl, hrm, hb3⟩
  have hrm1 := hrm.rd
  obtain ⟨A1, c1, A2, c2, A3, c3, A4, c4, A5, c5, rfl⟩ := RdM.shape hrm1
  have hz3 := hb3.size
  have hbA := (Below.refl w3.heap.size w3).alloc (Nat.le_refl _) (.cells [.int .i64 m0.wd, .int .i64 m0.rk, .slice A1 m0.fr.length c1, .slice A2 m0.bk.length c2, .slice A3 m0.cs.length c3, .slice A4 m0.ls.length c4, .slice A5 m0.dr.length c5].toArray 34)
  have HR3 := Lib.hid (hrm1.up hbA hbA.size)
  have HX3 := Lib.hid (Bx.new w3 [.int .i64 m0.wd, .int .i64 m0.rk, .slice A1 m0.fr.length c1, .slice A2 m0.bk.length c2, .slice A3 m0.cs.length c3, .slice A4 m0.ls.length c4, .slice A5 m0.dr.length c5] 34)
  have HL3 := Lib.hid (((L2.out.more hz2).below hb3).more hz3)
  have HE3 := Lib.hid ((RdS.of_own Ev.len (HA2.out.below hb3)).more hz3)
  have HCA := Lib.hid (HA2.out.cap)
  have HB3 := Lib.hid (B2.out.trans (hb3.mono B2.out.size))
  have HBA := Lib.hid hbA
  obtain ⟨Ao', no', co', eo, -, -, glo⟩ := HL3.out
  injection eo with eo1 eo2 eo3
  subst eo1 eo2 eo3
  have GLO := Lib.hid glo
  clear hrm hrm1 hb3 hbA HA2 L2 B2 glo HL3
  generalize hYN : Y.1.length = YN at *
  have HYN := Lib.hid hYN
  clear hYN
  go_wp2
  go_loopw [11, 12] (fun vt vi wr => ∃ (k : Nat) (m : Mc) (acc : List Ev) (A1 : Option Addr) (c1 : Nat) (A2 : Option Addr) (c2 : Nat) (A3 : Option Addr) (c3 : Nat) (A4 : Option Addr) (c4 : Nat) (A5 : Option Addr) (c5 : Nat), k ≤ no ∧ vi = .int .i64 k ∧ vt = .int .i64 (acc.length : Int) ∧ acc.length ≤ 2000 ∧ Hid (OkP m ∧ m.wd = wd ∧ totN m ≤ 12) ∧ Hid (cntE 0 acc = some (totN m : Int)) ∧ Hid (Y = trGo (l.drop k) m acc) ∧ Hid (Bx wr w3.heap.size [.int .i64 m.wd, .int .i64 m.rk, .slice A1 m.fr.length c1, .slice A2 m.bk.length c2, .slice A3 m.cs.length c3, .slice A4 m.ls.length c4, .slice A5 m.dr.length c5]) ∧ Hid (RdM wr wr.heap.size (.agg #[.int .i64 m.wd, .int .i64 m.rk, .slice A1 m.fr.length c1, .slice A2 m.bk.length c2, .slice A3 m.cs.length c3, .slice A4 m.ls.length c4, .slice A5 m.dr.length c5]) m) ∧ Hid (Below w3.heap.size w3 wr)) (fun _ i _ => no - (intOf i).toNat)
  case atStart => exact ⟨0, m0, [], A1, c1, A2, c2, A3, c3, A4, c4, A5, c5, Nat.zero_le _, rfl, rfl, by simp, ⟨HNEW.out, HW0.out, by rw [HT0.out]; omega⟩, by unfold Hid; rw [HT0.out]; rfl, HY.out, HX3.out, HR3.out, HBA.out⟩
  case round =>
    rename_i wr
    obtain ⟨k, m, acc, M1, m1, M2, m2, M3, m3, M4, m4, M5, m5, hk, rfl, rfl, hac, hokm, hcn, hd, hbx, hrd, hbr⟩ := hrel
    clear HX3 HR3 HY HNEW HBA HNT HT0 HW0
    by_cases hlt : k < no
    · obtain ⟨bo, oo, x, rfl, hbo, hlk, hcx⟩ := GLO.out k hlt
      obtain ⟨hok, hmw, ht12⟩ := hokm.out
      have hxw : okOpW m.wd x = true := by rw [hmw]; exact HALL.out x (List.mem_of_getElem? hlk)
      obtain ⟨h0, h13, hln, hdn⟩ := tr_step hd.out hlk HC.out
      have HOK := Lib.hid hok
      have HXW := Lib.hid hxw
      have H0 := Lib.hid h0
      have HMW := Lib.hid hmw
      have HT12 := Lib.hid ht12
      have HT13 := Lib.hid h13
      have HDN := Lib.hid hdn
      have HCN := Lib.hid ((cnt_app hcn.out).trans (cnt_do hok hxw h0 ht12 h13))
      obtain ⟨R, hR⟩ := tr_part hdn HC.out
      have HYR := Lib.hid hR
      have hoe : oeC m x = 0 := by rw [oeC_2 (okM_iff.2 hok) hxw]; exact h0
      have HQE := implOpEvents_any _ m x wr.drew (by exact hrd.out.up ((Below.refl _ wr).drew) (Nat.le_refl _)) (SmM.of hok).fit
      rw [hoe, oeR_yes hoe] at HQE
      have HQE := Lib.hid HQE
      have hXO : CellsAt wr bo (oo + k * 8) x.cells := hcx.below hbr.out hbo
      have HXO := Lib.hid hXO
      have hsw := hbr.out.size
      have hbo' : bo < wr.heap.size := by omega
      obtain ⟨x0, x1, x2, x3, x4, x5, x6⟩ := CellsAt.seven hbx.out.1
      obtain ⟨o0, o1, o2, o3, o4, o5, o6, o7⟩ := hXO.eight
      have hEL : (evD m x).length ≤ 2000 := by rw [List.length_append] at hln; omega
      rw [List.length_append] at hln
      clear hok hmw ht12 hxw h0 h13 hdn hoe hcx hlk hXO hcn hd hokm hR
      go_wp2_with fail
      go_region_held3 (fun w' => w'.cell? ⟨w3.heap.size, 0, none⟩ = some (.int .i64 m.wd) ∧ w'.cell? ⟨w3.heap.size, 1, none⟩ = some (.int .i64 m.rk) ∧ w'.cell? ⟨w3.heap.size, 2, none⟩ = some (.slice M1 m.fr.length m1) ∧ w'.cell? ⟨w3.heap.size, 3, none⟩ = some (.slice M2 m.bk.length m2) ∧ w'.cell? ⟨w3.heap.size, 4, none⟩ = some (.slice M3 m.cs.length m3) ∧ w'.cell? ⟨w3.heap.size, 5, none⟩ = some (.slice M4 m.ls.length m4) ∧ w'.cell? ⟨w3.heap.size, 6, none⟩ = some (.slice M5 m.dr.length m5) ∧ w'.cell? ⟨bo, oo + k * 8, none⟩ = some (.int .i64 x.k) ∧ w'.cell? ⟨bo, oo + k * 8 + 1, none⟩ = some (.int .i64 x.d) ∧ w'.cell? ⟨bo, oo + k * 8 + 2, none⟩ = some (.int .i64 x.fb) ∧ w'.cell? ⟨bo, oo + k * 8 + 3, none⟩ = some (.int .i64 x.fa) ∧ w'.cell? ⟨bo, oo + k * 8 + 4, none⟩ = some (.int .i64 x.tb) ∧ w'.cell? ⟨bo, oo + k * 8 + 5, none⟩ = some (.int .i64 x.ta) ∧ w'.cell? ⟨bo, oo + k * 8 + 6, none⟩ = some (.int .i64 x.c) ∧ w'.cell? ⟨bo, oo + k * 8 + 7, none⟩ = some (.int .i64 x.r))
        (first | with_reducible exact ⟨x0, x1, x2, x3, x4, x5, x6, o0, o1, o2, o3, o4, o5, o6, o7⟩ | with_reducible exact ⟨z0, z1, z2, z3, z4, z5, z6, p0, p1, p2, p3, p4, p5, p6, p7⟩ | go_keep)
        (first
          | (go_at_call 8; refine (HQE.out).mono ?_; rintro e w5 ⟨vE, rfl, hoE, hb5⟩; have hb5' : Below wr.heap.size wr w5 := (Below.refl _ wr).drew.trans hb5; obtain ⟨z0, z1, z2, z3, z4, z5, z6⟩ := CellsAt.seven (hbx.out.below hb5' hbx.out.2.2).1; obtain ⟨p0, p1, p2, p3, p4, p5, p6, p7⟩ := (HXO.out.below hb5' hbo').eight; obtain ⟨AE, cE, rfl, -, -⟩ := hoE.cells))
      have HE5 := Lib.hid hoE
      have HR5 := Lib.hid (hrd.out.up hb5' hb5'.size)
      have HX5 := Lib.hid (hbx.out.below hb5' hbx.out.2.2)
      have HO5 := Lib.hid (HXO.out.below hb5' hbo')
      have HB5 := Lib.hid (hbr.out.trans (hb5'.mono hsw))
      have hbo5 : bo < w5.heap.size := by have := hb5'.size; omega
      obtain ⟨E, hE⟩ : ∃ E, E = evD m x := ⟨_, rfl⟩
      rw [← hE] at HE5 HCN HYR HDN hEL hln ⊢
      have HEE := Lib.hid hE
      clear hE hoE hb5 hb5' hrd hbx hbr HXO HQE x0 x1 x2 x3 x4 x5 x6 o0 o1 o2 o3 o4 o5 o6 o7 z0 z1 z2 z3 z4 z5 z6 p0 p1 p2 p3 p4 p5 p6 p7 hsw hbo'
      have HQS := Lib.hid (fun (wz : World) (hb : Below w5.heap.size w5 wz) => stepT_any _ m x wz (HR5.out.up hb hb.size) (SmM.of HOK.out).fit (okM_iff.2 HOK.out) HXW.out H0.out)
      have HAL := Lib.hid ((Below.refl w5.heap.size w5).alloc (Nat.le_refl _) (.cells zeroM.toArray 34)).drew
      have HZB := Lib.hid (show Bx (w5.alloc (.cells zeroM.toArray 34)).drew w5.heap.size zeroM from (Bx.new w5 zeroM 34).drew)
      have HOK2 := Lib.hid (HOK.out.do_ HXW.out H0.out)
      have HMW2 := Lib.hid ((wd_do (m := m) (x := x)).trans HMW.out)
      have HKN := Lib.hid (fun h => knit_at HOK.out HXW.out h)
      obtain ⟨m', hm'⟩ : ∃ m', m' = doTo m x := ⟨_, rfl⟩
      rw [← hm'] at HQS HOK2 HMW2 HKN HDN HCN HT13
      clear hm'
      obtain ⟨x0, x1, x2, x3, x4, x5, x6⟩ := CellsAt.seven HX5.out.1
      obtain ⟨o0, o1, o2, o3, o4, o5, o6, o7⟩ := HO5.out.eight
      obtain ⟨y0, y1, y2, y3, y4, y5, y6⟩ := CellsAt.seven (HX5.out.below HAL.out HX5.out.2.2).1
      have hf0 := far_cell (show w5.heap.size ≠ w3.heap.size from fun e => by have h9 := HX5.out.2.2; omega)
      have hf1 := far_cell (show w5.heap.size ≠ bo by omega)
      obtain ⟨q0, q1, q2, q3, q4, q5, q6, q7⟩ := (HO5.out.below HAL.out hbo5).eight
      go_wp2_with fail
      go_cut [15, 16] (fun s15 s16 wx => ∃ (gN : Nat) (N1 : Option Addr) (n1 : Nat) (N2 : Option Addr) (n2 : Nat) (N3 : Option Addr) (n3 : Nat) (N4 : Option Addr) (n4 : Nat) (N5 : Option Addr) (n5 : Nat) (wy : World), wy = wx ∧ s15 = .pointer (some ⟨gN, 0, none⟩) ∧ s16 = .int .i64 0 ∧ w3.heap.size < gN ∧ Hid (Bx wy gN [.int .i64 m'.wd, .int .i64 m'.rk, .slice N1 m'.fr.length n1, .slice N2 m'.bk.length n2, .slice N3 m'.cs.length n3, .slice N4 m'.ls.length n4, .slice N5 m'.dr.length n5]) ∧ Hid (RdMo wy w5.heap.size (.agg #[.int .i64 m'.wd, .int .i64 m'.rk, .slice N1 m'.fr.length n1, .slice N2 m'.bk.length n2, .slice N3 m'.cs.length n3, .slice N4 m'.ls.length n4, .slice N5 m'.dr.length n5]) m') ∧ Hid (Below w5.heap.size w5 wy))
      case first =>
        go_region_held3 (fun w' => w'.cell? ⟨w3.heap.size, 0, none⟩ = some (.int .i64 m.wd) ∧ w'.cell? ⟨w3.heap.size, 1, none⟩ = some (.int .i64 m.rk) ∧ w'.cell? ⟨w3.heap.size, 2, none⟩ = some (.slice M1 m.fr.length m1) ∧ w'.cell? ⟨w3.heap.size, 3, none⟩ = some (.slice M2 m.bk.length m2) ∧ w'.cell? ⟨w3.heap.size, 4, none⟩ = some (.slice M3 m.cs.length m3) ∧ w'.cell? ⟨w3.heap.size, 5, none⟩ = some (.slice M4 m.ls.length m4) ∧ w'.cell? ⟨w3.heap.size, 6, none⟩ = some (.slice M5 m.dr.length m5) ∧ w'.cell? ⟨bo, oo + k * 8, none⟩ = some (.int .i64 x.k) ∧ w'.cell? ⟨bo, oo + k * 8 + 1, none⟩ = some (.int .i64 x.d) ∧ w'.cell? ⟨bo, oo + k * 8 + 2, none⟩ = some (.int .i64 x.fb) ∧ w'.cell? ⟨bo, oo + k * 8 + 3, none⟩ = some (.int .i64 x.fa) ∧ w'.cell? ⟨bo, oo + k * 8 + 4, none⟩ = some (.int .i64 x.tb) ∧ w'.cell? ⟨bo, oo + k * 8 + 5, none⟩ = some (.int .i64 x.ta) ∧ w'.cell? ⟨bo, oo + k * 8 + 6, none⟩ = some (.int .i64 x.c) ∧ w'.cell? ⟨bo, oo + k * 8 + 7, none⟩ = some (.int .i64 x.r))
          (first | with_reducible exact ⟨x0, x1, x2, x3, x4, x5, x6, o0, o1, o2, o3, o4, o5, o6, o7⟩ | with_reducible exact ⟨y0, y1, y2, y3, y4, y5, y6, q0, q1, q2, q3, q4, q5, q6, q7⟩ | with_reducible exact ⟨z0, z1, z2, z3, z4, z5, z6, p0, p1, p2, p3, p4, p5, p6, p7⟩ | (simp only [drew_cell, hf0, hf1]; with_reducible exact ⟨z0, z1, z2, z3, z4, z5, z6, p0, p1, p2, p3, p4, p5, p6, p7⟩) | go_keep)
          (first
            | (go_at_call 9; refine (HQS.out _ HAL.out).mono ?_; rintro e w6 ⟨vN, rfl, hoN, hb6⟩; have hb6' : Below w5.heap.size w5 w6 := HAL.out.trans (hb6.mono HAL.out.size); have hzb : Bx w6 w5.heap.size zeroM := HZB.out.below hb6 HZB.out.2.2; obtain ⟨z0, z1, z2, z3, z4, z5, z6⟩ := CellsAt.seven (HX5.out.below hb6' HX5.out.2.2).1; obtain ⟨p0, p1, p2, p3, p4, p5, p6, p7⟩ := (HO5.out.below hb6' hbo5).eight; obtain ⟨r0, r1, r2, r3, r4, r5, r6⟩ := CellsAt.seven hzb.1; have rf := hzb.2.1; obtain ⟨N1, n1, N2, n2, N3, n3, N4, n4, N5, n5, rfl⟩ := RdM.shape hoN.rd)
            | (go_at_call 9; refine (HQS.out _ (Below.refl _ w5).drew).mono ?_; rintro e w6 ⟨vN, rfl, hoN, hb6⟩; have hb6' : Below w5.heap.size w5 w6 := (Below.refl _ w5).drew.trans hb6; obtain ⟨z0, z1, z2, z3, z4, z5, z6⟩ := CellsAt.seven (HX5.out.below hb6' HX5.out.2.2).1; obtain ⟨p0, p1, p2, p3, p4, p5, p6, p7⟩ := (HO5.out.below hb6' hbo5).eight; obtain ⟨N1, n1, N2, n2, N3, n3, N4, n4, N5, n5, rfl⟩ := RdM.shape hoN.rd))
        all_goals
          have hgN : w3.heap.size < w5.heap.size := HX5.out.2.2
          go_wp2_with fail
          go_meet
          case rel =>
            first
              | (have hsA : (w5.alloc (.cells zeroM.toArray 34)).drew.heap.size = w5.heap.size + 1 := by simp
                 exact ⟨w5.heap.size, N1, n1, N2, n2, N3, n3, N4, n4, N5, n5, _, rfl, rfl, rfl, hgN, hzb.set7 _ _ _ _ _ _ _, hoN.keep (by omega) (fun q hq hl => set7_hp _ _ _ _ _ _ _ _ _ q (by omega)) (by simp), ((((((hb6'.setCell (Nat.le_refl _) _).setCell (Nat.le_refl _) _).setCell (Nat.le_refl _) _).setCell (Nat.le_refl _) _).setCell (Nat.le_refl _) _).setCell (Nat.le_refl _) _).setCell (Nat.le_refl _) _⟩)
              | exact ⟨w6.heap.size, N1, n1, N2, n2, N3, n3, N4, n4, N5, n5, _, rfl, rfl, rfl, Nat.lt_of_lt_of_le hgN hb6'.size, Bx.new w6 [.int .i64 m'.wd, .int .i64 m'.rk, .slice N1 m'.fr.length n1, .slice N2 m'.bk.length n2, .slice N3 m'.cs.length n3, .slice N4 m'.ls.length n4, .slice N5 m'.dr.length n5] 34, hoN.below (Nat.le_refl _) ((Below.refl _ _).alloc (Nat.le_refl _) _), hb6'.alloc hb6'.size _⟩
              | trace_state
      case rest =>
        obtain ⟨gN, N1, n1, N2, n2, N3, n3, N4, n4, N5, n5, w7, rfl, rfl, rfl, hgN, hbx7, hrn7, hb7⟩ := hcut
        have HN7 := Lib.hid hbx7.out
        have HRN7 := Lib.hid hrn7.out
        have HX7 := Lib.hid (HX5.out.below hb7.out HX5.out.2.2)
        have HR7 := Lib.hid (HR5.out.up hb7.out hb7.out.size)
        have HB7 := Lib.hid (HB5.out.trans (hb7.out.mono HB5.out.size))
        have HE7 := Lib.hid (HE5.out.below hb7.out)
        have hz7 : gN < w7.heap.size := hbx7.out.2.2
        have hz57 : w5.heap.size ≤ w7.heap.size := hb7.out.size
        have hg5 : w3.heap.size < w5.heap.size := HX5.out.2.2
        clear hbx7 hrn7 hb7 HZB HAL HQS HX5 HR5 HB5 HE5 HO5 x0 x1 x2 x3 x4 x5 x6 o0 o1 o2 o3 o4 o5 o6 o7 y0 y1 y2 y3 y4 y5 y6 q0 q1 q2 q3 q4 q5 q6 q7 hf0 hf1
        obtain ⟨x0, x1, x2, x3, x4, x5, x6⟩ := CellsAt.seven HX7.out.1
        go_wp2_with fail
        refine (liveT_any _ m w7 HR7.out (SmM.of HOK.out).fit (okM_iff.2 HOK.out)).mono ?_
        rintro e w8 ⟨vb, rfl, hob, hb8⟩
        obtain ⟨Ab, cb, rfl, hnb, -⟩ := hob.cells
        have HBF := Lib.hid hob
        have HN8 := Lib.hid (HN7.out.below hb8 hz7)
        have HX8 := Lib.hid (HX7.out.below hb8 (by have := HX7.out.2.2; omega))
        have HRN8 := Lib.hid (HRN7.out.below (Nat.le_refl _) hb8)
        have HB8 := Lib.hid (HB7.out.trans (hb8.mono HB7.out.size))
        have HE8 := Lib.hid ((HE7.out.wide (Nat.le_refl _) hz57).below hb8)
        have hz8 : gN < w8.heap.size := HN8.out.2.2
        have hz78 : w7.heap.size ≤ w8.heap.size := hb8.size
        clear hob hb8 HN7 HX7 HRN7 HB7 HE7 HR7 x0 x1 x2 x3 x4 x5 x6 hz7
        obtain ⟨x0, x1, x2, x3, x4, x5, x6⟩ := CellsAt.seven HN8.out.1
        go_wp2_with fail
        refine (liveT_any _ m' w8 HRN8.out.rd (SmM.of HOK2.out).fit (okM_iff.2 HOK2.out)).mono ?_
        rintro e w9 ⟨va, rfl, hoa, hb9⟩
        obtain ⟨Af, cf, rfl, hnf, -⟩ := hoa.cells
        have HAF := Lib.hid (RdI.of_own hoa)
        have HBF9 := Lib.hid (((RdI.of_own HBF.out).below hb9).more hb9.size)
        have HBC := Lib.hid HBF.out.cap
        have HN9 := Lib.hid (HN8.out.below hb9 HN8.out.2.2)
        have HX9 := Lib.hid (HX8.out.below hb9 HX8.out.2.2)
        have HRN9 := Lib.hid (HRN8.out.below (Nat.le_refl _) hb9)
        have HB9 := Lib.hid (HB8.out.trans (hb9.mono HB8.out.size))
        have HE9 := Lib.hid ((RdS.of_own Ev.len ((HE8.out.wide (Nat.le_refl _) (Nat.le_refl _)).below (hb9.mono hz78))).more (Nat.le_trans hz78 hb9.size))
        have hz9 : gN < w9.heap.size := HN9.out.2.2
        clear hoa hb9 HN8 HX8 HRN8 HB8 HE8 HBF x0 x1 x2 x3 x4 x5 x6 hz8
        have hcapa : YN ≤ ca := by
          obtain ⟨A', n', c', e, h⟩ := HCA.out
          injection e with e1 e2 e3
          subst e1 e2 e3
          exact h
        have hEl : acc.length + E.length ≤ YN := by rw [← HYN.out, HYR.out]; simp
        have HYE := Lib.hid (show E = (Y.1.drop acc.length).take (acc.length + E.length - acc.length) by rw [HYR.out]; exact (cut_mid rfl).symm)
        have HEA9 := Lib.hid (HE3.out.below HB9.out)
        generalize hEN : E.length = EN at *
        generalize hAN : acc.length = AN at *
        have HEN := Lib.hid hEN
        have HAN := Lib.hid hAN
        clear hEN hAN
        have hw1 : IntKind.i64.wrap ((AN : Int) + (EN : Int)) = ((AN + EN : Nat) : Int) := by rw [IntWalk.i64_in _ (by omega)]; omega
        have hg1 : decide ((YN : Int) < ((AN + EN : Nat) : Int)) = false := by simp; omega
        have hg2 : ¬ (YN : Int) < ((AN + EN : Nat) : Int) := by omega
        obtain ⟨ad, had⟩ : ∃ ad, ad = if ca = AN then Aa else Aa.map (fun a => a.add (AN * 6)) := ⟨_, rfl⟩
        have hcut := (RdS.cut HEA9.out (lo := AN) (hi := AN + EN) (by omega) hEl hcapa had)
        rw [← HYE.out, Nat.add_sub_cancel_left] at hcut
        have HCUT := Lib.hid (hcut.more HB9.out.size)
        have hAD := had.symm
        clear hcut had HYE HEA9
        go_wp2_with fail
        refine (specSameEvents_any _ _ E E w9 w9.heap.size HE9.out HCUT.out (Nat.le_refl _)).mono ?_
        rintro e w10 ⟨rfl, hb10⟩
        rw [show decide (E = E) = true from by simp]
        have HAF10 := Lib.hid ((HAF.out.below hb10).more hb10.size)
        have HBF10 := Lib.hid ((HBF9.out.below hb10).more hb10.size)
        have HN10 := Lib.hid (HN9.out.below hb10 HN9.out.2.2)
        have HX10 := Lib.hid (HX9.out.below hb10 HX9.out.2.2)
        have HRN10 := Lib.hid (HRN9.out.below (Nat.le_refl _) hb10)
        have HB10 := Lib.hid (HB9.out.trans (hb10.mono HB9.out.size))
        have HE10 := Lib.hid ((HE9.out.below hb10).more hb10.size)
        clear hb10 HAF HBF9 HN9 HX9 HRN9 HB9 HE9 HCUT hAD hcapa hEl hz78 hz57 hg1 hg2
        generalize hnB : (liveL m).length = nB at *
        generalize hnF : (liveL m').length = nF at *
        have HnB := Lib.hid hnB
        have HnF := Lib.hid hnF
        clear hnB hnF
        go_wp2
        go_loopw [21] (fun vj wq => ∃ (j : Nat) (W2 : World), W2 = wq ∧ j ≤ EN ∧ vj = .int .i64 j ∧ Hid (Below w10.heap.size w10 wq)) (fun i _ => EN - (intOf i).toNat)
        case atStart => exact ⟨0, w10, rfl, Nat.zero_le _, rfl, Below.refl _ _⟩
        case round =>
          obtain ⟨j, W2, hWW, hj, rfl, hb2⟩ := hrel
          subst hWW
          by_cases hlt2 : j < EN
          · obtain ⟨be, oe, y, hAe, hbe, hyk, hcy⟩ := RdS.at_ HE10.out hlt2
            subst hAe
            obtain ⟨z0, z1, z2, z3, z4, z5⟩ := (CellsAt.below hcy hb2.out hbe).six
            have hyk2 := hyk
            rw [HEE.out] at hyk2
            by_cases hk2 : y.k = 2
            case neg =>
              have hk2' : (y.k != 2) = true := by simpa using hk2
              have hbA := hb2.out.alloc hb2.out.size (.cells #[.int .i64 y.k, .int .i64 y.p, .int .i64 y.c, .int .i64 y.b, .int .i64 y.y, .int .i64 y.d] 47)
              clear hk2 hyk hyk2 hcy
              go_wp2
              exact ⟨⟨j + 1, _, rfl, by omega, by go_num, hbA⟩, by simp [intOf]; omega⟩
            obtain ⟨hx1, hye⟩ := evD_knit hyk2 hk2
            subst hye
            obtain ⟨LA, LB, hl1, hl2, hla, hls⟩ := HKN.out hx1
            have hbA := hb2.out.alloc hb2.out.size (.cells #[.int .i64 2, .int .i64 (befS m x.f : Int), .int .i64 (szN m x.f : Int), .int .i64 x.fb, .int .i64 x.c, .int .i64 x.d] 47)
            have HBE := Lib.hid hbA
            have HXE := Lib.hid (Bx.new W2 [.int .i64 2, .int .i64 (befS m x.f : Int), .int .i64 (szN m x.f : Int), .int .i64 x.fb, .int .i64 x.c, .int .i64 x.d] 47)
            have hL1 : nB = befS m x.f + szN m x.f + LB.length := by rw [← HnB.out, hl1, List.length_append, List.length_append, hla]; unfold szN; omega
            have hL2 : nF = befS m x.f + 1 + LB.length := by rw [← HnF.out, hl2, List.length_append, List.length_cons, hla]; omega
            have hAt : (liveL m')[befS m x.f]? = some (m.ls.length : Int) := by rw [hl2, ← hla]; simp
            have hCut : ((liveL m).drop (befS m x.f)).take (befS m x.f + szN m x.f - befS m x.f) = onL m x.f := by
              rw [hl1, ← hla, List.drop_left, Nat.add_sub_cancel_left]
              unfold szN
              rw [List.take_left]
            have hLs : m'.ls.length = m.ls.length + 1 := by rw [hls]; simp
            have hLast : m'.ls[m.ls.length]? = some ⟨x.k, x.c, x.fb, x.fa, x.d, onL m x.f⟩ := by rw [hls]; simp
            have hls300 := HOK2.out.ls
            have ht12' := HT12.out
            have hlt12 := live_tot HOK.out
            rw [HnB.out] at hlt12
            have HLAST := Lib.hid hLast
            have HAT := Lib.hid hAt
            have HCUTB := Lib.hid hCut
            have HL1 := Lib.hid hL1
            have HL2 := Lib.hid hL2
            have HLS := Lib.hid hLs
            have hb12 : befS m x.f + szN m x.f + LB.length ≤ 12 := by omega
            clear hl1 hl2 hla hls hL1 hL2 hAt hCut hLast ht12' hlt12 hyk hyk2 hk2 hcy hls300 hbA
            generalize befS m x.f = P at *
            generalize szN m x.f = C at *
            have HLsL := Lib.hid hLs
            clear hLs
            go_upto_region 25 with fail
            generalize W2.alloc (.cells #[.int .i64 2, .int .i64 (P : Int), .int .i64 (C : Int), .int .i64 x.fb, .int .i64 x.c, .int .i64 x.d] 47) = WE at *
            obtain ⟨gE, hgE⟩ : ∃ gE, gE = W2.heap.size := ⟨_, rfl⟩
            rw [← hgE] at HXE ⊢
            clear hgE
            have HNE := Lib.hid (HN10.out.below HBE.out HN10.out.2.2)
            have HRE := Lib.hid ((HRN10.out.below (Nat.le_refl _) HBE.out).rd)
            have HAE := Lib.hid ((HAF10.out.below HBE.out).more HBE.out.size)
            have HBFE := Lib.hid ((HBF10.out.below HBE.out).more HBE.out.size)
            have hnb1 := HL1.out
            have hnf1 := HL2.out
            have hnk : m.ls.length ≤ 300 := HOK.out.ls
            have hw3 : IntKind.i64.wrap ((m'.ls.length : Int) - 1) = (m.ls.length : Int) := by rw [HLsL.out, IntWalk.i64_in _ (by omega)]; omega
            obtain ⟨PC, hPC⟩ : ∃ PC, PC = P + C := ⟨_, rfl⟩
            have hw4 : IntKind.i64.wrap ((P : Int) + (C : Int)) = (PC : Int) := by rw [IntWalk.i64_in _ (by omega)]; omega
            have hPF : P < nF := by omega
            have hPB : PC ≤ nB := by omega
            have hPP : P ≤ PC := by omega
            have HPC := Lib.hid (show PC - P = C by omega)
            have HPC2 := Lib.hid hPC
            clear hnb1 hnf1 hPC
            obtain ⟨x0, x1, x2, x3, x4, x5, x6⟩ := CellsAt.seven HNE.out.1
            go_wp2_with fail
            have hcb : nB ≤ cb := by
              obtain ⟨A', n', c', e, h⟩ := HBC.out
              injection e with e1 e2 e3
              subst e1 e2 e3
              exact h
            have hLS : RdIs WE WE.heap.size (.slice N4 m'.ls.length n4) m'.ls := by
              obtain ⟨f, b, cs, ls, d, e, h1, h2, h3, h4, h5, h6⟩ := HRE.out
              injection e with e
              injection e with e
              simp only [List.cons.injEq] at e
              obtain ⟨-, -, -, -, -, e4, -⟩ := e
              rw [e4]
              exact h4
            obtain ⟨bi, oi, xi, AI, cI, rfl, hbi, hxi, hci, hri, -⟩ := hLS.at_cap (k := m.ls.length) (by rw [HLsL.out]; exact Nat.lt_succ_self _)
            rw [HLAST.out] at hxi
            injection hxi with hxi
            subst hxi
            dsimp only at hci hri
            obtain ⟨ba, oa, xa, rfl, hba, hxa, hca⟩ := RdI.at_ HAE.out hPF
            rw [HAT.out] at hxa
            injection hxa with hxa
            subst hxa
            obtain ⟨ad, had⟩ : ∃ ad, ad = if cb = P then Ab else Ab.map (fun a => a.add P) := ⟨_, rfl⟩
            have hcut := RdI.cut HBFE.out (lo := P) (hi := PC) hPP hPB hcb (had.trans (by rw [Nat.mul_one]))
            have hcb2 := HCUTB.out
            rw [← HPC2.out] at hcb2
            rw [hcb2] at hcut
            have HCUT2 := Lib.hid hcut
            have HPAR := Lib.hid hri
            have hAD2 := had.symm
            obtain ⟨e0, e1, e2, e3, e4, e5⟩ := (show CellsAt WE gE 0 _ from HXE.out.1).grow6
            obtain ⟨i0, i1, i2, i3, i4, i5⟩ := hci.grow6
            have y5 := fun X => wgrow_cell (x := X) x5
            have ya := fun X => wgrow_cell (x := X) hca
            have HQ8 := fun X => Lib.hid (d8Same_any _ _ (onL m x.f) (onL m x.f) (wgrow WE X) WE.heap.size (HCUT2.out.below (below_wgrow _ X)) (HPAR.out.below (below_wgrow _ X)) (below_wgrow _ X).size)
            have g1 : decide ((nB : Int) < (PC : Int)) = false := by simp; omega
            have g2 : ¬ (nB : Int) < (PC : Int) := by omega
            have g3 : decide ((nF : Int) ≤ (P : Int)) = false := by simp; omega
            have g4 : ¬ (nF : Int) ≤ (P : Int) := by omega
            have g5 : decide (nF ≤ P) = false := by simp; omega
            have g6 : decide (nB < PC) = false := by simp; omega
            have hlt9 : m.ls.length < m'.ls.length := by rw [HLsL.out]; exact Nat.lt_succ_self _
            have gP : decide ((P : Int) < 0) = false := by simp
            have gC : decide ((C : Int) < 0) = false := by simp
            clear hcut hcb2 had hri hci hca hLS x0 x1 x2 x3 x4 x5 x6
            refine wp_region_grow (by kernel_rfl) (by kernel_rfl) ?_
            iterate 50 (try (go_big_quiet_step (fail)))
            go_big_quiet_step ((go_at_call 12; exact calls_grow (HQ8 _).out))
            repeat (go_big_quiet_step (fail))
            refine wpQuiet_nil ?_
            intro w11 hb11
            have HB11 := Lib.hid (HBE.out.trans (hb11.mono HBE.out.size))
            clear hb11 e0 e1 e2 e3 e4 e5 i0 i1 i2 i3 i4 i5 y5 ya HQ8 HQE g1 g2 g3 g4 g5 g6 gP gC
            go_wp2
            exact ⟨⟨j + 1, w11, rfl, by omega, by go_num, HB11.out⟩, by simp [intOf]; omega⟩
          · have HX11 := Lib.hid (HX10.out.below hb2.out HX10.out.2.2)
            have HN11 := Lib.hid (HN10.out.below hb2.out HN10.out.2.2)
            have HRN11 := Lib.hid (HRN10.out.below (Nat.le_refl _) hb2.out)
            have HB11 := Lib.hid (HB10.out.trans (hb2.out.mono HB10.out.size))
            obtain ⟨x0, x1, x2, x3, x4, x5, x6⟩ := CellsAt.seven HN11.out.1
            obtain ⟨z0, z1, z2, z3, z4, z5, z6⟩ := CellsAt.seven HX11.out.1
            have zf := HX11.out.2.1
            have HAL2 := Lib.hid (show ((acc ++ E).length : Int) = ((AN + EN : Nat) : Int) by rw [List.length_append, HAN.out, HEN.out])
            have HAL3 := Lib.hid (show (acc ++ E).length ≤ 2000 by rw [List.length_append, HAN.out, HEN.out]; exact hln)
            go_wp2
            exact ⟨⟨k + 1, m', acc ++ E, N1, n1, N2, n2, N3, n3, N4, n4, N5, n5, by omega, by go_num, by rw [HAL2.out, Int.natCast_add], HAL3.out, ⟨HOK2.out, HMW2.out, HT13.out⟩, HCN.out, HDN.out, HX11.out.set7 _ _ _ _ _ _ _, (HRN11.out.keep (Nat.le_refl _) (fun q hq hl => set7_hp _ _ _ _ _ _ _ _ _ q (by omega)) (by simp)).rd, ((((((HB11.out.setCell (Nat.le_refl _) _).setCell (Nat.le_refl _) _).setCell (Nat.le_refl _) _).setCell (Nat.le_refl _) _).setCell (Nat.le_refl _) _).setCell (Nat.le_refl _) _).setCell (Nat.le_refl _) _⟩, by simp [intOf]; omega⟩
    · have hkn : k = no := by omega
      obtain ⟨hok, hmw, ht12⟩ := hokm.out
      have hend := tr_end hd.out (by have := HLO.out; omega)
      have hYA : Y.1 = acc := by rw [hend]
      have hokE : okEvs acc = true := by unfold okEvs; rw [hcn.out]; simpa using hac
      have HS0 := Lib.hid (show str0 acc = (totN m : Int) by unfold str0; rw [if_pos hokE, hcn.out]; rfl)
      have HS1 := Lib.hid (show str1 acc = 0 by unfold str1; rw [if_pos hokE])
      have HOKE := Lib.hid hokE
      have HLT := Lib.hid (live_tot hok)
      have HOK := Lib.hid hok
      have HYN2 := Lib.hid (show YN = acc.length by rw [← HYN.out, hYA])
      have HEA := Lib.hid (HE3.out.below hbr.out)
      rw [hYA] at HEA
      have hsw := hbr.out.size
      obtain ⟨x0, x1, x2, x3, x4, x5, x6⟩ := CellsAt.seven hbx.out.1
      clear hok hmw ht12 hend hYA hokE hokm hcn hd
      go_wp2_with fail
      refine (liveT_any _ m wr hrd.out (SmM.of HOK.out).fit (okM_iff.2 HOK.out)).mono ?_
      rintro e w8 ⟨vb, rfl, hob, hb8⟩
      obtain ⟨Ab, cb, rfl, hnb, -⟩ := hob.cells
      have HB8 := Lib.hid (HB3.out.trans ((hbr.out.trans (hb8.mono hsw)).mono HB3.out.size))
      have HEA8 := Lib.hid (((HEA.out.more hsw).below hb8).more hb8.size)
      clear hob hb8 x0 x1 x2 x3 x4 x5 x6
      go_wp2_with fail
      refine (implStrandsOf_any _ acc w8 HEA8.out).mono ?_
      rintro e w9 ⟨he, hb9⟩
      unfold strandsR at he
      rw [HS0.out, HS1.out] at he
      subst he
      have HB9 := Lib.hid (HB8.out.trans (hb9.mono HB8.out.size))
      have HEA9 := Lib.hid ((HEA8.out.below hb9).more hb9.size)
      clear hb9
      have hll := HLT.out
      have hyy := HYN2.out
      rw [hll]
      subst hyy
      clear hll
      go_wp2_with fail
      refine (implValidEvents_any _ acc w9 _ HEA9.out (Nat.le_refl _)).mono ?_
      rintro e w10 ⟨rfl, hb10⟩
      rw [HOKE.out]
      have HB10 := Lib.hid (HB9.out.trans (hb10.mono HB9.out.size))
      clear hb10
      go_wp2
      go_ret
      exact ⟨ret_bool (by simp), HB10.out⟩
set_option maxRecDepth 100000 in
theorem FnTrace.walk {H : Type} {enc : TypeId × Value → H} {base : Nat} {d0 : DataW H} {p0 : List MemPlace} (W : World) (v0 : Value) (o0 : Value.okWide Tryz.prog W .any base 22 v0)
    (h0 : DataW.Trod enc Tryz.prog W 0 (fun _ => true) true 22 v0 d0 p0) : Calls Tryz.prog 3 #[v0] W fun e W' => e = .returned (.bool true) ∧ Below W.heap.size W W' :=
  FnTrace.core v0 W (open_rdB Tryz.underlying22 Tryz.underlying5 (by kernel_rfl) o0 h0)

namespace FnTrace
theorem own : ownKnob Tryz.prog.godebug = none := by kernel_rfl
theorem laidOut : laidOutB Tryz.prog = true := by kernel_rfl

set_option maxRecDepth 100000 in
theorem lifted (os : Os) (started : os.Started) (H : Type) (enc : TypeId × Value → H) :
    ReturnsInHanded {} Tryz.checked os 3 .any (Rows.fnTraceSpec.pre6 enc Tryz.prog Tryz.f3 Rows.fnTraceRow.domain false) (Rows.fnTraceSpec.post enc Tryz.prog Tryz.f3 false true false false) := by
  refine returnsInHanded_of_change (C := Tryz.checked) own started (by kernel_rfl) Tryz.func3
    (ChangeSpec.witness6 (enc := enc) (C := Tryz.checked) false ⟨#[], #[.slice none 0 0], []⟩ 8 (by kernel_rfl) (by kernel_rfl) (by kernel_rfl) (by kernel_rfl)) ?_
  intro W base args ds gs before hval0 hW hcnd _
  have hval : ∀ (j : Nat) t v, Tryz.f3.params[j]? = some t → args[j]? = some v → Value.okWide Tryz.prog W .any base t v := hval0
  have hW' := hW
  obtain ⟨p, q, hA0, hV, rfl, hfz, hnd⟩ := hW
  have hA : DataW.TrodAll enc Tryz.prog W 0 (fun _ => true) true Tryz.f3.params.toList args.toList ds p := hA0
  rw [Tryz.params3] at hA hval
  obtain ⟨v0, vs0, d0, ds0, p0, q0, hargs, rfl, rfl, h0, r0⟩ := trodAll_cons hA
  obtain ⟨rfl, rfl, rfl⟩ := trodAll_nil r0
  obtain rfl : args = #[v0] := by cases args; simp_all
  obtain ⟨rfl, rfl⟩ := trodVars_none hV
  have k0 := h0
  have lt0 : ∀ x ∈ p0, x.block < W.heap.size := by obtain ⟨m, hm⟩ := k0; exact DataW.trod_lt m _ _ _ hm
  clear hA0 hval0
  refine (walk W v0 (hval 0 _ v0 rfl rfl) h0).mono fun e W' ⟨he, bel⟩ => ?_
  subst he
  exact ⟨_, rfl, _, _, _, [], _, [], hW', trodAll_mk1 (shut_bool Tryz.underlying4 _), (trodAll_cons_mk (Below.trod laidOut (by kernel_rfl) (of_decide_eq_true (by kernel_rfl)) k0 bel lt0) trodAll_mk0), rfl, bel.frame _, fun h => by cases h⟩

theorem over : Rows.fnTraceRow.holds Tryz.pinned (OpenSpec.ofChange Rows.fnTraceSpec) :=
  OpenClaim.holds_of_wide 3 Tryz.f3 rfl rfl rfl rfl rfl rfl rfl ⟨rfl, rfl, rfl, rfl, rfl⟩ rfl rfl rfl rfl rfl (by kernel_rfl) Tryz.func3 (by kernel_rfl)
    (of_decide_eq_true (by kernel_rfl)) (by unfold Func.isWrapper; first | (rw [if_pos (by decide +kernel)]; kernel_rfl) | (rw [if_neg (by decide +kernel)]; exact ⟨rfl, rfl⟩))
    (fun os started H enc _ => lifted os started H enc)

theorem proved : Rows.FnTraceSaid := over
end FnTrace

end Go.Proofs.YthhpjgdeehcgjaaGreat
