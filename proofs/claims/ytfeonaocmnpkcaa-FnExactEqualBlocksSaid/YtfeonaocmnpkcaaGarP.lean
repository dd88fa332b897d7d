/-
  The normal form of a word, of the program.
-/
import Derived.Test.YtfeonaocmnpkcaaGarO
namespace Go.Proofs.Ytfeonaocmnpkcaa
set_option linter.unusedVariables false
set_option linter.unusedSimpArgs false
open Go.RowKit

theorem comp_behind (n k : Nat) (hk : 1 ≤ k) : (Pm.half n).comp (Pm.one.behind k hk) = (Pm.half n).behind k hk := Pm.ext' fun i => rfl

set_option maxHeartbeats 8000000 in
set_option maxRecDepth 100000 in
theorem normalOf_any (n : Nat) (hn : n ≤ 12) (l : List Int) (hl : LetsN n l) (hlen : l.length ≤ 5000) (v : Value) (w : World) (hv : RdI w w.heap.size v l) :
    Calls Try.prog 72 #[.int .i64 (n : Int), v] w fun e w' => ∃ (s : St) (u : Value), e = .returned u ∧ RdNF n w' w'.heap.size u s ∧ IsNF n l s ∧ Below w.heap.size w w' := by
  obtain ⟨A, c, rfl⟩ := hv.len
  have HL := Lib.hid hv
  have HLT := Lib.hid hl
  have HBD := Lib.hid (hl.bd hn)
  generalize hm : l.length = m at *
  have HM := Lib.hid hm
  clear hv hl hm
  have HB00 := Lib.hid (show Below w.heap.size w ((w.alloc (.cells #[.int .i64 0, .int .i64 0, .slice none 0 0] 86)).alloc (.cells #[.int .i64 (n : Int), .int .i64 0, .slice none 0 0] 86)) from ((Below.refl _ _).alloc (Nat.le_refl _) _).alloc (by simp) _)
  go_enter Try.func72, Try.ntmps72
  go_wp2
  go_loopg [13] m (fun gk i wr => ∃ (k : Nat) (s : St) (v1 : Value) (H : List Fh), gk = m - k ∧ k ≤ m ∧ i = .int .i64 k ∧ Hid (BoxN n (w.heap.size + 1) wr s.p v1) ∧ Hid (Fac n (w.heap.size + 1) (w.heap.size + 1) wr v1 H) ∧ Hid (s.F = H.map Fh.p) ∧ Hid (IsNF n (l.take k) s) ∧
    Hid (CellsAt wr w.heap.size 0 [.int .i64 0, .int .i64 0, .slice none 0 0]) ∧ Hid (∀ o, wr.frozen? ⟨w.heap.size, o, none⟩ = false) ∧ Hid (Below w.heap.size w wr))
  case atStart =>
    refine ⟨0, ⟨0, []⟩, .slice none 0 0, [], rfl, Nat.zero_le _, rfl, ?_, Fac.nil _ _ _ _, rfl, isNF_nil n, ?_, ?_, HB00.out⟩
    · have h := World.rowIs_alloc (w.alloc (.cells #[.int .i64 0, .int .i64 0, .slice none 0 0] 86)) #[.int .i64 (n : Int), .int .i64 0, .slice none 0 0] 86 (fun i => #[Value.int .i64 (n : Int), .int .i64 0, .slice none 0 0].getD i undef) (fun i hi => row_getD hi)
      simp only [World.alloc] at h ⊢
      exact ⟨_, by simpa using h, rfl, rfl, rfl⟩
    · intro j u hu; rcases j with _ | _ | _ | j <;> simp at hu <;> subst hu <;> simp [go_sem]
    · intro o; simp [go_sem]
  case round =>
    obtain ⟨wo, rfl⟩ : ∃ x : World, x = wr := ⟨_, rfl⟩
    obtain ⟨k, s, v1, H, rfl, hk, rfl, HBX, HFC, HSF, HNF, HC0, HFZ, HB⟩ := hrel
    obtain ⟨hp0, hp1, hp2⟩ := isNF_bd HNF.out
    rw [List.length_take] at hp0 hp1 hp2
    have hsz := HBX.out.lt
    by_cases hlt : k < m
    · obtain ⟨b, off, x, rfl, hbb, hx, hc⟩ := (HL.out.below HB.out).at_ hlt
      obtain ⟨hx0, hx1⟩ := HBD.out x (List.mem_of_getElem? hx)
      obtain ⟨hxn, hxk⟩ := HLT.out x (List.mem_of_getElem? hx)
      have HLX := Lib.hid (HLT.out x (List.mem_of_getElem? hx))
      have HT := Lib.hid (take_next hx)
      have HLP := Lib.hid (show LetsN n (l.take k) from fun y hy => HLT.out y (List.mem_of_mem_take hy))
      have HXC := Lib.hid hc
      have hhl : H.length ≤ 900000 := by have := congrArg List.length HSF.out; rw [List.length_map] at this; omega
      have hpp0 : -900000 ≤ s.p := by omega
      have hpp1 : s.p ≤ 1000000 := by omega
      clear hx hp0 hp1 hp2
      rcases Int.lt_trichotomy x 0 with hneg | hzero | hpos
      · obtain ⟨j, hj⟩ : ∃ j : Nat, x = -(j : Int) := ⟨(-x).toNat, by omega⟩
        subst hj
        have hj1 : 1 ≤ j := by omega
        have hjn : j < n := by omega
        have hn0 : 0 < n := by omega
        have hjneg : -(j : Int) < 0 := by omega
        have hjpos : ¬ (0 : Int) < -(j : Int) := by omega
        have hja : (-(j : Int)).natAbs = j := by omega
        have HLETS := Lib.hid (show lets n (-(j : Int)) = (Pm.half n).behind j hj1 by rw [lets_neg hjneg]; simp only [hja])
        have HFK := Lib.hid (show flipK n (-(j : Int)) s.F = flipL n s.F by unfold flipK; rw [if_neg hjpos])
        have HST := Lib.hid (show stepP s.p (-(j : Int)) = s.p - 1 by unfold stepP; rw [if_neg hjpos])
        have HQA := Lib.hid (size_any (-(j : Int)) (by omega) (by omega) wo)
        rw [if_pos hjneg, Int.neg_neg] at HQA
        clear hxn hxk hx0 hx1 hja hjpos
        go_wp2_with fail
        refine HQA.out.mono ?_
        rintro e w' ⟨rfl, rfl⟩
        go_wp2_with fail
        refine (letterPerm_any n j hn hj1 hjn _).mono ?_
        rintro e w2 ⟨v2, rfl, ho2, hb2⟩
        obtain ⟨g2, cap2, F2, rfl, hlo2, hhi2, hrow2, hnc2, hcap2, hval2⟩ := own_lst ho2 hn0
        have HRP := Lib.hid (show RowP n w2 g2 cap2 (Pm.one.behind j hj1) F2 from ⟨hrow2, hnc2, hcap2, hval2⟩)
        have HG2 := Lib.hid hlo2
        have HB2 := Lib.hid (HB.out.trans (hb2.mono HB.out.size))
        have HC2 := Lib.hid (HC0.out.below hb2 (by omega))
        have HFZ2 := Lib.hid (show ∀ o, w2.frozen? ⟨w.heap.size, o, none⟩ = false from fun o => (hb2.frozen (p := ⟨w.heap.size, o, none⟩) (by show w.heap.size < _; omega)).trans (HFZ.out o))
        have HBX2 := Lib.hid (HBX.out.block (hb2.block _ hsz))
        have HFC2 := Lib.hid (HFC.out.below hb2)
        have hz2 := hb2.size
        obtain ⟨y0, y1, y2⟩ := HBX2.out.cells
        have fy := fun o => HBX2.out.frozen o
        have hg2n : g2 ≠ w.heap.size + 1 := by omega
        have HQF := Lib.hid (flipAll_any n hn0 hn (w.heap.size + 1) (w.heap.size + 1) (s.p - 1) v1 H (w2.setCell ⟨w.heap.size + 1, 1, none⟩ (.int .i64 (s.p - 1))) (HBX2.out.pw _) (HFC2.out.box rfl _) (by simp; omega))
        have HR2 := Lib.hid (HRP.out.block (w' := w2.setCell ⟨w.heap.size + 1, 1, none⟩ (.int .i64 (s.p - 1))) (Go.Deep.blk_setCell_other _ _ _ _ hg2n))
        have HC3 := Lib.hid (HC2.out.far (p := ⟨w.heap.size + 1, 1, none⟩) (by simp) (.int .i64 (s.p - 1)))
        have HFZ3 := Lib.hid (show ∀ o, (w2.setCell ⟨w.heap.size + 1, 1, none⟩ (.int .i64 (s.p - 1))).frozen? ⟨w.heap.size, o, none⟩ = false from fun o => by rw [World.frozen?_setCell]; exact HFZ2.out o)
        have HB3 := Lib.hid (HB2.out.setCell (p := ⟨w.heap.size + 1, 1, none⟩) (by simp) (.int .i64 (s.p - 1)))
        have hsv : ∀ g, v1.ownBlock = some g → g < wo.heap.size := fun g hg => (HFC.out.lt hg).2
        have HNV := Lib.hid (show v1.ownBlock ≠ some g2 from fun e => by have := hsv _ e; omega)
        have hs3 : (w2.setCell ⟨w.heap.size + 1, 1, none⟩ (.int .i64 (s.p - 1))).heap.size = w2.heap.size := by simp
        have HS3 := Lib.hid hs3
        clear ho2 hb2 hrow2 hval2 hsv hs3
        simp only [lst_len] at *
        go_wp2_with fail
        refine HQF.out.mono ?_
        rintro e w3 ⟨rfl, H3, hbx3, hfc3, hfl, hbl3, htc3⟩
        have HBX3 := Lib.hid hbx3
        have HFC3 := Lib.hid hfc3
        have HFL := Lib.hid hfl
        have HBL3 := Lib.hid hbl3
        have HR3 := Lib.hid (HR2.out.block (htc3.block g2 HR2.out.lt HNV.out))
        clear hbx3 hfc3 hfl hbl3 htc3 y0 y1 y2 fy
        go_wp2_with fail
        refine (halfTwist_any n hn0 hn _).mono ?_
        rintro e w4 ⟨v4, rfl, ho4, hb4⟩
        have HQC := Lib.hid (compose_any n hn (Pm.half n) (Pm.one.behind j hj1) (Pm.on_half n) _ _ w4 (RdI.of_own ho4) (HR3.out.block (hb4.block _ HR3.out.lt)).rd)
        obtain ⟨A4, c4, rfl, -⟩ := ho4.cells
        have HB4 := Lib.hid hb4
        have hz4 := hb4.size
        clear ho4 hb4
        go_wp2_with fail
        refine HQC.out.mono ?_
        rintro e w5 ⟨v5, rfl, ho5, hb5⟩
        obtain ⟨A5, c5, rfl, -⟩ := ho5.cells
        have HB5 := Lib.hid (HB4.out.trans (hb5.mono hz4))
        have hz3 := HBX3.out.lt
        have hhl3 : H3.length ≤ 900000 := by have := congrArg List.length HFL.out; unfold flipL at this; rw [List.length_map, List.length_map, List.length_map] at this; omega
        have HTQ := Lib.hid (times_any n (by omega) hn (w.heap.size + 1) (w.heap.size + 1) (s.p - 1) v1 H3 ((Pm.half n).comp (Pm.one.behind j hj1)) _ w5 (HBX3.out.block (HB5.out.block _ hz3)) (HFC3.out.below HB5.out) (Nat.le_refl _) (RdI.of_own ho5) (by rw [comp_behind]; exact (Pm.on_half n).behind hj1 hjn) (by omega) (by omega) hhl3)
        clear ho5 hb5
        go_wp2_with fail
        refine HTQ.out.mono ?_
        rintro e w6 ⟨rfl, a, v', H', hbx', hfc', hnr, hbl⟩
        have HBX6 := Lib.hid hbx'
        have HFC6 := Lib.hid hfc'
        have HNF6 := Lib.hid (show IsNF n (l.take (k + 1)) ⟨s.p - 1 + a, H'.map Fh.p⟩ by rw [HT.out]; exact HNF.out.act HLP.out HLX.out ⟨a, by rw [HFK.out, HLETS.out, HSF.out, ← HFL.out, ← comp_behind n j hj1]; exact hnr, by rw [HST.out]⟩)
        have HBL6 := Lib.hid (show Below (w.heap.size + 1) (w2.setCell ⟨w.heap.size + 1, 1, none⟩ (.int .i64 (s.p - 1))) w6 from (HBL3.out.trans (HB5.out.mono (by omega))).trans hbl)
        clear hbx' hfc' hnr hbl
        go_wp2
        go_roundg (m - (k + 1))
        case measure => omega
        case rel => exact ⟨k + 1, ⟨s.p - 1 + a, H'.map Fh.p⟩, v', H', rfl, by omega, by go_num, HBX6.out, HFC6.out, rfl, HNF6.out, HC3.out.below HBL6.out (Nat.lt_succ_self _), fun o => (HBL6.out.frozen (p := ⟨w.heap.size, o, none⟩) (Nat.lt_succ_self _)).trans (HFZ3.out o), HB3.out.trans (HBL6.out.mono (by omega))⟩
      · exact absurd hzero hxn
      · obtain ⟨j, hj⟩ : ∃ j : Nat, x = (j : Int) := ⟨x.toNat, by omega⟩
        subst hj
        have hj1 : 1 ≤ j := by omega
        have hjn : j < n := by omega
        have hjneg : ¬ (j : Int) < 0 := by omega
        have hjpos : (0 : Int) < (j : Int) := by omega
        have HLETS := Lib.hid (show lets n (j : Int) = Pm.one.behind j hj1 by rw [lets_pos hjpos]; rfl)
        have HFK := Lib.hid (show flipK n (j : Int) s.F = s.F by unfold flipK; rw [if_pos hjpos])
        have HST := Lib.hid (show stepP s.p (j : Int) = s.p by unfold stepP; rw [if_pos hjpos])
        have HQA := Lib.hid (size_any (j : Int) (by omega) (by omega) wo)
        rw [if_neg hjneg] at HQA
        clear hxn hxk hx0 hx1
        go_wp2_with fail
        refine HQA.out.mono ?_
        rintro e w' ⟨rfl, rfl⟩
        go_wp2_with fail
        refine (letterPerm_any n j hn hj1 hjn _).mono ?_
        rintro e w2 ⟨v2, rfl, ho2, hb2⟩
        obtain ⟨A2, c2, rfl, -⟩ := ho2.cells
        have HB2 := Lib.hid (HB.out.trans (hb2.mono HB.out.size))
        have HC2 := Lib.hid (HC0.out.below hb2 (by omega))
        have HFZ2 := Lib.hid (show ∀ o, w2.frozen? ⟨w.heap.size, o, none⟩ = false from fun o => (hb2.frozen (p := ⟨w.heap.size, o, none⟩) (by show w.heap.size < _; omega)).trans (HFZ.out o))
        have HTQ := Lib.hid (times_any n (by omega) hn (w.heap.size + 1) (w.heap.size + 1) s.p v1 H (Pm.one.behind j hj1) _ w2 (HBX.out.block (hb2.block _ hsz)) (HFC.out.below hb2) (Nat.le_refl _) (RdI.of_own ho2) ((Pm.on_one n).behind hj1 hjn) (by omega) hpp1 hhl)
        have hz2 := hb2.size
        clear ho2 hb2
        go_wp2_with fail
        refine HTQ.out.mono ?_
        rintro e w3 ⟨rfl, a, v', H', hbx', hfc', hnr, hbl⟩
        have HBX3 := Lib.hid hbx'
        have HFC3 := Lib.hid hfc'
        have HNF3 := Lib.hid (show IsNF n (l.take (k + 1)) ⟨s.p + a, H'.map Fh.p⟩ by rw [HT.out]; exact HNF.out.act HLP.out HLX.out ⟨a, by rw [HFK.out, HLETS.out, HSF.out]; exact hnr, by rw [HST.out]⟩)
        have HBL := Lib.hid hbl
        clear hbx' hfc' hnr hbl
        go_wp2
        go_roundg (m - (k + 1))
        case measure => omega
        case rel => exact ⟨k + 1, ⟨s.p + a, H'.map Fh.p⟩, v', H', rfl, by omega, by go_num, HBX3.out, HFC3.out, rfl, HNF3.out, HC2.out.below HBL.out (Nat.lt_succ_self _), fun o => (HBL.out.frozen (p := ⟨w.heap.size, o, none⟩) (Nat.lt_succ_self _)).trans (HFZ2.out o), HB2.out.trans (HBL.out.mono (by omega))⟩
    · obtain rfl : k = m := by omega
      obtain ⟨y0, y1, y2⟩ := HBX.out.cells
      obtain ⟨z0, z1, z2⟩ := HC0.out.three
      have fz0 := HFZ.out
      have HT := Lib.hid (show l.take k = l from List.take_of_length_le (by rw [HM.out]; omega))
      have HRD := Lib.hid HFC.out.rd
      obtain ⟨A1, c1, rfl, hmc1, hcm1⟩ := HFC.out.off.shape
      go_wp2
      refine bodyPost_ret (v := .agg #[.int .i64 (n : Int), .int .i64 s.p, .slice A1 H.length c1]) (by simp [results, Try.results72, go_sem, y0, y1, y2, z0, z1, z2, World.cell?_setCell_other]) rfl ⟨s, _, rfl, ⟨_, rfl, ?_⟩, by rw [← HT.out]; exact HNF.out, ?_⟩
      · rw [HSF.out]
        refine Fac.rd (HFC.out.block2 fun k h1 _ _ => ?_)
        rw [Go.Deep.blk_setCell_other _ _ _ _ (by show k ≠ w.heap.size; omega), Go.Deep.blk_setCell_other _ _ _ _ (by show k ≠ w.heap.size; omega), Go.Deep.blk_setCell_other _ _ _ _ (by show k ≠ w.heap.size; omega)]
      · exact ((HB.out.setCell (by simp) _).setCell (by simp) _).setCell (by simp) _

end Go.Proofs.Ytfeonaocmnpkcaa
