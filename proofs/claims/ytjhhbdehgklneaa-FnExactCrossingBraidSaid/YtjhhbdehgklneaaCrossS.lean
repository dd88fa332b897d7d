/-
  CrossingBraid of the reference.
-/
import Derived.Test.YtjhhbdehgklneaaCross
import Derived.Test.YtjhhbdehgklneaaL10e
import Derived.Test.YtjhhbdehgklneaaNst
import Derived.Deep.AppendLies
import Derived.Deep.RegionLaw
namespace Go.Proofs.Ytjhhbdehgklneaa
set_option linter.unusedVariables false
set_option linter.unusedSimpArgs false
open Go.RowKit

set_option maxHeartbeats 8000000 in
set_option maxRecDepth 100000 in
theorem specCross_any (n : Int) (v : Value) (l : List Ev) (w : World) (hl : RdE w w.heap.size v l) (hlen : l.length ≤ 1048576) :
    Calls Try.prog 7 #[.int .i64 n, v] w (GivesBrC w (crR n l) (crC n l)) := by
  obtain ⟨A, N, c, rfl, hln, hl', gl⟩ := hl
  have HL := Lib.hid gl
  have HLN := Lib.hid hl'.out
  have hN : N ≤ 1048576 := by have := hl'.out; omega
  clear hl' gl
  have BW := Lib.hid (show Below w.heap.size w (w.alloc (.cells #[.int .i64 0, .slice none 0 0] 26)) from (Below.refl _ _).alloc (Nat.le_refl _) _)
  cases hs : inS n
  · have HN := Lib.hid (fun w' hb => GivesBrC.no (w := w) (w' := w') (crC_rng (l := l) hs) (by decide) hb)
    have HI := Lib.hid (show (decide (0 ≤ n) && decide (n ≤ 12)) = false from hs)
    clear hs
    go_enter Try.func7, Try.ntmps7
    go_wp2_with fail
    refine (l00In_any n 0 12 _).mono ?_
    rintro e w1 ⟨rfl, rfl⟩
    rw [HI.out]
    go_wp2
    refine bodyPost_ret (v := .tuple #[.agg #[.int .i64 0, .slice none 0 0], .int .i64 2]) (by simp [results, Try.results7, go_sem, World.cell?_setCell_other]) rfl (HN.out _ ?_)
    exact BW.out
  · have HI := Lib.hid (show (decide (0 ≤ n) && decide (n ≤ 12)) = true from hs)
    have hs' := hs
    unfold inS at hs'
    simp at hs'
    obtain ⟨h0, h1⟩ := hs'
    have HBAD := Lib.hid (fun (hc : crossB n l = false) w' hb => GivesBrC.no (w := w) (w' := w') (crC_bad (l := l) hs hc) (by decide) hb)
    have HFUL := Lib.hid (fun (hc : crossB n l = true) (hx : 40 < l.length) w' hb => GivesBrC.no (w := w) (w' := w') (crC_full (l := l) hs hc hx) (by decide) hb)
    have HYES := Lib.hid (fun (hc : crossB n l = true) (hx : ¬ 40 < l.length) => crC_ok (l := l) hs hc hx)
    have HLE := Lib.hid (fun (x : Ev) (hx : crE n x = true) => letE1_rng h1 hx)
    clear hs
    generalize hY : letW l = Y
    have HY := Lib.hid (show Y = [] ++ letW (l.drop 0) by rw [← hY]; rfl)
    have HYE := Lib.hid hY
    generalize hR : crossB n l = R at *
    have HR := Lib.hid (show R = crossB n (l.drop 0) by rw [← hR]; rfl)
    have HRE := Lib.hid hR
    clear hY hR
    obtain ⟨i0, hi, hz0, hz1, hz2⟩ := info_parts info_int
    go_enter Try.func7, Try.ntmps7
    go_wp2_with fail
    refine (l00In_any n 0 12 _).mono ?_
    rintro e w1 ⟨rfl, rfl⟩
    rw [HI.out]
    go_wp2
    go_loopw [7] (fun i wr => ∃ (k : Nat) (acc : List Int) (s : Value), k ≤ N ∧ i = .int .i64 k ∧ wr.ownsRow (w.heap.size + 2) 2 1 s acc.length (vI acc) ∧ acc.length ≤ k ∧ k ≤ acc.length ∧ Hid (CellsAt wr (w.heap.size + 1) 0 [.int .i64 n, s]) ∧ Hid (CellsAt wr w.heap.size 0 [.int .i64 0, .slice none 0 0]) ∧ Hid ((∀ o, wr.frozen? ⟨w.heap.size, o, none⟩ = false) ∧ (∀ o, wr.frozen? ⟨w.heap.size + 1, o, none⟩ = false)) ∧ Hid (Y = acc ++ letW (l.drop k)) ∧ Hid (R = crossB n (l.drop k)) ∧ Hid (Below w.heap.size w wr)) (fun i _ => N - (intOf i).toNat)
    case atStart =>
      refine ⟨0, [], .slice none 0 0, Nat.zero_le _, rfl, World.ownsRow_nil _ _ _ _, Nat.le_refl _, Nat.le_refl _, ?_, ?_, ⟨?_, ?_⟩, HY.out, HR.out, ?_⟩
      · intro j u hu; rcases j with _ | _ | j <;> simp at hu <;> subst hu <;> simp [go_sem]
      · intro j u hu; rcases j with _ | _ | j <;> simp at hu <;> subst hu <;> simp [go_sem]
      · intro o; simp [go_sem]
      · intro o; simp [go_sem]
      · exact BW.out.alloc (by simp) _
    case round =>
      rename_i wr
      obtain ⟨k, acc, s, hk, rfl, hown, hak, hak2, hbx, hrs, hfr, hd, hr, hb⟩ := hrel
      have hlt1 : w.heap.size + 1 < wr.heap.size := block_lt_of_cell hbx.out.two.1
      by_cases hlt : k < N
      · obtain ⟨b, off, x, rfl, hbb, hlk, hcc⟩ := HL.out k hlt
        have hcw := hcc.below hb.out hbb
        have hnx := cross_next hr.out hlk
        have HQ := Lib.hid (l10Event_any x n h0 h1 b (off + k * 6) wr hcw)
        have HCW := Lib.hid hcw
        clear hcw hcc
        go_wp2_with fail
        refine HQ.out.mono ?_
        rintro e w2 ⟨m, rfl, hm, hb2⟩
        have hbc := bcell hb2
        have hsz2 := hb2.size
        have HB2 := Lib.hid (hb.out.trans (hb2.mono hb.out.size))
        have HBX := Lib.hid (hbx.out.below hb2 hlt1)
        have HRS := Lib.hid (hrs.out.below hb2 (by omega))
        have HO2 := Lib.hid (own_below hown hb2)
        have hf0 : ∀ o, w2.frozen? ⟨w.heap.size, o, none⟩ = false := fun o => (hbc.2 _ _ (by omega)).trans (hfr.out.1 o)
        have hf1 : ∀ o, w2.frozen? ⟨w.heap.size + 1, o, none⟩ = false := fun o => (hbc.2 _ _ (by omega)).trans (hfr.out.2 o)
        obtain ⟨c0, c1, c2, -, -, -⟩ := (HCW.out.below hb2 (by omega)).six
        obtain ⟨r0, r1⟩ := HRS.out.two
        have HM := Lib.hid hm
        have HHR := Lib.hid hr.out
        have HHD := Lib.hid hd.out
        clear hbc hb2 hm hown hbx hrs hfr hr hd hb
        cases hv : valE n x
        · have hE := HBAD.out (by rw [hnx]; simp [crE, hv])
          have HE := Lib.hid hE
          clear hE hnx
          go_wp2
          refine bodyPost_ret (v := .tuple #[.agg #[.int .i64 0, .slice none 0 0], .int .i64 1]) (by simp [results, Try.results7, go_sem, r0, r1, World.cell?_setCell_other]) rfl (HE.out _ ?_)
          exact ((HB2.out.setCell (by simp) _).setCell (by simp) _)
        cases hk1 : (x.k == 1)
        · have hE := HBAD.out (by rw [hnx]; simp [crE, hk1])
          have hk2 : (x.k != 1) = true := by simp at hk1 ⊢; exact hk1
          have HE := Lib.hid hE
          clear hE hnx hk1
          go_wp2
          refine bodyPost_ret (v := .tuple #[.agg #[.int .i64 0, .slice none 0 0], .int .i64 1]) (by simp [results, Try.results7, go_sem, r0, r1, World.cell?_setCell_other]) rfl (HE.out _ ?_)
          exact ((HB2.out.setCell (by simp) _).setCell (by simp) _)
        have hk2 : (x.k != 1) = false := by simp at hk1 ⊢; exact hk1
        have hE : crE n x = true := by simp [crE, hk1, hv]
        obtain ⟨hw1, hw2⟩ := HLE.out x hE
        have HNX := Lib.hid (show R = crossB n (l.drop (k + 1)) by rw [hnx, hE]; rfl)
        have HNY := Lib.hid (letW_snoc HHD.out hlk)
        clear hE hnx hlk hk1
        obtain ⟨y0, y1⟩ := HBX.out.two
        have f11 := hf1 1
        have hx1 : w.heap.size + 1 < w2.heap.size := by omega
        have hog : ∀ g, s.ownBlock = some g → w.heap.size + 2 ≤ g := fun g hg => (HO2.out.lt g hg).1
        have ax : s.ownBlock ≠ some (w.heap.size + 1) := fun e => by have := hog _ e; omega
        have ab : s.ownBlock ≠ some b := fun e => by have := hog _ e; omega
        have ar : s.ownBlock ≠ some w.heap.size := fun e => by have := hog _ e; omega
        go_wp2_with fail
        go_region_law ((refine step_append_lies _ (by rfl) _ _ _ (by rfl) (w.heap.size + 2) 2 i0 _ 1 8 Try.underlying24 hi hz0 hz1 hz2 rfl (by omega) s acc.length (vI acc) (by rfl) ((HO2.out.alloc _).drew) ⟨w2.heap.size, 0, none⟩ 1 1 [.int .i64 (letE1 x)] (by rfl) (by rfl) (World.news_of_block (cs := #[.int .i64 (letE1 x)]) (t := 2) (fr := (0, 0)) (heap_alloc_new w2 _)) (by simp [Value.oneCell']) (by omega) (by unfold maxLen; omega) (by omega) (by simp; omega) (w2.heap.size + 1) (by simp) ?_; intro gg cap w3 hown3 hgrow hat hlt; have y13 : w3.cell? ⟨w.heap.size + 1, 1, none⟩ = some s := (hgrow.cell_far ⟨w.heap.size + 1, 1, none⟩ (by simp; omega) (Ne.symm ax)).trans ((((Below.refl w2.heap.size w2).alloc (Nat.le_refl _) _).cell (p := ⟨w.heap.size + 1, 1, none⟩) hx1).trans y1); have f13 : w3.frozen? ⟨w.heap.size + 1, 1, none⟩ = false := (hgrow.frozen_far ⟨w.heap.size + 1, 1, none⟩ (by simp; omega) (Ne.symm ax)).trans ((((Below.refl w2.heap.size w2).alloc (Nat.le_refl _) _).frozen (p := ⟨w.heap.size + 1, 1, none⟩) hx1).trans f11)))
        all_goals
          (have hg2 := hgrow.size
           have HO3 : Hid (w3.ownsRow (w.heap.size + 2) 2 1 (.slice (some ⟨gg, 0, none⟩) (acc.length + 1) cap) (acc ++ [letE1 x]).length (vI (acc ++ [letE1 x]))) := by have h9 := hown3; simp only [vI, List.map_append, List.length_append, List.length_singleton, List.map_cons, List.map_nil] at h9 ⊢; exact h9
           have HA := Lib.hid (((Below.refl w2.heap.size w2).alloc (Nat.le_refl _) (.cells #[.int .i64 (letE1 x)] 2)).drew)
           have HX3 : Hid (CellsAt w3 (w.heap.size + 1) 0 [.int .i64 n, s]) := fun j u hu => (hgrow.cell_far ⟨w.heap.size + 1, 0 + j, none⟩ (by simp; omega) (Ne.symm ax)).trans ((HA.out.cell (p := ⟨w.heap.size + 1, 0 + j, none⟩) hx1).trans (HBX.out j u hu))
           have HR3 : Hid (CellsAt w3 w.heap.size 0 [.int .i64 0, .slice none 0 0]) := fun j u hu => (hgrow.cell_far ⟨w.heap.size, 0 + j, none⟩ (by simp; omega) (Ne.symm ar)).trans ((HA.out.cell (p := ⟨w.heap.size, 0 + j, none⟩) (by show w.heap.size < _; omega)).trans (HRS.out j u hu))
           have HF0 := Lib.hid (fun o => (hgrow.frozen_far ⟨w.heap.size, o, none⟩ (by simp; omega) (Ne.symm ar)).trans ((HA.out.frozen (p := ⟨w.heap.size, o, none⟩) (by show w.heap.size < _; omega)).trans (hf0 o)))
           have HF1 := Lib.hid (fun o => (hgrow.frozen_far ⟨w.heap.size + 1, o, none⟩ (by simp; omega) (Ne.symm ax)).trans ((HA.out.frozen (p := ⟨w.heap.size + 1, o, none⟩) hx1).trans (hf1 o)))
           have HB3 := Lib.hid (((HB2.out.trans (HA.out.mono HB2.out.size))).grown hgrow (by simp; omega) (fun g hg => by have := hog g hg; omega))
           clear hown3 hgrow hat hlt hf0 hf1 f11 f13 y13 c0 c1 c2 r0 r1 y0 y1
           go_wp2
           exact ⟨⟨k + 1, acc ++ [letE1 x], _, by omega, by go_num, ownsRow_setCell_below HO3.out (by show _ < _; simp) _, by simp; omega, by simp; omega, HX3.out.set 1 _, HR3.out.far (by simp) _, ⟨fun o => by simp [go_sem]; exact HF0.out o, fun o => by simp [go_sem]; exact HF1.out o⟩, HNY.out, HNX.out, HB3.out.setCell (by simp) _⟩, by simp [intOf]; omega⟩)
      · have hkN : k = N := by omega
        subst hkN
        have hal : acc.length = k := by omega
        have HRT := Lib.hid (show R = true by rw [hr.out, List.drop_of_length_le (by have := HLN.out; omega)]; rfl)
        have HAC := Lib.hid (show letW l = acc by rw [HYE.out, hd.out, List.drop_of_length_le (by have := HLN.out; omega)]; simp [letW])
        have HO := Lib.hid hown
        have HB := Lib.hid hb.out
        obtain ⟨z0, z1⟩ := hbx.out.two
        obtain ⟨r0, r1⟩ := hrs.out.two
        have f0 := hfr.out.1
        have f1 := hfr.out.2
        obtain ⟨g0, c0, rfl⟩ : ∃ g0 c0, s = .slice g0 acc.length c0 := by
          rcases hown.2 with ⟨rfl, h⟩ | ⟨g, cap, cur, rfl, _⟩
          · exact ⟨none, 0, by rw [h]⟩
          · exact ⟨_, _, rfl⟩
        clear hown hb hbx hrs hfr hd hr
        by_cases hx : 40 < k
        · have HE := Lib.hid (HFUL.out HRT.out (by rw [HLN.out]; exact hx))
          have hx' : (40 : Int) < (acc.length : Int) := by omega
          go_wp2
          refine bodyPost_ret (v := .tuple #[.agg #[.int .i64 0, .slice none 0 0], .int .i64 5]) (by simp [results, Try.results7, go_sem, r0, r1, World.cell?_setCell_other]) rfl (HE.out _ ?_)
          exact ((HB.out.setCell (by simp) _).setCell (by simp) _)
        · have HE := Lib.hid (HYES.out HRT.out (by rw [HLN.out]; exact hx))
          have hx' : ¬ (40 : Int) < (acc.length : Int) := by omega
          go_wp2
          refine bodyPost_ret (v := .tuple #[.agg #[.int .i64 n, .slice g0 acc.length c0], .int .i64 0]) (by simp [results, Try.results7, go_sem, r0, r1, World.cell?_setCell_other, hal]) rfl (GivesBrC.yes HE.out ?_ ?_)
          · rw [HAC.out]
            exact (OwC.of_own (ownsRow_setCell_below (ownsRow_setCell_below HO.out (by show _ < _; simp) _) (by show _ < _; simp) _)).wide (lo' := w.heap.size) (by omega) (Nat.le_refl _)
          · exact ((HB.out.setCell (by simp) _).setCell (by simp) _)

end Go.Proofs.Ytjhhbdehgklneaa
