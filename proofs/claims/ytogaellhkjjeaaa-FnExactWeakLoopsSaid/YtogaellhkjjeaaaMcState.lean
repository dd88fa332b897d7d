/-
  isLive, states of the program, l11State of the reference; indicesOf.
-/
import Derived.Test.YtogaellhkjjeaaaMcKids
namespace Go.Proofs.Ytogaellhkjjeaaa
set_option linter.unusedVariables false
set_option linter.unusedSimpArgs false
open Go.RowKit

/-- A row of bools of the call's own, one for each loop. -/
def GivesB (w : World) (n : Nat) (F : Nat → Bool) (e : Ending) (w' : World) : Prop := e = .returned (.slice (some ⟨w.heap.size, 0, none⟩) n n) ∧ w'.rowIs w.heap.size 4 n (fun i => .bool (F i)) ∧ Below w.heap.size w w'
theorem rowIs_congr {w : World} {g t n : Nat} {f f' : Nat → Value} (h : w.rowIs g t n f) (e : ∀ i, i < n → f' i = f i) : w.rowIs g t n f' := by
  obtain ⟨cur, h1, h2, h3⟩ := h
  exact ⟨cur, h1, h2, fun i hi => by rw [e i hi]; exact h3 i hi⟩

set_option maxHeartbeats 8000000 in
set_option maxRecDepth 100000 in
theorem isLive_any (m : Mc) (g : Nat) (w : World) (h : RdP w g m) (ok : okM m = true) :
    Calls Try.prog 73 #[.pointer (some ⟨g, 0, none⟩)] w (GivesB w m.ls.length (fun i => hasB (liveL m) (i : Int))) := by
  have h300 := ls_len ok
  have h240 := liveL_len ok
  have HP := Lib.hid h
  have HOK := Lib.hid ok
  have HRNG := Lib.hid (fun (k : Int) (hk : k ∈ liveL m) => liveL_rng ok hk)
  obtain ⟨F, G, C, L, D, hc, h1, h2, h3, h4, h5, h6⟩ := h
  obtain ⟨AI, cI, rfl⟩ := RdN.shape h4
  obtain ⟨x0, x1, x2, x3, x4, x5, x6⟩ := hc.seven
  generalize hln : m.ls.length = n at *
  have hmk : ∀ W : World, (Instr.makeSlice 94 (.int .i64 (n : Int)) (.int .i64 (n : Int))).run Try.prog W = .ok (.slice (some ⟨W.heap.size, 0, none⟩) n n) (W.alloc (.cells (madeCells #[.bool false] n) 4)) := fun W => run_make_row' (P := Try.prog) 94 4 (.bool false) 1 Try.underlying94 info_bool rfl .i64 .i64 n (by omega) (by omega) W
  have BW := Lib.hid (show Below w.heap.size w (w.alloc (.cells (madeCells #[.bool false] n) 4)) from (Below.refl _ _).alloc (Nat.le_refl _) _)
  have HR0 := Lib.hid (World.rowIs_made w (.bool false) n 4)
  clear h1 h2 h3 h4 h5 h6 hc hln ok
  go_enter Try.func73, Try.ntmps73
  go_wp2_with fail
  clear hmk
  refine (live_any m g _ (HP.out.below BW.out) HOK.out).mono ?_
  rintro e w1 ⟨v, rfl, ho, hb⟩
  obtain ⟨A, cp, rfl, -⟩ := ho.cells
  have hs1 : w.heap.size + 1 ≤ w1.heap.size := by have := hb.size; simp at this; omega
  have HO := Lib.hid (ho.wide (show w.heap.size + 1 ≤ _ by simp) (Nat.le_refl _))
  have HB1 := Lib.hid (BW.out.trans (hb.mono BW.out.size))
  have HR1 := Lib.hid (rowIs_below HR0.out hb)
  generalize hY : liveL m = Y at *
  have HYE := Lib.hid hY
  generalize hyn : Y.length = N at *
  have HYN := Lib.hid hyn
  clear ho hb hY hyn BW HR0 x0 x1 x2 x3 x4 x5 x6
  go_wp2
  go_loopw [15] (fun i wr => ∃ (k : Nat) (f : Nat → Value), k ≤ N ∧ i = .int .i64 k ∧ wr.rowIs w.heap.size 4 n f ∧ Hid (∀ i, i < n → f i = .bool ((Y.take k).contains (i : Int))) ∧ Hid (Same (w.heap.size + 1) w1.heap.size w1 wr) ∧ Hid (Below w.heap.size w wr)) (fun i _ => N - (intOf i).toNat)
  case atStart => exact ⟨0, _, Nat.zero_le _, rfl, HR1.out, fun i hi => by simp, Same.refl _ _ _, HB1.out⟩
  case round =>
    rename_i wr
    obtain ⟨k, f, hk, rfl, hrow, hf, hsame, hbb⟩ := hrel
    by_cases hlt : k < N
    · have hown := HO.out.same hsame.out
      rw [← HYN.out] at hown
      have hrd := RdI.of_own hown
      rw [HYN.out] at hrd
      obtain ⟨b, off, y, rfl, hb1, hyk, hcy⟩ := hrd.at_ hlt
      obtain ⟨y0, y1⟩ := HRNG.out y (List.mem_of_getElem? hyk)
      obtain ⟨yn, rfl⟩ := Int.eq_ofNat_of_zero_le y0
      have hyn : yn < n := by omega
      have cp := hrow.cell (i := yn) hyn
      rw [hf.out yn hyn] at cp
      have fz := fun i => hrow.frozen i
      have HSE := Lib.hid (seen_set (q := yn) hf.out)
      have HTK := Lib.hid (show Y.take (k + 1) = Y.take k ++ [(yn : Int)] by rw [List.take_add_one, hyk]; rfl)
      have HROW := Lib.hid hrow
      have HB2 := Lib.hid (hbb.out.setCell (p := ⟨w.heap.size, yn, none⟩) (Nat.le_refl _) (.bool true))
      have HS2 := Lib.hid (hsame.out.setCell (p := ⟨w.heap.size, yn, none⟩) (.inl (by simp)) (.bool true))
      clear hrow hyk hown hrd y0
      go_wp2
      exact ⟨⟨k + 1, _, by omega, by go_num, HROW.out.set _ _, by rw [HTK.out]; exact HSE.out, HS2.out, HB2.out⟩, by simp [intOf]; omega⟩
    · have HROW := Lib.hid (rowIs_congr (f' := fun i => .bool (hasB Y (i : Int))) hrow (fun i hi => by
        rw [hf.out i hi, List.take_of_length_le (by have := HYN.out; omega)]; rfl))
      clear hrow
      go_wp2
      go_ret
      exact ⟨rfl, by rw [← HYE.out] at HROW; exact HROW.out, hbb.out⟩

def stL (m : Mc) : List Int := (List.range m.ls.length).map fun i : Nat => stM m (i : Int)
set_option maxHeartbeats 8000000 in
set_option maxRecDepth 100000 in
theorem states_any (m : Mc) (g : Nat) (w : World) (h : RdP w g m) (ok : okM m = true) :
    Calls Try.prog 66 #[.pointer (some ⟨g, 0, none⟩)] w (GivesOw w 2 1 m.ls.length (vI (stL m))) := by
  have h300 := ls_len ok
  have hgl := h.lt
  have HP := Lib.hid h
  have HOK := Lib.hid ok
  have HST := Lib.hid (fun i : Nat => show stM m (i : Int) = if hasB (liveL m) (i : Int) = true then 2 else if m.dr.contains (i : Int) = true then 3 else if 0 < (chL m (i : Int)).length then 1 else 4 from rfl)
  obtain ⟨F, G, C, L, D, hc, h1, h2, h3, h4, h5, h6⟩ := h
  obtain ⟨AI, cI, rfl⟩ := RdN.shape h4
  have HC := Lib.hid hc
  have HD := Lib.hid h5
  have HVI := Lib.hid (show vI (stL m) = (List.range m.ls.length).map fun i : Nat => Value.int .i64 (stM m (i : Int)) by simp [vI, stL])
  generalize hst : stM m = S at *
  generalize hln : m.ls.length = n at *
  have HLN := Lib.hid hln
  have hmk : ∀ W : World, (Instr.makeSlice 27 (.int .i64 (n : Int)) (.int .i64 (n : Int))).run Try.prog W = .ok (.slice (some ⟨W.heap.size, 0, none⟩) n n) (W.alloc (.cells (madeCells #[.int .i64 0] n) 2)) := fun W => run_make_row' (P := Try.prog) 27 2 (.int .i64 0) 8 Try.underlying27 info_int rfl .i64 .i64 n (by omega) (by omega) W
  clear h1 h2 h3 h4 h5 h6 hc hln ok hst
  go_enter Try.func66, Try.ntmps66
  go_wp2_with fail
  refine (isLive_any m g _ HP.out HOK.out).mono ?_
  rintro e w1 ⟨rfl, hr1, hb1⟩
  have HP1 := Lib.hid (HP.out.below hb1)
  have HB1 := Lib.hid hb1
  rw [HLN.out] at hr1
  have HR1 := Lib.hid hr1
  have hz1 := hb1.size
  have hwl : w.heap.size < w1.heap.size := rowIs_lt hr1
  clear hr1 hb1
  go_wp2_with fail
  refine (children_any m g _ HP1.out HOK.out).mono ?_
  rintro e w2 ⟨f, rfl, hm, hb2⟩
  rw [HLN.out] at hm
  have HB2 := Lib.hid (HB1.out.trans (hb2.mono hz1))
  have HR2 := Lib.hid (rowIs_below HR1.out hb2)
  have HM2 := Lib.hid hm
  have hwl2 : w1.heap.size < w2.heap.size := rowIs_lt hm.row
  obtain ⟨x0, x1, x2, x3, x4, x5, x6⟩ := (HC.out.below HB2.out hgl).seven
  rw [HLN.out]
  clear hm hb2
  have hg2 : g < w2.heap.size := by omega
  go_wp2
  clear hmk x0 x1 x2 x3 x4 x5 x6
  go_loopw [22] (fun i wr => ∃ (k : Nat) (f3 : Nat → Value), k ≤ n ∧ i = .int .i64 k ∧ wr.rowIs w2.heap.size 2 n f3 ∧ Hid (∀ i, i < k → f3 i = .int .i64 (S (i : Int))) ∧ Hid (Below w2.heap.size w2 wr)) (fun i _ => n - (intOf i).toNat)
  case atStart => exact ⟨0, _, Nat.zero_le _, rfl, World.rowIs_made _ _ _ _, fun i hi => absurd hi (by omega), (Below.refl _ _).alloc (Nat.le_refl _) _⟩
  case round =>
    rename_i wr
    obtain ⟨k, f3, hk, rfl, hrow, hf, hbb⟩ := hrel
    by_cases hlt : k < n
    · have cl := (rowIs_below HR2.out hbb.out).cell (i := k) hlt
      have fz := fun i => hrow.frozen i
      have cp := hrow.cell (i := k) hlt
      have HSK := Lib.hid (HST.out k)
      have HFN := Lib.hid (fun (x : Int) (hx : S (k : Int) = x) => show ∀ i, i < k + 1 → (fun j => if j = k then Value.int .i64 x else f3 j) i = .int .i64 (S (i : Int)) from fun i hi => by
        by_cases e : i = k
        · subst e; simp [hx]
        · simp only [e, if_false]; exact hf.out i (by omega))
      have HROW := Lib.hid hrow
      have HBB := Lib.hid (fun (W : World) (x : Int) (hb : Below wr.heap.size wr W) => show Below w2.heap.size w2 (W.setCell ⟨w2.heap.size, k, none⟩ (.int .i64 x)) from (hbb.out.trans (hb.mono hbb.out.size)).setCell (Nat.le_refl _) _)
      cases hl : hasB (liveL m) (k : Int)
      · have HK1 := Lib.hid hl
        have HDR := Lib.hid ((HD.out.below (HB2.out.trans (hbb.out.mono HB2.out.size))).more (show w.heap.size ≤ wr.heap.size by have := HB2.out.size; have := hbb.out.size; omega))
        have hcx := (HC.out.below (HB2.out.trans (hbb.out.mono HB2.out.size)) hgl).seven
        obtain ⟨x0, x1, x2, x3, x4, x5, x6⟩ := hcx
        rw [hl] at cl
        cases hd : m.dr.contains (k : Int)
        · have HK2 := Lib.hid hd
          have hmat := HM2.out.below hbb.out
          have HMR := Lib.hid hmat
          have cm := hmat.row.cell (i := k) hlt
          have hok := hmat.own k hlt
          obtain ⟨Ak, ck, hfk, -⟩ := (OwC.of_own hok).cells
          have HFK := Lib.hid hfk
          by_cases h0 : 0 < (chL m (k : Int)).length
          · have h0' : (0 : Int) < ((chL m (k : Int)).length : Int) := by omega
            have HK3 := Lib.hid (show S (k : Int) = 1 by rw [HSK.out, HK1.out, HK2.out, if_neg (by decide), if_neg (by decide), if_pos h0])
            generalize (chL m (k : Int)).length = N at *
            rw [hfk] at cm
            clear hl hd hrow hmat hok hfk
            go_wp2_with fail
            refine (containsI_any _ m.dr _ _ HDR.out).mono ?_
            rintro e w3 ⟨rfl, hb3⟩
            rw [HK2.out]
            have cm3 := (HMR.out.below hb3).row.cell (i := k) hlt
            rw [HFK.out] at cm3
            have fz3 := fun i => (rowIs_below HROW.out hb3).frozen i
            have cp3 := (rowIs_below HROW.out hb3).cell (i := k) hlt
            have HR3 := Lib.hid (rowIs_below HROW.out hb3)
            have HB3 := Lib.hid hb3
            clear hb3 fz cp cl x0 x1 x2 x3 x4 x5 x6 cm
            go_wp2
            exact ⟨⟨k + 1, _, by omega, by go_num, HR3.out.set _ _, HFN.out 1 HK3.out, HBB.out _ 1 HB3.out⟩, by simp [intOf]; omega⟩
          · have h0' : ¬ (0 : Int) < ((chL m (k : Int)).length : Int) := by omega
            have HK3 := Lib.hid (show S (k : Int) = 4 by rw [HSK.out, HK1.out, HK2.out, if_neg (by decide), if_neg (by decide), if_neg h0])
            generalize (chL m (k : Int)).length = N at *
            rw [hfk] at cm
            clear hl hd hrow hmat hok hfk
            go_wp2_with fail
            refine (containsI_any _ m.dr _ _ HDR.out).mono ?_
            rintro e w3 ⟨rfl, hb3⟩
            rw [HK2.out]
            have cm3 := (HMR.out.below hb3).row.cell (i := k) hlt
            rw [HFK.out] at cm3
            have fz3 := fun i => (rowIs_below HROW.out hb3).frozen i
            have cp3 := (rowIs_below HROW.out hb3).cell (i := k) hlt
            have HR3 := Lib.hid (rowIs_below HROW.out hb3)
            have HB3 := Lib.hid hb3
            clear hb3 fz cp cl x0 x1 x2 x3 x4 x5 x6 cm
            go_wp2
            exact ⟨⟨k + 1, _, by omega, by go_num, HR3.out.set _ _, HFN.out 4 HK3.out, HBB.out _ 4 HB3.out⟩, by simp [intOf]; omega⟩
        · have HK2 := Lib.hid hd
          have HK3 := Lib.hid (show S (k : Int) = 3 by rw [HSK.out, HK1.out, HK2.out, if_neg (by decide), if_pos rfl])
          clear hl hd hrow
          go_wp2_with fail
          refine (containsI_any _ m.dr _ _ HDR.out).mono ?_
          rintro e w3 ⟨rfl, hb3⟩
          rw [HK2.out]
          have fz3 := fun i => (rowIs_below HROW.out hb3).frozen i
          have cp3 := (rowIs_below HROW.out hb3).cell (i := k) hlt
          have HR3 := Lib.hid (rowIs_below HROW.out hb3)
          have HB3 := Lib.hid hb3
          clear hb3 fz cp cl x0 x1 x2 x3 x4 x5 x6
          go_wp2
          exact ⟨⟨k + 1, _, by omega, by go_num, HR3.out.set _ _, HFN.out 3 HK3.out, HBB.out _ 3 HB3.out⟩, by simp [intOf]; omega⟩
      · have HK3 := Lib.hid (show S (k : Int) = 2 by rw [HSK.out, hl, if_pos rfl])
        rw [hl] at cl
        clear hl hrow
        go_wp2
        exact ⟨⟨k + 1, _, by omega, by go_num, HROW.out.set _ _, HFN.out 2 HK3.out, HBB.out _ 2 (Below.refl _ _)⟩, by simp [intOf]; omega⟩
    · have HROW := Lib.hid (rowIs_congr (f' := fun i => .int .i64 (S (i : Int))) hrow (fun i hi => (hf.out i (by omega)).symm))
      have HBW := Lib.hid (HB2.out.trans (hbb.out.mono HB2.out.size))
      clear hrow
      go_wp2
      go_ret
      refine ⟨_, rfl, ?_, HBW.out⟩
      rw [HVI.out]
      have h := OwC.of_rowF (lo := w.heap.size) (hi := wr.heap.size) (n := n) (sz := 1) (by rw [Nat.mul_one]; exact HROW.out) (by omega) (rowIs_lt HROW.out) (by unfold maxLen; omega)
      rw [Nat.mul_one] at h
      exact h

end Go.Proofs.Ytogaellhkjjeaaa
