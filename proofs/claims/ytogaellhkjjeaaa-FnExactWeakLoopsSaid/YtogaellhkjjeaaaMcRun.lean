/-
  What would come undone without a loop: runOf of the program, l12Run of the reference; their codes.
-/
import Derived.Test.YtogaellhkjjeaaaMcTop
namespace Go.Proofs.Ytogaellhkjjeaaa
set_option linter.unusedVariables false
set_option linter.unusedSimpArgs false
open Go.RowKit

theorem filt_yes {p : Int → Bool} {L acc l : List Int} {k : Nat} {x : Int} (h : L = acc ++ (l.drop k).filter p) (hx : l[k]? = some x) (hp : p x = true) : L = (acc ++ [x]) ++ (l.drop (k + 1)).filter p := by
  rw [h, drop_of_get hx, List.filter_cons_of_pos hp, List.append_assoc]
  rfl
theorem filt_no {p : Int → Bool} {L acc l : List Int} {k : Nat} {x : Int} (h : L = acc ++ (l.drop k).filter p) (hx : l[k]? = some x) (hp : p x = false) : L = acc ++ (l.drop (k + 1)).filter p := by
  rw [h, drop_of_get hx, List.filter_cons_of_neg (by rw [hp]; decide)]

set_option maxHeartbeats 8000000 in
set_option maxRecDepth 100000 in
theorem runOf_any (m : Mc) (g : Nat) (k0 : Int) (w : World) (h : RdP w g m) (ok : okM m = true) (hk0 : 0 ≤ k0) (hk1 : k0 < m.ls.length) :
    Calls Try.prog 75 #[.pointer (some ⟨g, 0, none⟩), .int .i64 k0] w (GivesOw w 2 1 (runL m k0).length (vI (runL m k0))) := by
  have h300 := ls_len ok
  have HP := Lib.hid h
  have HOK := Lib.hid ok
  obtain ⟨kn, rfl⟩ := Int.eq_ofNat_of_zero_le hk0
  have hkn : kn < m.ls.length := by omega
  have HUN := Lib.hid (fun H : Int → Bool => show (undL m H).length = m.ls.length from undR_len m H _)
  have HRB := Lib.hid (show (runB m (kn : Int)).length = m.ls.length by unfold runB; simp [undL, undR_len])
  have HRG := Lib.hid (fun i : Nat => show (runB m (kn : Int)).getD i false = ((undL m (thenB m (kn : Int))).getD i false && !(undL m (hasB (liveL m))).getD i false) by
    unfold runB
    rw [List.getD_eq_getElem?_getD, List.getElem?_zipWith, List.getD_eq_getElem?_getD, List.getD_eq_getElem?_getD]
    have e1 : (undL m (thenB m (kn : Int))).length = (undL m (hasB (liveL m))).length := by simp [undL, undR_len]
    by_cases hi : i < (undL m (thenB m (kn : Int))).length
    · rw [List.getElem?_eq_getElem hi, List.getElem?_eq_getElem (by omega)]; rfl
    · rw [List.getElem?_eq_none (by omega), List.getElem?_eq_none (by omega)]; rfl)
  have HRL := Lib.hid (show runL m (kn : Int) = idxT 0 (runB m (kn : Int)) from rfl)
  generalize runL m (kn : Int) = RL at *
  clear h ok hk0 hk1
  go_enter Try.func75, Try.ntmps75
  go_wp2_with fail
  refine (isLive_any m g _ HP.out HOK.out).mono ?_
  rintro e w1 ⟨rfl, hr1, hb1⟩
  have HR1 := Lib.hid hr1
  have HB1 := Lib.hid hb1
  have HP1 := Lib.hid (HP.out.below hb1)
  have hz1 : w.heap.size < w1.heap.size := rowIs_lt hr1
  clear hr1 hb1
  go_wp2_with fail
  refine (undone_any m g _ (hasB (liveL m)) _ HP1.out HOK.out HR1.out).mono ?_
  rintro e w2 ⟨go1, rfl, hgo1, hr2, hb2⟩
  have HN2 := Lib.hid hr2
  have HR2 := Lib.hid (rowIs_below HR1.out hb2)
  have HB2 := Lib.hid (HB1.out.trans (hb2.mono HB1.out.size))
  have HP2 := Lib.hid (HP1.out.below hb2)
  have hz2 : go1 < w2.heap.size := rowIs_lt hr2
  have cp := HR2.out.cell (i := kn) hkn
  have fz := fun i => HR2.out.frozen i
  have hkn' : (kn : Int) < (m.ls.length : Int) := by omega
  clear hr2 hb2
  have hgm : g ≠ w.heap.size := by have := HP.out.lt; omega
  have HR3 := Lib.hid (rowIs_congr (f' := fun i => .bool (thenB m (kn : Int) (i : Int))) (HR2.out.set kn (.bool false)) (fun i hi => by
    show _ = if i = kn then _ else _
    unfold thenB
    by_cases e : i = kn
    · rw [if_pos e, e]; simp
    · rw [if_neg e]
      have : (((i : Nat) : Int) == (kn : Int)) = false := by simp; omega
      rw [this]; simp))
  have HB3 := Lib.hid (HB2.out.setCell (p := ⟨w.heap.size, kn, none⟩) (Nat.le_refl _) (.bool false))
  have HP3 := Lib.hid (HP.out.below HB3.out)
  have HN3 := Lib.hid (rowIs_other HN2.out (p := ⟨w.heap.size, kn, none⟩) (by simp; omega) (.bool false))
  have hz3 : (w2.setCell ⟨w.heap.size, kn, none⟩ (.bool false)).heap.size = w2.heap.size := by simp [World.setCell]
  have HZ3 := Lib.hid hz3
  clear hz3
  go_wp2_with fail
  refine (undone_any m g _ (thenB m (kn : Int)) _ HP3.out HOK.out HR3.out).mono ?_
  rintro e w4 ⟨go2, rfl, hgo2, hr4, hb4⟩
  rw [HZ3.out] at hgo2
  have HT4 := Lib.hid hr4
  have HN4 := Lib.hid (rowIs_below HN3.out hb4)
  have HB4 := Lib.hid (HB3.out.trans (hb4.mono HB3.out.size))
  clear hr4 hb4 cp fz HR3 HN3 HP3
  generalize hUN : undL m (hasB (liveL m)) = UN at *
  generalize hUT : undL m (thenB m (kn : Int)) = UT at *
  generalize hRB : runB m (kn : Int) = RB at *
  generalize hln : m.ls.length = n at *
  clear hUN hUT hRB
  go_wp2
  go_loopw [23] (fun i wr => ∃ (k : Nat) (f : Nat → Value), k ≤ n ∧ i = .int .i64 k ∧ wr.rowIs go2 4 n f ∧ Hid (∀ i, i < n → f i = .bool (if i < k then RB.getD i false else UT.getD i false)) ∧ Hid (wr.rowIs go1 4 n (fun i => .bool (UN.getD i false))) ∧ Hid (Below w.heap.size w wr)) (fun i _ => n - (intOf i).toNat)
  case atStart => exact ⟨0, _, Nat.zero_le _, rfl, HT4.out, fun i hi => by simp, HN4.out, HB4.out⟩
  case round =>
    rename_i wr
    obtain ⟨k, f, hk, rfl, hrow, hf, hnow, hbb⟩ := hrel
    by_cases hlt : k < n
    · have c1 := hnow.out.cell (i := k) hlt
      have c2 := hrow.cell (i := k) hlt
      rw [hf.out k hlt, if_neg (Nat.lt_irrefl k)] at c2
      have fz := fun i => hrow.frozen i
      have HROW := Lib.hid hrow
      have HGK := Lib.hid (HRG.out k)
      have HNW := Lib.hid (fun u : Value => rowIs_other hnow.out (p := ⟨go2, k, none⟩) (by simp; omega) u)
      have HBW := Lib.hid (fun u : Value => hbb.out.setCell (p := ⟨go2, k, none⟩) (by show w.heap.size ≤ go2; omega) u)
      have HFN := Lib.hid (fun (b : Bool) (hb : RB.getD k false = b) => show ∀ i, i < n → (fun i => if i = k then Value.bool b else f i) i = .bool (if i < k + 1 then RB.getD i false else UT.getD i false) from fun i hi => by
        by_cases e : i = k
        · subst e
          show (if i = i then _ else _) = _
          rw [if_pos rfl, if_pos (by omega), hb]
        · show (if i = k then _ else _) = _
          rw [if_neg e, hf.out i hi]
          by_cases e2 : i < k
          · rw [if_pos e2, if_pos (by omega)]
          · rw [if_neg e2, if_neg (by omega)])
      generalize UN.getD k false = bN at c1 HGK
      generalize UT.getD k false = bT at c2 HGK
      clear hrow hnow hbb hf
      cases bT
      · go_wp2
        refine ⟨⟨k + 1, (fun i => if i = k then Value.bool false else f i), by omega, by go_num, HROW.out.set _ _, HFN.out false HGK.out, HNW.out _, HBW.out _⟩, ?_⟩
        simp only [intOf]; omega
      · go_wp2
        refine ⟨⟨k + 1, (fun i => if i = k then Value.bool (!bN) else f i), by omega, by go_num, HROW.out.set _ _, HFN.out (!bN) (by rw [HGK.out]; simp), HNW.out _, HBW.out _⟩, ?_⟩
        simp only [intOf]; omega
    · have hrf := rowIs_congr (f' := fun i => .bool (RB.getD i false)) hrow (fun i hi => by rw [hf.out i hi, if_pos (by omega)])
      rw [← HRB.out] at hrf
      have HQ := Lib.hid (indicesOf_any go2 RB _ hrf (by rw [HRB.out]; exact h300))
      rw [HRB.out] at HQ
      have HBW := Lib.hid hbb.out
      clear hrow hf hnow hrf
      go_wp2_with fail
      refine HQ.out.mono ?_
      rintro e w5 ⟨v5, rfl, ho, hb5⟩
      have HO := Lib.hid (ho.lo HBW.out.size)
      have HB5 := Lib.hid (HBW.out.trans (hb5.mono HBW.out.size))
      clear ho hb5
      go_wp2
      go_ret
      exact ⟨_, rfl, by rw [HRL.out]; exact HO.out, HB5.out⟩

theorem run_rest {m : Mc} (k : Int) : undL m (hasB ((liveL m).filter fun y => y != k)) = undL m (thenB m k) := by
  refine undR_ext (Nat.le_refl _) fun i h0 h1 => ?_
  unfold hasB thenB hasB
  rw [Bool.eq_iff_iff]
  simp [List.mem_filter]
set_option maxHeartbeats 8000000 in
set_option maxRecDepth 100000 in
theorem l12Run_any (m : Mc) (g : Nat) (k0 : Int) (w : World) (h : RdP w g m) (ok : okM m = true) :
    Calls Try.prog 124 #[.pointer (some ⟨g, 0, none⟩), .int .i64 k0] w (GivesOw w 2 1 (runL m k0).length (vI (runL m k0))) := by
  obtain ⟨i0, hi, hz0, hz1, hz2'⟩ := info_parts info_int
  have h300 := ls_len ok
  have h240 := liveL_len ok
  have HP := Lib.hid h
  have HOK := Lib.hid ok
  have HRR := Lib.hid (run_rest (m := m) k0)
  have HRF := Lib.hid (run_filter m k0)
  have HAL := Lib.hid (show (idxT 0 (undL m (thenB m k0))).length ≤ m.ls.length from by have h1 := idxT_len (undL m (thenB m k0)) 0; have h2 := undR_len m (thenB m k0) m.ls.length; unfold undL at *; omega)
  generalize runL m k0 = RL at *
  clear h ok
  go_enter Try.func124, Try.ntmps124
  go_wp2_with fail
  refine (l07Live_any m g _ HP.out HOK.out).mono ?_
  rintro e w1 ⟨v1, rfl, ho, hb1⟩
  obtain ⟨A1, c1, rfl, -⟩ := ho.cells
  have HL1 := Lib.hid (RdI.of_own ho)
  have HB1 := Lib.hid hb1
  have hz1' := hb1.size
  clear ho hb1
  generalize hfl : (liveL m).filter (fun y => y != k0) = RS at *
  have HFL := Lib.hid (show RS = [] ++ ((liveL m).drop 0).filter (fun y => y != k0) by rw [← hfl]; rfl)
  generalize hN : (liveL m).length = N at *
  have HN := Lib.hid hN
  clear hfl hN
  go_wp2
  go_loopw [6, 7] (fun t i wr => ∃ (k : Nat) (acc : List Int), k ≤ N ∧ i = .int .i64 k ∧ wr.ownsRow w1.heap.size 2 1 t acc.length (vI acc) ∧ acc.length ≤ k ∧ Hid (RS = acc ++ ((liveL m).drop k).filter (fun y => y != k0)) ∧ Below w1.heap.size w1 wr) (fun _ i _ => N - (intOf i).toNat)
  case atStart => exact ⟨0, [], Nat.zero_le _, rfl, World.ownsRow_lit _ _ _ (Nat.le_refl _) (by unfold maxLen; omega) rfl, Nat.le_refl _, HFL.out, (Below.refl _ _).alloc (Nat.le_refl _) _⟩
  case round =>
    rename_i wr
    obtain ⟨k, acc, hk, rfl, hown, hak, hd, hb⟩ := hrel
    by_cases hlt : k < N
    · obtain ⟨b, off, y, rfl, hbb, hlk, hcc⟩ := (HL1.out.below hb).at_ hlt
      have HB := Lib.hid hb
      have HO := Lib.hid hown
      by_cases hy : y = k0
      · have e0 : (y != k0) = false := by simpa using hy
        have HD := Lib.hid (filt_no hd.out hlk e0)
        clear hb hown hd hlk hy
        go_wp2
        exact ⟨⟨k + 1, acc, by omega, by go_num, HO.out, by omega, HD.out, HB.out⟩, by simp [intOf]; omega⟩
      · have e0 : (y != k0) = true := by simpa using hy
        have HD := Lib.hid (filt_yes hd.out hlk e0)
        clear hb hown hd hlk hy
        go_wp2_with (at_builtin; refine wpList_append_own _ rfl _ _ 27 rfl w1.heap.size 2 i0 _ 1 8 Try.underlying27 hi hz0 hz1 hz2' rfl (by decide) _ _ _ rfl (HO.out.alloc _) ⟨wr.heap.size, 0, none⟩ 1 1 [.int .i64 y] rfl rfl ?c1 ?c2 ?c3 ?c4 ?c5 ?_)
        case c1 => exact new_cells' _ _ rfl
        case c2 => exact int_one _
        case c3 => unfold maxLen; omega
        case c4 => omega
        case c5 => have := HB.out.size; simp; omega
        intro v' w2 hown2 hgrow2 _
        have HB2 := Lib.hid (below_append' (HB.out.alloc HB.out.size _) (by have := HB.out.size; simp; omega) HO.out (by simp) hgrow2)
        have HO2 : Hid (w2.ownsRow w1.heap.size 2 1 v' (acc ++ [y]).length (vI (acc ++ [y]))) := by unfold Hid; rw [vI_snoc, List.length_append]; exact hown2
        clear hgrow2 hown2
        go_wp2
        exact ⟨⟨k + 1, acc ++ [y], by omega, by go_num, HO2.out, by simp; omega, HD.out, HB2.out⟩, by simp [intOf]; omega⟩
    · have HD := Lib.hid (show RS = acc by rw [hd.out, List.drop_of_length_le (by have := HN.out; omega)]; simp)
      have hrs := RdI.of_own (OwC.of_own hown)
      rw [← HD.out] at hrs
      have HRS := Lib.hid hrs
      have HBr := Lib.hid (HB1.out.trans (hb.mono hz1'))
      have HLr := Lib.hid ((HL1.out.below hb).more hb.size)
      have HPr := Lib.hid (HP.out.below HBr.out)
      clear hb hown hd hrs
      go_wp2_with fail
      refine (l12Undone_any m g _ _ _ HPr.out HOK.out HLr.out).mono ?_
      rintro e w3 ⟨v3, rfl, ho3, hb3⟩
      have HBF := Lib.hid (RdI.of_own ho3)
      have HB3 := Lib.hid (HBr.out.trans (hb3.mono HBr.out.size))
      have HP3 := Lib.hid (HPr.out.below hb3)
      have HRS3 := Lib.hid ((HRS.out.below hb3).more hb3.size)
      clear ho3 hb3
      go_wp2_with fail
      refine (l12Undone_any m g _ _ _ HP3.out HOK.out HRS3.out).mono ?_
      rintro e w4 ⟨v4, rfl, ho4, hb4⟩
      rw [HRR.out] at ho4
      obtain ⟨A4, c4, rfl, -⟩ := ho4.cells
      have HAF := Lib.hid (RdI.of_own ho4)
      have HB4 := Lib.hid (HB3.out.trans (hb4.mono HB3.out.size))
      have HBF4 := Lib.hid ((HBF.out.below hb4).more hb4.size)
      clear ho4 hb4
      generalize hAf : idxT 0 (undL m (thenB m k0)) = AF at *
      have HAf := Lib.hid (show RL = [] ++ (AF.drop 0).filter (fun i => !(undone m).contains i) by rw [← HRF.out]; rfl)
      generalize hNA : AF.length = NA at *
      have HNA := Lib.hid hNA
      have hud : idxT 0 (undL m (hasB (liveL m))) = undone m := rfl
      have HUD := Lib.hid hud
      clear hAf hNA hud
      rw [HUD.out] at HBF4
      have hz4 := HAL.out
      go_wp2
      go_loopw [10, 11] (fun t i wz => ∃ (k : Nat) (acc : List Int) (wq : World), wq = wz ∧ k ≤ NA ∧ i = .int .i64 k ∧ wq.ownsRow w4.heap.size 2 1 t acc.length (vI acc) ∧ acc.length ≤ k ∧ Hid (RL = acc ++ (AF.drop k).filter (fun i => !(undone m).contains i)) ∧ Below w4.heap.size w4 wq) (fun _ i _ => NA - (intOf i).toNat)
      case atStart => exact ⟨0, [], _, rfl, Nat.zero_le _, rfl, World.ownsRow_lit _ _ _ (Nat.le_refl _) (by unfold maxLen; omega) rfl, Nat.le_refl _, HAf.out, (Below.refl _ _).alloc (Nat.le_refl _) _⟩
      case round =>
        obtain ⟨k, acc, wq, hwe, hk, rfl, hown, hak, hd, hb⟩ := hrel
        subst hwe
        by_cases hlt : k < NA
        · obtain ⟨b, off, y, rfl, hbb, hlk, hcc⟩ := (HAF.out.below hb).at_ hlt
          have HB := Lib.hid hb
          have HO := Lib.hid hown
          have HQ := Lib.hid (l00Has_any _ (undone m) y _ ((HBF4.out.below hb).more hb.size))
          cases hy : (undone m).contains y
          · have e0 : (fun i => !(undone m).contains i) y = true := by simp only [hy]; rfl
            have HD := Lib.hid (filt_yes hd.out hlk e0)
            rw [hy] at HQ
            clear hb hown hd hlk hy e0
            go_wp2_with fail
            refine HQ.out.mono ?_
            rintro e w5 ⟨rfl, hb5⟩
            have HB5 := Lib.hid (HB.out.trans (hb5.mono HB.out.size))
            have HO5 := Lib.hid (own_below HO.out hb5)
            have hcc5 := (hb5.cell (p := ⟨b, off + k, none⟩) (block_lt_of_cell hcc)).trans hcc
            clear hb5 hcc
            go_wp2_with (at_builtin; refine wpList_append_own _ rfl _ _ 27 rfl w4.heap.size 2 i0 _ 1 8 Try.underlying27 hi hz0 hz1 hz2' rfl (by decide) _ _ _ rfl (HO5.out.alloc _) ⟨w5.heap.size, 0, none⟩ 1 1 [.int .i64 y] rfl rfl ?d1 ?d2 ?d3 ?d4 ?d5 ?_)
            case d1 => exact new_cells' _ _ rfl
            case d2 => exact int_one _
            case d3 => unfold maxLen; omega
            case d4 => omega
            case d5 => have := HB5.out.size; simp; omega
            intro v' w6 hown2 hgrow2 _
            have HB2 := Lib.hid (below_append' (HB5.out.alloc HB5.out.size _) (by have := HB5.out.size; simp; omega) HO5.out (by simp) hgrow2)
            have HO2 : Hid (w6.ownsRow w4.heap.size 2 1 v' (acc ++ [y]).length (vI (acc ++ [y]))) := by unfold Hid; rw [vI_snoc, List.length_append]; exact hown2
            clear hgrow2 hown2
            go_wp2
            exact ⟨⟨k + 1, acc ++ [y], _, rfl, by omega, by go_num, HO2.out, by simp; omega, HD.out, HB2.out⟩, by simp [intOf]; omega⟩
          · have e0 : (fun i => !(undone m).contains i) y = false := by simp only [hy]; rfl
            have HD := Lib.hid (filt_no hd.out hlk e0)
            rw [hy] at HQ
            clear hb hown hd hlk hy e0
            go_wp2_with fail
            refine HQ.out.mono ?_
            rintro e w5 ⟨rfl, hb5⟩
            have HB5 := Lib.hid (HB.out.trans (hb5.mono HB.out.size))
            have HO5 := Lib.hid (own_below HO.out hb5)
            clear hb5 hcc
            go_wp2
            exact ⟨⟨k + 1, acc, _, rfl, by omega, by go_num, HO5.out, by omega, HD.out, HB5.out⟩, by simp [intOf]; omega⟩
        · have HB := Lib.hid (HB4.out.trans (hb.mono HB4.out.size))
          have HO := Lib.hid ((OwC.of_own hown).lo HB4.out.size)
          have HD := Lib.hid (show RL = acc by rw [hd.out, List.drop_of_length_le (by have := HNA.out; omega)]; simp)
          clear hb hown hd
          go_wp2
          go_ret
          exact ⟨_, rfl, by rw [HD.out]; exact HO.out, HB.out⟩

end Go.Proofs.Ytogaellhkjjeaaa
