/-
  l12Undone of the reference; runOf of the program, l12Run of the reference.
-/
import Derived.Test.YtogaellhkjjeaaaMcUndo
namespace Go.Proofs.Ytogaellhkjjeaaa
set_option linter.unusedVariables false
set_option linter.unusedSimpArgs false
open Go.RowKit

theorem rowIs_other {w : World} {g t n : Nat} {f : Nat → Value} (h : w.rowIs g t n f) {p : Addr} (hp : p.block ≠ g) (u : Value) : (w.setCell p u).rowIs g t n f :=
  rowIs_block h (Below.heap_setCell _ _ _ _ (fun e => hp e.symm))

theorem all_next {l : List Int} {k : Nat} {c : Int} {G : Int → Bool} {R b : Bool} (h : R = (b && (l.drop k).all G)) (hc : l[k]? = some c) : R = ((b && G c) && (l.drop (k + 1)).all G) := by
  rw [h, drop_of_get hc, List.all_cons, Bool.and_assoc]

set_option maxHeartbeats 8000000 in
set_option maxRecDepth 100000 in
theorem l12Undone_any (m : Mc) (g : Nat) (v : Value) (l : List Int) (w : World) (h : RdP w g m) (ok : okM m = true) (hv : RdI w w.heap.size v l) :
    Calls Try.prog 187 #[.pointer (some ⟨g, 0, none⟩), v] w (GivesOw w 2 1 (idxT 0 (undL m (hasB l))).length (vI (idxT 0 (undL m (hasB l))))) := by
  obtain ⟨i0, hi, hz0, hz1, hz2⟩ := info_parts info_int
  have h300 := ls_len ok
  have hgl := h.lt
  have HP := Lib.hid h
  have HV := Lib.hid hv
  have HCR := Lib.hid (fun (c k : Int) (hk : k ∈ chL m c) => chL_rng ok hk)
  have HCN := Lib.hid (fun (c : Int) => show (chL m c).length ≤ m.ls.length from chGo_len c m.ls 0)
  obtain ⟨F, G, C, L, D, hc, h1, h2, h3, h4, h5, h6⟩ := h
  obtain ⟨AI, cI, rfl⟩ := RdN.shape h4
  obtain ⟨x0, x1, x2, x3, x4, x5, x6⟩ := hc.seven
  have HU := Lib.hid (show undL m (hasB l) = undR m (hasB l) m.ls.length from rfl)
  have HUL := Lib.hid (undR_len m (hasB l) m.ls.length)
  generalize hln : m.ls.length = n at *
  have HLN := Lib.hid hln
  have hmk : ∀ W : World, (Instr.makeSlice 94 (.int .i64 (n : Int)) (.int .i64 (n : Int))).run Try.prog W = .ok (.slice (some ⟨W.heap.size, 0, none⟩) n n) (W.alloc (.cells (madeCells #[.bool false] n) 4)) := fun W => run_make_row' (P := Try.prog) 94 4 (.bool false) 1 Try.underlying94 info_bool rfl .i64 .i64 n (by omega) (by omega) W
  clear h1 h2 h3 h4 h5 h6 hc hln ok hv
  generalize hY : idxT 0 (undL m (hasB l)) = Y
  have HY := Lib.hid hY
  clear hY
  go_enter Try.func187, Try.ntmps187
  go_wp2
  clear hmk x0 x1 x2 x3 x4 x5 x6
  go_loopw [7] (fun i wr => ∃ (j1 : Nat) (f3 : Nat → Value), j1 ≤ n ∧ i = .int .i64 ((j1 : Int) - 1) ∧ wr.rowIs w.heap.size 4 n f3 ∧ Hid (∀ q, j1 ≤ q → q < n → f3 q = .bool ((undR m (hasB l) (n - j1)).getD (q - j1) false)) ∧ Hid (Below w.heap.size w wr)) (fun i _ => (intOf i + 1).toNat)
  case atStart =>
    exact ⟨n, fun _ => .bool false, Nat.le_refl _, rfl, World.rowIs_made _ _ _ _, fun q h1 h2 => absurd h1 (by omega), (Below.refl _ _).alloc (Nat.le_refl _) _⟩
  case round =>
    rename_i wr
    obtain ⟨j1, f3, hj1, h7, hrow, hf, hbb⟩ := hrel
    by_cases hj0 : j1 = 0
    · subst hj0
      rw [show ((0 : Nat) : Int) - 1 = -1 by omega] at h7
      subst h7
      have HROW := Lib.hid (rowIs_congr (f' := fun i => .bool ((undL m (hasB l)).getD i false)) hrow (fun i hi => by rw [hf.out i (Nat.zero_le _) hi, HU.out]; simp))
      have HBW := Lib.hid hbb.out
      have hwz : w.heap.size < wr.heap.size := rowIs_lt hrow
      clear hrow
      go_wp2
      go_loopw [10, 11] (fun t i wz => ∃ (k : Nat) (acc : List Int) (wq : World), wq = wz ∧ k ≤ n ∧ i = .int .i64 k ∧ wq.ownsRow wr.heap.size 2 1 t acc.length (vI acc) ∧ acc.length ≤ k ∧ Hid (Y = acc ++ idxT (k : Int) ((undL m (hasB l)).drop k)) ∧ Below wr.heap.size wr wq) (fun _ i _ => n - (intOf i).toNat)
      case atStart => exact ⟨0, [], _, rfl, Nat.zero_le _, rfl, World.ownsRow_lit _ _ _ (Nat.le_refl _) (by unfold maxLen; omega) rfl, Nat.le_refl _, by unfold Hid; rw [← HY.out]; rfl, (Below.refl _ _).alloc (Nat.le_refl _) _⟩
      case round =>
        obtain ⟨k, acc, wq, hwe, hk, rfl, hown, hak, hd, hb⟩ := hrel
        subst hwe
        by_cases hlt : k < n
        · have cl := (rowIs_below HROW.out hb).cell (i := k) hlt
          have hlk : (undL m (hasB l))[k]? = some ((undL m (hasB l)).getD k false) := by
            rw [List.getD_eq_getElem?_getD, List.getElem?_eq_getElem (by rw [HU.out, HUL.out]; exact hlt)]; rfl
          have HB := Lib.hid hb
          have HO := Lib.hid hown
          cases hv : (undL m (hasB l)).getD k false
          · rw [hv] at cl hlk
            have HD := Lib.hid (idxT_no hd.out hlk)
            clear hb hown hd hlk hv
            go_wp2
            exact ⟨⟨k + 1, acc, _, rfl, by omega, by go_num, HO.out, by omega, HD.out, HB.out⟩, by simp [intOf]; omega⟩
          · rw [hv] at cl hlk
            have HD := Lib.hid (idxT_yes hd.out hlk)
            clear hb hown hd hlk hv
            go_wp2_with (at_builtin; refine wpList_append_own _ rfl _ _ 27 rfl wr.heap.size 2 i0 _ 1 8 Try.underlying27 hi hz0 hz1 hz2 rfl (by decide) _ _ _ rfl (HO.out.alloc _) ⟨wq.heap.size, 0, none⟩ 1 1 [.int .i64 (k : Int)] rfl rfl ?c1 ?c2 ?c3 ?c4 ?c5 ?_)
            case c1 => exact new_cells' _ _ rfl
            case c2 => exact int_one _
            case c3 => unfold maxLen; omega
            case c4 => omega
            case c5 => have := HB.out.size; simp; omega
            intro v' w2 hown2 hgrow2 _
            have HB1 := Lib.hid (below_append' (HB.out.alloc HB.out.size _) (by have := HB.out.size; simp; omega) HO.out (by simp) hgrow2)
            have HO1 : Hid (w2.ownsRow wr.heap.size 2 1 v' (acc ++ [(k : Int)]).length (vI (acc ++ [(k : Int)]))) := by unfold Hid; rw [vI_snoc, List.length_append]; exact hown2
            clear hgrow2 hown2 HB HO
            go_wp2
            exact ⟨⟨k + 1, acc ++ [(k : Int)], _, rfl, by omega, by go_num, HO1.out, by simp; omega, HD.out, HB1.out⟩, by simp [intOf]; omega⟩
        · have HB := Lib.hid (HBW.out.trans (hb.mono HBW.out.size))
          have HO := Lib.hid hown
          have HD := Lib.hid (show Y = acc by rw [hd.out, List.drop_of_length_le (by rw [HU.out, HUL.out]; omega)]; simp [idxT])
          clear hb hown hd
          go_wp2
          go_ret
          exact ⟨_, rfl, by rw [HD.out]; exact (OwC.of_own HO.out).wide (by omega) (Nat.le_refl _), HB.out⟩
    · obtain ⟨j, rfl⟩ : ∃ j, j1 = j + 1 := ⟨j1 - 1, by omega⟩
      rw [show ((j + 1 : Nat) : Int) - 1 = (j : Int) by omega] at h7
      subst h7
      have hjn : j < n := by omega
      have hjn' : (j : Int) < (n : Int) := by omega
      have HROW := Lib.hid hrow
      have hwz : w.heap.size < wr.heap.size := rowIs_lt hrow
      have HVW := Lib.hid ((HV.out.below hbb.out).more hbb.out.size)
      clear hrow hj0
      go_wp2_with fail
      refine (l00Has_any _ l _ _ HVW.out).mono ?_
      rintro e w1 ⟨rfl, hb1⟩
      have hz1 := hb1.size
      have HR1 := Lib.hid (rowIs_below HROW.out hb1)
      have HB1 := Lib.hid (hbb.out.trans (hb1.mono hbb.out.size))
      have cp := HR1.out.cell (i := j) hjn
      have fz := fun i => HR1.out.frozen i
      clear hb1
      have HHB := Lib.hid (show l.contains (j : Int) = hasB l (j : Int) from rfl)
      rw [HHB.out]
      generalize hH : hasB l (j : Int) = bH
      have HH := Lib.hid hH
      clear hH
      have HR2 := Lib.hid (HR1.out.set j (.bool (!bH)))
      have HB2 := Lib.hid (HB1.out.setCell (p := ⟨w.heap.size, j, none⟩) (Nat.le_refl _) (.bool (!bH)))
      go_wp2_with fail
      refine (l11Children_any m g _ _ (HP.out.below HB2.out) (by rw [HLN.out]; exact h300)).mono ?_
      rintro e w5 ⟨v5, rfl, ho5, hb5⟩
      obtain ⟨A5, c5, rfl, -⟩ := ho5.cells
      have hs1 : w1.heap.size ≤ w5.heap.size := by have := hb5.size; simp at this; exact this
      have HO5 := Lib.hid (ho5.wide (show w.heap.size + 1 ≤ _ by simp; omega) (Nat.le_refl _))
      have HR5 := Lib.hid (rowIs_below HR2.out hb5)
      have HB5 := Lib.hid (HB2.out.trans (hb5.mono HB2.out.size))
      have HIN := Lib.hid (HCR.out (j : Int))
      have hcn := HCN.out (j : Int)
      clear ho5 hb5 cp fz
      generalize hX : chL m (j : Int) = X at *
      generalize hxn : X.length = N at *
      have HXN := Lib.hid hxn
      have HUA := Lib.hid (show (!hasB l (j : Int) && (chL m (j : Int)).all (fun k => (undR m (hasB l) (n - (j + 1))).getD (k.toNat - (j + 1)) false)) = (!bH && (X.drop 0).all (fun k => (undR m (hasB l) (n - (j + 1))).getD (k.toNat - (j + 1)) false)) by rw [HH.out, hX]; rfl)
      clear hX hxn
      go_wp2
      go_loopw [9] (fun i wq => ∃ (k : Nat) (f4 : Nat → Value) (b : Bool) (W2 : World), W2 = wq ∧ k ≤ N ∧ i = .int .i64 k ∧ W2.rowIs w.heap.size 4 n f4 ∧ Hid (f4 j = .bool b) ∧ Hid (∀ q, j + 1 ≤ q → q < n → f4 q = f3 q) ∧ Hid ((!hasB l (j : Int) && (chL m (j : Int)).all (fun k => (undR m (hasB l) (n - (j + 1))).getD (k.toNat - (j + 1)) false)) = (b && (X.drop k).all (fun k => (undR m (hasB l) (n - (j + 1))).getD (k.toNat - (j + 1)) false))) ∧ Hid (Same (w.heap.size + 1) w5.heap.size w5 W2) ∧ Hid (Below w.heap.size w W2)) (fun i _ => N - (intOf i).toNat)
      case atStart =>
        refine ⟨0, _, !bH, _, rfl, Nat.zero_le _, rfl, HR5.out, ?_, ?_, HUA.out, Same.refl _ _ _, HB5.out⟩
        · show (if j = j then _ else _) = _; rw [if_pos rfl]
        · intro q h1 h2; show (if q = j then _ else _) = _; rw [if_neg (by omega)]
      case round =>
        obtain ⟨k, f4, b, W2, hwe, hk, rfl, hr4, hfj, hfq, hall, hsm, hb4⟩ := hrel
        subst hwe
        by_cases hlt : k < N
        · have hown := HO5.out.same hsm.out
          rw [← HXN.out] at hown
          have hrd := RdI.of_own hown
          rw [HXN.out] at hrd
          obtain ⟨b5, o5, c, rfl, hbb5, hck, hcc⟩ := hrd.at_ hlt
          have hcr := HIN.out c (List.mem_of_getElem? hck)
          obtain ⟨cn, rfl⟩ := Int.eq_ofNat_of_zero_le (show 0 ≤ c by omega)
          have hcn2 : cn < n := by omega
          have hcn3 : (cn : Int) < (n : Int) := by omega
          have cj := hr4.cell (i := j) hjn
          rw [hfj.out] at cj
          have cc := hr4.cell (i := cn) hcn2
          rw [hfq.out cn (by omega) hcn2, hf.out cn (by omega) hcn2] at cc
          have fz := fun i => hr4.frozen i
          have HNX := Lib.hid (all_next hall.out hck)
          have HR4 := Lib.hid hr4
          rw [show (((cn : Nat) : Int)).toNat = cn by omega] at HNX
          generalize hU : (undR m (hasB l) (n - (j + 1))).getD (cn - (j + 1)) false = U at cc HNX
          clear hck hown hrd hr4 hU
          cases b
          · go_wp2
            refine ⟨⟨k + 1, (fun i => if i = j then Value.bool false else f4 i), false, _, rfl, ?_, by go_num, HR4.out.set _ _, ?_, ?_, ?_, hsm.out.setCell (.inl (by simp)) _, hb4.out.setCell (Nat.le_refl _) _⟩, ?_⟩
            · omega
            · unfold Hid; simp
            · intro q h1 h2; show (if q = j then _ else _) = _; rw [if_neg (by omega)]; exact hfq.out q h1 h2
            · unfold Hid; rw [HNX.out]; simp
            · simp only [intOf]; omega
          · go_wp2
            refine ⟨⟨k + 1, (fun i => if i = j then Value.bool U else f4 i), U, _, rfl, ?_, by go_num, HR4.out.set _ _, ?_, ?_, ?_, hsm.out.setCell (.inl (by simp)) _, hb4.out.setCell (Nat.le_refl _) _⟩, ?_⟩
            · omega
            · unfold Hid; simp
            · intro q h1 h2; show (if q = j then _ else _) = _; rw [if_neg (by omega)]; exact hfq.out q h1 h2
            · unfold Hid; rw [HNX.out]; simp
            · simp only [intOf]; omega
        · have HBE := Lib.hid (show b = (!hasB l (j : Int) && (chL m (j : Int)).all (fun k => (undR m (hasB l) (n - (j + 1))).getD (k.toNat - (j + 1)) false)) by rw [hall.out, List.drop_of_length_le (by have := HXN.out; omega)]; simp)
          have HNEW := Lib.hid (und_new HLN.out hjn hf.out HBE.out)
          have HR4 := Lib.hid (rowIs_congr (f' := fun i => if i < j then f4 i else if i = j then Value.bool b else f3 i) hr4 (fun i hi => by
            show (if i < j then _ else if i = j then _ else _) = _
            by_cases e1 : i < j
            · rw [if_pos e1]
            · rw [if_neg e1]
              by_cases e2 : i = j
              · rw [if_pos e2, e2, hfj.out]
              · rw [if_neg e2, hfq.out i (by omega) hi]))
          clear hr4
          go_wp2
          refine ⟨⟨j, (fun i => if i < j then f4 i else if i = j then Value.bool b else f3 i), by omega, rfl, HR4.out, ?_, hb4.out⟩, ?_⟩
          · intro q h1 h2
            show (if q < j then _ else if q = j then _ else _) = _
            rw [if_neg (by omega)]
            exact HNEW.out q h1 h2
          · simp only [intOf]; omega

end Go.Proofs.Ytogaellhkjjeaaa
