/-
  FabricCounts, of the program and of the reference.
-/
import Derived.Test.YtbffmekhhfhacaaMcTop
import Derived.Deep.RegionHeld3
namespace Go.Proofs.Ytbffmekhhfhacaa
set_option linter.unusedVariables false
set_option linter.unusedSimpArgs false
open Go.RowKit

theorem ok_kind {m : Mc} {j : Nat} {x : Inf} (h : okM m = true) (hx : m.ls[j]? = some x) : x.k = 1 ∨ x.k = 2 ∨ x.k = 5 := by
  unfold okM at h
  simp at h
  have h1 := infs_at h.2.2.2.2.1 hx
  unfold okInf at h1
  simp at h1
  exact kindM_cases h1.1
theorem fc_next {m : Mc} {k : Nat} {x : Inf} (hx : m.ls[k]? = some x) (j : Int) : fcF m (k + 1) j = fcF m k j + (if kindJ x.k = j then 1 else 0) + (if 2 + stM m (k : Int) = j then 1 else 0) := by
  rw [fcF, hx]; rfl
theorem fc_new {FC : Nat → Int → Int} {f : Nat → Value} {k q : Nat} {sk xk : Int} (hf : ∀ j : Nat, j < 7 → f j = .int .i64 (FC k (j : Int))) (hn : ∀ j : Int, FC (k + 1) j = FC k j + (if kindJ xk = j then 1 else 0) + (if 2 + sk = j then 1 else 0))
    (hq : kindJ xk = (q : Int)) (hqs : (2 + sk).toNat ≠ q) (h0 : 0 ≤ 2 + sk) : ∀ j : Nat, j < 7 → (fun i => if i = (2 + sk).toNat then Value.int .i64 (FC k (2 + sk) + 1) else if i = q then Value.int .i64 (FC k (q : Int) + 1) else f i) j = .int .i64 (FC (k + 1) (j : Int)) := by
  intro j hj
  show (if j = (2 + sk).toNat then _ else if j = q then _ else _) = _
  rw [hn, hq]
  by_cases e : j = (2 + sk).toNat
  · have e1 : (j : Int) = 2 + sk := by omega
    rw [if_pos e, if_neg (show ¬ (q : Int) = (j : Int) by omega), if_pos e1.symm, e1]
    simp
  · rw [if_neg e, if_neg (show ¬ 2 + sk = (j : Int) by omega)]
    by_cases e2 : j = q
    · subst e2
      rw [if_pos rfl, if_pos rfl]
      simp
    · rw [if_neg e2, if_neg (show ¬ (q : Int) = (j : Int) by omega), hf j hj]
      simp
theorem fcL_len (m : Mc) : (fcL m).length = 7 := by simp [fcL]
theorem fcL_vI (m : Mc) : vI (fcL m) = (List.range 7).map fun j : Nat => Value.int .i64 (fcF m m.ls.length (j : Int)) := by simp [vI, fcL]
theorem okC_list {m : Mc} {n : Nat} (h : okM m = true) : okList (okC m) (fcL m) = fcL m := okList_yes (okC_yes h)

set_option maxHeartbeats 8000000 in
set_option maxRecDepth 100000 in
theorem implCounts_any (v : Value) (m : Mc) (w : World) (hl : RdM w w.heap.size v m) (hf : FitM m) :
    Calls Try.prog 41 #[v] w (GivesC w 2 1 (okList (okC m) (fcL m)).length (vI (okList (okC m) (fcL m))) (okC m)) := by
  have hmk : ∀ W : World, (Instr.makeSlice 25 (.int .i64 7) (.int .i64 7)).run Try.prog W = .ok (.slice (some ⟨W.heap.size, 0, none⟩) 7 7) (W.alloc (.cells (madeCells #[.int .i64 0] 7) 2)) := fun W => run_make_row' (P := Try.prog) 25 2 (.int .i64 0) 8 Try.underlying25 info_int rfl .i64 .i64 7 (by omega) (by omega) W
  have hdr := hf.dr
  have hl0 := hl
  obtain ⟨f, b, cs, ls, d, rfl, h1, h2, h3, h4, h5, h6⟩ := hl
  obtain ⟨AF, cF, rfl⟩ := RdN.shape h1
  obtain ⟨AG, cG, rfl⟩ := RdN.shape h2
  obtain ⟨AC, cC, rfl⟩ := RdS.lens h3
  obtain ⟨AI, cI, rfl⟩ := RdN.shape h4
  obtain ⟨AD, cD, rfl⟩ := RdI.len h5
  have BW := Lib.hid (show Below w.heap.size w (w.alloc (.cells #[.int .i64 m.wd, .int .i64 m.rk, .slice AF m.fr.length cF, .slice AG m.bk.length cG, .slice AC m.cs.length cC, .slice AI m.ls.length cI, .slice AD m.dr.length cD] 34)) from (Below.refl _ _).alloc (Nat.le_refl _) _)
  have HP := Lib.hid (RdP.box (T := 34) h1 h2 h3 h4 h5 h6)
  have HM := Lib.hid (hl0.up BW.out BW.out.size)
  clear h1 h2 h3 h4 h5 h6 hl0
  have HQ := Lib.hid (validMachine_any _ m _ HM.out)
  cases hok : okM m
  · have HN := Lib.hid (fun w' hb => (show Below w.heap.size w w' → GivesC w 2 1 (okList (okC m) (fcL m)).length (vI (okList (okC m) (fcL m))) (okC m) (.returned (.tuple #[.slice none 0 0, .int .i64 1])) w' from fun hb => by rw [okC_no hok]; exact GivesC.nil (by decide) rfl hb) hb)
    have HK := Lib.hid hok
    clear hok
    go_enter Try.func41, Try.ntmps41
    go_wp2_with fail
    refine HQ.out.mono ?_
    rintro e w1 ⟨rfl, hb⟩
    rw [HK.out]
    have HB := Lib.hid (BW.out.trans (hb.mono BW.out.size))
    clear hb
    go_wp2
    go_ret2
    exact HN.out _ HB.out
  have HOK := Lib.hid hok
  have h300 := ls_len hok
  clear hok
  go_enter Try.func41, Try.ntmps41
  go_wp2_with fail
  refine HQ.out.mono ?_
  rintro e w1 ⟨rfl, hb⟩
  rw [HOK.out]
  have HB := Lib.hid (BW.out.trans (hb.mono BW.out.size))
  have HP1 := Lib.hid (HP.out.below hb)
  clear hb HM HP HQ
  have hp1 := HP1.out
  obtain ⟨F, G, C, L, D, hc, h1, h2, h3, h4, h5, h6⟩ := hp1
  obtain ⟨AI', cI', rfl⟩ := RdN.shape h4
  have HI := Lib.hid h4
  have HC := Lib.hid hc
  have hgl : w.heap.size < w1.heap.size := block_lt_of_cell hc.seven.1
  have BA := Lib.hid (show Below w1.heap.size w1 (w1.alloc (.cells (madeCells #[.int .i64 0] 7) 2)) from (Below.refl _ _).alloc (Nat.le_refl _) _)
  have HR0 := Lib.hid (World.rowIs_made w1 (.int .i64 0) 7 2)
  have HVI := Lib.hid (fcL_vI m)
  have HOL := Lib.hid (okC_list (n := 0) HOK.out)
  have HOC := Lib.hid (okC_yes HOK.out)
  have HFN := Lib.hid (fun (k : Nat) (x : Inf) (hx : m.ls[k]? = some x) (j : Int) => fc_next hx j)
  have HST := Lib.hid (fun k : Int => stM_rng m k)
  have HFR := Lib.hid (fun (k : Nat) (j : Int) => fcF_rng m k j)
  have HF0 := Lib.hid (fun j : Int => show fcF m 0 j = 0 from rfl)
  clear h1 h2 h3 h4 h5 h6 hc
  go_wp2_with fail
  refine (states_any m _ _ (HP1.out.below BA.out) HOK.out).mono ?_
  rintro e w2 ⟨v2, rfl, ho, hb⟩
  obtain ⟨A2, c2, rfl, -⟩ := ho.cells
  have hs1 : w1.heap.size + 1 ≤ w2.heap.size := by have := hb.size; simp at this; omega
  have HO := Lib.hid (ho.wide (show w1.heap.size + 1 ≤ _ by simp) (Nat.le_refl _))
  have HR1 := Lib.hid (rowIs_below HR0.out hb)
  have HB2 := Lib.hid (BA.out.trans (hb.mono BA.out.size))
  clear ho hb HR0 hmk
  have hs2 : w.heap.size < w2.heap.size := by omega
  obtain ⟨x0, x1, x2, x3, x4, x5, x6⟩ := (HC.out.below HB2.out hgl).seven
  generalize hS : stM m = S at *
  generalize hFC : fcF m = FC at *
  generalize hln : m.ls.length = n at *
  have HLN := Lib.hid hln
  have HSL := Lib.hid (show stL m = (List.range n).map fun i : Nat => S (i : Int) by unfold stL; rw [hS, hln])
  clear hS hFC hln
  go_wp2
  clear x0 x1 x2 x3 x4 x5 x6
  go_loopw [16] (fun i wr => ∃ (k : Nat) (f : Nat → Value), k ≤ n ∧ i = .int .i64 k ∧ wr.rowIs w1.heap.size 2 7 f ∧ Hid (∀ j : Nat, j < 7 → f j = .int .i64 (FC k (j : Int))) ∧ Hid (Same (w1.heap.size + 1) w2.heap.size w2 wr) ∧ Hid (Below w1.heap.size w1 wr) ∧ w2.heap.size ≤ wr.heap.size) (fun i _ => n - (intOf i).toNat)
  case atStart => exact ⟨0, _, Nat.zero_le _, rfl, HR1.out, fun j hj => by rw [HF0.out], Same.refl _ _ _, HB2.out, Nat.le_refl _⟩
  case round =>
    rename_i wr
    obtain ⟨k, f, hk, rfl, hrow, hfj, hsame, hbb, hsz⟩ := hrel
    by_cases hlt : k < n
    · obtain ⟨b, off, x, s, rfl, hb1, hlk, hcc, hs⟩ := (RdIs.below HI.out hbb.out).at_ hlt
      obtain ⟨A1, c1, rfl⟩ := hs.len
      obtain ⟨q0, q1, q2, q3, q4, q5⟩ := hcc.six
      have hkind := ok_kind HOK.out hlk
      have HNX := Lib.hid (HFN.out k x hlk)
      have hown := HO.out.same hsame.out
      obtain ⟨A2', c2', e2, -, hcell⟩ := hown.cells
      injection e2 with e3 e4 e5
      subst e3 e5
      obtain ⟨gS, rfl, hg0, hg1, -, hcx⟩ := hcell k hlt
      have hgS : gS < wr.heap.size := by omega
      have hw1r : w1.heap.size < wr.heap.size := rowIs_lt hrow
      have cs := hcx k (.int .i64 (S (k : Int))) (by omega) (by rw [HSL.out]; simp [vI, hlt])
      obtain ⟨s1, s2⟩ := HST.out (k : Int)
      generalize hsk : S (k : Int) = sk at *
      have hsj : (2 + sk).toNat < 7 := by omega
      have fz := fun i => hrow.frozen i
      have ck := hrow.cell (i := (2 + sk).toNat) hsj
      rw [hfj.out _ hsj, show (((2 + sk).toNat : Nat) : Int) = 2 + sk by omega] at ck
      have c0 := hrow.cell (i := 0) (by omega)
      rw [hfj.out 0 (by omega)] at c0
      have c1' := hrow.cell (i := 1) (by omega)
      rw [hfj.out 1 (by omega)] at c1'
      have c2'' := hrow.cell (i := 2) (by omega)
      rw [hfj.out 2 (by omega)] at c2''
      have r0 := HFR.out k 0
      have r1 := HFR.out k 1
      have r2 := HFR.out k 2
      have rk := HFR.out k (2 + sk)
      have HROW := Lib.hid hrow
      have HBB := Lib.hid hbb.out
      have HSS := Lib.hid hsame.out
      have HFJ := Lib.hid hfj.out
      have hne0 : (2 + sk).toNat ≠ 0 := by omega
      have hne1 : (2 + sk).toNat ≠ 1 := by omega
      have hne2 : (2 + sk).toNat ≠ 2 := by omega
      have hi0 : (0 : Int) ≤ 2 + sk := by omega
      have hi1 : 2 + sk < (7 : Int) := by omega
      clear hrow hcc hs hlk hown hcell hcx hbb hsame hfj
      generalize hxk : x.k = xk at *
      rcases hkind with rfl | rfl | rfl
      · have HNEW := Lib.hid (fc_new (q := 0) HFJ.out HNX.out (by rfl) hne0 hi0)
        go_wp2
        refine ⟨⟨k + 1, (fun i => if i = (2 + sk).toNat then Value.int .i64 (FC k (2 + sk) + 1) else if i = 0 then Value.int .i64 (FC k ((0 : Nat) : Int) + 1) else f i), ?_, by go_num, ?_, HNEW.out, ?_, ?_, ?_⟩, ?_⟩
        · omega
        · exact rowIs_below ((HROW.out.set 0 _).set (2 + sk).toNat _) ((Below.refl _ _).alloc (Nat.le_refl _) _)
        · exact ((HSS.out.setCell (.inl (by simp)) _).setCell (.inl (by simp)) _).alloc (by simpa [World.setCell] using hsz) _
        · exact ((HBB.out.setCell (p := ⟨w1.heap.size, 0, none⟩) (Nat.le_refl _) _).setCell (p := ⟨w1.heap.size, (2 + sk).toNat, none⟩) (Nat.le_refl _) _).alloc (by simp [World.setCell]; omega) _
        · simp [World.setCell]; omega
        · simp only [intOf]; omega
      · have HNEW := Lib.hid (fc_new (q := 1) HFJ.out HNX.out (by rfl) hne1 hi0)
        go_wp2
        refine ⟨⟨k + 1, (fun i => if i = (2 + sk).toNat then Value.int .i64 (FC k (2 + sk) + 1) else if i = 1 then Value.int .i64 (FC k ((1 : Nat) : Int) + 1) else f i), ?_, by go_num, ?_, HNEW.out, ?_, ?_, ?_⟩, ?_⟩
        · omega
        · exact rowIs_below ((HROW.out.set 1 _).set (2 + sk).toNat _) ((Below.refl _ _).alloc (Nat.le_refl _) _)
        · exact ((HSS.out.setCell (.inl (by simp)) _).setCell (.inl (by simp)) _).alloc (by simpa [World.setCell] using hsz) _
        · exact ((HBB.out.setCell (p := ⟨w1.heap.size, 1, none⟩) (Nat.le_refl _) _).setCell (p := ⟨w1.heap.size, (2 + sk).toNat, none⟩) (Nat.le_refl _) _).alloc (by simp [World.setCell]; omega) _
        · simp [World.setCell]; omega
        · simp only [intOf]; omega
      · have HNEW := Lib.hid (fc_new (q := 2) HFJ.out HNX.out (by rfl) hne2 hi0)
        go_wp2
        refine ⟨⟨k + 1, (fun i => if i = (2 + sk).toNat then Value.int .i64 (FC k (2 + sk) + 1) else if i = 2 then Value.int .i64 (FC k ((2 : Nat) : Int) + 1) else f i), ?_, by go_num, ?_, HNEW.out, ?_, ?_, ?_⟩, ?_⟩
        · omega
        · exact rowIs_below ((HROW.out.set 2 _).set (2 + sk).toNat _) ((Below.refl _ _).alloc (Nat.le_refl _) _)
        · exact ((HSS.out.setCell (.inl (by simp)) _).setCell (.inl (by simp)) _).alloc (by simpa [World.setCell] using hsz) _
        · exact ((HBB.out.setCell (p := ⟨w1.heap.size, 2, none⟩) (Nat.le_refl _) _).setCell (p := ⟨w1.heap.size, (2 + sk).toNat, none⟩) (Nat.le_refl _) _).alloc (by simp [World.setCell]; omega) _
        · simp [World.setCell]; omega
        · simp only [intOf]; omega
    · have hkn : k = n := by omega
      have HOW := Lib.hid (OwC.of_rowF (lo := w.heap.size) (hi := wr.heap.size) (n := 7) (sz := 1) (rowIs_congr (f' := fun j => .int .i64 (FC n (j : Int))) hrow (fun j hj => by rw [hfj.out j hj, hkn])) (by omega) (rowIs_lt hrow) (by unfold maxLen; omega))
      have HBW := Lib.hid (HB.out.trans (hbb.out.mono HB.out.size))
      clear hrow hfj hkn
      go_wp2
      go_ret2
      exact GivesC.yes HOC.out rfl (by rw [fcL_len, HVI.out]; exact HOW.out) HBW.out

def GivesK (w : World) (e : Ending) (w' : World) : Prop := ∃ g, e = .returned (.slice (some ⟨g, 0, none⟩) 3 3) ∧ CellsAt w' g 0 [.int .i64 1, .int .i64 2, .int .i64 5] ∧ Below w.heap.size w w'
set_option maxHeartbeats 1000000 in
theorem l11Kinds_any (w : World) : Calls Try.prog 87 #[] w (GivesK w) := by
  go_enter Try.func87, Try.ntmps87
  go_wp2
  go_ret
  exact ⟨w.heap.size, rfl, CellsAt.of_alloc, (Below.refl _ _).alloc (Nat.le_refl _) _⟩
def kqF (q : Nat) : Int := if q = 0 then 1 else if q = 1 then 2 else 5
theorem kq_eq {xk : Int} {q : Nat} (hk : xk = 1 ∨ xk = 2 ∨ xk = 5) (hq : q < 3) : xk = kqF q ↔ kindJ xk = (q : Int) := by
  obtain rfl | rfl | rfl : q = 0 ∨ q = 1 ∨ q = 2 := by omega
  all_goals rcases hk with rfl | rfl | rfl <;> decide
theorem kq_cell {w : World} {g q : Nat} (h : CellsAt w g 0 [.int .i64 1, .int .i64 2, .int .i64 5]) (hq : q < 3) : w.cell? ⟨g, q, none⟩ = some (.int .i64 (kqF q)) := by
  have := h q (.int .i64 (kqF q)) (by
    obtain rfl | rfl | rfl : q = 0 ∨ q = 1 ∨ q = 2 := by omega
    all_goals rfl)
  simpa using this
theorem kind_rng {xk : Int} (hk : xk = 1 ∨ xk = 2 ∨ xk = 5) : 0 ≤ kindJ xk ∧ kindJ xk ≤ 2 := by
  rcases hk with rfl | rfl | rfl <;> decide
theorem fin_eq {FC : Int → Int} {f2 : Nat → Value} {q : Nat} {xk : Int} (h : kindJ xk = (q : Int)) (hq : q < 3) (hf : ∀ j : Nat, j < 7 → f2 j = .int .i64 (FC (j : Int) + (if kindJ xk = (j : Int) ∧ j < q then 1 else 0))) :
    ∀ j : Nat, j < 7 → (fun i => if i = q then Value.int .i64 (FC (q : Int) + 1) else f2 i) j = .int .i64 (FC (j : Int) + (if kindJ xk = (j : Int) ∧ j < q + 1 then 1 else 0)) := by
  intro j hj
  show (if j = q then _ else _) = _
  by_cases e : j = q
  · subst e; rw [if_pos rfl, if_pos ⟨h, by omega⟩]
  · rw [if_neg e, hf j hj, if_neg (by omega), if_neg (by omega)]
theorem fin_ne {FC : Int → Int} {f2 : Nat → Value} {q : Nat} {xk : Int} (h : ¬ kindJ xk = (q : Int)) (hf : ∀ j : Nat, j < 7 → f2 j = .int .i64 (FC (j : Int) + (if kindJ xk = (j : Int) ∧ j < q then 1 else 0))) :
    ∀ j : Nat, j < 7 → f2 j = .int .i64 (FC (j : Int) + (if kindJ xk = (j : Int) ∧ j < q + 1 then 1 else 0)) := by
  intro j hj
  rw [hf j hj]
  by_cases e : kindJ xk = (j : Int) ∧ j < q
  · rw [if_pos e, if_pos ⟨e.1, by omega⟩]
  · rw [if_neg e, if_neg (fun h2 => by
      by_cases e2 : j = q
      · subst e2; exact h h2.1
      · exact e ⟨h2.1, by omega⟩)]
theorem fin_out {FC : Nat → Int → Int} {f2 : Nat → Value} {k : Nat} {sk xk : Int} (hk : 0 ≤ kindJ xk ∧ kindJ xk ≤ 2) (h0 : 1 ≤ sk) (hf : ∀ j : Nat, j < 7 → f2 j = .int .i64 (FC k (j : Int) + (if kindJ xk = (j : Int) ∧ j < 3 then 1 else 0)))
    (hn : ∀ j : Int, FC (k + 1) j = FC k j + (if kindJ xk = j then 1 else 0) + (if 2 + sk = j then 1 else 0)) :
    ∀ j : Nat, j < 7 → (fun i => if i = (2 + sk).toNat then Value.int .i64 (FC k (2 + sk) + 1) else f2 i) j = .int .i64 (FC (k + 1) (j : Int)) := by
  intro j hj
  show (if j = (2 + sk).toNat then _ else _) = _
  rw [hn]
  by_cases e : j = (2 + sk).toNat
  · have e1 : (j : Int) = 2 + sk := by omega
    rw [if_pos e, if_neg (show ¬ kindJ xk = (j : Int) by omega), if_pos e1.symm, e1]
    simp
  · rw [if_neg e, if_neg (show ¬ 2 + sk = (j : Int) by omega), hf j hj]
    by_cases e2 : kindJ xk = (j : Int)
    · rw [if_pos ⟨e2, by omega⟩, if_pos e2]; simp
    · rw [if_neg (fun h => e2 h.1), if_neg e2]; simp

set_option maxHeartbeats 8000000 in
set_option maxRecDepth 100000 in
theorem specCounts_any (v : Value) (m : Mc) (w : World) (hl : RdM w w.heap.size v m) (hf : FitM m) :
    Calls Try.prog 40 #[v] w (GivesC w 2 1 (okList (okC m) (fcL m)).length (vI (okList (okC m) (fcL m))) (okC m)) := by
  have hmk : ∀ W : World, (Instr.makeSlice 25 (.int .i64 7) (.int .i64 7)).run Try.prog W = .ok (.slice (some ⟨W.heap.size, 0, none⟩) 7 7) (W.alloc (.cells (madeCells #[.int .i64 0] 7) 2)) := fun W => run_make_row' (P := Try.prog) 25 2 (.int .i64 0) 8 Try.underlying25 info_int rfl .i64 .i64 7 (by omega) (by omega) W
  have hdr := hf.dr
  have hl0 := hl
  obtain ⟨f, b, cs, ls, d, rfl, h1, h2, h3, h4, h5, h6⟩ := hl
  obtain ⟨AF, cF, rfl⟩ := RdN.shape h1
  obtain ⟨AG, cG, rfl⟩ := RdN.shape h2
  obtain ⟨AC, cC, rfl⟩ := RdS.lens h3
  obtain ⟨AI, cI, rfl⟩ := RdN.shape h4
  obtain ⟨AD, cD, rfl⟩ := RdI.len h5
  have BW := Lib.hid (show Below w.heap.size w (w.alloc (.cells #[.int .i64 m.wd, .int .i64 m.rk, .slice AF m.fr.length cF, .slice AG m.bk.length cG, .slice AC m.cs.length cC, .slice AI m.ls.length cI, .slice AD m.dr.length cD] 34)) from (Below.refl _ _).alloc (Nat.le_refl _) _)
  have HP := Lib.hid (RdP.box (T := 34) h1 h2 h3 h4 h5 h6)
  have HM := Lib.hid (hl0.up BW.out BW.out.size)
  clear h1 h2 h3 h4 h5 h6 hl0
  have HQ := Lib.hid (l07Ok_p m _ _ HP.out hdr)
  cases hok : okM m
  · have HN := Lib.hid (fun w' hb => (show Below w.heap.size w w' → GivesC w 2 1 (okList (okC m) (fcL m)).length (vI (okList (okC m) (fcL m))) (okC m) (.returned (.tuple #[.slice none 0 0, .int .i64 1])) w' from fun hb => by rw [okC_no hok]; exact GivesC.nil (by decide) rfl hb) hb)
    have HK := Lib.hid hok
    clear hok
    go_enter Try.func40, Try.ntmps40
    go_wp2_with fail
    refine HQ.out.mono ?_
    rintro e w1 ⟨rfl, hb⟩
    rw [HK.out]
    have HB := Lib.hid (BW.out.trans (hb.mono BW.out.size))
    clear hb
    go_wp2
    go_ret2
    exact HN.out _ HB.out
  have HOK := Lib.hid hok
  have h300 := ls_len hok
  clear hok
  go_enter Try.func40, Try.ntmps40
  go_wp2_with fail
  refine HQ.out.mono ?_
  rintro e w1 ⟨rfl, hb⟩
  rw [HOK.out]
  have HB := Lib.hid (BW.out.trans (hb.mono BW.out.size))
  have HP1 := Lib.hid (HP.out.below hb)
  clear hb HM HP HQ
  have hp1 := HP1.out
  obtain ⟨F, G, C, L, D, hc, h1, h2, h3, h4, h5, h6⟩ := hp1
  obtain ⟨AI', cI', rfl⟩ := RdN.shape h4
  have HI := Lib.hid h4
  have HC := Lib.hid hc
  have hgl : w.heap.size < w1.heap.size := block_lt_of_cell hc.seven.1
  have HR0 := Lib.hid (World.rowIs_made w1 (.int .i64 0) 7 2)
  have HVI := Lib.hid (fcL_vI m)
  have HOC := Lib.hid (okC_yes HOK.out)
  have HFN := Lib.hid (fun (k : Nat) (x : Inf) (hx : m.ls[k]? = some x) (j : Int) => fc_next hx j)
  have HST := Lib.hid (fun k : Int => stM_rng m k)
  have HFR := Lib.hid (fun (k : Nat) (j : Int) => fcF_rng m k j)
  have HF0 := Lib.hid (fun j : Int => show fcF m 0 j = 0 from rfl)
  clear h1 h2 h3 h4 h5 h6 hc
  have HSA := Lib.hid (fun (k : Int) (W : World) (hb : Below w1.heap.size w1 W) => l11State_any m w.heap.size k W (HP1.out.below hb) HOK.out)
  generalize hS : stM m = S at *
  generalize hFC : fcF m = FC at *
  generalize hln : m.ls.length = n at *
  have HLN := Lib.hid hln
  clear hS hFC hln
  go_wp2
  clear hmk
  go_loopw [5] (fun i wr => ∃ (k : Nat) (f : Nat → Value), k ≤ n ∧ i = .int .i64 k ∧ wr.rowIs w1.heap.size 2 7 f ∧ Hid (∀ j : Nat, j < 7 → f j = .int .i64 (FC k (j : Int))) ∧ Hid (Below w1.heap.size w1 wr)) (fun i _ => n - (intOf i).toNat)
  case atStart => exact ⟨0, _, Nat.zero_le _, rfl, HR0.out, fun j hj => by rw [HF0.out], (Below.refl _ _).alloc (Nat.le_refl _) _⟩
  case round =>
    rename_i wr
    obtain ⟨k, f, hk, rfl, hrow, hfj, hbb⟩ := hrel
    obtain ⟨x0, x1, x2, x3, x4, x5, x6⟩ := (HC.out.below hbb.out hgl).seven
    by_cases hlt : k < n
    · obtain ⟨b, off, x, s, rfl, hb1, hlk, hcc, hs⟩ := (RdIs.below HI.out hbb.out).at_ hlt
      have hkind := ok_kind HOK.out hlk
      have HNX := Lib.hid (HFN.out k x hlk)
      obtain ⟨s1, s2⟩ := HST.out (k : Int)
      have HSK := Lib.hid (HSA.out (k : Int))
      generalize hsk : S (k : Int) = sk at *
      have HFJ := Lib.hid hfj.out
      have HBB := Lib.hid hbb.out
      have HROW := Lib.hid hrow
      have hw1r : w1.heap.size < wr.heap.size := rowIs_lt hrow
      have HCC := Lib.hid hcc
      have hbl : b < w1.heap.size := hb1
      have rr := fun j : Int => HFR.out k j
      have HRR := Lib.hid rr
      clear hrow hs hlk hfj hbb hcc rr
      generalize hxk : x.k = xk at *
      have hk2 := kind_rng hkind
      have HKE := Lib.hid (fun (q : Nat) (hq : q < 3) => kq_eq hkind hq)
      have HKD := Lib.hid hkind
      clear hkind
      go_wp2
      go_loopw [6] (fun i wz => ∃ (q : Nat) (f2 : Nat → Value) (W2 : World), W2 = wz ∧ q ≤ 3 ∧ i = .int .i64 q ∧ W2.rowIs w1.heap.size 2 7 f2 ∧ Hid (∀ j : Nat, j < 7 → f2 j = .int .i64 (FC k (j : Int) + (if kindJ xk = (j : Int) ∧ j < q then 1 else 0))) ∧ Hid (Below w1.heap.size w1 W2)) (fun i _ => 3 - (intOf i).toNat)
      case atStart => exact ⟨0, f, _, rfl, by omega, rfl, HROW.out, fun j hj => by rw [HFJ.out j hj]; simp, HBB.out⟩
      case round =>
        obtain ⟨q, f2, W2, hwe, hq, rfl, hr2, hf2, hb2⟩ := hrel
        subst hwe
        have hcc2 := HCC.out.keep (w' := W2) (fun o => (hb2.out.cell (p := ⟨b, o, none⟩) hbl).trans (HBB.out.cell (p := ⟨b, o, none⟩) hbl).symm)
        have HCC2 := Lib.hid hcc2
        have HC2 := Lib.hid (HC.out.below hb2.out hgl)
        have hw2r : w1.heap.size < W2.heap.size := rowIs_lt hr2
        clear x0 x1 x2 x3 x4 x5 x6
        by_cases hlt2 : q < 3
        · obtain ⟨y0, y1, y2, y3, y4, y5, y6⟩ := HC2.out.seven
          obtain ⟨u0, u1, u2, u3, u4, u5⟩ := hcc2.six
          have hqi : (q : Int) < 3 := by omega
          have HR2 := Lib.hid hr2
          have rq := HRR.out (q : Int)
          by_cases hke : xk = kqF q
          · have HNEW := Lib.hid (fin_eq ((HKE.out q hlt2).1 hke) hlt2 hf2.out)
            have e0 : (xk == kqF q) = true := by simpa using hke
            have hcq : f2 q = .int .i64 (FC k (q : Int)) := by rw [hf2.out q (by omega), if_neg (by omega)]; simp
            have HCQ := Lib.hid hcq
            generalize hkq : kqF q = kq at *
            have HKQ := Lib.hid hkq
            clear hr2 hke hcc2 hkq hcq
            go_wp2
            go_region_with ((go_at_call 87; refine (l11Kinds_any _).mono ?_; rintro e wk ⟨gk, rfl, hck, hbk⟩; have hbk1 := (Below.refl W2.heap.size W2).drew.trans hbk; have ckq := kq_cell hck hlt2; rw [HKQ.out] at ckq; have z5 := (HC2.out.below hbk1 (by omega)).seven.2.2.2.2.2.1; have t0 := (HCC2.out.below hbk1 (by omega)).six.1))
            all_goals
              have HR6 := Lib.hid (rowIs_below HR2.out hbk1)
              have HB6 := Lib.hid (hb2.out.trans (hbk1.mono hb2.out.size))
              have cq6 := HR6.out.cell (i := q) (by omega)
              rw [HCQ.out] at cq6
              have fz6 := fun i => HR6.out.frozen i
              clear hck hbk hbk1 ckq z5 t0 y0 y1 y2 y3 y4 y5 y6 u0 u1 u2 u3 u4 u5
              go_wp2
              refine ⟨⟨q + 1, (fun i => if i = q then Value.int .i64 (FC k (q : Int) + 1) else f2 i), _, rfl, ?_, by go_num, HR6.out.set q _, HNEW.out, HB6.out.setCell (p := ⟨w1.heap.size, q, none⟩) (Nat.le_refl _) _⟩, ?_⟩
              · omega
              · simp only [intOf]; omega
          · have HNEW := Lib.hid (fin_ne (fun h => hke ((HKE.out q hlt2).2 h)) hf2.out)
            have e0 : (xk == kqF q) = false := by simpa using hke
            generalize hkq : kqF q = kq at *
            have HKQ := Lib.hid hkq
            clear hr2 hke hcc2 hkq
            go_wp2
            go_region_with ((go_at_call 87; refine (l11Kinds_any _).mono ?_; rintro e wk ⟨gk, rfl, hck, hbk⟩; have hbk1 := (Below.refl W2.heap.size W2).drew.trans hbk; have ckq := kq_cell hck hlt2; rw [HKQ.out] at ckq; have z5 := (HC2.out.below hbk1 (by omega)).seven.2.2.2.2.2.1; have t0 := (HCC2.out.below hbk1 (by omega)).six.1))
            all_goals
              have HR6 := Lib.hid (rowIs_below HR2.out hbk1)
              have HB6 := Lib.hid (hb2.out.trans (hbk1.mono hb2.out.size))
              clear hck hbk hbk1 ckq z5 t0 y0 y1 y2 y3 y4 y5 y6 u0 u1 u2 u3 u4 u5
              go_wp2
              refine ⟨⟨q + 1, f2, _, rfl, ?_, by go_num, HR6.out, HNEW.out, HB6.out⟩, ?_⟩
              · omega
              · simp only [intOf]; omega
        · have hq3 : q = 3 := by omega
          subst hq3
          have hsj : (2 + sk).toNat < 7 := by omega
          have HNEW := Lib.hid (fin_out hk2 s1 hf2.out HNX.out)
          have hck : f2 (2 + sk).toNat = .int .i64 (FC k (2 + sk)) := by
            rw [hf2.out _ hsj, show (((2 + sk).toNat : Nat) : Int) = 2 + sk by omega, if_neg (by omega)]; simp
          have HCK := Lib.hid hck
          have HR2 := Lib.hid hr2
          have rk := HRR.out (2 + sk)
          have HQ := Lib.hid (HSK.out W2 hb2.out)
          have hi0 : (0 : Int) ≤ 2 + sk := by omega
          have hi1 : 2 + sk < (7 : Int) := by omega
          clear hr2 hck hcc2
          go_wp2_with fail
          refine HQ.out.mono ?_
          rintro e w6 ⟨rfl, hb6⟩
          have HR6 := Lib.hid (rowIs_below HR2.out hb6)
          have HB6 := Lib.hid (hb2.out.trans (hb6.mono hb2.out.size))
          have c6 := HR6.out.cell (i := (2 + sk).toNat) hsj
          rw [HCK.out] at c6
          have fz6 := fun i => HR6.out.frozen i
          clear hb6
          go_wp2
          refine ⟨⟨k + 1, (fun i => if i = (2 + sk).toNat then Value.int .i64 (FC k (2 + sk) + 1) else f2 i), ?_, by go_num, HR6.out.set _ _, HNEW.out, HB6.out.setCell (p := ⟨w1.heap.size, (2 + sk).toNat, none⟩) (Nat.le_refl _) _⟩, ?_⟩
          · omega
          · simp only [intOf]; omega
    · have hkn : k = n := by omega
      have HOW := Lib.hid (OwC.of_rowF (lo := w.heap.size) (hi := wr.heap.size) (n := 7) (sz := 1) (rowIs_congr (f' := fun j => .int .i64 (FC n (j : Int))) hrow (fun j hj => by rw [hfj.out j hj, hkn])) (by omega) (rowIs_lt hrow) (by unfold maxLen; omega))
      have HBW := Lib.hid (HB.out.trans (hbb.out.mono HB.out.size))
      clear hrow hfj hkn
      go_wp2
      go_ret2
      exact GivesC.yes HOC.out rfl (by rw [fcL_len, HVI.out]; exact HOW.out) HBW.out

end Go.Proofs.Ytbffmekhhfhacaa
