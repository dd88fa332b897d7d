/-
  Texts joined: RkG, RkH, RkJ, RkK.
-/
import Derived.Test.YthhpjgdeehcgjaaGreatPk11
import Derived.Test.YthhpjgdeehcgjaaGreatPk10
import Derived.Test.YthhpjgdeehcgjaaGreatPk8
/-
  The reference's crossings of a step of the rack.
-/
namespace Go.Proofs.YthhpjgdeehcgjaaGreat
set_option linter.unusedVariables false
set_option linter.unusedSimpArgs false
open Go.RowKit

theorem rkT_next {m : Mc} {up : Bool} {Y acc : List Ev} {k f : Nat} {c : List (Int × Int)} (h : Y = acc ++ crEs ((List.range' k (f + 1)).flatMap (rkT m up))) (hs : rkT m up k = c) : Y = (acc ++ crEs c) ++ crEs ((List.range' (k + 1) f).flatMap (rkT m up)) := by
  rw [h, List.range'_succ, List.flatMap_cons, hs]
  simp [crEs]
theorem rkT_no {m : Mc} {up : Bool} {k : Nat} {d : Int} (hd : d = if up = true then 1 else 0) (h : inB 0 ((k : Int) - m.rk - d) (m.wd - 1) = false) : rkT m up k = [] := by
  unfold rkT
  rw [← hd, if_neg (by rw [h]; decide)]
theorem rkT_up {m : Mc} {k : Nat} (h : inB 0 ((k : Int) - m.rk - 1) (m.wd - 1) = true) : rkT m true k = crL (befS m (2, (k : Int) - m.rk - 1)) (szN m (2, (k : Int) - m.rk - 1)) (szN m (1, (k : Int))) (-1) := if_pos h
theorem rkT_dn {m : Mc} {k : Nat} (h : inB 0 ((k : Int) - m.rk) (m.wd - 1) = true) : rkT m false k = crL (befS m (1, (k : Int))) (szN m (1, (k : Int))) (szN m (2, (k : Int) - m.rk)) 1 := by
  unfold rkT
  show (if inB 0 ((k : Int) - m.rk - 0) (m.wd - 1) = true then crL (befS m (1, (k : Int))) (szN m (1, (k : Int))) (szN m (2, (k : Int) - m.rk - 0)) 1 else []) = _
  rw [Int.sub_zero, if_pos h]
theorem befS_le {m : Mc} (ok : okM m = true) (n : Nd) : befS m n ≤ 192 := by
  have h := befG_le ok n m.wd.toNat
  have := (ok_wd ok).2.1
  show befG m n m.wd.toNat ≤ _
  omega

set_option maxHeartbeats 8000000 in
set_option maxRecDepth 100000 in
theorem l10Rack_any {w : World} {B g : Nat} {m : Mc} {S : Nat → Spot} (hM : MSt w B g m S) (hB : B ≤ w.heap.size) (ok : okM m = true) (up : Bool) :
    Calls Tryz.prog 85 #[.pointer (some ⟨g, 0, none⟩), .int .i64 (if up = true then 1 else -1)] w fun e w' => ∃ v, e = .returned v ∧ w'.ownsRow w.heap.size 47 6 v (crEs (rkS m up)).length (vE (crEs (rkS m up))) ∧ ∃ S', MSt w' B g { m with rk := m.rk + (if up = true then 1 else -1) } S' ∧ Mv w S w' S' ∧ (∀ q, v.ownBlock = some q → ¬ blk S' q) := by
  obtain ⟨i0, hi, hz0, hz1, hz2⟩ := info_parts info_ev
  have h := hM.rd
  have HM := Lib.hid hM
  have HP := Lib.hid h
  have HOK := Lib.hid ok
  obtain ⟨d1, d2, d3, d4, d5, d6, -⟩ := ok_wd ok
  obtain ⟨F, G, C, Lv, D, hc, h1, h2, -⟩ := h
  have hgl : g < w.heap.size := block_lt_of_cell hc.seven.1
  obtain ⟨AF, cF, rfl⟩ := RdN.shape h1
  obtain ⟨AB, cB, rfl⟩ := RdN.shape h2
  have HC := Lib.hid hc
  have HF := Lib.hid (fun (k : Nat) (hk : (k : Int) < m.wd) => show ∃ bb off s c, AF = some ⟨bb, off, none⟩ ∧ bb < w.heap.size ∧ w.cell? ⟨bb, off + k, none⟩ = some (.slice s (szN m (1, (k : Int))) c) from by
    obtain ⟨bb, off, x, s, e, hbb, hlk, hcell, hs⟩ := RdLL.at_ h1 (show k < m.fr.length by omega)
    obtain ⟨As, cs', rfl⟩ := hs.len
    refine ⟨bb, off, As, cs', e, hbb, ?_⟩
    have e1 : onL m (1, (k : Int)) = x := by unfold onL; rw [if_neg (by simp), List.getD_eq_getElem?_getD, show ((1 : Int), (k : Int)).2.toNat = k by simp, hlk]; rfl
    unfold szN
    rw [e1]
    exact hcell)
  have HBk := Lib.hid (fun (k : Nat) (hk : (k : Int) < m.wd) => show ∃ bb off s c, AB = some ⟨bb, off, none⟩ ∧ bb < w.heap.size ∧ w.cell? ⟨bb, off + k, none⟩ = some (.slice s (szN m (2, (k : Int))) c) from by
    obtain ⟨bb, off, x, s, e, hbb, hlk, hcell, hs⟩ := RdLL.at_ h2 (show k < m.bk.length by omega)
    obtain ⟨As, cs', rfl⟩ := hs.len
    refine ⟨bb, off, As, cs', e, hbb, ?_⟩
    have e1 : onL m (2, (k : Int)) = x := by unfold onL; rw [if_pos rfl, List.getD_eq_getElem?_getD, show ((2 : Int), (k : Int)).2.toNat = k by simp, hlk]; rfl
    unfold szN
    rw [e1]
    exact hcell)
  obtain ⟨W, hW⟩ : ∃ W : Nat, (W : Int) = m.wd := ⟨m.wd.toNat, by omega⟩
  obtain ⟨Y, hYE⟩ : ∃ Y, Y = crEs (rkS m up) := ⟨_, rfl⟩
  have HY := Lib.hid (show Y = [] ++ crEs ((List.range' 0 (W - 0)).flatMap (rkT m up)) by rw [hYE]; unfold rkS; rw [List.range_eq_range', show m.wd.toNat = W - 0 by omega]; rfl)
  rw [← hYE]
  obtain ⟨st, hst⟩ : ∃ st : Int, st = if up = true then 1 else -1 := ⟨_, rfl⟩
  rw [← hst]
  have HST := Lib.hid hst
  have hst1 : -1 ≤ st ∧ st ≤ 1 := by rw [hst]; split <;> omega
  have hwd1 : IntKind.i64.wrap (m.wd - 1) = m.wd - 1 := IntWalk.i64_in _ (by omega)
  have hsw := fun n => szN_le ok n
  have HSW := Lib.hid hsw
  have HBL := Lib.hid (fun n => befS_le ok n)
  clear hc ok hYE hst h1 h2 hM hsw
  go_enter Tryz.func85, Tryz.ntmps85
  go_wp2
  go_loopw [5, 6] (fun v i wr => ∃ (k : Nat) (acc : List Ev), k ≤ W ∧ i = .int .i64 k ∧ wr.ownsRow w.heap.size 47 6 v acc.length (vE acc) ∧ acc.length ≤ 16 * k ∧ Hid (Y = acc ++ crEs ((List.range' k (W - k)).flatMap (rkT m up))) ∧ Hid (Below w.heap.size w wr)) (fun _ i _ => W - (intOf i).toNat)
  case atStart => exact ⟨0, [], Nat.zero_le _, rfl, World.ownsRow_lit _ _ _ (Nat.le_refl _) (by unfold maxLen; omega) rfl, Nat.zero_le _, HY.out, (Below.refl _ _).alloc (Nat.le_refl _) _⟩
  case round =>
    rename_i wr
    obtain ⟨k, acc, hk, rfl, hown, hac, hd, hb⟩ := hrel
    obtain ⟨y0, y1, y2, y3, -, -, -⟩ := (HC.out.below hb.out hgl).seven
    have HO := Lib.hid hown
    clear hown
    by_cases hlt : k < W
    · obtain ⟨f, hf⟩ : ∃ f, W - k = f + 1 := ⟨W - k - 1, by omega⟩
      rw [hf] at hd
      have hfk : W - (k + 1) = f := by omega
      have hci : (k : Int) < m.wd := by omega
      obtain ⟨bf, of, sf, cf, rfl, hbf, hcf⟩ := HF.out k hci
      have xf := (hb.out.cell (p := ⟨bf, of + k, none⟩) hbf).trans hcf
      cases up with
      | true =>
        have hst : st = 1 := by rw [HST.out]; rfl
        subst hst
        have hkw : IntKind.i64.wrap ((k : Int) - m.rk) = (k : Int) - m.rk := IntWalk.i64_in _ (by omega)
        have hkb : IntKind.i64.wrap ((k : Int) - m.rk - 1) = (k : Int) - m.rk - 1 := IntWalk.i64_in _ (by omega)
        cases hin : inB 0 ((k : Int) - m.rk - 1) (m.wd - 1)
        · have HDN := Lib.hid (rkT_next hd.out (rkT_no (d := 1) rfl (by exact hin)))
          have HIN := Lib.hid hin
          clear hd hin
          go_wp2_with fail
          refine (l00In_s _ _ _ _).mono ?_
          rintro e w2 ⟨rfl, rfl⟩
          rw [HIN.out]
          go_wp2
          exact ⟨⟨k + 1, acc, by omega, by go_num, HO.out, by omega, by rw [hfk]; simpa [crEs] using HDN, hb⟩, by simp [intOf]; omega⟩
        · have hrng := inB_iff.1 hin
          have HTV := Lib.hid (rkT_up hin)
          have HIN := Lib.hid hin
          obtain ⟨j, hj⟩ : ∃ j : Nat, (k : Int) - m.rk - 1 = (j : Int) := ⟨((k : Int) - m.rk - 1).toNat, by omega⟩
          have hjw : (j : Int) < m.wd := by omega
          obtain ⟨bb, ob, sbv, cbv, rfl, hbb, hcb⟩ := HBk.out j hjw
          have xb := (hb.out.cell (p := ⟨bb, ob + j, none⟩) hbb).trans hcb
          have HDN := Lib.hid (rkT_next hd.out HTV.out)
          rw [hj] at HDN HIN hkb
          have hQ := fun W' (hW' : Below w.heap.size w W') => l10Before_any m g (2, (j : Int)) W' (HP.out.below hW') HOK.out ⟨.inr rfl, by simp only; omega, by simp only; omega⟩
          have HQ := Lib.hid hQ
          have hsb := HSW.out (2, (j : Int))
          have hsf := HSW.out (1, (k : Int))
          have hbl := HBL.out (2, (j : Int))
          generalize befS m (2, (j : Int)) = q at *
          generalize szN m (2, (j : Int)) = sb at *
          generalize szN m (1, (k : Int)) = sf' at *
          have HQC := Lib.hid (fun X => l10Cross_any (q : Int) sb sf' (-1) (by omega) (by omega) (by omega) (by omega) X)
          have HLEN := Lib.hid (crs_le (p := (q : Int)) (a := sb) (b := sf') (s := -1) (by omega) (by omega))
          have hj0 : (0 : Int) ≤ (j : Int) := by omega
          clear hd hin hQ hcf hcb HTV
          go_wp2_with fail
          refine (l00In_s _ _ _ _).mono ?_
          rintro e w2 ⟨rfl, rfl⟩
          rw [HIN.out]
          go_wp2_with fail
          refine (HQ.out _ hb.out).mono ?_
          rintro e w3 ⟨rfl, hb3⟩
          have HB3 := Lib.hid (hb.out.trans (hb3.mono hb.out.size))
          have HO3 := Lib.hid (own_below HO.out hb3)
          clear hb3
          go_wp2_with fail
          refine (HQC.out _).mono ?_
          rintro e w4 ⟨v4, rfl, ho4, hb4⟩
          have HB4 := Lib.hid (HB3.out.trans (hb4.mono HB3.out.size))
          have HO4 := Lib.hid (own_below HO3.out hb4)
          obtain ⟨A4, c4, rfl, -⟩ := ho4.cells
          have hrd4 := (RdS.reads Ev.len (by decide) (RdS.of_own Ev.len ho4)).1
          have HRD := Lib.hid hrd4
          have hsz4 := HB4.out.size
          have hlen := HLEN.out
          generalize crEs (crL (q : Int) sb sf' (-1)) = X at *
          clear ho4 hb4 hrd4
          go_wp2_with (at_builtin; refine wpList_append_any _ rfl _ _ _ rfl w.heap.size 47 i0 _ 6 48 Tryz.underlying26 hi hz0 hz1 hz2 rfl (by decide) _ _ _ rfl HO4.out _ A4 X.length c4 (vE X) rfl HRD.out (vE_one X) (by unfold maxLen; omega) (by omega) hsz4 ?_; intro v5 w5 hown5 hg5 hat5)
          have HB5 := Lib.hid (HB4.out.grown hg5 hsz4 (fun q' hq' => (World.ownsRow.lt HO4.out q' hq').1))
          have HO5 : Hid (w5.ownsRow w.heap.size 47 6 v5 (acc ++ X).length (vE (acc ++ X))) := by unfold Hid; rw [List.length_append, vE_app]; exact hown5
          clear hown5 hg5 hat5
          go_wp2
          exact ⟨⟨k + 1, acc ++ X, by omega, by go_num, HO5.out, by simp; omega, by rw [hfk]; exact HDN, HB5⟩, by simp [intOf]; omega⟩
      | false =>
        have hst : st = -1 := by rw [HST.out]; rfl
        subst hst
        have hkw : IntKind.i64.wrap ((k : Int) - m.rk) = (k : Int) - m.rk := IntWalk.i64_in _ (by omega)
        have hkb : IntKind.i64.wrap ((k : Int) - m.rk) = (k : Int) - m.rk := IntWalk.i64_in _ (by omega)
        cases hin : inB 0 ((k : Int) - m.rk) (m.wd - 1)
        · have HDN := Lib.hid (rkT_next hd.out (rkT_no (d := 0) rfl (by rw [Int.sub_zero]; exact hin)))
          have HIN := Lib.hid hin
          clear hd hin
          go_wp2_with fail
          refine (l00In_s _ _ _ _).mono ?_
          rintro e w2 ⟨rfl, rfl⟩
          rw [HIN.out]
          go_wp2
          exact ⟨⟨k + 1, acc, by omega, by go_num, HO.out, by omega, by rw [hfk]; simpa [crEs] using HDN, hb⟩, by simp [intOf]; omega⟩
        · have hrng := inB_iff.1 hin
          have HTV := Lib.hid (rkT_dn hin)
          have HIN := Lib.hid hin
          obtain ⟨j, hj⟩ : ∃ j : Nat, (k : Int) - m.rk = (j : Int) := ⟨((k : Int) - m.rk).toNat, by omega⟩
          have hjw : (j : Int) < m.wd := by omega
          obtain ⟨bb, ob, sbv, cbv, rfl, hbb, hcb⟩ := HBk.out j hjw
          have xb := (hb.out.cell (p := ⟨bb, ob + j, none⟩) hbb).trans hcb
          have HDN := Lib.hid (rkT_next hd.out HTV.out)
          rw [hj] at HDN HIN hkb
          have hQ := fun W' (hW' : Below w.heap.size w W') => l10Before_any m g (1, (k : Int)) W' (HP.out.below hW') HOK.out ⟨.inl rfl, by simp only; omega, by simp only; omega⟩
          have HQ := Lib.hid hQ
          have hsb := HSW.out (2, (j : Int))
          have hsf := HSW.out (1, (k : Int))
          have hbl := HBL.out (1, (k : Int))
          generalize befS m (1, (k : Int)) = q at *
          generalize szN m (2, (j : Int)) = sb at *
          generalize szN m (1, (k : Int)) = sf' at *
          have HQC := Lib.hid (fun X => l10Cross_any (q : Int) sf' sb (1) (by omega) (by omega) (by omega) (by omega) X)
          have HLEN := Lib.hid (crs_le (p := (q : Int)) (a := sf') (b := sb) (s := 1) (by omega) (by omega))
          have hj0 : (0 : Int) ≤ (j : Int) := by omega
          clear hd hin hQ hcf hcb HTV
          go_wp2_with fail
          refine (l00In_s _ _ _ _).mono ?_
          rintro e w2 ⟨rfl, rfl⟩
          rw [HIN.out]
          go_wp2_with fail
          refine (HQ.out _ hb.out).mono ?_
          rintro e w3 ⟨rfl, hb3⟩
          have HB3 := Lib.hid (hb.out.trans (hb3.mono hb.out.size))
          have HO3 := Lib.hid (own_below HO.out hb3)
          clear hb3
          go_wp2_with fail
          refine (HQC.out _).mono ?_
          rintro e w4 ⟨v4, rfl, ho4, hb4⟩
          have HB4 := Lib.hid (HB3.out.trans (hb4.mono HB3.out.size))
          have HO4 := Lib.hid (own_below HO3.out hb4)
          obtain ⟨A4, c4, rfl, -⟩ := ho4.cells
          have hrd4 := (RdS.reads Ev.len (by decide) (RdS.of_own Ev.len ho4)).1
          have HRD := Lib.hid hrd4
          have hsz4 := HB4.out.size
          have hlen := HLEN.out
          generalize crEs (crL (q : Int) sf' sb (1)) = X at *
          clear ho4 hb4 hrd4
          go_wp2_with (at_builtin; refine wpList_append_any _ rfl _ _ _ rfl w.heap.size 47 i0 _ 6 48 Tryz.underlying26 hi hz0 hz1 hz2 rfl (by decide) _ _ _ rfl HO4.out _ A4 X.length c4 (vE X) rfl HRD.out (vE_one X) (by unfold maxLen; omega) (by omega) hsz4 ?_; intro v5 w5 hown5 hg5 hat5)
          have HB5 := Lib.hid (HB4.out.grown hg5 hsz4 (fun q' hq' => (World.ownsRow.lt HO4.out q' hq').1))
          have HO5 : Hid (w5.ownsRow w.heap.size 47 6 v5 (acc ++ X).length (vE (acc ++ X))) := by unfold Hid; rw [List.length_append, vE_app]; exact hown5
          clear hown5 hg5 hat5
          go_wp2
          exact ⟨⟨k + 1, acc ++ X, by omega, by go_num, HO5.out, by simp; omega, by rw [hfk]; exact HDN, HB5⟩, by simp [intOf]; omega⟩
    · have HD := Lib.hid (show Y = acc by rw [hd.out, show W - k = 0 by omega]; simp [crEs])
      have HM2 := Lib.hid (HM.out.below hb.out)
      have HMV := Lib.hid (Mv.of_below (S := S) hb.out)
      have xfz := HM2.out.frozen 1
      have HNB := Lib.hid (fun q (e : blk S q) => (HM.out.sp.ge e).2)
      have HSR := Lib.hid (HM2.out.setRk (r := m.rk + st))
      have HGB := Lib.hid HM.out.gbox
      clear hd
      go_wp2
      go_ret
      refine ⟨_, rfl, by rw [HD.out]; exact own_far HO.out (p := ⟨g, 1, none⟩) (fun e => by have := (HO.out.lt _ e).1; simp at this; omega) _, _, HSR.out, HMV.out.setCell (p := 0) HGB.out _ _, fun q hq e => ?_⟩
      have h8 := (HO.out.lt _ hq).1
      rcases blk_put e with e | e
      · have := HNB.out q e; omega
      · have h9 : (S 0).v.ownBlock = some q := e
        rw [HGB.out] at h9
        injection h9 with h9
        omega

end Go.Proofs.YthhpjgdeehcgjaaGreat

/-
  All the steps to a rack, in plain Lean.
-/
namespace Go.Proofs.YthhpjgdeehcgjaaGreat
set_option linter.unusedVariables false
set_option linter.unusedSimpArgs false
open Go.RowKit

def rkM (m : Mc) (r : Int) : Mc := { m with rk := r }
theorem okM_rk {m : Mc} (ok : okM m = true) {r : Int} (h0 : -3 ≤ r) (h1 : r ≤ 3) : okM (rkM m r) = true := by
  have hd := do7 (m := m) (x := ⟨7, 0, 0, 0, 0, 0, 0, r⟩) rfl
  have h := ok_do (m := m) (o := ⟨7, 0, 0, 0, 0, 0, 0, r⟩) ok (okOpW_iff.2 ⟨by
    simp [okOp, inB, h0, h1, bedM, dirM], by show (0 : Int) < m.wd; have := (ok_wd ok).1; omega, by show (0 : Int) < m.wd; have := (ok_wd ok).1; omega⟩) hd.1
  rw [hd.2] at h
  exact h
def rkUp : Nat → Mc → List (Int × Int)
  | 0, _ => []
  | f + 1, m => rkS m true ++ rkUp f (rkM m (m.rk + 1))
def rkDn : Nat → Mc → List (Int × Int)
  | 0, _ => []
  | f + 1, m => rkS m false ++ rkDn f (rkM m (m.rk - 1))
/-- The crossings of all steps from a machine's rack to r. -/
def rkAll (m : Mc) (r : Int) : List (Int × Int) := if m.rk ≤ r then rkUp (r - m.rk).toNat m else rkDn (m.rk - r).toNat m
theorem rkAll_eq (m : Mc) : rkAll m m.rk = [] := by unfold rkAll; rw [if_pos (Int.le_refl _), Int.sub_self]; rfl
theorem rkAll_up {m : Mc} {r : Int} (h : m.rk < r) : rkAll m r = rkS m true ++ rkAll (rkM m (m.rk + 1)) r := by
  have e : (r - m.rk).toNat = (r - (m.rk + 1)).toNat + 1 := by omega
  unfold rkAll
  rw [if_pos (by omega), e, rkUp, if_pos (by show m.rk + 1 ≤ r; omega)]
  rfl
theorem rkAll_dn {m : Mc} {r : Int} (h : r < m.rk) : rkAll m r = rkS m false ++ rkAll (rkM m (m.rk - 1)) r := by
  have e : (m.rk - r).toNat = (m.rk - 1 - r).toNat + 1 := by omega
  unfold rkAll
  rw [if_neg (by omega), e, rkDn]
  by_cases h1 : m.rk - 1 ≤ r
  · rw [if_pos (show (rkM m (m.rk - 1)).rk ≤ r from h1)]
    have e1 : m.rk - 1 = r := by omega
    rw [show (r - (rkM m (m.rk - 1)).rk).toNat = 0 by show (r - (m.rk - 1)).toNat = 0; omega, show (m.rk - 1 - r).toNat = 0 by omega]
    rfl
  · rw [if_neg (show ¬ (rkM m (m.rk - 1)).rk ≤ r from h1)]
    rfl
theorem rkS_len {m : Mc} (ok : okM m = true) (up : Bool) : (rkS m up).length ≤ 384 := by
  have hw := (ok_wd ok).2.1
  have h : ∀ n, ((List.range n).flatMap (rkT m up)).length ≤ 16 * n := by
    intro n
    induction n with
    | zero => simp
    | succ n ih =>
      rw [List.range_succ, List.flatMap_append, List.length_append]
      have h1 : ((List.flatMap (rkT m up) [n])).length ≤ 16 := by
        simp only [List.flatMap_cons, List.flatMap_nil, List.append_nil]
        have hs := szN_le ok (1, (n : Int))
        have hk := fun k => szN_le ok (2, k)
        have hc : ∀ (p s : Int) (x y : Nat), x ≤ 4 → y ≤ 4 → (crL p x y s).length ≤ 16 := fun p s x y hx hy => by rw [crL_len]; exact Nat.le_trans (Nat.mul_le_mul hy hx) (Nat.le_refl _)
        cases up
        · cases hin : inB 0 ((n : Int) - m.rk) (m.wd - 1)
          · rw [rkT_no (d := 0) rfl (by rw [Int.sub_zero]; exact hin)]; simp
          · rw [rkT_dn hin]; exact hc _ _ _ _ hs (hk _)
        · cases hin : inB 0 ((n : Int) - m.rk - 1) (m.wd - 1)
          · rw [rkT_no (d := 1) rfl hin]; simp
          · rw [rkT_up hin]; exact hc _ _ _ _ (hk _) hs
      omega
  have := h m.wd.toNat
  unfold rkS
  omega

end Go.Proofs.YthhpjgdeehcgjaaGreat

/-
  The reference's row of the empty needle (bed 0 reads the back bed).
-/
namespace Go.Proofs.YthhpjgdeehcgjaaGreat
set_option linter.unusedVariables false
set_option linter.unusedSimpArgs false
open Go.RowKit

theorem l07Bed_zero {w : World} {B g : Nat} {m : Mc} {S : Nat → Spot} (h : MSt w B g m S) : Calls Tryz.prog 95 #[.pointer (some ⟨g, 0, none⟩), .int .i64 0] w fun e w' => e = .returned (bedV S 2) ∧ w = w' := by
  obtain ⟨x0, x1, x2, x3, x4, x5, x6⟩ := h.cells.seven
  have HV := Lib.hid (show bedV S 2 = (S 2).v from rfl)
  clear h
  go_enter Tryz.func95, Tryz.ntmps95
  go_wp2
  go_ret
  exact ⟨by rw [HV.out]; rfl, rfl⟩
set_option maxHeartbeats 1000000 in
theorem l07On_zero {w : World} {B g : Nat} {m : Mc} {S : Nat → Spot} (h : MSt w B g m S) (hn : ndIn m (2, 0)) : Calls Tryz.prog 68 #[.pointer (some ⟨g, 0, none⟩), .agg #[.int .i64 0, .int .i64 0]] w fun e w' => e = .returned (S (iN (2, 0))).v ∧ Below w.heap.size w w' := by
  have hW : Below w.heap.size w (w.alloc (.cells #[.int .i64 0, .int .i64 0] 39)) := (Below.refl _ _).alloc (Nat.le_refl _) _
  have HB := Lib.hid hW
  have HM := Lib.hid (h.below hW)
  obtain ⟨b, c, L, hv, hlt, -, hbw, -, hcell, -, -⟩ := HM.out.nd hn
  have hlt' : (0 : Int) < (L : Int) := hlt
  have hcell' : (w.alloc (.cells #[.int .i64 0, .int .i64 0] 39)).cell? ⟨b, 0, none⟩ = some (S (iN (2, 0))).v := hcell
  have HQ := Lib.hid (fun k => l07Bed_zero (HM.out.drewN k))
  have hv' : bedV S 2 = _ := hv
  rw [hv'] at HQ
  generalize (S (iN (2, 0))).v = R at *
  clear h hv hlt hcell hv' hW
  go_enter Tryz.func68, Tryz.ntmps68
  go_wp2
  go_quiet ((go_at_call 95; exact quiet_s (HQ.out _)))
  go_wp2
  go_ret
  exact ⟨rfl, below_drewN HB.out _⟩

end Go.Proofs.YthhpjgdeehcgjaaGreat

/-
  The reference's execution of a rack operation, with its crossings.
-/
namespace Go.Proofs.YthhpjgdeehcgjaaGreat
set_option linter.unusedVariables false
set_option linter.unusedSimpArgs false
open Go.RowKit

theorem crEs_app' (a b : List (Int × Int)) : crEs (a ++ b) = crEs a ++ crEs b := by simp [crEs]
set_option maxHeartbeats 8000000 in
set_option maxRecDepth 100000 in
theorem l10Do_rack {w : World} {B g : Nat} {m : Mc} {S : Nat → Spot} (hM : MSt w B g m S) (hB : B ≤ w.heap.size) (x : Opr) (b o : Nat) (ho : OpAt w b o x) (hnb : ¬ blk S b) (ok : okM m = true) (hk : x.k = 7) (h0 : -3 ≤ x.r) (h1 : x.r ≤ 3) :
    Calls Tryz.prog 42 #[.pointer (some ⟨g, 0, none⟩), .pointer (some ⟨b, o, none⟩)] w fun e w' => ∃ v, e = .returned (.tuple #[v, .int .i64 0]) ∧ w'.ownsRow w.heap.size 47 6 v (crEs (rkAll m x.r)).length (vE (crEs (rkAll m x.r))) ∧ ∃ S', MSt w' B g (rkM m x.r) S' ∧ Mv w S w' S' ∧ (∀ q, v.ownBlock = some q → ¬ blk S' q) := by
  obtain ⟨i0, hi, hz0, hz1, hz2⟩ := info_parts info_ev
  obtain ⟨d1, d2, d3, d4, -, -, -⟩ := ok_wd ok
  have HM := Lib.hid hM
  have HOK := Lib.hid ok
  have HO0 := Lib.hid ho
  have HNB := Lib.hid hnb
  obtain ⟨o0, -⟩ := ho.eight
  rw [hk] at o0
  generalize hR : x.r = R at *
  obtain ⟨Y, hYE⟩ : ∃ Y, Y = crEs (rkAll m R) := ⟨_, rfl⟩
  rw [← hYE]
  have HY := Lib.hid (show Y = [] ++ crEs (rkAll (rkM m m.rk) R) by rw [hYE]; rfl)
  have HR := Lib.hid hR
  have hbw : Below w.heap.size w (w.alloc (.cells #[] 47)) := (Below.refl _ _).alloc (Nat.le_refl _) _
  have HMS := Lib.hid (HM.out.below hbw)
  have HMV := Lib.hid (Mv.of_below (S := S) hbw)
  have HGE := Lib.hid (fun q (e : blk S q) => (HM.out.sp.ge e).2)
  have hbs : b < w.heap.size := block_lt_of_cell o0
  clear hM ok hYE ho hnb hk hbw
  go_enter Tryz.func42, Tryz.ntmps42
  go_wp2
  go_loopw [6] (fun v wr => ∃ (r : Int) (acc : List Ev) (Sx : Nat → Spot), -3 ≤ r ∧ r ≤ 3 ∧  wr.ownsRow w.heap.size 47 6 v acc.length (vE acc) ∧ acc.length + 384 * (R - r).natAbs ≤ 2304 ∧ Hid (Y = acc ++ crEs (rkAll (rkM m r) R)) ∧ Hid (MSt wr B g (rkM m r) Sx) ∧ Hid (Mv w S wr Sx) ∧ Hid (∀ q, v.ownBlock = some q → ¬ blk Sx q)) (fun _ wr => match wr.cell? ⟨g, 1, none⟩ with | some (.int _ r) => (R - r).natAbs | _ => 0)
  case atStart => exact ⟨m.rk, [], S, d3, d4, World.ownsRow_lit _ _ _ (Nat.le_refl _) (by unfold maxLen; omega) rfl, by simp; omega, HY.out, HMS.out, HMV.out, (fun q hq e => by have h9 : w.heap.size = q := Option.some.inj hq; have := HGE.out q e; omega)⟩
  case round =>
    rename_i wr
    obtain ⟨r, acc, Sx, r0, r1, hown, hac, hd, hm, hv, hnq⟩ := hrel
    have hcell : wr.cell? ⟨g, 1, none⟩ = some (.int .i64 r) := hm.out.cells.seven.2.1
    have x1 := hcell
    obtain ⟨-, -, -, -, -, -, -, o7⟩ := (CellsAt.eight (hv.out.only.cells HNB.out HO0.out))
    have HO := Lib.hid hown
    clear hown
    have hokr := okM_rk HOK.out r0 r1
    have hsw : w.heap.size ≤ wr.heap.size := hv.out.size
    by_cases hl : r < R
    · have HDN := Lib.hid (show Y = (acc ++ crEs (rkS (rkM m r) true)) ++ crEs (rkAll (rkM m (r + 1)) R) by rw [hd.out, rkAll_up (m := rkM m r) (r := R) hl, crEs_app', List.append_assoc]; rfl)
      have HQ := Lib.hid (fun k => l10Rack_any (hm.out.drewN k) (Nat.le_trans hB hsw) hokr true)
      have hlen : (crEs (rkS (rkM m r) true)).length ≤ 384 := by unfold crEs; rw [List.length_map]; exact rkS_len hokr true
      generalize crEs (rkS (rkM m r) true) = X at *
      clear hd hokr
      go_wp2
      go_quiet (fail)
      have HOq : Hid ((wr.drewN nq).ownsRow w.heap.size 47 6 _ acc.length (vE acc)) := HO.out
      have HVq := Lib.hid (hv.out.drewN nq)
      clear HO
      go_wp2_with fail
      refine (HQ.out nq).mono ?_
      rintro e w2 ⟨v2, rfl, hown2, S2, hm2, hv2, hn2⟩
      obtain ⟨A2, c2, rfl, -⟩ := (OwC.of_own hown2).cells
      have HRD := Lib.hid (RdS.reads Ev.len (by decide) (RdS.of_own Ev.len (OwC.of_own hown2))).1
      have HO2 := Lib.hid (hv2.only.own HOq.out hnq.out)
      have HNQ2 := Lib.hid (fun q (hq : _ = some q) => hv2.nblk (hnq.out q hq) (HOq.out.lt q hq).2)
      have HM2 := Lib.hid hm2
      have HV2 := Lib.hid (HVq.out.trans hv2)
      have hsz2 : w.heap.size ≤ w2.heap.size := HV2.out.size
      clear hown2 hm2 hv2 hn2 HOq HVq hv hm hnq
      go_wp2_with (at_builtin; refine wpList_append_any _ rfl _ _ _ rfl w.heap.size 47 i0 _ 6 48 Tryz.underlying26 hi hz0 hz1 hz2 rfl (by decide) _ _ _ rfl HO2.out _ A2 X.length c2 (vE X) rfl HRD.out (vE_one X) (by unfold maxLen; omega) (by omega) hsz2 ?_; intro v5 w5 hown5 hg5 hat5)
      have HO5 : Hid (w5.ownsRow w.heap.size 47 6 v5 (acc ++ X).length (vE (acc ++ X))) := by unfold Hid; rw [List.length_append, vE_app]; exact hown5
      have HM5 := Lib.hid (HM2.out.keep (fun j q hq => hg5.block q (HM2.out.sp.lt hq).2 (fun e => HNQ2.out q e.symm ⟨j, hq⟩)))
      have HV5 : Hid (Mv w S w5 S2) := ⟨HV2.out.only.grown hg5 (fun q hq => .inr (HO2.out.lt q hq).1), HV2.out.2⟩
      have HNQ5 : Hid (∀ q, v5.ownBlock = some q → ¬ blk S2 q) := fun q hq e => by
        rcases hat5 with h | h
        · exact HNQ2.out q (h ▸ hq) e
        · rw [h] at hq; injection hq with hq; have := (HM2.out.sp.ge e).2; omega
      have q1 : w5.cell? ⟨g, 1, none⟩ = some (.int .i64 (r + 1)) := HM5.out.cells.seven.2.1
      clear hown5 hg5 hat5
      go_wp2
      refine ⟨⟨r + 1, acc ++ X, S2, by omega, by omega, HO5.out, by rw [List.length_append]; omega, HDN, HM5, HV5, HNQ5⟩, ?_⟩
      rw [q1, hcell]
      show (R - (r + 1)).natAbs < (R - r).natAbs
      omega
    · go_wp2
      go_quiet (fail)
      have HOq : Hid ((wr.drewN nq).ownsRow w.heap.size 47 6 _ acc.length (vE acc)) := HO.out
      have HVq := Lib.hid (hv.out.drewN nq)
      have HMq := Lib.hid (hm.out.drewN nq)
      clear HO hv hm x1 hcell o7
      go_wp2
      go_loopw [6] (fun v wr => ∃ (r : Int) (acc : List Ev) (Sx : Nat → Spot), -3 ≤ r ∧ r ≤ 3 ∧ R ≤ r ∧  wr.ownsRow w.heap.size 47 6 v acc.length (vE acc) ∧ acc.length + 384 * (R - r).natAbs ≤ 2304 ∧ Hid (Y = acc ++ crEs (rkAll (rkM m r) R)) ∧ Hid (MSt wr B g (rkM m r) Sx) ∧ Hid (Mv w S wr Sx) ∧ Hid (∀ q, v.ownBlock = some q → ¬ blk Sx q)) (fun _ wr => match wr.cell? ⟨g, 1, none⟩ with | some (.int _ r) => (R - r).natAbs | _ => 0)
      case atStart => exact ⟨r, acc, Sx, r0, r1, by omega, HOq.out, hac, hd, HMq.out, HVq.out, hnq⟩
      case round =>
        rename_i wr
        obtain ⟨r, acc, Sx, r0, r1, hRr, hown, hac, hd, hm, hv, hnq⟩ := hrel
        have hcell : wr.cell? ⟨g, 1, none⟩ = some (.int .i64 r) := hm.out.cells.seven.2.1
        have x1 := hcell
        obtain ⟨-, -, -, -, -, -, -, o7⟩ := (CellsAt.eight (hv.out.only.cells HNB.out HO0.out))
        have HO := Lib.hid hown
        clear hown
        have hokr := okM_rk HOK.out r0 r1
        have hsw : w.heap.size ≤ wr.heap.size := hv.out.size
        by_cases hl : R < r
        · have HDN := Lib.hid (show Y = (acc ++ crEs (rkS (rkM m r) false)) ++ crEs (rkAll (rkM m (r + -1)) R) by rw [hd.out, rkAll_dn (m := rkM m r) (r := R) hl, crEs_app', List.append_assoc]; rfl)
          have HQ := Lib.hid (fun k => l10Rack_any (hm.out.drewN k) (Nat.le_trans hB hsw) hokr false)
          have hlen : (crEs (rkS (rkM m r) false)).length ≤ 384 := by unfold crEs; rw [List.length_map]; exact rkS_len hokr false
          generalize crEs (rkS (rkM m r) false) = X at *
          clear hd hokr
          go_wp2
          go_quiet (fail)
          have HOq : Hid ((wr.drewN nq).ownsRow w.heap.size 47 6 _ acc.length (vE acc)) := HO.out
          have HVq := Lib.hid (hv.out.drewN nq)
          clear HO
          go_wp2_with fail
          refine (HQ.out nq).mono ?_
          rintro e w2 ⟨v2, rfl, hown2, S2, hm2, hv2, hn2⟩
          obtain ⟨A2, c2, rfl, -⟩ := (OwC.of_own hown2).cells
          have HRD := Lib.hid (RdS.reads Ev.len (by decide) (RdS.of_own Ev.len (OwC.of_own hown2))).1
          have HO2 := Lib.hid (hv2.only.own HOq.out hnq.out)
          have HNQ2 := Lib.hid (fun q (hq : _ = some q) => hv2.nblk (hnq.out q hq) (HOq.out.lt q hq).2)
          have HM2 := Lib.hid hm2
          have HV2 := Lib.hid (HVq.out.trans hv2)
          have hsz2 : w.heap.size ≤ w2.heap.size := HV2.out.size
          clear hown2 hm2 hv2 hn2 HOq HVq hv hm hnq
          go_wp2_with (at_builtin; refine wpList_append_any _ rfl _ _ _ rfl w.heap.size 47 i0 _ 6 48 Tryz.underlying26 hi hz0 hz1 hz2 rfl (by decide) _ _ _ rfl HO2.out _ A2 X.length c2 (vE X) rfl HRD.out (vE_one X) (by unfold maxLen; omega) (by omega) hsz2 ?_; intro v5 w5 hown5 hg5 hat5)
          have HO5 : Hid (w5.ownsRow w.heap.size 47 6 v5 (acc ++ X).length (vE (acc ++ X))) := by unfold Hid; rw [List.length_append, vE_app]; exact hown5
          have HM5 := Lib.hid (HM2.out.keep (fun j q hq => hg5.block q (HM2.out.sp.lt hq).2 (fun e => HNQ2.out q e.symm ⟨j, hq⟩)))
          have HV5 : Hid (Mv w S w5 S2) := ⟨HV2.out.only.grown hg5 (fun q hq => .inr (HO2.out.lt q hq).1), HV2.out.2⟩
          have HNQ5 : Hid (∀ q, v5.ownBlock = some q → ¬ blk S2 q) := fun q hq e => by
            rcases hat5 with h | h
            · exact HNQ2.out q (h ▸ hq) e
            · rw [h] at hq; injection hq with hq; have := (HM2.out.sp.ge e).2; omega
          have q1 : w5.cell? ⟨g, 1, none⟩ = some (.int .i64 (r + -1)) := HM5.out.cells.seven.2.1
          clear hown5 hg5 hat5
          go_wp2
          refine ⟨⟨r + -1, acc ++ X, S2, by omega, by omega, by omega, HO5.out, by rw [List.length_append]; omega, HDN, HM5, HV5, HNQ5⟩, ?_⟩
          rw [q1, hcell]
          show (R - (r + -1)).natAbs < (R - r).natAbs
          omega
        · go_wp2
          go_quiet (fail)
          have HOq : Hid ((wr.drewN nq).ownsRow w.heap.size 47 6 _ acc.length (vE acc)) := HO.out
          have HVq := Lib.hid (hv.out.drewN nq)
          have HMq := Lib.hid (hm.out.drewN nq)
          clear HO hv hm x1 hcell o7
          go_wp2
          have he : r = R := by omega
          subst he
          have HD := Lib.hid (show Y = acc by rw [hd.out, show rkAll (rkM m r) r = [] from rkAll_eq (rkM m r)]; simp [crEs])
          refine bodyPost_ret (v := .tuple #[_, .int .i64 0]) (by simp [results, Tryz.results42, go_sem]; rfl) rfl ?_
          exact ⟨_, rfl, by rw [HD.out]; exact HOq.out, Sx, HMq.out, HVq.out, hnq.out⟩

end Go.Proofs.YthhpjgdeehcgjaaGreat
