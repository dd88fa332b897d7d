/-
  Rows of blocks marked by the laws, and the marks held.
-/
import Derived.Test.YtjhhbdehgklneaaBlkS
namespace Go.Proofs.Ytjhhbdehgklneaa
set_option linter.unusedVariables false
set_option linter.unusedSimpArgs false
open Go.RowKit

theorem bkSum_next {l : List Bk} {k : Nat} {x : Bk} (hx : l[k]? = some x) : bkSum (l.take (k + 1)) = bkSum (l.take k) + bkM x := by
  have : l.take (k + 1) = l.take k ++ [x] := by rw [List.take_add_one, hx]; rfl
  rw [this]
  simp [bkSum]
theorem bkSum_take_le (l : List Bk) (k : Nat) : bkSum (l.take k) ≤ bkSum l := by
  have h : bkSum l = bkSum (l.take k) + bkSum (l.drop k) := by
    unfold bkSum
    rw [← List.sum_append, ← List.map_append, List.take_append_drop]
  omega
/-- A row of blocks of the call's own that has been marked from K on. -/
def OmBks (w : World) (lo hi : Nat) (v : Value) (l : List Bk) (K : Int) : Prop :=
  ∃ (o0 o1 : Nat) (a b : Nat → Nat) (f : Nat → Value), lo ≤ o0 ∧ o1 ≤ hi ∧ (∀ k, k < l.length → lo ≤ a k ∧ b k ≤ hi ∧ (b k ≤ o0 ∨ o1 ≤ a k)) ∧ (∀ i j, i < l.length → j < l.length → i ≠ j → b i ≤ a j ∨ b j ≤ a i) ∧
    OwC w o0 o1 66 3 v l.length ((List.range (l.length * 3)).map f) ∧ ∀ k x, l[k]? = some x → f (k * 3) = .int .i64 (K + (bkSum (l.take k) : Int)) ∧
      ∃ m, a k ≤ m ∧ m ≤ b k ∧ OwC w (a k) m 2 1 (f (k * 3 + 1)) x.b.w.length (vM (K + (bkSum (l.take k) : Int) + 1) (x.b.w.length * 1)) ∧
        OwC w m (b k) 51 6 (f (k * 3 + 2)) x.e.length (vM (K + (bkSum (l.take k) : Int) + 1 + (x.b.w.length : Int)) (x.e.length * 6))
theorem OmBks.below {w w' : World} {lo hi : Nat} {v : Value} {l : List Bk} {K : Int} (h : OmBks w lo hi v l K) (hb : Below hi w w') : OmBks w' lo hi v l K := by
  obtain ⟨o0, o1, a, b, f, g0, g1, g2, g3, g4, g5⟩ := h
  refine ⟨o0, o1, a, b, f, g0, g1, g2, g3, g4.below (hb.mono g1), fun k x hx => ?_⟩
  obtain ⟨h0, m, h1, h2, h3, h4⟩ := g5 k x hx
  have h5 := g2 k (List.getElem?_eq_some_iff.1 hx).1
  exact ⟨h0, m, h1, h2, h3.below (hb.mono (by omega)), h4.below (hb.mono (by omega))⟩
theorem OmBks.only {w w' : World} {lo hi c d : Nat} {v : Value} {l : List Bk} {K : Int} (h : OmBks w lo hi v l K) (hw : Only c d w w') (hd : hi ≤ c ∨ d ≤ lo) (hs : hi ≤ w.heap.size) : OmBks w' lo hi v l K := by
  obtain ⟨o0, o1, a, b, f, g0, g1, g2, g3, g4, g5⟩ := h
  refine ⟨o0, o1, a, b, f, g0, g1, g2, g3, g4.only hw (by omega) (by omega), fun k x hx => ?_⟩
  obtain ⟨h0, m, h1, h2, h3, h4⟩ := g5 k x hx
  have h5 := g2 k (List.getElem?_eq_some_iff.1 hx).1
  exact ⟨h0, m, h1, h2, h3.only hw (by omega) (by omega), h4.only hw (by omega) (by omega)⟩

set_option maxHeartbeats 8000000 in
set_option maxRecDepth 100000 in
theorem markBlockS_any (v : Value) (l : List Bk) (K : Int) (w : World) (lo hi : Nat) (ho : OwBks w lo hi v l) (hh : hi ≤ w.heap.size) (hK : 0 ≤ K) (hn : K + (bkSum l : Int) ≤ 1000000000000) :
    Calls Try.prog 22 #[v, .int .i64 K] w fun e w' => e = .returned (.int .i64 (K + (bkSum l : Int))) ∧ OmBks w' lo hi v l K ∧ Only lo hi w w' := by
  obtain ⟨o0, o1, a, b, f, g0, g1, g2, g3, g4, g5⟩ := ho
  rcases g4.2 with ⟨hl0, A, c, rfl⟩ | ⟨g, cap, cur, rfl, hlo, hhi, hg, hnc, hcap, hsz, hx⟩
  · have hl1 : l = [] := List.eq_nil_of_length_eq_zero hl0
    subst hl1
    go_enter Try.func22, Try.ntmps22
    go_wp2
    go_loopw [1, 5] (fun t i wr => t = .int .i64 K ∧ i = .int .i64 0 ∧ w = wr) (fun _ i _ => 0 - (intOf i).toNat)
    case atStart => exact ⟨rfl, rfl, rfl⟩
    case round =>
      rename_i wr
      obtain ⟨rfl, rfl, rfl⟩ := hrel
      go_wp2
      go_ret
      exact ⟨ret_int (by simp [bkSum]), ⟨o0, o1, a, b, f, g0, g1, g2, g3, by simpa using g4, fun k x hx => by simp at hx⟩, Only.refl _ _ _⟩
  · have hcf : ∀ i, i < l.length * 3 → cur.getD i undef = f i := by
      intro i hi
      have h1 := congrArg (fun xs => xs[i]?) hx
      simp only [List.getElem?_take, if_pos hi, Array.getElem?_toList, List.getElem?_map, List.getElem?_range hi, Option.map_some] at h1
      rw [Array.getD_eq_getD_getElem?, h1]
      rfl
    have hrow0 : w.rowIs g 66 (cap * 3) (fun i => cur.getD i undef) := ⟨cur, hg, hsz, fun i hi => row_getD (by omega)⟩
    have HR0 := Lib.hid hrow0
    have HCF := Lib.hid hcf
    have Hnc := Lib.hid hnc
    have HG := Lib.hid g5
    have H2 := Lib.hid g2
    have H3 := Lib.hid g3
    have HSL := Lib.hid (fun k => bkSum_take_le l k)
    have HSN := Lib.hid (fun (k : Nat) (x : Bk) (hx : l[k]? = some x) => bkSum_next hx)
    have HS0 := Lib.hid (show bkSum (l.take 0) = 0 by simp [bkSum])
    have HSE := Lib.hid (show bkSum (l.take l.length) = bkSum l by rw [List.take_length])
    have hom : ∀ W (F : Nat → Value), OwC W o0 o1 66 3 (.slice (some ⟨g, 0, none⟩) l.length cap) l.length ((List.range (l.length * 3)).map F) → (∀ k x, l[k]? = some x → F (k * 3) = .int .i64 (K + (bkSum (l.take k) : Int)) ∧
      ∃ m, a k ≤ m ∧ m ≤ b k ∧ OwC W (a k) m 2 1 (F (k * 3 + 1)) x.b.w.length (vM (K + (bkSum (l.take k) : Int) + 1) (x.b.w.length * 1)) ∧
        OwC W m (b k) 51 6 (F (k * 3 + 2)) x.e.length (vM (K + (bkSum (l.take k) : Int) + 1 + (x.b.w.length : Int)) (x.e.length * 6))) → OmBks W lo hi (.slice (some ⟨g, 0, none⟩) l.length cap) l K :=
      fun W F h1 h2 => ⟨o0, o1, a, b, F, g0, g1, g2, g3, h1, h2⟩
    have HOM := Lib.hid hom
    generalize hS : (fun k => bkSum (l.take k)) = S at *
    have hSk : ∀ k, bkSum (l.take k) = S k := fun k => by rw [← hS]
    simp only [hSk] at HSL HSN HS0 HSE HOM
    generalize bkSum l = T at *
    clear g4 g5 g2 g3 hom hSk hS hg hrow0 hcf hx hnc
    have hcap2 : cap ≤ maxLen := hcap
    generalize hl : l.length = n at *
    have HL := Lib.hid hl
    have hnle : n ≤ 9223372036854775807 := by have := Hnc.out; unfold maxLen at hcap; omega
    clear hl
    go_enter Try.func22, Try.ntmps22
    go_wp2
    go_loopw [1, 5] (fun t i wr => ∃ (k : Nat) (F : Nat → Value), k ≤ n ∧ i = .int .i64 k ∧ t = .int .i64 (K + (S k : Int)) ∧ wr.rowIs g 66 (cap * 3) F ∧ Hid (∀ j, j < n → F (j * 3 + 1) = f (j * 3 + 1) ∧ F (j * 3 + 2) = f (j * 3 + 2)) ∧
      Hid (∀ j, j < k → F (j * 3) = .int .i64 (K + (S j : Int))) ∧ Hid (∀ j x, k ≤ j → l[j]? = some x → oBk wr (a j) (b j) ((List.range 3).map fun q => f (j * 3 + q)) x) ∧
      Hid (∀ j x, j < k → l[j]? = some x → ∃ m, a j ≤ m ∧ m ≤ b j ∧ OwC wr (a j) m 2 1 (f (j * 3 + 1)) x.b.w.length (vM (K + (S j : Int) + 1) (x.b.w.length * 1)) ∧ OwC wr m (b j) 51 6 (f (j * 3 + 2)) x.e.length (vM (K + (S j : Int) + 1 + (x.b.w.length : Int)) (x.e.length * 6))) ∧
      Only lo hi w wr) (fun _ i _ => n - (intOf i).toNat)
    case atStart => exact ⟨0, _, Nat.zero_le _, rfl, by rw [HS0.out]; simp, HR0.out, fun j hj => ⟨HCF.out _ (by omega), HCF.out _ (by omega)⟩, fun j hj => absurd hj (by omega), fun j x _ hx => HG.out j x hx, fun j x hj => absurd hj (by omega), Only.refl _ _ _⟩
    case round =>
      rename_i wr
      obtain ⟨k, F, hk, rfl, rfl, hrow, hF, hFk, hgs, hmk, hon⟩ := hrel
      have hsk := HSL.out k
      by_cases hlt : k < n
      · have hx : l[k]? = some (l[k]'(by rw [HL.out]; exact hlt)) := List.getElem?_eq_getElem _
        obtain ⟨x, hxe⟩ : ∃ x, x = l[k]'(by rw [HL.out]; exact hlt) := ⟨_, rfl⟩
        rw [← hxe] at hx
        obtain ⟨s, t, m, hs, hm0, hm1, hos, hot⟩ := hgs.out k x (Nat.le_refl _) hx
        simp only [show List.range 3 = [0, 1, 2] from rfl, List.map_cons, List.map_nil, List.cons.injEq, Nat.add_zero, and_true] at hs
        obtain ⟨hs0, hs1, hs2⟩ := hs
        subst hs1 hs2
        obtain ⟨A2, c2, hse, -⟩ := hos.cells
        obtain ⟨A3, c3, hte, -⟩ := hot.cells
        have hsn := HSN.out k x hx
        simp only [bkM] at hsn
        have hsk1 := HSL.out (k + 1)
        have hcc := Hnc.out
        obtain ⟨w1, w2, w3⟩ := H2.out k hlt
        have d0 := hrow.cell (i := k * 3) (by omega)
        have d1 := hrow.cell (i := k * 3 + 1) (by omega)
        have d2 := hrow.cell (i := k * 3 + 2) (by omega)
        have g0' := fun i => hrow.frozen i
        obtain ⟨hF1, hF2⟩ := hF.out k hlt
        rw [hF1, hse] at d1
        rw [hF2, hte] at d2
        have HSE1 := Lib.hid hse
        have HTE1 := Lib.hid hte
        have HR1 := Lib.hid (hrow.set (k * 3) (.int .i64 (K + (S k : Int))))
        have HX := Lib.hid hx
        have HON := Lib.hid (hon.setCell (p := ⟨g, k * 3, none⟩) (Nat.le_trans g0 hlo) (Nat.lt_of_lt_of_le hhi g1) (.int .i64 (K + (S k : Int))))
        have hon1 : Only o0 o1 wr (wr.setCell ⟨g, k * 3, none⟩ (.int .i64 (K + (S k : Int)))) := (Only.refl _ _ _).setCell hlo hhi _
        have hwsz : hi ≤ wr.heap.size := Nat.le_trans hh hon.size
        have HOS := Lib.hid (hos.only hon1 (by omega) (by omega))
        have HOT := Lib.hid (hot.only hon1 (by omega) (by omega))
        have HON1 := Lib.hid hon1
        rw [hse] at HOS
        rw [hte] at HOT
        have hz1 : 0 ≤ K + (S k : Int) + 1 := by omega
        have hz2 : K + (S k : Int) + 1 + ((x.b.w.length : Nat) : Int) ≤ 1000000000000 := by omega
        have hz3 : 0 ≤ K + (S k : Int) + 1 + ((x.b.w.length : Nat) : Int) := by omega
        have hz4 : K + (S k : Int) + 1 + ((x.b.w.length : Nat) : Int) + ((x.e.length : Nat) : Int) * 6 ≤ 1000000000000 := by omega
        have HSN2 := Lib.hid (show K + (S k : Int) + 1 + ((x.b.w.length : Nat) : Int) + ((x.e.length : Nat) : Int) * 6 = K + (S (k + 1) : Int) by omega)
        have hgw : g < wr.heap.size := Nat.lt_of_lt_of_le (Nat.lt_of_lt_of_le hhi g1) hwsz
        have hq1 : (wr.setCell ⟨g, k * 3, none⟩ (.int .i64 (K + (S k : Int)))).cell? ⟨g, k * 3 + 1, none⟩ = some (.slice A2 x.b.w.length c2) := by rw [World.cell?_setCell_other _ _ _ _ (by intro e0; injection e0 with _ e2 _; omega)]; exact d1
        have hq2 : (wr.setCell ⟨g, k * 3, none⟩ (.int .i64 (K + (S k : Int)))).cell? ⟨g, k * 3 + 2, none⟩ = some (.slice A3 x.e.length c3) := by rw [World.cell?_setCell_other _ _ _ _ (by intro e0; injection e0 with _ e2 _; omega)]; exact d2
        have HQ2 := Lib.hid hq2
        clear hx hxe hs0 hos hot hrow hsn hse hte hon hon1 hq1 hq2 hF1 hF2 d2
        go_wp2_with fail
        refine (markI_any _ _ _ _ _ _ _ HOS.out hz1 hz2).mono ?_
        rintro e wn ⟨rfl, hmo, hmw⟩
        have hq2n : wn.cell? ⟨g, k * 3 + 2, none⟩ = some (.slice A3 x.e.length c3) := (World.cell?_of_block (a := ⟨g, k * 3 + 2, none⟩) (hmw.block g (by simp; omega) (by omega))).trans HQ2.out
        have HMO := Lib.hid hmo
        have HMW := Lib.hid hmw
        have HOT2 := Lib.hid (HOT.out.only hmw (.inr (Nat.le_refl _)) (by simp; omega))
        clear hmo hmw d1 d0 g0'
        go_wp2_with fail
        refine (markE_any _ _ _ _ _ _ _ HOT2.out hz3 hz4).mono ?_
        rintro e wm ⟨rfl, hmo2, hmw2⟩
        have hMW := HMW.out
        have hwn : wr.heap.size ≤ wn.heap.size := by have := hMW.size; simpa using this
        have honA : Only (a k) (b k) (wr.setCell ⟨g, k * 3, none⟩ (.int .i64 (K + (S k : Int)))) wm := (hMW.wide (Nat.le_refl _) hm1).trans (hmw2.wide hm0 (Nat.le_refl _))
        have hMK : OwC wm (a k) m 2 1 (.slice A2 x.b.w.length c2) x.b.w.length (vM (K + (S k : Int) + 1) (x.b.w.length * 1)) := HMO.out.only hmw2 (.inl (Nat.le_refl _)) (by omega)
        have HOA := Lib.hid honA
        have HROW := Lib.hid (HR1.out.of_block (honA.block g (by simp; omega) (by omega)))
        have HMKK := Lib.hid hMK
        have HMO2 := Lib.hid hmo2
        have HONN := Lib.hid (HON.out.trans (honA.wide w1 w2))
        clear hMW hMK hmo2 hmw2 honA hq2n
        go_wp2
        refine ⟨⟨k + 1, _, by omega, by go_num, by rw [HSN2.out], HROW.out, fun j hj => ?_, fun j hj => ?_, fun j y hj hy => ?_, fun j y hj hy => ?_, HONN.out⟩, by simp [intOf]; omega⟩
        · obtain ⟨h1, h2⟩ := hF.out j hj
          show (if j * 3 + 1 = k * 3 then _ else F (j * 3 + 1)) = _ ∧ (if j * 3 + 2 = k * 3 then _ else F (j * 3 + 2)) = _
          rw [if_neg (by omega), if_neg (by omega)]
          exact ⟨h1, h2⟩
        · show (if j * 3 = k * 3 then _ else F (j * 3)) = _
          by_cases hjk : j = k
          · subst hjk
            rw [if_pos rfl]
          · rw [if_neg (by omega)]
            exact hFk.out j (by omega)
        · have hjn : j < n := by rw [← HL.out]; exact (List.getElem?_eq_some_iff.1 hy).1
          obtain ⟨s', t', m', h1, h2, h3, h4, h5⟩ := hgs.out j y (by omega) hy
          have h6 := H2.out j hjn
          have h7 := H3.out k j hlt hjn (by omega)
          exact ⟨s', t', m', h1, h2, h3, (h4.only HON1.out (by omega) (by omega)).only HOA.out (by omega) (by simp; omega), (h5.only HON1.out (by omega) (by omega)).only HOA.out (by omega) (by simp; omega)⟩
        · have hjn : j < n := by rw [← HL.out]; exact (List.getElem?_eq_some_iff.1 hy).1
          by_cases hjk : j = k
          · subst hjk
            have hxy : x = y := by have := HX.out.symm.trans hy; injection this
            subst hxy
            refine ⟨m, hm0, hm1, ?_, ?_⟩
            · rw [HSE1.out]; exact HMKK.out
            · rw [HTE1.out]; exact HMO2.out
          · obtain ⟨m', h2, h3, h4, h5⟩ := hmk.out j y (by omega) hy
            have h6 := H2.out j hjn
            have h7 := H3.out k j hlt hjn (by omega)
            exact ⟨m', h2, h3, (h4.only HON1.out (by omega) (by omega)).only HOA.out (by omega) (by simp; omega), (h5.only HON1.out (by omega) (by omega)).only HOA.out (by omega) (by simp; omega)⟩
      · have hkn : k = n := by omega
        have HON := Lib.hid hon
        have HR := Lib.hid hrow
        have HZ := Lib.hid (show K + (S k : Int) = K + (T : Int) by rw [hkn, HSE.out])
        clear hon hrow
        go_wp2
        go_ret
        refine ⟨ret_int HZ.out, HOM.out wr F ?_ (fun j x hx => ?_), HON.out⟩
        · refine ⟨by simp, .inr ?_⟩
          obtain ⟨cur', h1, h2, h3⟩ := HR.out
          refine ⟨g, cap, cur', rfl, hlo, hhi, h1, Hnc.out, hcap2, h2, ?_⟩
          have hcc := Hnc.out
          apply List.ext_getElem?
          intro i
          by_cases hi : i < n * 3
          · rw [List.getElem?_take, if_pos hi, Array.getElem?_toList, h3 i (by omega)]
            simp [hi]
          · rw [List.getElem?_eq_none (by simp; omega), List.getElem?_eq_none (by simp; omega)]
        · have hjn : j < k := by rw [hkn, ← HL.out]; exact (List.getElem?_eq_some_iff.1 hx).1
          obtain ⟨h1, h2⟩ := hF.out j (by omega)
          rw [h1, h2]
          exact ⟨hFk.out j hjn, hmk.out j x hjn hx⟩

end Go.Proofs.Ytjhhbdehgklneaa
