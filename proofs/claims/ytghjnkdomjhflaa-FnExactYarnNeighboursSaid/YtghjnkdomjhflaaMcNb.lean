/-
  YarnNeighbours of the program and of the reference.
-/
import Derived.Test.YtghjnkdomjhflaaMcYarn
import Derived.Test.YtghjnkdomjhflaaMcAsk
import Derived.OwnWalk
namespace Go.Proofs.Ytghjnkdomjhflaa
set_option linter.unusedVariables false
set_option linter.unusedSimpArgs false
open Go.RowKit

theorem yarn_app (c : Int) : ∀ (a b : List Inf) (i : Int), yarnGo c i (a ++ b) = yarnGo c i a ++ yarnGo c (i + a.length) b
  | [], b, i => by simp [yarnGo]
  | x :: a, b, i => by
    rw [List.cons_append, yarnGo, yarnGo, yarn_app c a b (i + 1)]
    have : i + 1 + (a.length : Int) = i + ((x :: a).length : Int) := by simp; omega
    rw [this]
    split <;> rfl
theorem yarn_mem (c : Int) : ∀ (l : List Inf) (i z : Int), z ∈ yarnGo c i l → i ≤ z ∧ z < i + l.length
  | [], i, z, h => by simp [yarnGo] at h
  | x :: t, i, z, h => by
    rw [yarnGo] at h
    have hl : ((x :: t).length : Int) = t.length + 1 := by simp
    rw [hl]
    split at h
    · rcases List.mem_cons.1 h with rfl | h
      · omega
      · have := yarn_mem c t _ z h; omega
    · have := yarn_mem c t _ z h; omega
theorem yarn_len (c : Int) : ∀ (l : List Inf) (i : Int), (yarnGo c i l).length ≤ l.length
  | [], i => by simp [yarnGo]
  | x :: t, i => by
    rw [yarnGo]
    have := yarn_len c t (i + 1)
    split <;> simp <;> omega
/-- Where a loop lies on its own yarn. -/
theorem yarn_split {l : List Inf} {k : Nat} {x : Inf} (hx : l[k]? = some x) : ∃ P S, yarnGo x.y 0 l = P ++ (k : Int) :: S ∧ (∀ z ∈ P, z < (k : Int)) ∧ (∀ z ∈ S, (k : Int) < z) ∧ P.length + 1 + S.length ≤ l.length := by
  have hk : k < l.length := (List.getElem?_eq_some_iff.1 hx).1
  have hl : l = l.take k ++ x :: l.drop (k + 1) := by rw [← drop_of_get hx, List.take_append_drop]
  have htk : (l.take k).length = k := by simp; omega
  have e : yarnGo x.y 0 l = yarnGo x.y 0 (l.take k) ++ (k : Int) :: yarnGo x.y ((k : Int) + 1) (l.drop (k + 1)) := by
    conv => lhs; rw [hl]
    rw [yarn_app, htk, yarnGo, if_pos rfl]
    simp
  refine ⟨_, _, e, fun z hz => ?_, fun z hz => ?_, ?_⟩
  · have := yarn_mem _ _ _ _ hz
    rw [htk] at this
    omega
  · have := yarn_mem _ _ _ _ hz
    omega
  · have h1 := yarn_len x.y (l.take k) 0
    have h2 := yarn_len x.y (l.drop (k + 1)) ((k : Int) + 1)
    rw [htk] at h1
    simp at h2
    omega

/-- The reference's search: the last below k, the first above. -/
def nbF (k : Int) : Int → Int → List Int → Int × Int
  | b, a, [] => (b, a)
  | b, a, z :: t => nbF k (if z < k then z else b) (if k < z ∧ a < 0 then z else a) t
theorem nbF_hi {k : Int} (hk : 0 ≤ k) : ∀ (S : List Int) (b a : Int), (∀ z ∈ S, k < z) → 0 ≤ a → nbF k b a S = (b, a)
  | [], b, a, h, ha => rfl
  | z :: t, b, a, h, ha => by
    have hz := h z (by simp)
    rw [nbF, if_neg (by omega), if_neg (by omega)]
    exact nbF_hi hk t b a (fun y hy => h y (by simp [hy])) ha
theorem nbF_mid {k : Int} (hk : 0 ≤ k) {S : List Int} (b : Int) (h : ∀ z ∈ S, k < z) : nbF k b (-1) (k :: S) = (b, S.head?.getD (-1)) := by
  rw [nbF, if_neg (by omega), if_neg (by omega)]
  cases S with
  | nil => rfl
  | cons z t =>
    have hz := h z (by simp)
    rw [nbF, if_neg (by omega), if_pos ⟨hz, by omega⟩]
    exact nbF_hi hk t b z (fun y hy => h y (by simp [hy])) (by omega)
theorem nbF_lo {k : Int} (hk : 0 ≤ k) {S : List Int} (hS : ∀ z ∈ S, k < z) : ∀ (P : List Int) (b : Int), (∀ z ∈ P, z < k) → nbF k b (-1) (P ++ k :: S) = (P.getLast?.getD b, S.head?.getD (-1))
  | [], b, h => by simpa using nbF_mid hk b hS
  | z :: t, b, h => by
    have hz := h z (by simp)
    rw [List.cons_append, nbF, if_pos hz, if_neg (by omega), nbF_lo hk hS t z (fun y hy => h y (by simp [hy]))]
    congr 1
    cases t with
    | nil => rfl
    | cons y u => simp [List.getLast?_cons]
theorem idx_split {k : Int} : ∀ (P : List Int) (S : List Int) (j : Nat), (∀ z ∈ P, z < k) → idxFrom (fun y => y == k) j (P ++ k :: S) = ((j + P.length : Nat) : Int)
  | [], S, j, h => by simp [idxFrom]
  | z :: t, S, j, h => by
    have hz := h z (by simp)
    rw [List.cons_append, idxFrom, if_neg (by simp; omega), idx_split t S (j + 1) (fun y hy => h y (by simp [hy]))]
    congr 1
    simp
    omega

def nbL (m : Mc) (k : Int) : List Int := match m.ls[k.toNat]? with | some x => yarnGo x.y 0 m.ls | none => []
def nb0 (m : Mc) (k : Int) : Int := if askC m k = 0 then (nbF k (-1) (-1) (nbL m k)).1 else 0
def nb1 (m : Mc) (k : Int) : Int := if askC m k = 0 then (nbF k (-1) (-1) (nbL m k)).2 else 0
def nbR (m : Mc) (k : Int) (e : Ending) : Prop := e = .returned (.tuple #[.int .i64 (nb0 m k), .int .i64 (nb1 m k), .int .i64 (askC m k)])
theorem ask_zero {m : Mc} {k : Int} (h : askC m k = 0) : okM m = true ∧ 0 ≤ k ∧ k < m.ls.length := by
  unfold askC at h
  cases ho : okM m
  · simp [ho] at h
  · cases hi : inB 0 k ((m.ls.length : Int) - 1)
    · simp [ho, hi] at h
    · have := inB_iff.1 hi
      exact ⟨rfl, by omega, by omega⟩

set_option maxHeartbeats 8000000 in
set_option maxRecDepth 100000 in
theorem specNb_any (v : Value) (m : Mc) (k : Int) (w : World) (hl : RdM w w.heap.size v m) (hf : FitM m) :
    Calls Try.prog 20 #[v, .int .i64 k] w fun e w' => nbR m k e ∧ Below w.heap.size w w' := by
  obtain ⟨f, b, cs, ls, d, rfl, h1, h2, h3, h4, h5, h6⟩ := hl
  obtain ⟨AF, cF, rfl⟩ := RdN.shape h1
  obtain ⟨AG, cG, rfl⟩ := RdN.shape h2
  obtain ⟨AC, cC, rfl⟩ := RdS.lens h3
  obtain ⟨AI, cI, rfl⟩ := RdN.shape h4
  obtain ⟨AD, cD, rfl⟩ := RdI.len h5
  have BW := Lib.hid (show Below w.heap.size w (w.alloc (.cells #[.int .i64 m.wd, .int .i64 m.rk, .slice AF m.fr.length cF, .slice AG m.bk.length cG, .slice AC m.cs.length cC, .slice AI m.ls.length cI, .slice AD m.dr.length cD] 34)) from (Below.refl _ _).alloc (Nat.le_refl _) _)
  have hcl : ∀ w1, Below (w.alloc (.cells #[.int .i64 m.wd, .int .i64 m.rk, .slice AF m.fr.length cF, .slice AG m.bk.length cG, .slice AC m.cs.length cC, .slice AI m.ls.length cI, .slice AD m.dr.length cD] 34)).heap.size (w.alloc (.cells #[.int .i64 m.wd, .int .i64 m.rk, .slice AF m.fr.length cF, .slice AG m.bk.length cG, .slice AC m.cs.length cC, .slice AI m.ls.length cI, .slice AD m.dr.length cD] 34)) w1 →
      CellsAt w1 w.heap.size 0 [.int .i64 m.wd, .int .i64 m.rk, .slice AF m.fr.length cF, .slice AG m.bk.length cG, .slice AC m.cs.length cC, .slice AI m.ls.length cI, .slice AD m.dr.length cD] := fun w1 hb => CellsAt.below CellsAt.of_alloc hb (by simp)
  have HA := Lib.hid (l11Ask_any m _ _ _ _ _ w.heap.size k _ (hcl _ (Below.refl _ _)) (RdLL.more (RdLL.below h1 BW.out) BW.out.size) (RdLL.more (RdLL.below h2 BW.out) BW.out.size) ((RdS.below h3 BW.out).more BW.out.size) (RdIs.more (RdIs.below h4 BW.out) BW.out.size) ((h5.below BW.out).more BW.out.size) hf.dr)
  have HI := Lib.hid h4
  have HCL := Lib.hid hcl
  clear h1 h2 h3 h4 h5 h6 hcl
  by_cases ha : askC m k = 0
  case neg =>
    have HN := Lib.hid (show nbR m k (.returned (.tuple #[.int .i64 0, .int .i64 0, .int .i64 (askC m k)])) by simp [nbR, nb0, nb1, ha])
    have e0 : (askC m k != 0) = true := by simpa using ha
    generalize askC m k = A at *
    go_enter Try.func20, Try.ntmps20
    go_wp2_with fail
    refine HA.out.mono ?_
    rintro e w1 ⟨rfl, hb⟩
    have HB := Lib.hid (BW.out.trans (hb.mono BW.out.size))
    clear hb
    go_wp2
    go_ret3
    exact ⟨HN.out, HB.out⟩
  obtain ⟨hok, hk0, hk1⟩ := ask_zero ha
  have h300 := ls_len hok
  obtain ⟨kn, rfl⟩ := Int.eq_ofNat_of_zero_le hk0
  have hkn : kn < m.ls.length := by omega
  have HAA := Lib.hid ha
  clear ha hok hk0 hk1
  go_enter Try.func20, Try.ntmps20
  go_wp2_with fail
  refine HA.out.mono ?_
  rintro e w1 ⟨rfl, hb⟩
  rw [HAA.out]
  have HB1 := Lib.hid hb
  clear hb HA
  have hw1 := BW.out.trans (HB1.out.mono BW.out.size)
  have hcc1 := HCL.out _ HB1.out
  obtain ⟨x0, x1, x2, x3, x4, x5, x6⟩ := hcc1.seven
  obtain ⟨bb, off, x, s, rfl, hbb, hlk, hcc, hs⟩ := (RdIs.below HI.out hw1).at_ hkn
  obtain ⟨c0, c1, c2, c3, c4, c5⟩ := hcc.six
  have HY := Lib.hid (l11Yarn_any m _ _ _ _ _ w.heap.size x.y w1 hcc1 (RdIs.more (RdIs.below HI.out hw1) hw1.size) h300)
  have HLK := Lib.hid hlk
  have HNL := Lib.hid (show nbL m (kn : Int) = yarnGo x.y 0 m.ls by unfold nbL; rw [show ((kn : Int)).toNat = kn by omega, hlk])
  have hyl := yarn_len x.y m.ls 0
  have HW1 := Lib.hid hw1
  clear hw1 hcc1 hlk hcc hs
  go_wp2_with fail
  refine HY.out.mono ?_
  rintro e w2 ⟨v2, rfl, ho, hb2⟩
  obtain ⟨A2, cc2, rfl, -⟩ := ho.cells
  have HR := Lib.hid (RdI.of_own ho)
  have HB2 := Lib.hid (HW1.out.trans (hb2.mono HW1.out.size))
  generalize hYY : yarnGo x.y 0 m.ls = Y at *
  generalize hyn : Y.length = yn at *
  have HYN := Lib.hid hyn
  have HNR := Lib.hid (show nb0 m (kn : Int) = (nbF (kn : Int) (-1) (-1) Y).1 ∧ nb1 m (kn : Int) = (nbF (kn : Int) (-1) (-1) Y).2 by unfold nb0 nb1; rw [if_pos HAA.out, if_pos HAA.out, HNL.out]; exact ⟨rfl, rfl⟩)
  clear ho hb2 hYY hyn x0 x1 x2 x3 x4 x5 x6 c0 c1 c2 c3 c4 c5 HY HNL
  generalize hF : nbF (kn : Int) (-1) (-1) Y = FF at *
  have HF := Lib.hid hF
  clear hF
  go_wp2
  go_loopw [9, 10, 11] (fun p q i wr => ∃ (j : Nat) (b a : Int), j ≤ yn ∧ i = .int .i64 j ∧ p = .int .i64 b ∧ q = .int .i64 a ∧ Hid (FF = nbF (kn : Int) b a (Y.drop j)) ∧ Below w2.heap.size w2 wr) (fun _ _ i _ => yn - (intOf i).toNat)
  case atStart => exact ⟨0, -1, -1, Nat.zero_le _, rfl, rfl, rfl, HF.out.symm, Below.refl _ _⟩
  case round =>
    rename_i wr
    obtain ⟨j, b, a, hj, rfl, rfl, rfl, hd, hb⟩ := hrel
    by_cases hlt : j < yn
    · obtain ⟨b', off', z, rfl, hbb', hzk, hcz⟩ := (HR.out.below hb).at_ hlt
      have HB3 := Lib.hid hb
      have HD := Lib.hid (show FF = nbF (kn : Int) (if z < (kn : Int) then z else b) (if (kn : Int) < z ∧ a < 0 then z else a) (Y.drop (j + 1)) by rw [hd.out, drop_of_get hzk, nbF])
      clear hb hd hzk
      by_cases g1 : z < (kn : Int)
      · have HD2 := Lib.hid (show FF = nbF (kn : Int) z a (Y.drop (j + 1)) by rw [HD.out, if_pos g1, if_neg (by omega)])
        go_wp2
        exact ⟨⟨j + 1, z, a, by omega, by go_num, rfl, rfl, HD2.out, HB3.out⟩, by simp [intOf]; omega⟩
      · by_cases g2 : (kn : Int) < z
        · by_cases g3 : a < 0
          · have HD2 := Lib.hid (show FF = nbF (kn : Int) b z (Y.drop (j + 1)) by rw [HD.out, if_neg g1, if_pos ⟨g2, g3⟩])
            go_wp2
            exact ⟨⟨j + 1, b, z, by omega, by go_num, rfl, rfl, HD2.out, HB3.out⟩, by simp [intOf]; omega⟩
          · have HD2 := Lib.hid (show FF = nbF (kn : Int) b a (Y.drop (j + 1)) by rw [HD.out, if_neg g1, if_neg (fun h => g3 h.2)])
            go_wp2
            exact ⟨⟨j + 1, b, a, by omega, by go_num, rfl, rfl, HD2.out, HB3.out⟩, by simp [intOf]; omega⟩
        · have HD2 := Lib.hid (show FF = nbF (kn : Int) b a (Y.drop (j + 1)) by rw [HD.out, if_neg g1, if_neg (fun h => g2 h.1)])
          go_wp2
          exact ⟨⟨j + 1, b, a, by omega, by go_num, rfl, rfl, HD2.out, HB3.out⟩, by simp [intOf]; omega⟩
    · have HB3 := Lib.hid (HB2.out.trans (hb.mono HB2.out.size))
      have HD2 := Lib.hid (show FF = (b, a) by rw [hd.out, List.drop_of_length_le (by have := HYN.out; omega)]; rfl)
      clear hb hd
      go_wp2
      go_ret3
      refine ⟨?_, HB3.out⟩
      unfold nbR
      rw [HNR.out.1, HNR.out.2, HD2.out, HAA.out]
      rfl

theorem last_at {P T : List Int} (h : 0 < P.length) : (P ++ T)[P.length - 1]? = some (P.getLast?.getD (-1)) := by
  rw [List.getElem?_append_left (by omega), List.getLast?_eq_getElem?]
  rw [List.getElem?_eq_getElem (by omega)]
  rfl
theorem head_at {P S : List Int} {k : Int} (h : 0 < S.length) : (P ++ k :: S)[P.length + 1]? = some (S.head?.getD (-1)) := by
  rw [List.getElem?_append_right (by omega), show P.length + 1 - P.length = 1 by omega]
  cases S with
  | nil => simp at h
  | cons z t => rfl

set_option maxHeartbeats 8000000 in
set_option maxRecDepth 100000 in
theorem implNb_any (v : Value) (m : Mc) (k : Int) (w : World) (hl : RdM w w.heap.size v m) (hf : FitM m) :
    Calls Try.prog 21 #[v, .int .i64 k] w fun e w' => nbR m k e ∧ Below w.heap.size w w' := by
  have hl0 := hl
  obtain ⟨f, b, cs, ls, d, rfl, h1, h2, h3, h4, h5, h6⟩ := hl
  obtain ⟨AF, cF, rfl⟩ := RdN.shape h1
  obtain ⟨AG, cG, rfl⟩ := RdN.shape h2
  obtain ⟨AC, cC, rfl⟩ := RdS.lens h3
  obtain ⟨AI, cI, rfl⟩ := RdN.shape h4
  obtain ⟨AD, cD, rfl⟩ := RdI.len h5
  have BW := Lib.hid (show Below w.heap.size w (w.alloc (.cells #[.int .i64 m.wd, .int .i64 m.rk, .slice AF m.fr.length cF, .slice AG m.bk.length cG, .slice AC m.cs.length cC, .slice AI m.ls.length cI, .slice AD m.dr.length cD] 34)) from (Below.refl _ _).alloc (Nat.le_refl _) _)
  have hcl : ∀ w1, Below (w.alloc (.cells #[.int .i64 m.wd, .int .i64 m.rk, .slice AF m.fr.length cF, .slice AG m.bk.length cG, .slice AC m.cs.length cC, .slice AI m.ls.length cI, .slice AD m.dr.length cD] 34)).heap.size (w.alloc (.cells #[.int .i64 m.wd, .int .i64 m.rk, .slice AF m.fr.length cF, .slice AG m.bk.length cG, .slice AC m.cs.length cC, .slice AI m.ls.length cI, .slice AD m.dr.length cD] 34)) w1 →
      CellsAt w1 w.heap.size 0 [.int .i64 m.wd, .int .i64 m.rk, .slice AF m.fr.length cF, .slice AG m.bk.length cG, .slice AC m.cs.length cC, .slice AI m.ls.length cI, .slice AD m.dr.length cD] := fun w1 hb => CellsAt.below CellsAt.of_alloc hb (by simp)
  have HA := Lib.hid (loopCode_any _ m k _ (hl0.up BW.out BW.out.size))
  have HI := Lib.hid h4
  have HCL := Lib.hid hcl
  clear h1 h2 h3 h4 h5 h6 hcl hl0
  by_cases ha : askC m k = 0
  case neg =>
    have HN := Lib.hid (show nbR m k (.returned (.tuple #[.int .i64 0, .int .i64 0, .int .i64 (askC m k)])) by simp [nbR, nb0, nb1, ha])
    have e0 : (askC m k != 0) = true := by simpa using ha
    generalize askC m k = A at *
    go_enter Try.func21, Try.ntmps21
    go_wp2_with fail
    refine HA.out.mono ?_
    rintro e w1 ⟨rfl, hb⟩
    have HB := Lib.hid (BW.out.trans (hb.mono BW.out.size))
    clear hb
    go_wp2
    go_ret3
    exact ⟨HN.out, HB.out⟩
  obtain ⟨hok, hk0, hk1⟩ := ask_zero ha
  have h300 := ls_len hok
  obtain ⟨kn, rfl⟩ := Int.eq_ofNat_of_zero_le hk0
  have hkn : kn < m.ls.length := by omega
  have HAA := Lib.hid ha
  clear ha hok hk0 hk1
  go_enter Try.func21, Try.ntmps21
  go_wp2_with fail
  refine HA.out.mono ?_
  rintro e w1 ⟨rfl, hb⟩
  rw [HAA.out]
  have HB1 := Lib.hid hb
  clear hb HA
  have hw1 := BW.out.trans (HB1.out.mono BW.out.size)
  have hcc1 := HCL.out _ HB1.out
  obtain ⟨x0, x1, x2, x3, x4, x5, x6⟩ := hcc1.seven
  obtain ⟨bb, off, x, s, rfl, hbb, hlk, hcc, hs⟩ := (RdIs.below HI.out hw1).at_ hkn
  obtain ⟨c0, c1, c2, c3, c4, c5⟩ := hcc.six
  have HY := Lib.hid (yarn_any m _ _ _ _ _ w.heap.size x.y w1 hcc1 (RdIs.more (RdIs.below HI.out hw1) hw1.size) h300)
  obtain ⟨P, S, hY, hP, hS, hlen⟩ := yarn_split hlk
  have HNB := Lib.hid (show nb0 m (kn : Int) = P.getLast?.getD (-1) ∧ nb1 m (kn : Int) = S.head?.getD (-1) by
    have hnl : nbL m (kn : Int) = P ++ (kn : Int) :: S := by unfold nbL; rw [show ((kn : Int)).toNat = kn by omega, hlk]; exact hY
    unfold nb0 nb1
    rw [if_pos HAA.out, if_pos HAA.out, hnl, nbF_lo (by omega) hS P (-1) hP]
    exact ⟨rfl, rfl⟩)
  have HIX := Lib.hid (show idxOf (fun y => y == (kn : Int)) (P ++ (kn : Int) :: S) = ((P.length : Nat) : Int) by unfold idxOf; rw [idx_split P S 0 hP]; simp)
  have hyl : (P ++ (kn : Int) :: S).length = P.length + 1 + S.length := by simp; omega
  have hL := fun h => @last_at P ((kn : Int) :: S) h
  have hH := fun h => @head_at P S (kn : Int) h
  have HW1 := Lib.hid hw1
  rw [hY, hyl] at HY
  clear hw1 hcc1 hlk hcc hs hP hS hY
  go_wp2_with fail
  refine HY.out.mono ?_
  rintro e w2 ⟨v2, rfl, ho, hb2⟩
  obtain ⟨A2, cc2, rfl, -⟩ := ho.cells
  rw [← hyl] at ho
  have HR := Lib.hid (RdI.of_own ho)
  have HB2 := Lib.hid (HW1.out.trans (hb2.mono HW1.out.size))
  rw [hyl] at HR
  clear ho hb2 x0 x1 x2 x3 x4 x5 x6 c0 c1 c2 c3 c4 c5 HY
  go_wp2_with fail
  refine (indexI_any _ (P ++ (kn : Int) :: S) (kn : Int) _ HR.out).mono ?_
  rintro e w3 ⟨rfl, hb3⟩
  rw [HIX.out]
  have HR3 := Lib.hid (HR.out.below hb3)
  have HB3 := Lib.hid (HB2.out.trans (hb3.mono HB2.out.size))
  clear hb3 HIX HR
  generalize hYY : P ++ (kn : Int) :: S = Y at *
  clear hYY
  generalize hzb : P.getLast?.getD (-1) = zb at *
  generalize hza : S.head?.getD (-1) = za at *
  have hzb0 : P.length = 0 → zb = -1 := fun h => by rw [← hzb, List.eq_nil_of_length_eq_zero h]; rfl
  have hza0 : S.length = 0 → za = -1 := fun h => by rw [← hza, List.eq_nil_of_length_eq_zero h]; rfl
  clear hzb hza
  generalize P.length = p at *
  generalize S.length = q at *
  have hR : nbR m (kn : Int) (.returned (.tuple #[.int .i64 zb, .int .i64 za, .int .i64 0])) := by unfold nbR; rw [HNB.out.1, HNB.out.2, HAA.out]
  have HRR := Lib.hid hR
  clear hR HNB
  by_cases hp : 0 < p
  · obtain ⟨b1, o1, z1, e1, hb1, hz1, hc1⟩ := HR3.out.at_ (show p - 1 < p + 1 + q by omega)
    have hz1' : z1 = zb := by rw [hL hp] at hz1; injection hz1 with h; exact h.symm
    subst hz1'
    have hkc : ((p - 1 : Nat) : Int) = (p : Int) - 1 := by omega
    have hw1 : IntKind.i64.wrap ((p : Int) - 1) = (p : Int) - 1 := IntWalk.i64_in _ (by omega)
    subst e1
    by_cases hq : 0 < q
    · obtain ⟨b2, o2, z2, e2, hb2, hz2, hc2⟩ := HR3.out.at_ (show p + 1 < p + 1 + q by omega)
      have hz2' : z2 = za := by rw [hH hq] at hz2; injection hz2 with h; exact h.symm
      subst hz2'
      injection e2 with e2
      injection e2 with q1 q2
      subst q1 q2
      clear hz1 hz2 hL hH hzb0 hza0
      go_wp2
      go_ret3
      exact ⟨HRR.out, HB3.out⟩
    · obtain rfl : za = -1 := hza0 (by omega)
      clear hz1 hL hH hzb0 hza0
      go_wp2
      go_ret3
      exact ⟨HRR.out, HB3.out⟩
  · obtain rfl : zb = -1 := hzb0 (by omega)
    obtain rfl : p = 0 := by omega
    by_cases hq : 0 < q
    · obtain ⟨b2, o2, z2, e2, hb2, hz2, hc2⟩ := HR3.out.at_ (show 0 + 1 < 0 + 1 + q by omega)
      have hz2' : z2 = za := by rw [hH hq] at hz2; injection hz2 with h; exact h.symm
      subst hz2'
      subst e2
      clear hz2 hL hH hzb0 hza0
      go_wp2
      go_ret3
      exact ⟨HRR.out, HB3.out⟩
    · obtain rfl : za = -1 := hza0 (by omega)
      clear hL hH hzb0 hza0
      go_wp2
      go_ret3
      exact ⟨HRR.out, HB3.out⟩

end Go.Proofs.Ytghjnkdomjhflaa
