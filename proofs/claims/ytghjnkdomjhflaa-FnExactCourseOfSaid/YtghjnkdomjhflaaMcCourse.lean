/-
  CourseOf of the program and of the reference.
-/
import Derived.Test.YtghjnkdomjhflaaMcYarn
import Derived.Test.YtghjnkdomjhflaaMcAsk
namespace Go.Proofs.Ytghjnkdomjhflaa
set_option linter.unusedVariables false
set_option linter.unusedSimpArgs false
open Go.RowKit

/-- A course's growth by one parent; the course of a loop; the courses of all. -/
def cmx (acc : List Int) (n p : Int) : Int := max n (acc.getD p.toNat 0 + 1)
def cst (acc : List Int) (x : Inf) : Int := x.ps.foldl (cmx acc) 0
def cgo : List Int → List Inf → List Int
  | acc, [] => acc
  | acc, x :: t => cgo (acc ++ [cst acc x]) t
theorem cgo_pre : ∀ (l : List Inf) (acc : List Int), ∃ r, cgo acc l = acc ++ r
  | [], acc => ⟨[], by simp [cgo]⟩
  | x :: t, acc => by
    obtain ⟨r, h⟩ := cgo_pre t (acc ++ [cst acc x])
    exact ⟨cst acc x :: r, by rw [cgo, h, List.append_assoc]; rfl⟩
theorem cgo_at {l : List Inf} {acc : List Int} {j : Nat} (h : j < acc.length) : (cgo acc l).getD j 0 = acc.getD j 0 := by
  obtain ⟨r, e⟩ := cgo_pre l acc
  rw [e, List.getD_eq_getElem?_getD, List.getD_eq_getElem?_getD, List.getElem?_append_left h]
theorem cgo_next {l : List Inf} {acc : List Int} {k : Nat} {x : Inf} {R : List Int} (h : R = cgo acc (l.drop k)) (hx : l[k]? = some x) : R = cgo (acc ++ [cst acc x]) (l.drop (k + 1)) := by
  rw [h, drop_of_get hx, cgo]

theorem infs_at {wd : Int} : ∀ {l : List Inf} {i : Int} {j : Nat} {x : Inf}, infsB wd i l = true → l[j]? = some x → okInf wd (i + j) x = true
  | [], i, j, x, h, hx => by simp at hx
  | y :: t, i, j, x, h, hx => by
    rw [infsB] at h
    simp at h
    rcases j with _ | j
    · simp at hx
      subst hx
      simpa using h.1
    · simp at hx
      have := infs_at h.2 hx
      rw [show i + 1 + (j : Int) = i + ((j + 1 : Nat) : Int) by omega] at this
      exact this
theorem pars_mem {n : Int} : ∀ {l pre : List Int} {p : Int}, parsB n pre l = true → p ∈ l → 0 ≤ p ∧ p ≤ n - 1
  | [], pre, p, h, hp => by simp at hp
  | x :: t, pre, p, h, hp => by
    rw [parsB] at h
    simp at h
    rcases List.mem_cons.1 hp with rfl | hp
    · exact inB_iff.1 h.1
    · exact pars_mem h.2.2 hp
/-- What is used of a valid machine's loops. -/
theorem ok_loop {m : Mc} {j : Nat} {x : Inf} (h : okM m = true) (hx : m.ls[j]? = some x) : (∀ p ∈ x.ps, 0 ≤ p ∧ p < j) ∧ x.ps.length ≤ 4 := by
  unfold okM at h
  simp at h
  have h1 := infs_at h.2.2.2.2.1 hx
  unfold okInf at h1
  simp at h1
  obtain ⟨_, _, h4, h5, _⟩ := h1
  refine ⟨fun p hp => ?_, h4⟩
  have := pars_mem h5 hp
  omega

/-- The courses so far: each at most its place. -/
def Small (acc : List Int) : Prop := ∀ (j : Nat) (z : Int), acc[j]? = some z → 0 ≤ z ∧ z ≤ j
theorem fold_small {acc : List Int} (hs : Small acc) : ∀ (ps : List Int) (n : Int), (∀ p ∈ ps, 0 ≤ p ∧ p < acc.length) → 0 ≤ n → n ≤ acc.length → 0 ≤ ps.foldl (cmx acc) n ∧ ps.foldl (cmx acc) n ≤ acc.length
  | [], n, _, h0, h1 => ⟨h0, h1⟩
  | p :: t, n, hp, h0, h1 => by
    obtain ⟨p0, p1⟩ := hp p (by simp)
    obtain ⟨q, rfl⟩ := Int.eq_ofNat_of_zero_le p0
    have hq : q < acc.length := by omega
    have hz := hs q _ (List.getElem?_eq_getElem hq)
    have hc : cmx acc n (q : Int) = max n (acc[q] + 1) := by unfold cmx; rw [show ((q : Int)).toNat = q by omega, List.getD_eq_getElem?_getD, List.getElem?_eq_getElem hq]; rfl
    rw [List.foldl_cons, hc]
    exact fold_small hs t _ (fun r hr => hp r (by simp [hr])) (by omega) (by omega)
theorem small_next {acc : List Int} {x : Inf} (hs : Small acc) (hp : ∀ p ∈ x.ps, 0 ≤ p ∧ p < acc.length) : Small (acc ++ [cst acc x]) := by
  intro j z hz
  by_cases hj : j < acc.length
  · rw [List.getElem?_append_left hj] at hz
    exact hs j z hz
  · rw [List.getElem?_append_right (by omega)] at hz
    have h1 := fold_small hs x.ps 0 hp (by omega) (by omega)
    have hj2 : j - acc.length = 0 := by
      have := (List.getElem?_eq_some_iff.1 hz).1
      simp at this
      omega
    rw [hj2] at hz
    simp at hz
    subst hz
    unfold cst
    omega

theorem l00Max_s (a b : Int) (w : World) : Calls Try.prog 91 #[.int .i64 a, .int .i64 b] w fun e w' => e = .returned (.int .i64 (max a b)) ∧ w = w' := by
  by_cases h : b < a
  all_goals
    go_enter Try.func91, Try.ntmps91
    go_wp2
    go_ret
    exact ⟨ret_int (by omega), rfl⟩

set_option maxHeartbeats 8000000 in
set_option maxRecDepth 100000 in
theorem l11Courses_any (m : Mc) (F G C L D : Value) (g : Nat) (w : World) (hc : CellsAt w g 0 [.int .i64 m.wd, .int .i64 m.rk, F, G, C, L, D]) (hL : RdIs w w.heap.size L m.ls) (hok : okM m = true) :
    Calls Try.prog 54 #[.pointer (some ⟨g, 0, none⟩)] w (GivesOw w 2 1 (cgo [] m.ls).length (vI (cgo [] m.ls))) := by
  obtain ⟨i0, hi, hz0, hz1, hz2⟩ := info_parts info_int
  obtain ⟨AI, cI, rfl⟩ := RdN.shape hL
  have h300 := ls_len hok
  have hgl : g < w.heap.size := block_lt_of_cell hc.seven.1
  have HI := Lib.hid hL
  have HC := Lib.hid hc
  have HOK := Lib.hid hok
  generalize hln : m.ls.length = n at *
  have HLN := Lib.hid hln
  clear hL hc hln hok
  generalize hY : cgo [] m.ls = Y
  have HY := Lib.hid hY
  clear hY
  go_enter Try.func54, Try.ntmps54
  go_wp2
  go_loopw [3, 4] (fun t i wr => ∃ (k : Nat) (acc : List Int), k ≤ n ∧ i = .int .i64 k ∧ wr.ownsRow w.heap.size 2 1 t acc.length (vI acc) ∧ acc.length ≤ k ∧ k ≤ acc.length ∧ Hid (Small acc) ∧ Hid (Y = cgo acc (m.ls.drop k)) ∧ Below w.heap.size w wr) (fun _ i _ => n - (intOf i).toNat)
  case atStart => exact ⟨0, [], Nat.zero_le _, rfl, World.ownsRow_lit _ _ _ (Nat.le_refl _) (by unfold maxLen; omega) rfl, Nat.le_refl _, Nat.le_refl _, fun j z h => by simp at h, HY.out.symm, (Below.refl _ _).alloc (Nat.le_refl _) _⟩
  case round =>
    rename_i wr
    obtain ⟨k, acc, hk, rfl, hown, hak, hak2, hsm, hd, hb⟩ := hrel
    obtain ⟨x0, x1, x2, x3, x4, x5, x6⟩ := (HC.out.below hb hgl).seven
    by_cases hlt : k < n
    · obtain ⟨b, off, x, s, rfl, hbb, hlk, hcc, hs⟩ := (RdIs.below HI.out hb).at_ hlt
      obtain ⟨A1, c1, rfl⟩ := hs.len
      obtain ⟨hps, hp4⟩ := ok_loop HOK.out hlk
      obtain ⟨Ao, co, rfl, -⟩ := (OwC.of_own hown).cells
      have HRA := Lib.hid (RdI.of_own (OwC.of_own hown))
      have HPS := Lib.hid hps
      have HO := Lib.hid hown
      have HD := Lib.hid (cgo_next hd.out hlk)
      have HSM := Lib.hid (small_next hsm.out (x := x) (by intro p hp; have := hps p hp; omega))
      have HB := Lib.hid hb
      have HS := Lib.hid hs
      obtain ⟨q0, q1, q2, q3, q4, q5⟩ := hcc.six
      clear hb hown hd hlk hs hcc hps
      go_wp2
      go_loopw [5, 6] (fun t i wq => ∃ (j : Nat) (z : Int), wr = wq ∧ j ≤ x.ps.length ∧ i = .int .i64 j ∧ t = .int .i64 z ∧ 0 ≤ z ∧ z ≤ k ∧ Hid (cst acc x = (x.ps.drop j).foldl (cmx acc) z)) (fun _ i _ => x.ps.length - (intOf i).toNat)
      case atStart => exact ⟨0, 0, rfl, Nat.zero_le _, rfl, rfl, by omega, by omega, rfl⟩
      case round =>
        obtain ⟨j, z, hwe, hj, rfl, rfl, z0, z1, hf⟩ := hrel
        subst hwe
        by_cases hlt2 : j < x.ps.length
        · obtain ⟨b2, o2, p, rfl, hbb2, hpk, hpc⟩ := HS.out.at_ hlt2
          obtain ⟨p0, p1⟩ := HPS.out p (List.mem_of_getElem? hpk)
          obtain ⟨pn, rfl⟩ := Int.eq_ofNat_of_zero_le p0
          have hpn : pn < acc.length := by omega
          obtain ⟨b3, o3, y, rfl, hbb3, hyk, hyc⟩ := HRA.out.at_ hpn
          obtain ⟨y0, y1⟩ := hsm.out pn y hyk
          have HF := Lib.hid (show cst acc x = (x.ps.drop (j + 1)).foldl (cmx acc) (max z (1 + y)) by
            rw [hf.out, drop_of_get hpk, List.foldl_cons]
            congr 1
            unfold cmx
            rw [show ((pn : Int)).toNat = pn by omega, List.getD_eq_getElem?_getD, hyk]
            show max z (y + 1) = _
            omega)
          clear hf hpk hyk
          go_wp2_with fail
          refine (l00Max_s _ _ _).mono ?_
          rintro e w' ⟨rfl, rfl⟩
          go_wp2
          exact ⟨⟨j + 1, max z (1 + y), trivial, by omega, by go_num, rfl, by omega, by omega, HF.out⟩, by simp [intOf]; omega⟩
        · have HZ := Lib.hid (show cst acc x = z by rw [hf.out, List.drop_of_length_le (by omega)]; rfl)
          clear hf
          go_wp2_with (at_builtin; refine wpList_append_own _ rfl _ _ 25 rfl w.heap.size 2 i0 _ 1 8 Try.underlying25 hi hz0 hz1 hz2 rfl (by decide) _ _ _ rfl (HO.out.alloc _) ⟨wr.heap.size, 0, none⟩ 1 1 [.int .i64 z] rfl rfl ?c1 ?c2 ?c3 ?c4 ?c5 ?_)
          case c1 => exact new_cells' _ _ rfl
          case c2 => exact int_one _
          case c3 => unfold maxLen; omega
          case c4 => omega
          case c5 => have := HB.out.size; simp; omega
          intro v' w2 hown2 hgrow2 _
          have HB1 := Lib.hid (below_append' (HB.out.alloc HB.out.size _) (by have := HB.out.size; simp; omega) HO.out (by simp) hgrow2)
          have HO1 : Hid (w2.ownsRow w.heap.size 2 1 v' (acc ++ [cst acc x]).length (vI (acc ++ [cst acc x]))) := by unfold Hid; rw [vI_snoc, List.length_append, HZ.out]; exact hown2
          clear hgrow2 hown2
          go_wp2
          exact ⟨⟨k + 1, acc ++ [cst acc x], by omega, by go_num, HO1.out, by simp; omega, by simp; omega, HSM.out, HD.out, HB1.out⟩, by simp [intOf]; omega⟩
    · have HB := Lib.hid hb
      have HO := Lib.hid hown
      have HD := Lib.hid (show Y = acc by rw [hd.out, List.drop_of_length_le (by have := HLN.out; omega)]; rfl)
      clear hb hown hd
      go_wp2
      go_ret
      exact ⟨_, rfl, by rw [HD.out]; exact OwC.of_own HO.out, HB.out⟩

def coR (m : Mc) (k : Int) : Int := if askC m k = 0 then (cgo [] m.ls).getD k.toNat 0 else 0
def couR (m : Mc) (k : Int) (e : Ending) : Prop := e = .returned (.tuple #[.int .i64 (coR m k), .int .i64 (askC m k)])
theorem ask_zero' {m : Mc} {k : Int} (h : askC m k = 0) : okM m = true ∧ 0 ≤ k ∧ k < m.ls.length := by
  unfold askC at h
  cases ho : okM m
  · simp [ho] at h
  · cases hi : inB 0 k ((m.ls.length : Int) - 1)
    · simp [ho, hi] at h
    · have := inB_iff.1 hi
      exact ⟨rfl, by omega, by omega⟩
theorem cgo_len : ∀ (l : List Inf) (acc : List Int), (cgo acc l).length = acc.length + l.length
  | [], acc => by simp [cgo]
  | x :: t, acc => by rw [cgo, cgo_len t]; simp; omega

set_option maxHeartbeats 4000000 in
set_option maxRecDepth 100000 in
theorem specCourse_any (v : Value) (m : Mc) (k : Int) (w : World) (hl : RdM w w.heap.size v m) (hf : FitM m) :
    Calls Try.prog 16 #[v, .int .i64 k] w fun e w' => couR m k e ∧ Below w.heap.size w w' := by
  obtain ⟨f, b, cs, ls, d, rfl, h1, h2, h3, h4, h5, h6⟩ := hl
  obtain ⟨AF, cF, rfl⟩ := RdN.shape h1
  obtain ⟨AG, cG, rfl⟩ := RdN.shape h2
  obtain ⟨AC, cC, rfl⟩ := RdS.lens h3
  obtain ⟨AI, cI, rfl⟩ := RdN.shape h4
  obtain ⟨AD, cD, rfl⟩ := RdI.len h5
  have BW := Lib.hid (show Below w.heap.size w (w.alloc (.cells #[.int .i64 m.wd, .int .i64 m.rk, .slice AF m.fr.length cF, .slice AG m.bk.length cG, .slice AC m.cs.length cC, .slice AI m.ls.length cI, .slice AD m.dr.length cD] 34)) from (Below.refl _ _).alloc (Nat.le_refl _) _)
  have hcl : ∀ w1, Below (w.alloc (.cells #[.int .i64 m.wd, .int .i64 m.rk, .slice AF m.fr.length cF, .slice AG m.bk.length cG, .slice AC m.cs.length cC, .slice AI m.ls.length cI, .slice AD m.dr.length cD] 34)).heap.size (w.alloc (.cells #[.int .i64 m.wd, .int .i64 m.rk, .slice AF m.fr.length cF, .slice AG m.bk.length cG, .slice AC m.cs.length cC, .slice AI m.ls.length cI, .slice AD m.dr.length cD] 34)) w1 →
      CellsAt w1 w.heap.size 0 [.int .i64 m.wd, .int .i64 m.rk, .slice AF m.fr.length cF, .slice AG m.bk.length cG, .slice AC m.cs.length cC, .slice AI m.ls.length cI, .slice AD m.dr.length cD] := fun w1 hb => CellsAt.below CellsAt.of_alloc hb (by simp)
  have HA := Lib.hid (l11Ask_any m _ _ _ _ _ w.heap.size k _ (hcl _ (Below.refl _ _)) (RdLL.more (RdLL.below h1 BW.out) BW.out.size) (RdLL.more (RdLL.below h2 BW.out) BW.out.size) ((RdS.below h3 BW.out).more BW.out.size) (RdIs.more (RdIs.below h4 BW.out) BW.out.size) ((h5.below BW.out).more BW.out.size) hf.dr)
  have HI := Lib.hid h4
  have HCL := Lib.hid hcl
  clear h1 h2 h3 h4 h5 h6 hcl
  by_cases ha : askC m k = 0
  case neg =>
    have HN := Lib.hid (show couR m k (.returned (.tuple #[.int .i64 0, .int .i64 (askC m k)])) by simp [couR, coR, ha])
    have e0 : (askC m k != 0) = true := by simpa using ha
    generalize askC m k = A at *
    go_enter Try.func16, Try.ntmps16
    go_wp2_with fail
    refine HA.out.mono ?_
    rintro e w1 ⟨rfl, hb⟩
    have HB := Lib.hid (BW.out.trans (hb.mono BW.out.size))
    clear hb
    go_wp2
    go_ret2
    exact ⟨HN.out, HB.out⟩
  obtain ⟨hok, hk0, hk1⟩ := ask_zero' ha
  obtain ⟨kn, rfl⟩ := Int.eq_ofNat_of_zero_le hk0
  have hkn : kn < (cgo [] m.ls).length := by rw [cgo_len]; simp; omega
  have HAA := Lib.hid ha
  have HOK := Lib.hid hok
  clear ha hok hk0 hk1
  go_enter Try.func16, Try.ntmps16
  go_wp2_with fail
  refine HA.out.mono ?_
  rintro e w1 ⟨rfl, hb⟩
  rw [HAA.out]
  have HB1 := Lib.hid hb
  clear hb HA
  have hw1 := BW.out.trans (HB1.out.mono BW.out.size)
  have HY := Lib.hid (l11Courses_any m _ _ _ _ _ w.heap.size w1 (HCL.out _ HB1.out) (RdIs.more (RdIs.below HI.out hw1) hw1.size) HOK.out)
  have HW1 := Lib.hid hw1
  clear hw1
  go_wp2_with fail
  refine HY.out.mono ?_
  rintro e w2 ⟨v2, rfl, ho, hb2⟩
  obtain ⟨A2, cc2, rfl, -⟩ := ho.cells
  obtain ⟨b1, o1, z, rfl, hbb, hz, hcz⟩ := (RdI.of_own ho).at_ hkn
  have HB2 := Lib.hid (HW1.out.trans (hb2.mono HW1.out.size))
  have HR := Lib.hid (show couR m (kn : Int) (.returned (.tuple #[.int .i64 z, .int .i64 0])) by unfold couR coR; rw [if_pos HAA.out, HAA.out, show ((kn : Int)).toNat = kn by omega, List.getD_eq_getElem?_getD, hz]; rfl)
  have hyl : (cgo [] m.ls).length ≤ 9223372036854775807 := (RdI.of_own ho).len_le
  clear ho hb2 hz HY
  generalize cgo [] m.ls = Y at *
  go_wp2
  go_ret2
  exact ⟨HR.out, HB2.out⟩

end Go.Proofs.Ytghjnkdomjhflaa
