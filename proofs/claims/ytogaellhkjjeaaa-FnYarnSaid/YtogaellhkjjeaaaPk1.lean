/-
  Texts joined: Crs, McWale, McEq, OpenMc, McLaw0, McInfo, McValid, McOkB1, McOkB2, McOkB3, McOkB4, McOkB5, McOkB6, McOkS, OpenB.
-/
import Derived.Test.YtogaellhkjjeaaaMcAsk0
import Derived.Test.YtogaellhkjjeaaaMcLive
import Derived.Test.YtogaellhkjjeaaaMcTo
import Derived.Test.YtogaellhkjjeaaaMc
import Derived.Test.YtogaellhkjjeaaaMcInfo0
import Derived.Test.YtogaellhkjjeaaaMcOk
import Derived.Test.YtogaellhkjjeaaaMcOkS0
import Derived.Test.YtogaellhkjjeaaaMcOkM
import Derived.Test.YtogaellhkjjeaaaSrc
import Derived.Test.YtogaellhkjjeaaaOpen
/-
  Courses, in plain Lean; the greater of two numbers.
-/
namespace Go.Proofs.Ytogaellhkjjeaaa
set_option linter.unusedVariables false
set_option linter.unusedSimpArgs false
open Go.RowKit

/-- A course's growth by one parent; the course of a loop; the courses of all. -/
def cmx (acc : List Int) (n p : Int) : Int := max n (acc.getD p.toNat 0 + 1)
def cst (acc : List Int) (x : Inf) : Int := x.ps.foldl (cmx acc) 0
def cgo : List Int → List Inf → List Int
  | acc, [] => acc
  | acc, x :: t => cgo (acc ++ [cst acc x]) t
theorem cgo_pre : ∀ (l : List Inf) (acc : List Int), ∃ r, cgo acc l = acc ++ r
  | [], acc => ⟨[], by simp [cgo]⟩
  | x :: t, acc => by
    obtain ⟨r, h⟩ := cgo_pre t (acc ++ [cst acc x])
    exact ⟨cst acc x :: r, by rw [cgo, h, List.append_assoc]; rfl⟩
theorem cgo_at {l : List Inf} {acc : List Int} {j : Nat} (h : j < acc.length) : (cgo acc l).getD j 0 = acc.getD j 0 := by
  obtain ⟨r, e⟩ := cgo_pre l acc
  rw [e, List.getD_eq_getElem?_getD, List.getD_eq_getElem?_getD, List.getElem?_append_left h]
theorem cgo_next {l : List Inf} {acc : List Int} {k : Nat} {x : Inf} {R : List Int} (h : R = cgo acc (l.drop k)) (hx : l[k]? = some x) : R = cgo (acc ++ [cst acc x]) (l.drop (k + 1)) := by
  rw [h, drop_of_get hx, cgo]

/-- The courses so far: each at most its place. -/
def Small (acc : List Int) : Prop := ∀ (j : Nat) (z : Int), acc[j]? = some z → 0 ≤ z ∧ z ≤ j
theorem fold_small {acc : List Int} (hs : Small acc) : ∀ (ps : List Int) (n : Int), (∀ p ∈ ps, 0 ≤ p ∧ p < acc.length) → 0 ≤ n → n ≤ acc.length → 0 ≤ ps.foldl (cmx acc) n ∧ ps.foldl (cmx acc) n ≤ acc.length
  | [], n, _, h0, h1 => ⟨h0, h1⟩
  | p :: t, n, hp, h0, h1 => by
    obtain ⟨p0, p1⟩ := hp p (by simp)
    obtain ⟨q, rfl⟩ := Int.eq_ofNat_of_zero_le p0
    have hq : q < acc.length := by omega
    have hz := hs q _ (List.getElem?_eq_getElem hq)
    have hc : cmx acc n (q : Int) = max n (acc[q] + 1) := by unfold cmx; rw [show ((q : Int)).toNat = q by omega, List.getD_eq_getElem?_getD, List.getElem?_eq_getElem hq]; rfl
    rw [List.foldl_cons, hc]
    exact fold_small hs t _ (fun r hr => hp r (by simp [hr])) (by omega) (by omega)
theorem small_next {acc : List Int} {x : Inf} (hs : Small acc) (hp : ∀ p ∈ x.ps, 0 ≤ p ∧ p < acc.length) : Small (acc ++ [cst acc x]) := by
  intro j z hz
  by_cases hj : j < acc.length
  · rw [List.getElem?_append_left hj] at hz
    exact hs j z hz
  · rw [List.getElem?_append_right (by omega)] at hz
    have h1 := fold_small hs x.ps 0 hp (by omega) (by omega)
    have hj2 : j - acc.length = 0 := by
      have := (List.getElem?_eq_some_iff.1 hz).1
      simp at this
      omega
    rw [hj2] at hz
    simp at hz
    subst hz
    unfold cst
    omega

theorem l00Max_s (a b : Int) (w : World) : Calls Try.prog 205 #[.int .i64 a, .int .i64 b] w fun e w' => e = .returned (.int .i64 (max a b)) ∧ w = w' := by
  by_cases h : b < a
  all_goals
    go_enter Try.func205, Try.ntmps205
    go_wp2
    go_ret
    exact ⟨ret_int (by omega), rfl⟩
theorem cgo_len : ∀ (l : List Inf) (acc : List Int), (cgo acc l).length = acc.length + l.length
  | [], acc => by simp [cgo]
  | x :: t, acc => by rw [cgo, cgo_len t]; simp; omega

end Go.Proofs.Ytogaellhkjjeaaa

/-
  Wales: wale of the program, l11Wale of the reference; l11Children, l07Live of the reference.
-/
namespace Go.Proofs.Ytogaellhkjjeaaa
set_option linter.unusedVariables false
set_option linter.unusedSimpArgs false
open Go.RowKit

set_option maxHeartbeats 4000000 in
set_option maxRecDepth 100000 in
theorem wale_any (m : Mc) (g : Nat) (k0 : Int) (w : World) (h : RdP w g m) (ok : okM m = true) (hk0 : 0 ≤ k0) (hk1 : k0 < m.ls.length) :
    Calls Try.prog 69 #[.pointer (some ⟨g, 0, none⟩), .int .i64 k0] w (GivesOw w 2 1 (waleL m k0).length (vI (waleL m k0))) := by
  obtain ⟨i0, hi, hz0, hz1, hz2⟩ := info_parts info_int
  have h300 := ls_len ok
  have hgl := h.lt
  obtain ⟨F, G, C, L, D, hc, h1, h2, h3, h4, h5, h6⟩ := h
  obtain ⟨AI, cI, rfl⟩ := RdN.shape h4
  have HI := Lib.hid h4
  have HC := Lib.hid hc
  have HOK := Lib.hid ok
  generalize hln : m.ls.length = n at *
  have HLN := Lib.hid hln
  obtain ⟨kn, rfl⟩ := Int.eq_ofNat_of_zero_le hk0
  have HY := Lib.hid (show waleL m (kn : Int) = [(kn : Int)] ++ waleT m (kn + 1) (kn : Int) by unfold waleL; rw [show ((kn : Int)).toNat = kn by omega]; rfl)
  obtain ⟨x0, x1, x2, x3, x4, x5, x6⟩ := hc.seven
  clear h1 h2 h3 h4 h5 h6 hc hln ok hk0
  generalize waleL m (kn : Int) = Y at *
  go_enter Try.func69, Try.ntmps69
  go_wp2
  go_loopw [1, 5] (fun i t wr => ∃ (q f : Nat) (acc : List Int), q < n ∧ q < f ∧ i = .int .i64 q ∧ wr.ownsRow w.heap.size 2 1 t acc.length (vI acc) ∧ acc.length + f ≤ kn + 2 ∧ Hid (Y = acc ++ waleT m f (q : Int)) ∧ Below w.heap.size w wr) (fun i _ _ => (intOf i).toNat)
  case atStart => exact ⟨kn, kn + 1, [(kn : Int)], by omega, by omega, rfl, World.ownsRow_lit _ #[.int .i64 (kn : Int)] 1 (Nat.le_refl _) (by unfold maxLen; omega) rfl, by simp; omega, HY.out, (Below.refl _ _).alloc (Nat.le_refl _) _⟩
  case round =>
    rename_i wr
    obtain ⟨q, f, acc, hq, hqf, rfl, hown, hak, hd, hb⟩ := hrel
    obtain ⟨y0, y1, y2, y3, y4, y5, y6⟩ := (HC.out.below hb hgl).seven
    obtain ⟨b, off, x, s, rfl, hbb, hlk, hcc, hs⟩ := (RdIs.below HI.out hb).at_ hq
    obtain ⟨A1, c1, rfl⟩ := hs.len
    obtain ⟨c0, c1', c2, c3, c4, c5⟩ := hcc.six
    have HB := Lib.hid hb
    have HO := Lib.hid hown
    have hlk' : m.ls[((q : Nat) : Int).toNat]? = some x := by rw [show ((q : Int)).toNat = q by omega]; exact hlk
    obtain ⟨f', rfl⟩ : ∃ f', f = f' + 1 := ⟨f - 1, by omega⟩
    cases hps : x.ps with
    | nil =>
      have HD := Lib.hid (show Y = acc by rw [hd.out, wale_end hlk' hps, List.append_nil])
      rw [hps] at c5
      clear hb hown hd hlk hlk' hcc hs hps
      go_wp2
      go_ret
      exact ⟨_, rfl, by rw [HD.out]; exact OwC.of_own HO.out, HB.out⟩
    | cons p t =>
      have hp := (ok_loop HOK.out hlk).1 p (by rw [hps]; exact List.mem_cons_self)
      obtain ⟨pn, rfl⟩ := Int.eq_ofNat_of_zero_le hp.1
      have HD := Lib.hid (show Y = (acc ++ [(pn : Int)]) ++ waleT m f' (pn : Int) by rw [hd.out, wale_next hlk' hps, List.append_assoc]; rfl)
      have hn0 : 0 < x.ps.length := by rw [hps]; simp
      obtain ⟨b2, o2, p2, rfl, hb2, hp2, hc2⟩ := hs.at_ hn0
      have hpe : p2 = (pn : Int) := by rw [hps] at hp2; simp at hp2; exact hp2.symm
      subst hpe
      rw [Nat.add_zero] at hc2
      have hn1 : (0 : Int) < (x.ps.length : Int) := by omega
      generalize x.ps.length = N at *
      clear hb hown hd hlk hlk' hcc hs hps hp2
      go_wp2_with (at_builtin; refine wpList_append_own _ rfl _ _ 27 rfl w.heap.size 2 i0 _ 1 8 Try.underlying27 hi hz0 hz1 hz2 rfl (by decide) _ _ _ rfl (HO.out.alloc _) ⟨wr.heap.size, 0, none⟩ 1 1 [.int .i64 (pn : Int)] rfl rfl ?c1 ?c2 ?c3 ?c4 ?c5 ?_)
      case c1 => exact new_cells' _ _ rfl
      case c2 => exact int_one _
      case c3 => unfold maxLen; omega
      case c4 => omega
      case c5 => have := HB.out.size; simp; omega
      intro v' w2 hown2 hgrow2 _
      have HB1 := Lib.hid (below_append' (HB.out.alloc HB.out.size _) (by have := HB.out.size; simp; omega) HO.out (by simp) hgrow2)
      have HO1 : Hid (w2.ownsRow w.heap.size 2 1 v' (acc ++ [(pn : Int)]).length (vI (acc ++ [(pn : Int)]))) := by unfold Hid; rw [vI_snoc, List.length_append]; exact hown2
      clear hgrow2 hown2
      go_wp2
      exact ⟨⟨pn, f', acc ++ [(pn : Int)], by omega, by omega, rfl, HO1.out, by simp; omega, HD.out, HB1.out⟩, by simp [intOf]; omega⟩
set_option maxHeartbeats 4000000 in
set_option maxRecDepth 100000 in
theorem l11Wale_any (m : Mc) (g : Nat) (k0 : Int) (w : World) (h : RdP w g m) (ok : okM m = true) (hk0 : 0 ≤ k0) (hk1 : k0 < m.ls.length) :
    Calls Try.prog 80 #[.pointer (some ⟨g, 0, none⟩), .int .i64 k0] w (GivesOw w 2 1 (waleL m k0).length (vI (waleL m k0))) := by
  obtain ⟨i0, hi, hz0, hz1, hz2⟩ := info_parts info_int
  have h300 := ls_len ok
  have hgl := h.lt
  obtain ⟨F, G, C, L, D, hc, h1, h2, h3, h4, h5, h6⟩ := h
  obtain ⟨AI, cI, rfl⟩ := RdN.shape h4
  have HI := Lib.hid h4
  have HC := Lib.hid hc
  have HOK := Lib.hid ok
  generalize hln : m.ls.length = n at *
  have HLN := Lib.hid hln
  obtain ⟨kn, rfl⟩ := Int.eq_ofNat_of_zero_le hk0
  have HY := Lib.hid (show waleL m (kn : Int) = [(kn : Int)] ++ waleT m (kn + 1) (kn : Int) by unfold waleL; rw [show ((kn : Int)).toNat = kn by omega]; rfl)
  obtain ⟨x0, x1, x2, x3, x4, x5, x6⟩ := hc.seven
  clear h1 h2 h3 h4 h5 h6 hc hln ok hk0
  generalize waleL m (kn : Int) = Y at *
  go_enter Try.func80, Try.ntmps80
  go_wp2
  go_loopw [1, 5] (fun i t wr => ∃ (q f : Nat) (acc : List Int), q < n ∧ q < f ∧ i = .int .i64 q ∧ wr.ownsRow w.heap.size 2 1 t acc.length (vI acc) ∧ acc.length + f ≤ kn + 2 ∧ Hid (Y = acc ++ waleT m f (q : Int)) ∧ Below w.heap.size w wr) (fun i _ _ => (intOf i).toNat)
  case atStart => exact ⟨kn, kn + 1, [(kn : Int)], by omega, by omega, rfl, World.ownsRow_lit _ #[.int .i64 (kn : Int)] 1 (Nat.le_refl _) (by unfold maxLen; omega) rfl, by simp; omega, HY.out, (Below.refl _ _).alloc (Nat.le_refl _) _⟩
  case round =>
    rename_i wr
    obtain ⟨q, f, acc, hq, hqf, rfl, hown, hak, hd, hb⟩ := hrel
    obtain ⟨y0, y1, y2, y3, y4, y5, y6⟩ := (HC.out.below hb hgl).seven
    obtain ⟨b, off, x, s, rfl, hbb, hlk, hcc, hs⟩ := (RdIs.below HI.out hb).at_ hq
    obtain ⟨A1, c1, rfl⟩ := hs.len
    obtain ⟨c0, c1', c2, c3, c4, c5⟩ := hcc.six
    have HB := Lib.hid hb
    have HO := Lib.hid hown
    have hlk' : m.ls[((q : Nat) : Int).toNat]? = some x := by rw [show ((q : Int)).toNat = q by omega]; exact hlk
    obtain ⟨f', rfl⟩ : ∃ f', f = f' + 1 := ⟨f - 1, by omega⟩
    cases hps : x.ps with
    | nil =>
      have HD := Lib.hid (show Y = acc by rw [hd.out, wale_end hlk' hps, List.append_nil])
      rw [hps] at c5
      clear hb hown hd hlk hlk' hcc hs hps
      go_wp2
      go_ret
      exact ⟨_, rfl, by rw [HD.out]; exact OwC.of_own HO.out, HB.out⟩
    | cons p t =>
      have hp := (ok_loop HOK.out hlk).1 p (by rw [hps]; exact List.mem_cons_self)
      obtain ⟨pn, rfl⟩ := Int.eq_ofNat_of_zero_le hp.1
      have HD := Lib.hid (show Y = (acc ++ [(pn : Int)]) ++ waleT m f' (pn : Int) by rw [hd.out, wale_next hlk' hps, List.append_assoc]; rfl)
      have hn0 : 0 < x.ps.length := by rw [hps]; simp
      obtain ⟨b2, o2, p2, rfl, hb2, hp2, hc2⟩ := hs.at_ hn0
      have hpe : p2 = (pn : Int) := by rw [hps] at hp2; simp at hp2; exact hp2.symm
      subst hpe
      rw [Nat.add_zero] at hc2
      have hn1 : (0 : Int) < (x.ps.length : Int) := by omega
      generalize x.ps.length = N at *
      clear hb hown hd hlk hlk' hcc hs hps hp2
      go_wp2_with (at_builtin; refine wpList_append_own _ rfl _ _ 27 rfl w.heap.size 2 i0 _ 1 8 Try.underlying27 hi hz0 hz1 hz2 rfl (by decide) _ _ _ rfl (HO.out.alloc _) ⟨wr.heap.size, 0, none⟩ 1 1 [.int .i64 (pn : Int)] rfl rfl ?c1 ?c2 ?c3 ?c4 ?c5 ?_)
      case c1 => exact new_cells' _ _ rfl
      case c2 => exact int_one _
      case c3 => unfold maxLen; omega
      case c4 => omega
      case c5 => have := HB.out.size; simp; omega
      intro v' w2 hown2 hgrow2 _
      have HB1 := Lib.hid (below_append' (HB.out.alloc HB.out.size _) (by have := HB.out.size; simp; omega) HO.out (by simp) hgrow2)
      have HO1 : Hid (w2.ownsRow w.heap.size 2 1 v' (acc ++ [(pn : Int)]).length (vI (acc ++ [(pn : Int)]))) := by unfold Hid; rw [vI_snoc, List.length_append]; exact hown2
      clear hgrow2 hown2
      go_wp2
      exact ⟨⟨pn, f', acc ++ [(pn : Int)], by omega, by omega, rfl, HO1.out, by simp; omega, HD.out, HB1.out⟩, by simp [intOf]; omega⟩

set_option maxHeartbeats 4000000 in
set_option maxRecDepth 100000 in
theorem l11Children_any (m : Mc) (g : Nat) (c : Int) (w : World) (h : RdP w g m) (h300 : m.ls.length ≤ 300) :
    Calls Try.prog 79 #[.pointer (some ⟨g, 0, none⟩), .int .i64 c] w (GivesOw w 2 1 (chL m c).length (vI (chL m c))) := by
  obtain ⟨i0, hi, hz0, hz1, hz2⟩ := info_parts info_int
  obtain ⟨F, G, C, L, D, hc, h1, h2, hL, h4, h5, h6⟩ := h
  rename RdIs w w.heap.size L m.ls => hL'
  obtain ⟨AI, cI, rfl⟩ := RdN.shape hL'
  have hgl : g < w.heap.size := block_lt_of_cell hc.seven.1
  have HI := Lib.hid hL'
  have HC := Lib.hid hc
  generalize hln : m.ls.length = n at *
  have HLN := Lib.hid hln
  clear hL' hc hln h1 h2 hL h5 h6
  generalize hY : chL m c = Y
  have HY := Lib.hid hY
  clear hY
  go_enter Try.func79, Try.ntmps79
  go_wp2
  go_loopw [5, 6] (fun t i wr => ∃ (k : Nat) (acc : List Int), k ≤ n ∧ i = .int .i64 k ∧ wr.ownsRow w.heap.size 2 1 t acc.length (vI acc) ∧ acc.length ≤ k ∧ Hid (Y = acc ++ chGo c (k : Int) (m.ls.drop k)) ∧ Below w.heap.size w wr) (fun _ i _ => n - (intOf i).toNat)
  case atStart => exact ⟨0, [], Nat.zero_le _, rfl, World.ownsRow_lit _ _ _ (Nat.le_refl _) (by unfold maxLen; omega) rfl, Nat.le_refl _, by unfold Hid; rw [← HY.out]; rfl, (Below.refl _ _).alloc (Nat.le_refl _) _⟩
  case round =>
    rename_i wr
    obtain ⟨k, acc, hk, rfl, hown, hak, hd, hb⟩ := hrel
    obtain ⟨x0, x1, x2, x3, x4, x5, x6⟩ := (HC.out.below hb hgl).seven
    by_cases hlt : k < n
    · obtain ⟨b, off, x, s, rfl, hbb, hlk, hcc, hs⟩ := (RdIs.below HI.out hb).at_ hlt
      obtain ⟨c0, c1, c2, c3, c4, c5⟩ := hcc.six
      have HB := Lib.hid hb
      have HO := Lib.hid hown
      have HS := Lib.hid (hs.more hb.size)
      cases hy : x.ps.contains c
      · have HD := Lib.hid (ch_no hd.out hlk hy)
        have HYY := Lib.hid hy
        clear hb hown hd hlk hs hcc hy
        go_wp2_with fail
        refine (l00Has_any _ _ c _ HS.out).mono ?_
        rintro e w1 ⟨rfl, hb1⟩
        rw [HYY.out]
        have HB1 := Lib.hid (HB.out.trans (hb1.mono HB.out.size))
        have HO1 := Lib.hid (own_below HO.out hb1)
        clear hb1
        go_wp2
        exact ⟨⟨k + 1, acc, by omega, by go_num, HO1.out, by omega, HD.out, HB1.out⟩, by simp [intOf]; omega⟩
      · have HD := Lib.hid (ch_yes hd.out hlk hy)
        have HYY := Lib.hid hy
        clear hb hown hd hlk hs hcc hy
        go_wp2_with fail
        refine (l00Has_any _ _ c _ HS.out).mono ?_
        rintro e w1 ⟨rfl, hb1⟩
        rw [HYY.out]
        have HB1 := Lib.hid (HB.out.trans (hb1.mono HB.out.size))
        have HO1 := Lib.hid (own_below HO.out hb1)
        clear hb1 HB HO
        go_wp2_with (at_builtin; refine wpList_append_own _ rfl _ _ 27 rfl w.heap.size 2 i0 _ 1 8 Try.underlying27 hi hz0 hz1 hz2 rfl (by decide) _ _ _ rfl (HO1.out.alloc _) ⟨w1.heap.size, 0, none⟩ 1 1 [.int .i64 (k : Int)] rfl rfl ?c1 ?c2 ?c3 ?c4 ?c5 ?_)
        case c1 => exact new_cells' _ _ rfl
        case c2 => exact int_one _
        case c3 => unfold maxLen; omega
        case c4 => omega
        case c5 => have := HB1.out.size; simp; omega
        intro v' w2 hown2 hgrow2 _
        have HB2 := Lib.hid (below_append' (HB1.out.alloc HB1.out.size _) (by have := HB1.out.size; simp; omega) HO1.out (by simp) hgrow2)
        have HO2 : Hid (w2.ownsRow w.heap.size 2 1 v' (acc ++ [(k : Int)]).length (vI (acc ++ [(k : Int)]))) := by unfold Hid; rw [vI_snoc, List.length_append]; exact hown2
        clear hgrow2 hown2
        go_wp2
        exact ⟨⟨k + 1, acc ++ [(k : Int)], by omega, by go_num, HO2.out, by simp; omega, HD.out, HB2.out⟩, by simp [intOf]; omega⟩
    · have HB := Lib.hid hb
      have HO := Lib.hid hown
      have HD := Lib.hid (show Y = acc by rw [hd.out, List.drop_of_length_le (by have := HLN.out; omega)]; simp [chGo])
      clear hb hown hd
      go_wp2
      go_ret
      exact ⟨_, rfl, by rw [HD.out]; exact OwC.of_own HO.out, HB.out⟩

theorem lv_next {m : Mc} {Y acc : List Int} {x : Int} (h : Y = acc ++ (ndGo m (m.wd + 3 - x).toNat x).flatMap (onL m)) (hx : x < m.wd + 3) : Y = (acc ++ (ndX m x).flatMap (onL m)) ++ (ndGo m (m.wd + 3 - (x + 1)).toNat (x + 1)).flatMap (onL m) := by
  rw [h, show (m.wd + 3 - x).toNat = (m.wd + 3 - (x + 1)).toNat + 1 by omega, ndGo, List.flatMap_append, List.append_assoc]
theorem onL_fr {m : Mc} {x : Int} {n : Nat} {l : List Int} (h : x = (n : Int)) (hl : m.fr[n]? = some l) : onL m (1, x) = l := by
  subst h
  unfold onL
  rw [if_neg (by simp), List.getD_eq_getElem?_getD, show ((1 : Int), (n : Int)).2.toNat = n by simp, hl]; rfl
theorem onL_bk {m : Mc} {x : Int} {n : Nat} {l : List Int} (h : x = (n : Int)) (hl : m.bk[n]? = some l) : onL m (2, x) = l := by
  subst h
  unfold onL
  rw [if_pos rfl, List.getD_eq_getElem?_getD, show ((2 : Int), (n : Int)).2.toNat = n by simp, hl]; rfl

set_option maxHeartbeats 4000000 in
set_option maxRecDepth 100000 in
theorem l07Live_any (m : Mc) (g : Nat) (w : World) (h : RdP w g m) (ok : okM m = true) :
    Calls Try.prog 77 #[.pointer (some ⟨g, 0, none⟩)] w (GivesOw w 2 1 (liveL m).length (vI (liveL m))) := by
  obtain ⟨i0, hi, hz0, hz1, hz2⟩ := info_parts info_int
  have hgl := h.lt
  obtain ⟨F, G, C, L, D, hc, h1, h2, h3, h4, h5, h6⟩ := h
  obtain ⟨d1, d2, d3, d4, d5, d6, -⟩ := ok_wd ok
  obtain ⟨AF, cF, rfl⟩ := RdN.shape h1
  obtain ⟨AG, cG, rfl⟩ := RdN.shape h2
  have HC := Lib.hid hc
  have HF := Lib.hid h1
  have HG := Lib.hid h2
  have HOK := Lib.hid ok
  have HY := Lib.hid (show liveL m = [] ++ (ndGo m (m.wd + 3 - (-3)).toNat (-3)).flatMap (onL m) by unfold liveL; rw [nd_start d1]; rfl)
  have hwr1 : IntKind.i64.wrap (m.wd - 1) = m.wd - 1 := IntWalk.i64_in _ (by omega)
  have hwr3 : IntKind.i64.wrap (m.wd + 3) = m.wd + 3 := IntWalk.i64_in _ (by omega)
  clear hc h1 h2 h3 h4 h5 h6 ok
  generalize liveL m = Y at *
  generalize hnf : m.fr.length = nf at *
  generalize hnb : m.bk.length = nb at *
  have HNF := Lib.hid hnf
  have HNB := Lib.hid hnb
  clear hnf hnb
  go_enter Try.func77, Try.ntmps77
  go_wp2
  go_loopw [3, 4] (fun t i wr => ∃ (x : Int) (acc : List Int), -3 ≤ x ∧ x ≤ m.wd + 3 ∧ i = .int .i64 x ∧ wr.ownsRow w.heap.size 2 1 t acc.length (vI acc) ∧ (acc.length : Int) ≤ 8 * (x + 3) ∧ Hid (Y = acc ++ (ndGo m (m.wd + 3 - x).toNat x).flatMap (onL m)) ∧ Below w.heap.size w wr) (fun _ i _ => (m.wd + 3 - intOf i).toNat)
  case atStart => exact ⟨-3, [], by omega, by omega, rfl, World.ownsRow_lit _ _ _ (Nat.le_refl _) (by unfold maxLen; omega) rfl, by simp, HY.out, (Below.refl _ _).alloc (Nat.le_refl _) _⟩
  case round =>
    rename_i wr
    obtain ⟨x, acc, q1, q2, rfl, hown, hak, hd, hb⟩ := hrel
    obtain ⟨y0, y1, y2, y3, y4, y5, y6⟩ := (HC.out.below hb hgl).seven
    by_cases hlt : x < m.wd + 3
    · have HN := lv_next hd.out hlt
      have HB := Lib.hid hb
      have HO := Lib.hid hown
      have hz := hb.size
      cases hb1 : inB 0 x (m.wd - 1) <;> cases hb2 : inB 0 (x - m.rk) (m.wd - 1)
      · rw [ndX_ff hb1 hb2] at HN
        have I1 := Lib.hid hb1
        have I2 := Lib.hid hb2
        have HD := Lib.hid (show Y = acc ++ (ndGo m (m.wd + 3 - (x + 1)).toNat (x + 1)).flatMap (onL m) by rw [HN]; simp)
        clear HN hb hown hd
        clear hb1 hb2
        go_wp2_with (go_at_call 122; refine (l00In_s _ _ _ _).mono ?_; rintro e w' ⟨rfl, rfl⟩; first | rw [I1.out] | rw [I2.out])
        exact ⟨⟨x + 1, acc, by omega, by omega, by go_num, HO.out, by omega, HD.out, HB.out⟩, by simp [intOf]; omega⟩
      · rw [ndX_ft hb1 hb2] at HN
        have I1 := Lib.hid hb1
        have I2 := Lib.hid hb2
        obtain ⟨zn, hzn⟩ := Int.eq_ofNat_of_zero_le (inB_iff.1 I2.out).1
        have hzf : zn < nb := by have := (inB_iff.1 I2.out).2; omega
        obtain ⟨bG, oG, xG, sG, hAG, hbbG, hlG, hcG, hsG⟩ := (RdLL.below HG.out HB.out).at_ hzf
        obtain ⟨AsG, csG, rfl⟩ := hsG.len
        have hxG4 : xG.length ≤ 4 := by have := onL_len HOK.out (2, x - m.rk); rw [onL_bk hzn hlG] at this; exact this
        have HXG := Lib.hid (onL_bk hzn hlG)
        have HRG := Lib.hid (hsG.reads).1
        have hzi0 : (0 : Int) ≤ x - m.rk := by omega
        have hzi1 : x - m.rk < (nb : Int) := by omega
        have hzt : (x - m.rk).toNat = zn := by omega
        subst hAG
        rw [← hzt] at hcG
        clear hlG hsG hzt hzn
        have HD := Lib.hid (show Y = (acc ++ xG) ++ (ndGo m (m.wd + 3 - (x + 1)).toNat (x + 1)).flatMap (onL m) by rw [HN]; simp [HXG.out])
        clear HN hb hown hd
        clear hb1 hb2
        go_wp2_with (first | (go_at_call 122; refine (l00In_s _ _ _ _).mono ?_; rintro e w' ⟨rfl, rfl⟩; first | rw [I1.out] | rw [I2.out]) | (at_builtin; refine wpList_append_any _ rfl _ _ _ rfl w.heap.size 2 i0 _ 1 8 Try.underlying27 hi hz0 hz1 hz2 rfl (by decide) _ _ _ rfl HO.out _ AsG xG.length csG (vI xG) rfl HRG.out (vI_one xG) (by first | (unfold maxLen; omega) | (rw [List.length_append]; unfold maxLen; omega)) (by first | omega | (rw [List.length_append]; omega)) HB.out.size ?_))
        intro v2 w2 hown2 hg2 hat2
        have HB2 := Lib.hid (HB.out.grown hg2 HB.out.size (fun kk hkk => (HO.out.lt kk hkk).1))
        have HO2 : Hid (w2.ownsRow w.heap.size 2 1 v2 (acc ++ xG).length (vI (acc ++ xG))) := by unfold Hid; rw [List.length_append, vI_append]; first | exact hown2 | (rw [List.length_append]; exact hown2)
        clear hown2 hg2 hat2 HO HB y0 y1 y2 y3 y4 y5 y6
        have HB := HB2
        have HO := HO2
        clear HB2 HO2
        obtain ⟨y0, y1, y2, y3, y4, y5, y6⟩ := (HC.out.below HB.out hgl).seven
        go_wp2
        exact ⟨⟨x + 1, acc ++ xG, by omega, by omega, by go_num, HO.out, by simp; omega, HD.out, HB.out⟩, by simp [intOf]; omega⟩
      · rw [ndX_tf hb1 hb2] at HN
        have I1 := Lib.hid hb1
        have I2 := Lib.hid hb2
        obtain ⟨xn, hxn⟩ := Int.eq_ofNat_of_zero_le (inB_iff.1 I1.out).1
        have hxf : xn < nf := by have := (inB_iff.1 I1.out).2; omega
        obtain ⟨bF, oF, xF, sF, hAF, hbbF, hlF, hcF, hsF⟩ := (RdLL.below HF.out HB.out).at_ hxf
        obtain ⟨AsF, csF, rfl⟩ := hsF.len
        have hxF4 : xF.length ≤ 4 := by have := onL_len HOK.out (1, x); rw [onL_fr hxn hlF] at this; exact this
        have HXF := Lib.hid (onL_fr hxn hlF)
        have HRF := Lib.hid (hsF.reads).1
        have hxi0 : (0 : Int) ≤ x := by omega
        have hxi1 : x < (nf : Int) := by omega
        have hxt : x.toNat = xn := by omega
        subst hAF
        rw [← hxt] at hcF
        clear hlF hsF hxt hxn
        have HD := Lib.hid (show Y = (acc ++ xF) ++ (ndGo m (m.wd + 3 - (x + 1)).toNat (x + 1)).flatMap (onL m) by rw [HN]; simp [HXF.out])
        clear HN hb hown hd
        clear hb1
        go_wp2_with (first | (go_at_call 122; refine (l00In_s _ _ _ _).mono ?_; rintro e w' ⟨rfl, rfl⟩; first | rw [I1.out] | rw [I2.out]) | (at_builtin; refine wpList_append_any _ rfl _ _ _ rfl w.heap.size 2 i0 _ 1 8 Try.underlying27 hi hz0 hz1 hz2 rfl (by decide) _ _ _ rfl HO.out _ AsF xF.length csF (vI xF) rfl HRF.out (vI_one xF) (by first | (unfold maxLen; omega) | (rw [List.length_append]; unfold maxLen; omega)) (by first | omega | (rw [List.length_append]; omega)) HB.out.size ?_))
        intro v1 w1 hown1 hg1 hat1
        have HB1 := Lib.hid (HB.out.grown hg1 HB.out.size (fun kk hkk => (HO.out.lt kk hkk).1))
        have HO1 : Hid (w1.ownsRow w.heap.size 2 1 v1 (acc ++ xF).length (vI (acc ++ xF))) := by unfold Hid; rw [List.length_append, vI_append]; first | exact hown1 | (rw [List.length_append]; exact hown1)
        clear hown1 hg1 hat1 HO HB y0 y1 y2 y3 y4 y5 y6
        have HB := HB1
        have HO := HO1
        clear HB1 HO1
        obtain ⟨y0, y1, y2, y3, y4, y5, y6⟩ := (HC.out.below HB.out hgl).seven
        clear hb2
        go_wp2_with (go_at_call 122; refine (l00In_s _ _ _ _).mono ?_; rintro e w' ⟨rfl, rfl⟩; rw [I2.out])
        exact ⟨⟨x + 1, acc ++ xF, by omega, by omega, by go_num, HO.out, by simp; omega, HD.out, HB.out⟩, by simp [intOf]; omega⟩
      · rw [ndX_tt hb1 hb2] at HN
        have I1 := Lib.hid hb1
        have I2 := Lib.hid hb2
        obtain ⟨xn, hxn⟩ := Int.eq_ofNat_of_zero_le (inB_iff.1 I1.out).1
        have hxf : xn < nf := by have := (inB_iff.1 I1.out).2; omega
        obtain ⟨bF, oF, xF, sF, hAF, hbbF, hlF, hcF, hsF⟩ := (RdLL.below HF.out HB.out).at_ hxf
        obtain ⟨AsF, csF, rfl⟩ := hsF.len
        have hxF4 : xF.length ≤ 4 := by have := onL_len HOK.out (1, x); rw [onL_fr hxn hlF] at this; exact this
        have HXF := Lib.hid (onL_fr hxn hlF)
        have HRF := Lib.hid (hsF.reads).1
        have hxi0 : (0 : Int) ≤ x := by omega
        have hxi1 : x < (nf : Int) := by omega
        have hxt : x.toNat = xn := by omega
        subst hAF
        rw [← hxt] at hcF
        clear hlF hsF hxt hxn
        have HN1 := Lib.hid HN
        clear HN hb hown hd
        clear hb1
        go_wp2_with (first | (go_at_call 122; refine (l00In_s _ _ _ _).mono ?_; rintro e w' ⟨rfl, rfl⟩; first | rw [I1.out] | rw [I2.out]) | (at_builtin; refine wpList_append_any _ rfl _ _ _ rfl w.heap.size 2 i0 _ 1 8 Try.underlying27 hi hz0 hz1 hz2 rfl (by decide) _ _ _ rfl HO.out _ AsF xF.length csF (vI xF) rfl HRF.out (vI_one xF) (by first | (unfold maxLen; omega) | (rw [List.length_append]; unfold maxLen; omega)) (by first | omega | (rw [List.length_append]; omega)) HB.out.size ?_))
        intro v1 w1 hown1 hg1 hat1
        have HB1 := Lib.hid (HB.out.grown hg1 HB.out.size (fun kk hkk => (HO.out.lt kk hkk).1))
        have HO1 : Hid (w1.ownsRow w.heap.size 2 1 v1 (acc ++ xF).length (vI (acc ++ xF))) := by unfold Hid; rw [List.length_append, vI_append]; first | exact hown1 | (rw [List.length_append]; exact hown1)
        clear hown1 hg1 hat1 HO HB y0 y1 y2 y3 y4 y5 y6
        have HB := HB1
        have HO := HO1
        clear HB1 HO1
        obtain ⟨y0, y1, y2, y3, y4, y5, y6⟩ := (HC.out.below HB.out hgl).seven
        obtain ⟨zn, hzn⟩ := Int.eq_ofNat_of_zero_le (inB_iff.1 I2.out).1
        have hzf : zn < nb := by have := (inB_iff.1 I2.out).2; omega
        obtain ⟨bG, oG, xG, sG, hAG, hbbG, hlG, hcG, hsG⟩ := (RdLL.below HG.out HB.out).at_ hzf
        obtain ⟨AsG, csG, rfl⟩ := hsG.len
        have hxG4 : xG.length ≤ 4 := by have := onL_len HOK.out (2, x - m.rk); rw [onL_bk hzn hlG] at this; exact this
        have HXG := Lib.hid (onL_bk hzn hlG)
        have HRG := Lib.hid (hsG.reads).1
        have hzi0 : (0 : Int) ≤ x - m.rk := by omega
        have hzi1 : x - m.rk < (nb : Int) := by omega
        have hzt : (x - m.rk).toNat = zn := by omega
        subst hAG
        rw [← hzt] at hcG
        clear hlG hsG hzt hzn
        have HD := Lib.hid (show Y = ((acc ++ xF) ++ xG) ++ (ndGo m (m.wd + 3 - (x + 1)).toNat (x + 1)).flatMap (onL m) by rw [HN1.out]; simp [HXF.out, HXG.out])
        clear hb2
        go_wp2_with (first | (go_at_call 122; refine (l00In_s _ _ _ _).mono ?_; rintro e w' ⟨rfl, rfl⟩; first | rw [I1.out] | rw [I2.out]) | (at_builtin; refine wpList_append_any _ rfl _ _ _ rfl w.heap.size 2 i0 _ 1 8 Try.underlying27 hi hz0 hz1 hz2 rfl (by decide) _ _ _ rfl HO.out _ AsG xG.length csG (vI xG) rfl HRG.out (vI_one xG) (by first | (unfold maxLen; omega) | (rw [List.length_append]; unfold maxLen; omega)) (by first | omega | (rw [List.length_append]; omega)) HB.out.size ?_))
        intro v2 w2 hown2 hg2 hat2
        have HB2 := Lib.hid (HB.out.grown hg2 HB.out.size (fun kk hkk => (HO.out.lt kk hkk).1))
        have HO2 : Hid (w2.ownsRow w.heap.size 2 1 v2 ((acc ++ xF) ++ xG).length (vI ((acc ++ xF) ++ xG))) := by unfold Hid; rw [List.length_append, vI_append]; first | exact hown2 | (rw [List.length_append]; exact hown2)
        clear hown2 hg2 hat2 HO HB y0 y1 y2 y3 y4 y5 y6
        have HB := HB2
        have HO := HO2
        clear HB2 HO2
        obtain ⟨y0, y1, y2, y3, y4, y5, y6⟩ := (HC.out.below HB.out hgl).seven
        go_wp2
        exact ⟨⟨x + 1, (acc ++ xF) ++ xG, by omega, by omega, by go_num, HO.out, by simp; omega, HD.out, HB.out⟩, by simp [intOf]; omega⟩
    · have HB := Lib.hid hb
      have HO := Lib.hid hown
      have HD := Lib.hid (show Y = acc by rw [hd.out, show (m.wd + 3 - x).toNat = 0 by omega]; simp [ndGo])
      clear hb hown hd
      go_wp2
      go_ret
      exact ⟨_, rfl, by rw [HD.out]; exact OwC.of_own HO.out, HB.out⟩

end Go.Proofs.Ytogaellhkjjeaaa

/-
  What the laws' szMachine and eqMachine do.
-/
namespace Go.Proofs.Ytogaellhkjjeaaa
set_option linter.unusedVariables false
set_option linter.unusedSimpArgs false
open Go.RowKit

theorem szI_any (v : Value) (l : List Int) (left : Int) (w : World) (B : Nat) (hl : RdI w B v l) (h0 : 0 ≤ left) (h1 : left ≤ 1048576) :
    Calls Try.prog 84 #[v, .int .i64 left] w fun e w' => e = .returned (.int .i64 (szOfM left l.length)) ∧ w = w' := by
  obtain ⟨A, n, c, rfl, hln, hl, gl⟩ := hl
  rw [hl.out]
  clear gl
  by_cases h : (n : Int) ≤ left
  · have HS := Lib.hid (show szOfM left n = left - n by simp [szOfM, h])
    go_enter Try.func84, Try.ntmps84
    go_wp2
    go_ret
    exact ⟨ret_int HS.out.symm, rfl⟩
  · have HS := Lib.hid (show szOfM left n = -1 by simp [szOfM, h])
    go_enter Try.func84, Try.ntmps84
    go_wp2
    go_ret
    exact ⟨ret_int HS.out.symm, rfl⟩
theorem szCs_any (v : Value) (l : List Car) (left : Int) (w : World) (B : Nat) (hl : RdCs w B v l) (h0 : 0 ≤ left) (h1 : left ≤ 1048576) :
    Calls Try.prog 82 #[v, .int .i64 left] w fun e w' => e = .returned (.int .i64 (szOfM left l.length)) ∧ w = w' := by
  obtain ⟨A, n, c, rfl, hln, hl, gl⟩ := hl
  rw [hl.out]
  clear gl
  by_cases h : (n : Int) ≤ left
  · have HS := Lib.hid (show szOfM left n = left - n by simp [szOfM, h])
    go_enter Try.func82, Try.ntmps82
    go_wp2
    go_ret
    exact ⟨ret_int HS.out.symm, rfl⟩
  · have HS := Lib.hid (show szOfM left n = -1 by simp [szOfM, h])
    go_enter Try.func82, Try.ntmps82
    go_wp2
    go_ret
    exact ⟨ret_int HS.out.symm, rfl⟩
theorem szInfo_any (x : Inf) (s : Value) (left : Int) (w : World) (hs : RdI w w.heap.size s x.ps) (h0 : 0 ≤ left) (h1 : left ≤ 1048576) :
    Calls Try.prog 140 #[.agg #[.int .i64 x.k, .int .i64 x.y, .int .i64 x.b, .int .i64 x.p, .int .i64 x.d, s], .int .i64 left] w fun e w' => e = .returned (.int .i64 (szOfM left x.ps.length)) ∧ Below w.heap.size w w' := by
  obtain ⟨A0, n0, c0, rfl⟩ := RdI.shape' hs
  have HS := Lib.hid (hs.up' ((Below.refl _ _).alloc (Nat.le_refl _) (.cells #[.int .i64 x.k, .int .i64 x.y, .int .i64 x.b, .int .i64 x.p, .int .i64 x.d, .slice A0 n0 c0] 148)) (by simp))
  clear hs
  by_cases h : (x.ps.length : Int) ≤ left
  · have HZ := Lib.hid (szOfM_yes h)
    rw [HZ.out]
    go_enter Try.func140, Try.ntmps140
    go_wp2_with fail
    refine (szI_any _ x.ps _ _ _ HS.out h0 h1).mono ?_
    rintro e w1 ⟨rfl, rfl⟩
    rw [HZ.out]
    go_wp2
    go_ret
    exact ⟨rfl, (Below.refl _ _).alloc (Nat.le_refl _) _⟩
  · have HZ := Lib.hid (szOfM_no h)
    rw [HZ.out]
    go_enter Try.func140, Try.ntmps140
    go_wp2_with fail
    refine (szI_any _ x.ps _ _ _ HS.out h0 h1).mono ?_
    rintro e w1 ⟨rfl, rfl⟩
    rw [HZ.out]
    go_wp2
    go_ret
    exact ⟨rfl, (Below.refl _ _).alloc (Nat.le_refl _) _⟩

/- a size over a slice whose elements hold slices: szLL theorem · laws.szInt64SS function · List (List Int) the datum's type · RdLL its reading · szLLd its size · List.length an element's · obtain ⟨b, off, x, s, rfl, hbb, hlk, hc, hs⟩ := (RdLL.below HL.out hb).at_ hlt the element taken · have hcell := hc its cells · (szI_any _ x _ _ _ HS.out z0 z1) the element's contract -/
set_option maxHeartbeats 2000000 in
set_option maxRecDepth 100000 in
theorem szLL_any (v : Value) (l : List (List Int)) (left : Int) (w : World) (hl : RdLL w w.heap.size v l) (h0 : 0 ≤ left) (h1 : left ≤ 1048576) :
    Calls Try.prog 81 #[v, .int .i64 left] w fun e w' => e = .returned (.int .i64 (szLLd left l)) ∧ Below w.heap.size w w' := by
  obtain ⟨A, cp, rfl⟩ := hl.shape
  have hbig := RdN.le hl
  have HL := Lib.hid hl
  clear hl
  generalize hR : szLLd left l = R
  have HR := Lib.hid hR
  clear hR
  by_cases hle : (l.length : Int) ≤ left
  · have HD := Lib.hid (show R = szGo List.length (left - l.length) (l.drop 0) by rw [← HR.out]; simp [szLLd, hle])
    clear HR
    generalize hln : l.length = n at *
    have HLN := Lib.hid hln
    clear hln
    go_enter Try.func81, Try.ntmps81
    go_wp2
    go_loopw [1, 5] (fun t i wr => ∃ (k : Nat) (z : Int), k ≤ n ∧ i = .int .i64 k ∧ t = .int .i64 z ∧ 0 ≤ z ∧ z ≤ 1048576 ∧ Hid (R = szGo List.length z (l.drop k)) ∧ Below w.heap.size w wr) (fun _ i _ => n - (intOf i).toNat)
    case atStart => exact ⟨0, left - n, Nat.zero_le _, rfl, rfl, by omega, by omega, HD.out, Below.refl _ _⟩
    case round =>
      rename_i wr
      obtain ⟨k, z, hk, rfl, rfl, z0, z1, hd, hb⟩ := hrel
      clear hle h0 h1
      by_cases hlt : k < n
      · obtain ⟨b, off, x, s, rfl, hbb, hlk, hc, hs⟩ := (RdLL.below HL.out hb).at_ hlt
        have hcell := hc
        obtain ⟨A1, n1, c1, rfl⟩ := RdI.shape' hs
        have HS := Lib.hid (hs.more hb.size)
        have HB := Lib.hid hb
        by_cases hx : ((List.length x : Nat) : Int) ≤ z
        · have HN := Lib.hid (szGo_yes hd.out hlk hx)
          have HZ := Lib.hid (szOfM_yes hx)
          clear hb hlk hs hc hd
          go_wp2_with fail
          refine (szI_any _ x _ _ _ HS.out z0 z1).mono ?_
          rintro e w1 ⟨rfl, hb1⟩
          have HB1 : Hid (Below w.heap.size w w1) := by first | exact Lib.hid (HB.out.trans (hb1.mono HB.out.size)) | (subst hb1; exact HB)
          rw [HZ.out]
          clear hb1
          go_wp2
          exact ⟨⟨k + 1, z - (List.length x : Nat), by omega, by go_num, rfl, by omega, by omega, HN.out, HB1.out⟩, by simp [intOf]; omega⟩
        · have HN := Lib.hid (szGo_no hd.out hlk hx)
          have HZ := Lib.hid (szOfM_no hx)
          clear hb hlk hs hc hd
          go_wp2_with fail
          refine (szI_any _ x _ _ _ HS.out z0 z1).mono ?_
          rintro e w1 ⟨rfl, hb1⟩
          have HB1 : Hid (Below w.heap.size w w1) := by first | exact Lib.hid (HB.out.trans (hb1.mono HB.out.size)) | (subst hb1; exact HB)
          rw [HZ.out]
          clear hb1
          go_wp2
          go_ret
          exact ⟨ret_int HN.out.symm, HB1.out⟩
      · have HB := Lib.hid hb
        have HN := Lib.hid (show R = z by rw [hd.out, List.drop_of_length_le (by have := HLN.out; omega)]; rfl)
        clear hb hd
        go_wp2
        go_ret
        exact ⟨ret_int HN.out.symm, HB.out⟩
  · have HN := Lib.hid (show R = -1 by rw [← HR.out]; simp [szLLd, hle])
    clear HR
    generalize hln : l.length = n at *
    go_enter Try.func81, Try.ntmps81
    go_wp2
    go_ret
    exact ⟨ret_int HN.out.symm, Below.refl _ _⟩
/- a size over a slice whose elements hold slices: szIs theorem · laws.szInfoS function · List Inf the datum's type · RdIs its reading · szIsd its size · infL an element's · obtain ⟨b, off, x, s, rfl, hbb, hlk, hc, hs⟩ := (RdIs.below HL.out hb).at_ hlt the element taken · obtain ⟨e0, e1, e2, e3, e4, e5⟩ := hc.six its cells · ((szInfo_any x _ _ _ (HS.out.more (Nat.le_refl _)) z0 z1)) the element's contract -/
set_option maxHeartbeats 2000000 in
set_option maxRecDepth 100000 in
theorem szIs_any (v : Value) (l : List Inf) (left : Int) (w : World) (hl : RdIs w w.heap.size v l) (h0 : 0 ≤ left) (h1 : left ≤ 1048576) :
    Calls Try.prog 83 #[v, .int .i64 left] w fun e w' => e = .returned (.int .i64 (szIsd left l)) ∧ Below w.heap.size w w' := by
  obtain ⟨A, cp, rfl⟩ := hl.shape
  have hbig := RdN.le hl
  have HL := Lib.hid hl
  clear hl
  generalize hR : szIsd left l = R
  have HR := Lib.hid hR
  clear hR
  by_cases hle : (l.length : Int) ≤ left
  · have HD := Lib.hid (show R = szGo infL (left - l.length) (l.drop 0) by rw [← HR.out]; simp [szIsd, hle])
    clear HR
    generalize hln : l.length = n at *
    have HLN := Lib.hid hln
    clear hln
    go_enter Try.func83, Try.ntmps83
    go_wp2
    go_loopw [1, 5] (fun t i wr => ∃ (k : Nat) (z : Int), k ≤ n ∧ i = .int .i64 k ∧ t = .int .i64 z ∧ 0 ≤ z ∧ z ≤ 1048576 ∧ Hid (R = szGo infL z (l.drop k)) ∧ Below w.heap.size w wr) (fun _ i _ => n - (intOf i).toNat)
    case atStart => exact ⟨0, left - n, Nat.zero_le _, rfl, rfl, by omega, by omega, HD.out, Below.refl _ _⟩
    case round =>
      rename_i wr
      obtain ⟨k, z, hk, rfl, rfl, z0, z1, hd, hb⟩ := hrel
      clear hle h0 h1
      by_cases hlt : k < n
      · obtain ⟨b, off, x, s, rfl, hbb, hlk, hc, hs⟩ := (RdIs.below HL.out hb).at_ hlt
        obtain ⟨e0, e1, e2, e3, e4, e5⟩ := hc.six
        obtain ⟨A1, n1, c1, rfl⟩ := RdI.shape' hs
        have HS := Lib.hid (hs.more hb.size)
        have HB := Lib.hid hb
        by_cases hx : ((infL x : Nat) : Int) ≤ z
        · have HN := Lib.hid (szGo_yes hd.out hlk hx)
          have HZ := Lib.hid (szOfM_yes hx)
          clear hb hlk hs hc hd
          go_wp2_with fail
          refine ((szInfo_any x _ _ _ (HS.out.more (Nat.le_refl _)) z0 z1)).mono ?_
          rintro e w1 ⟨rfl, hb1⟩
          have HB1 : Hid (Below w.heap.size w w1) := by first | exact Lib.hid (HB.out.trans (hb1.mono HB.out.size)) | (subst hb1; exact HB)
          rw [HZ.out]
          clear hb1
          go_wp2
          exact ⟨⟨k + 1, z - (infL x : Nat), by omega, by go_num, rfl, by omega, by omega, HN.out, HB1.out⟩, by simp [intOf]; omega⟩
        · have HN := Lib.hid (szGo_no hd.out hlk hx)
          have HZ := Lib.hid (szOfM_no hx)
          clear hb hlk hs hc hd
          go_wp2_with fail
          refine ((szInfo_any x _ _ _ (HS.out.more (Nat.le_refl _)) z0 z1)).mono ?_
          rintro e w1 ⟨rfl, hb1⟩
          have HB1 : Hid (Below w.heap.size w w1) := by first | exact Lib.hid (HB.out.trans (hb1.mono HB.out.size)) | (subst hb1; exact HB)
          rw [HZ.out]
          clear hb1
          go_wp2
          go_ret
          exact ⟨ret_int HN.out.symm, HB1.out⟩
      · have HB := Lib.hid hb
        have HN := Lib.hid (show R = z by rw [hd.out, List.drop_of_length_le (by have := HLN.out; omega)]; rfl)
        clear hb hd
        go_wp2
        go_ret
        exact ⟨ret_int HN.out.symm, HB.out⟩
  · have HN := Lib.hid (show R = -1 by rw [← HR.out]; simp [szIsd, hle])
    clear HR
    generalize hln : l.length = n at *
    go_enter Try.func83, Try.ntmps83
    go_wp2
    go_ret
    exact ⟨ret_int HN.out.symm, Below.refl _ _⟩

/-- What szM is, step by step. -/
theorem szM_steps {m : Mc} {z1 z2 z3 z4 z5 : Int} (e1 : szLLd 1048576 m.fr = z1) (e2 : szLLd z1 m.bk = z2) (e3 : szOfM z2 m.cs.length = z3) (e4 : szIsd z3 m.ls = z4) (e5 : szOfM z4 m.dr.length = z5) :
    szM 1048576 m = if z1 < 0 then -1 else if z2 < 0 then -1 else if z3 < 0 then -1 else if z4 < 0 then -1 else z5 := by
  subst e1 e2 e3 e4 e5
  rfl
theorem szLLd_lo {left : Int} {l : List (List Int)} (h : 0 ≤ left) (h1 : left ≤ 1048576) : -1 ≤ szLLd left l ∧ szLLd left l ≤ 1048576 := by
  unfold szLLd; split
  · exact szGo_lo _ l _ (by omega) (by omega)
  · omega
theorem szIsd_lo {left : Int} {l : List Inf} (h : 0 ≤ left) (h1 : left ≤ 1048576) : -1 ≤ szIsd left l ∧ szIsd left l ≤ 1048576 := by
  unfold szIsd; split
  · exact szGo_lo _ l _ (by omega) (by omega)
  · omega

set_option maxHeartbeats 4000000 in
set_option maxRecDepth 100000 in
theorem szMachine_any (v : Value) (m : Mc) (w : World) (hl : RdM w w.heap.size v m) :
    Calls Try.prog 31 #[v, .int .i64 1048576] w fun e w' => e = .returned (.int .i64 (szM 1048576 m)) ∧ Below w.heap.size w w' := by
  obtain ⟨f, b, cs, ls, d, rfl, h1, h2, h3, h4, h5, h6⟩ := hl
  obtain ⟨AF, cF, rfl⟩ := RdN.shape h1
  obtain ⟨AG, cG, rfl⟩ := RdN.shape h2
  obtain ⟨AC, cC, rfl⟩ := RdS.lens h3
  obtain ⟨AI, cI, rfl⟩ := RdN.shape h4
  obtain ⟨AD, cD, rfl⟩ := RdI.len h5
  have HF := Lib.hid h1
  have HG := Lib.hid h2
  have HC := Lib.hid h3
  have HI := Lib.hid h4
  have HD := Lib.hid h5
  clear h1 h2 h3 h4 h5 h6
  obtain ⟨z1, e1⟩ : ∃ z, szLLd 1048576 m.fr = z := ⟨_, rfl⟩
  obtain ⟨z2, e2⟩ : ∃ z, szLLd z1 m.bk = z := ⟨_, rfl⟩
  obtain ⟨z3, e3⟩ : ∃ z, szOfM z2 m.cs.length = z := ⟨_, rfl⟩
  obtain ⟨z4, e4⟩ : ∃ z, szIsd z3 m.ls = z := ⟨_, rfl⟩
  obtain ⟨z5, e5⟩ : ∃ z, szOfM z4 m.dr.length = z := ⟨_, rfl⟩
  have HZ := Lib.hid (szM_steps e1 e2 e3 e4 e5)
  have E1 := Lib.hid e1
  have E2 := Lib.hid e2
  have E3 := Lib.hid e3
  have E4 := Lib.hid e4
  have E5 := Lib.hid e5
  clear e1 e2 e3 e4 e5
  have hcl : ∀ w1, Below (w.alloc (.cells #[.int .i64 m.wd, .int .i64 m.rk, .slice AF m.fr.length cF, .slice AG m.bk.length cG, .slice AC m.cs.length cC, .slice AI m.ls.length cI, .slice AD m.dr.length cD] 46)).heap.size (w.alloc (.cells #[.int .i64 m.wd, .int .i64 m.rk, .slice AF m.fr.length cF, .slice AG m.bk.length cG, .slice AC m.cs.length cC, .slice AI m.ls.length cI, .slice AD m.dr.length cD] 46)) w1 → CellsAt w1 w.heap.size 0 [.int .i64 m.wd, .int .i64 m.rk, .slice AF m.fr.length cF, .slice AG m.bk.length cG, .slice AC m.cs.length cC, .slice AI m.ls.length cI, .slice AD m.dr.length cD] := fun w1 hb => (CellsAt.of_alloc (us := [.int .i64 m.wd, .int .i64 m.rk, .slice AF m.fr.length cF, .slice AG m.bk.length cG, .slice AC m.cs.length cC, .slice AI m.ls.length cI, .slice AD m.dr.length cD])).below hb (by simp)
  have B0 := Lib.hid (Below.refl (w.alloc (.cells #[.int .i64 m.wd, .int .i64 m.rk, .slice AF m.fr.length cF, .slice AG m.bk.length cG, .slice AC m.cs.length cC, .slice AI m.ls.length cI, .slice AD m.dr.length cD] 46)).heap.size (w.alloc (.cells #[.int .i64 m.wd, .int .i64 m.rk, .slice AF m.fr.length cF, .slice AG m.bk.length cG, .slice AC m.cs.length cC, .slice AI m.ls.length cI, .slice AD m.dr.length cD] 46)))
  have Bw : Below w.heap.size w (w.alloc (.cells #[.int .i64 m.wd, .int .i64 m.rk, .slice AF m.fr.length cF, .slice AG m.bk.length cG, .slice AC m.cs.length cC, .slice AI m.ls.length cI, .slice AD m.dr.length cD] 46)) := (Below.refl _ _).alloc (Nat.le_refl _) _
  have BW := Lib.hid Bw
  clear Bw
  go_enter Try.func31, Try.ntmps31
  go_wp2_with fail
  refine (szLL_any _ m.fr _ _ (RdLL.up HF.out (BW.out.trans (B0.out.mono (by simp))) (BW.out.trans (B0.out.mono (by simp))).size) (by omega) (by omega)).mono ?_
  rintro e w1 ⟨rfl, hb⟩
  rw [E1.out]
  have B1 := Lib.hid (B0.out.trans (hb.mono B0.out.size))
  clear hb
  obtain ⟨l1, u1⟩ : -1 ≤ z1 ∧ z1 ≤ 1048576 := by rw [← E1.out]; exact szLLd_lo (by omega) (by omega)
  by_cases p1 : z1 < 0
  · have hq := Lib.hid (show szM 1048576 m = -1 by rw [HZ.out, if_pos (show z1 < 0 by omega)])
    go_wp2
    go_ret
    exact ⟨ret_int hq.out.symm, (BW.out.trans (B1.out.mono (by simp)))⟩
  obtain ⟨x0, x1, x2, x3, x4, x5, x6⟩ := (hcl _ B1.out).seven
  go_wp2_with fail
  clear x0 x1 x2 x3 x4 x5 x6
  refine (szLL_any _ m.bk _ _ (RdLL.up HG.out (BW.out.trans (B1.out.mono (by simp))) (BW.out.trans (B1.out.mono (by simp))).size) (by omega) (by omega)).mono ?_
  rintro e w2 ⟨rfl, hb⟩
  rw [E2.out]
  have B2 := Lib.hid (B1.out.trans (hb.mono B1.out.size))
  clear hb
  obtain ⟨l2, u2⟩ : -1 ≤ z2 ∧ z2 ≤ 1048576 := by rw [← E2.out]; exact szLLd_lo (by omega) (by omega)
  by_cases p2 : z2 < 0
  · have hq := Lib.hid (show szM 1048576 m = -1 by rw [HZ.out, if_neg (show ¬ z1 < 0 by omega), if_pos (show z2 < 0 by omega)])
    go_wp2
    go_ret
    exact ⟨ret_int hq.out.symm, (BW.out.trans (B2.out.mono (by simp)))⟩
  obtain ⟨x0, x1, x2, x3, x4, x5, x6⟩ := (hcl _ B2.out).seven
  go_wp2_with fail
  clear x0 x1 x2 x3 x4 x5 x6
  refine (szCs_any _ m.cs _ _ _ (RdCs.up HC.out (BW.out.trans (B2.out.mono (by simp))) (BW.out.trans (B2.out.mono (by simp))).size) (by omega) (by omega)).mono ?_
  rintro e w3 ⟨rfl, rfl⟩
  rw [E3.out]
  have B3 := B2
  obtain ⟨l3, u3⟩ : -1 ≤ z3 ∧ z3 ≤ 1048576 := by rw [← E3.out]; exact szOfM_lo (by omega) (by omega)
  by_cases p3 : z3 < 0
  · have hq := Lib.hid (show szM 1048576 m = -1 by rw [HZ.out, if_neg (show ¬ z1 < 0 by omega), if_neg (show ¬ z2 < 0 by omega), if_pos (show z3 < 0 by omega)])
    go_wp2
    go_ret
    exact ⟨ret_int hq.out.symm, (BW.out.trans (B3.out.mono (by simp)))⟩
  obtain ⟨x0, x1, x2, x3, x4, x5, x6⟩ := (hcl _ B3.out).seven
  go_wp2_with fail
  clear x0 x1 x2 x3 x4 x5 x6
  refine (szIs_any _ m.ls _ _ (RdIs.up HI.out (BW.out.trans (B3.out.mono (by simp))) (BW.out.trans (B3.out.mono (by simp))).size) (by omega) (by omega)).mono ?_
  rintro e w4 ⟨rfl, hb⟩
  rw [E4.out]
  have B4 := Lib.hid (B3.out.trans (hb.mono B3.out.size))
  clear hb
  obtain ⟨l4, u4⟩ : -1 ≤ z4 ∧ z4 ≤ 1048576 := by rw [← E4.out]; exact szIsd_lo (by omega) (by omega)
  by_cases p4 : z4 < 0
  · have hq := Lib.hid (show szM 1048576 m = -1 by rw [HZ.out, if_neg (show ¬ z1 < 0 by omega), if_neg (show ¬ z2 < 0 by omega), if_neg (show ¬ z3 < 0 by omega), if_pos (show z4 < 0 by omega)])
    go_wp2
    go_ret
    exact ⟨ret_int hq.out.symm, (BW.out.trans (B4.out.mono (by simp)))⟩
  obtain ⟨x0, x1, x2, x3, x4, x5, x6⟩ := (hcl _ B4.out).seven
  go_wp2_with fail
  clear x0 x1 x2 x3 x4 x5 x6
  refine (szI_any _ m.dr _ _ _ (RdI.up' HD.out (BW.out.trans (B4.out.mono (by simp))) (BW.out.trans (B4.out.mono (by simp))).size) (by omega) (by omega)).mono ?_
  rintro e w5 ⟨rfl, rfl⟩
  rw [E5.out]
  have B5 := B4
  obtain ⟨l5, u5⟩ : -1 ≤ z5 ∧ z5 ≤ 1048576 := by rw [← E5.out]; exact szOfM_lo (by omega) (by omega)
  by_cases p5 : z5 < 0
  · have hq := Lib.hid (show szM 1048576 m = -1 by rw [HZ.out, if_neg (show ¬ z1 < 0 by omega), if_neg (show ¬ z2 < 0 by omega), if_neg (show ¬ z3 < 0 by omega), if_neg (show ¬ z4 < 0 by omega)]; omega)
    go_wp2
    go_ret
    exact ⟨ret_int hq.out.symm, (BW.out.trans (B5.out.mono (by simp)))⟩
  have hq := Lib.hid (show szM 1048576 m = z5 by rw [HZ.out, if_neg (show ¬ z1 < 0 by omega), if_neg (show ¬ z2 < 0 by omega), if_neg (show ¬ z3 < 0 by omega), if_neg (show ¬ z4 < 0 by omega)])
  go_wp2
  go_ret
  exact ⟨ret_int hq.out.symm, (BW.out.trans (B5.out.mono (by simp)))⟩

/-! ### The laws compare machines with machines that are alike -/
theorem eqI_same (v u : Value) (l : List Int) (w : World) (hl : RdI w w.heap.size v l) (hm : RdI w w.heap.size u l) :
    Calls Try.prog 57 #[v, u] w fun x w' => x = .returned (.bool true) ∧ Below w.heap.size w w' :=
  (eqInt64S_any v u l l w _ hl hm (Nat.le_refl _)).mono fun e w' ⟨h1, h2⟩ => ⟨by rw [h1]; simp, h2⟩
theorem eqCarrier_same (c : Car) (w : World) : Calls Try.prog 159 #[.agg #[.bool c.i, .int .i64 c.p], .agg #[.bool c.i, .int .i64 c.p]] w fun x w' => x = .returned (.bool true) ∧ Below w.heap.size w w' := by
  obtain ⟨b, p⟩ := c
  cases b
  all_goals
    go_enter Try.func159, Try.ntmps159
    go_wp2
    go_ret
    exact ⟨rfl, ((Below.refl _ _).alloc (Nat.le_refl _) _).alloc (by simp) _⟩
set_option maxHeartbeats 1000000 in
theorem eqInfo_same (x : Inf) (s t : Value) (w : World) (hs : RdI w w.heap.size s x.ps) (ht : RdI w w.heap.size t x.ps) :
    Calls Try.prog 160 #[.agg #[.int .i64 x.k, .int .i64 x.y, .int .i64 x.b, .int .i64 x.p, .int .i64 x.d, s], .agg #[.int .i64 x.k, .int .i64 x.y, .int .i64 x.b, .int .i64 x.p, .int .i64 x.d, t]] w fun e w' => e = .returned (.bool true) ∧ Below w.heap.size w w' := by
  obtain ⟨A0, n0, c0, rfl⟩ := RdI.shape' hs
  obtain ⟨A1, n1, c1, rfl⟩ := RdI.shape' ht
  have HS := Lib.hid hs
  have HT := Lib.hid ht
  clear hs ht
  go_enter Try.func160, Try.ntmps160
  go_wp2_with fail
  refine (eqI_same _ _ x.ps _ (HS.out.up' (((Below.refl _ _).alloc (Nat.le_refl _) _).alloc (by simp) _) (by simp; omega)) (HT.out.up' (((Below.refl _ _).alloc (Nat.le_refl _) _).alloc (by simp) _) (by simp; omega))).mono ?_
  rintro e w1 ⟨rfl, hb⟩
  have HB := Lib.hid ((((Below.refl _ _).alloc (Nat.le_refl _) _).alloc (by simp) _).trans (hb.mono (by simp; omega)))
  clear hb
  go_wp2
  go_ret
  exact ⟨rfl, HB.out⟩

/- two slices whose elements hold slices, alike: eqLL theorem · laws.eqInt64SS function · List (List Int) the datum's type · RdLL its reading · obtain ⟨b, off, x, s, rfl, hbb, hlk, hc, hs⟩ := (RdLL.below HL.out hb).at_ hlt, obtain ⟨b', off', x', t, rfl, hbb', hlk', hc', ht⟩ := (RdLL.below HM.out hb).at_ hlt the elements taken · have e0 := fun X => wgrow_cell (x := X) hc; have f0 := fun X => wgrow_cell (x := X) hc' their cells in grown worlds · laws.eqInt64S the element's comparison · (eqI_same _ _ x _ (HS _).out (HT _).out) its contract -/
set_option maxHeartbeats 2000000 in
set_option maxRecDepth 100000 in
theorem eqLL_same (v u : Value) (l : List (List Int)) (w : World) (hl : RdLL w w.heap.size v l) (hm : RdLL w w.heap.size u l) :
    Calls Try.prog 98 #[v, u] w fun x w' => x = .returned (.bool true) ∧ Below w.heap.size w w' := by
  obtain ⟨A, cp, rfl⟩ := RdN.shape hl
  obtain ⟨A', cp', rfl⟩ := RdN.shape hm
  have hbig := RdN.le hl
  have HL := Lib.hid hl
  have HM := Lib.hid hm
  clear hl hm
  generalize hln : l.length = n at *
  go_enter Try.func98, Try.ntmps98
  go_wp2
  go_loopw [5] (fun i wr => ∃ k : Nat, k ≤ n ∧ i = .int .i64 k ∧ Below w.heap.size w wr) (fun i _ => n - (intOf i).toNat)
  case atStart => exact ⟨0, Nat.zero_le _, rfl, Below.refl _ _⟩
  case round =>
    rename_i wr
    obtain ⟨k, hk, rfl, hb⟩ := hrel
    by_cases hlt : k < n
    · obtain ⟨b, off, x, s, rfl, hbb, hlk, hc, hs⟩ := (RdLL.below HL.out hb).at_ hlt
      obtain ⟨b', off', x', t, rfl, hbb', hlk', hc', ht⟩ := (RdLL.below HM.out hb).at_ hlt
      obtain rfl : x = x' := by rw [hlk] at hlk'; injection hlk'
      obtain ⟨A1, n1, c1, rfl⟩ := RdI.shape' hs
      obtain ⟨A2, n2, c2, rfl⟩ := RdI.shape' ht
      have hs1 := hs.more hb.size
      have ht1 := ht.more hb.size
      have HS := fun X => Lib.hid (hs1.up' (below_wgrow wr X) (below_wgrow wr X).size)
      have HT := fun X => Lib.hid (ht1.up' (below_wgrow wr X) (below_wgrow wr X).size)
      have e0 := fun X => wgrow_cell (x := X) hc; have f0 := fun X => wgrow_cell (x := X) hc'
      have HB := Lib.hid hb
      clear hc hc' hlk hlk' hb hs ht hs1 ht1
      go_wp2
      refine wp_region_grow (by kernel_rfl) (by kernel_rfl) ?_
      repeat (go_big_quiet_step ((go_at_call 57; exact calls_grow (eqI_same _ _ x _ (HS _).out (HT _).out))))
      refine wpQuiet_nil ?_
      intro w1 hb1
      have HB1 := HB.out.trans (hb1.mono HB.out.size)
      go_wp2
      exact ⟨⟨k + 1, by omega, by go_num, HB1⟩, by simp [intOf]; omega⟩
    · go_wp2
      go_ret
      exact ⟨rfl, hb⟩
/- two slices whose elements hold slices, alike: eqIs theorem · laws.eqInfoS function · List Inf the datum's type · RdIs its reading · obtain ⟨b, off, x, s, rfl, hbb, hlk, hc, hs⟩ := (RdIs.below HL.out hb).at_ hlt, obtain ⟨b', off', x', t, rfl, hbb', hlk', hc', ht⟩ := (RdIs.below HM.out hb).at_ hlt the elements taken · obtain ⟨e0, e1, e2, e3, e4, e5⟩ := hc.grow6; obtain ⟨f0, f1, f2, f3, f4, f5⟩ := hc'.grow6 their cells in grown worlds · laws.eqInfo the element's comparison · (eqInfo_same x _ _ _ (HS _).out (HT _).out) its contract -/
set_option maxHeartbeats 2000000 in
set_option maxRecDepth 100000 in
theorem eqIs_same (v u : Value) (l : List Inf) (w : World) (hl : RdIs w w.heap.size v l) (hm : RdIs w w.heap.size u l) :
    Calls Try.prog 100 #[v, u] w fun x w' => x = .returned (.bool true) ∧ Below w.heap.size w w' := by
  obtain ⟨A, cp, rfl⟩ := RdN.shape hl
  obtain ⟨A', cp', rfl⟩ := RdN.shape hm
  have hbig := RdN.le hl
  have HL := Lib.hid hl
  have HM := Lib.hid hm
  clear hl hm
  generalize hln : l.length = n at *
  go_enter Try.func100, Try.ntmps100
  go_wp2
  go_loopw [5] (fun i wr => ∃ k : Nat, k ≤ n ∧ i = .int .i64 k ∧ Below w.heap.size w wr) (fun i _ => n - (intOf i).toNat)
  case atStart => exact ⟨0, Nat.zero_le _, rfl, Below.refl _ _⟩
  case round =>
    rename_i wr
    obtain ⟨k, hk, rfl, hb⟩ := hrel
    by_cases hlt : k < n
    · obtain ⟨b, off, x, s, rfl, hbb, hlk, hc, hs⟩ := (RdIs.below HL.out hb).at_ hlt
      obtain ⟨b', off', x', t, rfl, hbb', hlk', hc', ht⟩ := (RdIs.below HM.out hb).at_ hlt
      obtain rfl : x = x' := by rw [hlk] at hlk'; injection hlk'
      obtain ⟨A1, n1, c1, rfl⟩ := RdI.shape' hs
      obtain ⟨A2, n2, c2, rfl⟩ := RdI.shape' ht
      have hs1 := hs.more hb.size
      have ht1 := ht.more hb.size
      have HS := fun X => Lib.hid (hs1.up' (below_wgrow wr X) (below_wgrow wr X).size)
      have HT := fun X => Lib.hid (ht1.up' (below_wgrow wr X) (below_wgrow wr X).size)
      obtain ⟨e0, e1, e2, e3, e4, e5⟩ := hc.grow6; obtain ⟨f0, f1, f2, f3, f4, f5⟩ := hc'.grow6
      have HB := Lib.hid hb
      clear hc hc' hlk hlk' hb hs ht hs1 ht1
      go_wp2
      refine wp_region_grow (by kernel_rfl) (by kernel_rfl) ?_
      repeat (go_big_quiet_step ((go_at_call 160; exact calls_grow (eqInfo_same x _ _ _ (HS _).out (HT _).out))))
      refine wpQuiet_nil ?_
      intro w1 hb1
      have HB1 := HB.out.trans (hb1.mono HB.out.size)
      go_wp2
      exact ⟨⟨k + 1, by omega, by go_num, HB1⟩, by simp [intOf]; omega⟩
    · go_wp2
      go_ret
      exact ⟨rfl, hb⟩

set_option maxHeartbeats 1000000 in
theorem eqCs_same (v u : Value) (l : List Car) (w : World) (hl : RdCs w w.heap.size v l) (hm : RdCs w w.heap.size u l) :
    Calls Try.prog 99 #[v, u] w fun x w' => x = .returned (.bool true) ∧ Below w.heap.size w w' := by
  obtain ⟨A, n, c, rfl, hln, hl, gl⟩ := hl
  obtain ⟨A', n', c', rfl, hmn, hm, gm⟩ := hm
  obtain rfl : n' = n := hm.out.symm.trans hl.out
  go_enter Try.func99, Try.ntmps99
  go_wp2
  go_loopw [5] (fun i wr => ∃ k : Nat, k ≤ n' ∧ i = .int .i64 k ∧ Below w.heap.size w wr) (fun i _ => n' - (intOf i).toNat)
  case atStart => exact ⟨0, Nat.zero_le _, rfl, Below.refl _ _⟩
  case round =>
    rename_i wr
    obtain ⟨k, hk, rfl, hb⟩ := hrel
    by_cases hlt : k < n'
    · obtain ⟨b, off, x, rfl, hbb, hlk, hc⟩ := gl k hlt
      obtain ⟨b', off', y, rfl, hbb', hmk, hc'⟩ := gm k hlt
      obtain rfl : x = y := by rw [hlk] at hmk; injection hmk
      obtain ⟨e0, e1⟩ := (hc.below hb hbb).grow2
      obtain ⟨f0, f1⟩ := (hc'.below hb hbb').grow2
      have HB := Lib.hid hb
      clear hc hc' hlk hmk hb gl gm
      go_wp2
      refine wp_region_grow (by kernel_rfl) (by kernel_rfl) ?_
      repeat (go_big_quiet_step ((go_at_call 159; exact calls_grow (eqCarrier_same _ _))))
      refine wpQuiet_nil ?_
      intro w1 hb1
      have HB1 := HB.out.trans (hb1.mono HB.out.size)
      go_wp2
      exact ⟨⟨k + 1, by omega, by go_num, HB1⟩, by simp [intOf]; omega⟩
    · go_wp2
      go_ret
      exact ⟨rfl, hb⟩

set_option maxHeartbeats 4000000 in
set_option maxRecDepth 100000 in
theorem eqMachine_same (v u : Value) (m : Mc) (w : World) (hl : RdM w w.heap.size v m) (hm : RdM w w.heap.size u m) :
    Calls Try.prog 37 #[v, u] w fun x w' => x = .returned (.bool true) ∧ Below w.heap.size w w' := by
  obtain ⟨f, b, cs, ls, d, rfl, h1, h2, h3, h4, h5, h6⟩ := hl
  obtain ⟨AF, cF, rfl⟩ := RdN.shape h1
  obtain ⟨AG, cG, rfl⟩ := RdN.shape h2
  obtain ⟨AC, cC, rfl⟩ := RdS.lens h3
  obtain ⟨AI, cI, rfl⟩ := RdN.shape h4
  obtain ⟨AD, cD, rfl⟩ := RdI.len h5
  have HF := Lib.hid h1
  have HG := Lib.hid h2
  have HC := Lib.hid h3
  have HI := Lib.hid h4
  have HD := Lib.hid h5
  clear h1 h2 h3 h4 h5 h6
  obtain ⟨f, b, cs, ls, d, rfl, h1, h2, h3, h4, h5, h6⟩ := hm
  obtain ⟨BF, dF, rfl⟩ := RdN.shape h1
  obtain ⟨BG, dG, rfl⟩ := RdN.shape h2
  obtain ⟨BC, dC, rfl⟩ := RdS.lens h3
  obtain ⟨BI, dI, rfl⟩ := RdN.shape h4
  obtain ⟨BD, dD, rfl⟩ := RdI.len h5
  have JF := Lib.hid h1
  have JG := Lib.hid h2
  have JC := Lib.hid h3
  have JI := Lib.hid h4
  have JD := Lib.hid h5
  clear h1 h2 h3 h4 h5 h6
  have hcl : ∀ w1, Below ((w.alloc (.cells #[.int .i64 m.wd, .int .i64 m.rk, .slice AF m.fr.length cF, .slice AG m.bk.length cG, .slice AC m.cs.length cC, .slice AI m.ls.length cI, .slice AD m.dr.length cD] 29)).alloc (.cells #[.int .i64 m.wd, .int .i64 m.rk, .slice BF m.fr.length dF, .slice BG m.bk.length dG, .slice BC m.cs.length dC, .slice BI m.ls.length dI, .slice BD m.dr.length dD] 29)).heap.size ((w.alloc (.cells #[.int .i64 m.wd, .int .i64 m.rk, .slice AF m.fr.length cF, .slice AG m.bk.length cG, .slice AC m.cs.length cC, .slice AI m.ls.length cI, .slice AD m.dr.length cD] 29)).alloc (.cells #[.int .i64 m.wd, .int .i64 m.rk, .slice BF m.fr.length dF, .slice BG m.bk.length dG, .slice BC m.cs.length dC, .slice BI m.ls.length dI, .slice BD m.dr.length dD] 29)) w1 → CellsAt w1 w.heap.size 0 [.int .i64 m.wd, .int .i64 m.rk, .slice AF m.fr.length cF, .slice AG m.bk.length cG, .slice AC m.cs.length cC, .slice AI m.ls.length cI, .slice AD m.dr.length cD] := fun w1 hb => ((CellsAt.of_alloc (us := [.int .i64 m.wd, .int .i64 m.rk, .slice AF m.fr.length cF, .slice AG m.bk.length cG, .slice AC m.cs.length cC, .slice AI m.ls.length cI, .slice AD m.dr.length cD])).alloc (by simp) _).below hb (by simp; omega)
  have hcm : ∀ w1, Below ((w.alloc (.cells #[.int .i64 m.wd, .int .i64 m.rk, .slice AF m.fr.length cF, .slice AG m.bk.length cG, .slice AC m.cs.length cC, .slice AI m.ls.length cI, .slice AD m.dr.length cD] 29)).alloc (.cells #[.int .i64 m.wd, .int .i64 m.rk, .slice BF m.fr.length dF, .slice BG m.bk.length dG, .slice BC m.cs.length dC, .slice BI m.ls.length dI, .slice BD m.dr.length dD] 29)).heap.size ((w.alloc (.cells #[.int .i64 m.wd, .int .i64 m.rk, .slice AF m.fr.length cF, .slice AG m.bk.length cG, .slice AC m.cs.length cC, .slice AI m.ls.length cI, .slice AD m.dr.length cD] 29)).alloc (.cells #[.int .i64 m.wd, .int .i64 m.rk, .slice BF m.fr.length dF, .slice BG m.bk.length dG, .slice BC m.cs.length dC, .slice BI m.ls.length dI, .slice BD m.dr.length dD] 29)) w1 → CellsAt w1 (w.heap.size + 1) 0 [.int .i64 m.wd, .int .i64 m.rk, .slice BF m.fr.length dF, .slice BG m.bk.length dG, .slice BC m.cs.length dC, .slice BI m.ls.length dI, .slice BD m.dr.length dD] := fun w1 hb => by
    have h := CellsAt.of_alloc (w := (w.alloc (.cells #[.int .i64 m.wd, .int .i64 m.rk, .slice AF m.fr.length cF, .slice AG m.bk.length cG, .slice AC m.cs.length cC, .slice AI m.ls.length cI, .slice AD m.dr.length cD] 29))) (us := [.int .i64 m.wd, .int .i64 m.rk, .slice BF m.fr.length dF, .slice BG m.bk.length dG, .slice BC m.cs.length dC, .slice BI m.ls.length dI, .slice BD m.dr.length dD]) (t := 29)
    simp only [World.size_alloc] at h
    exact h.below hb (by simp)
  have B0 := Lib.hid (Below.refl ((w.alloc (.cells #[.int .i64 m.wd, .int .i64 m.rk, .slice AF m.fr.length cF, .slice AG m.bk.length cG, .slice AC m.cs.length cC, .slice AI m.ls.length cI, .slice AD m.dr.length cD] 29)).alloc (.cells #[.int .i64 m.wd, .int .i64 m.rk, .slice BF m.fr.length dF, .slice BG m.bk.length dG, .slice BC m.cs.length dC, .slice BI m.ls.length dI, .slice BD m.dr.length dD] 29)).heap.size ((w.alloc (.cells #[.int .i64 m.wd, .int .i64 m.rk, .slice AF m.fr.length cF, .slice AG m.bk.length cG, .slice AC m.cs.length cC, .slice AI m.ls.length cI, .slice AD m.dr.length cD] 29)).alloc (.cells #[.int .i64 m.wd, .int .i64 m.rk, .slice BF m.fr.length dF, .slice BG m.bk.length dG, .slice BC m.cs.length dC, .slice BI m.ls.length dI, .slice BD m.dr.length dD] 29)))
  have Bw : Below w.heap.size w ((w.alloc (.cells #[.int .i64 m.wd, .int .i64 m.rk, .slice AF m.fr.length cF, .slice AG m.bk.length cG, .slice AC m.cs.length cC, .slice AI m.ls.length cI, .slice AD m.dr.length cD] 29)).alloc (.cells #[.int .i64 m.wd, .int .i64 m.rk, .slice BF m.fr.length dF, .slice BG m.bk.length dG, .slice BC m.cs.length dC, .slice BI m.ls.length dI, .slice BD m.dr.length dD] 29)) := ((Below.refl _ _).alloc (Nat.le_refl _) _).alloc (by simp) _
  have BW := Lib.hid Bw
  clear Bw
  go_enter Try.func37, Try.ntmps37
  go_wp2_with fail
  refine (eqLL_same _ _ m.fr _ (RdLL.up HF.out (BW.out.trans (B0.out.mono (by simp; try omega))) (BW.out.trans (B0.out.mono (by simp; try omega))).size) (RdLL.up JF.out (BW.out.trans (B0.out.mono (by simp; try omega))) (BW.out.trans (B0.out.mono (by simp; try omega))).size)).mono ?_
  rintro e w1 ⟨rfl, hb⟩
  have B1 := Lib.hid (B0.out.trans (hb.mono B0.out.size))
  clear hb
  obtain ⟨x0, x1, x2, x3, x4, x5, x6⟩ := (hcl _ B1.out).seven
  obtain ⟨y0, y1, y2, y3, y4, y5, y6⟩ := (hcm _ B1.out).seven
  go_wp2_with fail
  clear x0 x1 x2 x3 x4 x5 x6 y0 y1 y2 y3 y4 y5 y6
  refine (eqLL_same _ _ m.bk _ (RdLL.up HG.out (BW.out.trans (B1.out.mono (by simp; try omega))) (BW.out.trans (B1.out.mono (by simp; try omega))).size) (RdLL.up JG.out (BW.out.trans (B1.out.mono (by simp; try omega))) (BW.out.trans (B1.out.mono (by simp; try omega))).size)).mono ?_
  rintro e w2 ⟨rfl, hb⟩
  have B2 := Lib.hid (B1.out.trans (hb.mono B1.out.size))
  clear hb
  obtain ⟨x0, x1, x2, x3, x4, x5, x6⟩ := (hcl _ B2.out).seven
  obtain ⟨y0, y1, y2, y3, y4, y5, y6⟩ := (hcm _ B2.out).seven
  go_wp2_with fail
  clear x0 x1 x2 x3 x4 x5 x6 y0 y1 y2 y3 y4 y5 y6
  refine (eqCs_same _ _ m.cs _ (RdCs.up HC.out (BW.out.trans (B2.out.mono (by simp; try omega))) (BW.out.trans (B2.out.mono (by simp; try omega))).size) (RdCs.up JC.out (BW.out.trans (B2.out.mono (by simp; try omega))) (BW.out.trans (B2.out.mono (by simp; try omega))).size)).mono ?_
  rintro e w3 ⟨rfl, hb⟩
  have B3 := Lib.hid (B2.out.trans (hb.mono B2.out.size))
  clear hb
  obtain ⟨x0, x1, x2, x3, x4, x5, x6⟩ := (hcl _ B3.out).seven
  obtain ⟨y0, y1, y2, y3, y4, y5, y6⟩ := (hcm _ B3.out).seven
  go_wp2_with fail
  clear x0 x1 x2 x3 x4 x5 x6 y0 y1 y2 y3 y4 y5 y6
  refine (eqIs_same _ _ m.ls _ (RdIs.up HI.out (BW.out.trans (B3.out.mono (by simp; try omega))) (BW.out.trans (B3.out.mono (by simp; try omega))).size) (RdIs.up JI.out (BW.out.trans (B3.out.mono (by simp; try omega))) (BW.out.trans (B3.out.mono (by simp; try omega))).size)).mono ?_
  rintro e w4 ⟨rfl, hb⟩
  have B4 := Lib.hid (B3.out.trans (hb.mono B3.out.size))
  clear hb
  obtain ⟨x0, x1, x2, x3, x4, x5, x6⟩ := (hcl _ B4.out).seven
  obtain ⟨y0, y1, y2, y3, y4, y5, y6⟩ := (hcm _ B4.out).seven
  go_wp2_with fail
  clear x0 x1 x2 x3 x4 x5 x6 y0 y1 y2 y3 y4 y5 y6
  refine (eqI_same _ _ m.dr _ (RdI.up' HD.out (BW.out.trans (B4.out.mono (by simp; try omega))) (BW.out.trans (B4.out.mono (by simp; try omega))).size) (RdI.up' JD.out (BW.out.trans (B4.out.mono (by simp; try omega))) (BW.out.trans (B4.out.mono (by simp; try omega))).size)).mono ?_
  rintro e w5 ⟨rfl, hb⟩
  have B5 := Lib.hid (B4.out.trans (hb.mono B4.out.size))
  clear hb
  go_wp2
  go_ret
  exact ⟨rfl, (BW.out.trans (B5.out.mono (by simp; try omega)))⟩

end Go.Proofs.Ytogaellhkjjeaaa

/-
  A machine that is an argument.
-/
namespace Go.Proofs.Ytogaellhkjjeaaa
set_option linter.unusedVariables false
set_option linter.unusedSimpArgs false
open Go.ChangeShapes Go.WideShapes Go.ChangeAt Go.RowKit Go.Deep

section
variable {H : Type} {enc : TypeId × Value → H} {W : World}
theorem opens_int64 : Opens enc Try.prog W 2 (fun v x => v = .int .i64 x ∧ Fit x) := opens_int Try.underlying2
theorem opens_int64S : Opens enc Try.prog W 27 (fun v l => RdI W W.heap.size v l ∧ ∀ x ∈ l, Fit x) := opens_ints Try.underlying27 Try.underlying2 (by kernel_rfl)
theorem opens_int64Sc : Opens enc Try.prog W 27 (fun v l => RdI W W.heap.size v l ∧ CapOk v) := fun n v y h => by
  obtain ⟨l, hl, _⟩ := opens_int64S n v y h
  refine ⟨l, hl, ?_⟩
  rcases open_ints Try.underlying27 Try.underlying2 (by kernel_rfl) h with ⟨hcs, _⟩ | ⟨a, n', c, zs, hcs, _, hl', _⟩
  · simp at hcs
    exact ⟨none, 0, 0, hcs, Nat.le_refl _⟩
  · simp at hcs
    exact ⟨_, n', c, hcs, hl'⟩
theorem opens_int64SS : Opens enc Try.prog W 24 (fun v l => RdLL W W.heap.size v l) := by
  refine opens_rdN (R := rLL) (sz := 1) Try.underlying24 (by kernel_rfl) (by decide) ?_
  intro us n y hl h
  match us, hl with
  | [s], _ =>
    obtain ⟨l, hl, hc⟩ := opens_int64Sc _ _ _ h
    exact ⟨l, s, rfl, hl, hc⟩
set_option maxRecDepth 100000 in
theorem opens_carS : Opens enc Try.prog W 43 (fun v l => RdCs W W.heap.size v l) := by
  intro n v y h
  obtain ⟨l, A, n', c, rfl, hn, hl, hh⟩ := opens_rdN (R := fun _ _ us (x : Car) => us = x.cells) (sz := 2) Try.underlying43 (by kernel_rfl) (by decide) (by
    intro us n y hl h
    obtain ⟨hs, hf⟩ := opens_fields Try.underlying154 (by kernel_rfl) (by kernel_rfl) h
    obtain ⟨u0, q0, z0, g0, t0⟩ := hf 0 _ rfl
    obtain ⟨u1, q1, z1, g1, t1⟩ := hf 1 _ rfl
    obtain ⟨b, rfl⟩ := opens_bool (enc := enc) (W := W) (P := Try.prog) Try.underlying4 _ _ _ t0
    obtain ⟨p, rfl, _⟩ := opens_int64 _ _ _ t1
    match us, hl with
    | [a, c], _ =>
      simp at g0 g1
      exact ⟨⟨b, p⟩, by rw [g0, g1]⟩) _ _ _ h
  refine ⟨l, A, n', c, rfl, hn, hl, fun k hk => ?_⟩
  obtain ⟨b, off, x, us, h1, h2, h3, h4, h5, rfl⟩ := hh k hk
  exact ⟨b, off, x, h1, h2, h3, h5⟩
set_option maxRecDepth 100000 in
theorem opens_infoS : Opens enc Try.prog W 44 (fun v l => RdIs W W.heap.size v l) := by
  refine opens_rdN (R := rInf) (sz := 6) Try.underlying44 (by kernel_rfl) (by decide) ?_
  intro us n y hl h
  obtain ⟨hs, hf⟩ := opens_fields Try.underlying148 (by kernel_rfl) (by kernel_rfl) h
  obtain ⟨u0, q0, z0, g0, t0⟩ := hf 0 _ rfl
  obtain ⟨u1, q1, z1, g1, t1⟩ := hf 1 _ rfl
  obtain ⟨u2, q2, z2, g2, t2⟩ := hf 2 _ rfl
  obtain ⟨u3, q3, z3, g3, t3⟩ := hf 3 _ rfl
  obtain ⟨u4, q4, z4, g4, t4⟩ := hf 4 _ rfl
  obtain ⟨u5, q5, z5, g5, t5⟩ := hf 5 _ rfl
  obtain ⟨x0, rfl, _⟩ := opens_int64 _ _ _ t0
  obtain ⟨x1, rfl, _⟩ := opens_int64 _ _ _ t1
  obtain ⟨x2, rfl, _⟩ := opens_int64 _ _ _ t2
  obtain ⟨x3, rfl, _⟩ := opens_int64 _ _ _ t3
  obtain ⟨x4, rfl, _⟩ := opens_int64 _ _ _ t4
  obtain ⟨ps, hps, hcp⟩ := opens_int64Sc _ _ _ t5
  match us, hl with
  | [a, b, c, d, e, f], _ =>
    simp at g0 g1 g2 g3 g4 g5
    exact ⟨⟨x0, x1, x2, x3, x4, ps⟩, u5, by rw [g0, g1, g2, g3, g4, g5], hps, hcp⟩

set_option maxRecDepth 100000 in
theorem open_machine {base : Nat} {d : DataW H} {p : List MemPlace} {v : Value} (ho : Value.okWide Try.prog W .any base 46 v)
    (h : DataW.Trod enc Try.prog W 0 (fun _ => true) true 46 v d p) : ∃ m : Mc, RdM W W.heap.size v m ∧ Fit m.wd ∧ Fit m.rk := by
  obtain ⟨cs, rfl, hs, hf⟩ := opens_struct Try.underlying46 (by kernel_rfl) (by kernel_rfl) ho h
  obtain ⟨u0, q0, z0, g0, t0⟩ := hf 0 _ rfl
  obtain ⟨u1, q1, z1, g1, t1⟩ := hf 1 _ rfl
  obtain ⟨u2, q2, z2, g2, t2⟩ := hf 2 _ rfl
  obtain ⟨u3, q3, z3, g3, t3⟩ := hf 3 _ rfl
  obtain ⟨u4, q4, z4, g4, t4⟩ := hf 4 _ rfl
  obtain ⟨u5, q5, z5, g5, t5⟩ := hf 5 _ rfl
  obtain ⟨u6, q6, z6, g6, t6⟩ := hf 6 _ rfl
  obtain ⟨x0, rfl, f0⟩ := opens_int64 _ _ _ t0
  obtain ⟨x1, rfl, f1⟩ := opens_int64 _ _ _ t1
  obtain ⟨fr, h2⟩ := opens_int64SS _ _ _ t2
  obtain ⟨bk, h3⟩ := opens_int64SS _ _ _ t3
  obtain ⟨ca, h4⟩ := opens_carS _ _ _ t4
  obtain ⟨ls, h5⟩ := opens_infoS _ _ _ t5
  obtain ⟨dr, h6, h7⟩ := opens_int64Sc _ _ _ t6
  refine ⟨⟨x0, x1, fr, bk, ca, ls, dr⟩, ⟨u2, u3, u4, u5, u6, ?_, h2, h3, h4, h5, h6, h7⟩, f0, f1⟩
  congr 1
  apply Array.ext'
  obtain ⟨cl⟩ := cs
  simp at hs g0 g1 g2 g3 g4 g5 g6
  match cl, hs with
  | [a, b, c, d, e, f, g], _ =>
    simp at g0 g1 g2 g3 g4 g5 g6
    rw [g0, g1, g2, g3, g4, g5, g6]
end

end Go.Proofs.Ytogaellhkjjeaaa

/-
  Machines by value in the laws: their form, kept behind what only adds memory or turns other rows.
-/
namespace Go.Proofs.Ytogaellhkjjeaaa
set_option linter.unusedVariables false
set_option linter.unusedSimpArgs false
open Go.RowKit

theorem RdM.shape {w : World} {B : Nat} {v : Value} {m : Mc} (h : RdM w B v m) : ∃ AF cF AG cG AC cC AI cI AD cD, v = .agg #[.int .i64 m.wd, .int .i64 m.rk, .slice AF m.fr.length cF, .slice AG m.bk.length cG, .slice AC m.cs.length cC, .slice AI m.ls.length cI, .slice AD m.dr.length cD] := by
  obtain ⟨f, b, cs, ls, d, rfl, h1, h2, h3, h4, h5, h6⟩ := h
  obtain ⟨AF, cF, rfl⟩ := RdN.shape h1
  obtain ⟨AG, cG, rfl⟩ := RdN.shape h2
  obtain ⟨AC, cC, rfl⟩ := RdS.lens h3
  obtain ⟨AI, cI, rfl⟩ := RdN.shape h4
  obtain ⟨AD, cD, rfl⟩ := RdI.len h5
  exact ⟨_, _, _, _, _, _, _, _, _, _, rfl⟩
theorem RdM.of_own {w : World} {lo hi : Nat} {v : Value} {m : Mc} (h : OwM w lo hi v m) : RdM w hi v m := by
  obtain ⟨f, b, cs, ls, d, rfl, a0, a1, a2, a3, a4, a5, g0, g1, g2, g3, g4, g5, g6, h1, h2, h3, h4, h5⟩ := h
  refine ⟨f, b, cs, ls, d, rfl, RdLL.more (RdN.of_own (fun lo hi us x h => oLL_rd h) (fun B B' us x hB h => rLL_more hB us x h) (by decide) h1) (by omega), RdLL.more (RdN.of_own (fun lo hi us x h => oLL_rd h) (fun B B' us x hB h => rLL_more hB us x h) (by decide) h2) (by omega),
    (RdS.of_own Car.len h3).more (by omega), RdIs.more (RdN.of_own (fun lo hi us x h => oInf_rd h) (fun B B' us x hB h => rInf_more hB us x h) (by decide) h4) (by omega), (RdI.of_own h5).more (by omega), h5.cap⟩
theorem OwM.shape {w : World} {lo hi : Nat} {v : Value} {m : Mc} (h : OwM w lo hi v m) : ∃ AF cF AG cG AC cC AI cI AD cD, v = .agg #[.int .i64 m.wd, .int .i64 m.rk, .slice AF m.fr.length cF, .slice AG m.bk.length cG, .slice AC m.cs.length cC, .slice AI m.ls.length cI, .slice AD m.dr.length cD] := RdM.shape (RdM.of_own h)
theorem OwM.below {w w' : World} {lo hi : Nat} {v : Value} {m : Mc} (h : OwM w lo hi v m) (hb : Below hi w w') : OwM w' lo hi v m := by
  obtain ⟨f, b, cs, ls, d, e, a0, a1, a2, a3, a4, a5, g0, g1, g2, g3, g4, g5, g6, h1, h2, h3, h4, h5⟩ := h
  exact ⟨f, b, cs, ls, d, e, a0, a1, a2, a3, a4, a5, g0, g1, g2, g3, g4, g5, g6, OwLL.below h1 (hb.mono (by omega)), OwLL.below h2 (hb.mono (by omega)), h3.below (hb.mono (by omega)), OwIs.below h4 (hb.mono (by omega)), h5.below (hb.mono (by omega))⟩
theorem OwM.only {w w' : World} {lo hi a b : Nat} {v : Value} {m : Mc} (h : OwM w lo hi v m) (hw : Only a b w w') (hd : hi ≤ a ∨ b ≤ lo) (hs : hi ≤ w.heap.size) : OwM w' lo hi v m := by
  obtain ⟨f, b', cs, ls, d, e, a0, a1, a2, a3, a4, a5, g0, g1, g2, g3, g4, g5, g6, h1, h2, h3, h4, h5⟩ := h
  exact ⟨f, b', cs, ls, d, e, a0, a1, a2, a3, a4, a5, g0, g1, g2, g3, g4, g5, g6, OwLL.only h1 hw (by omega) (by omega), OwLL.only h2 hw (by omega) (by omega), h3.only hw (by omega) (by omega), OwIs.only h4 hw (by omega) (by omega), h5.only hw (by omega) (by omega)⟩

end Go.Proofs.Ytogaellhkjjeaaa

/-
  Is a loop described rightly: isInfo of the program.
-/
namespace Go.Proofs.Ytogaellhkjjeaaa
set_option linter.unusedVariables false
set_option linter.unusedSimpArgs false
open Go.RowKit

set_option maxHeartbeats 8000000 in
set_option maxRecDepth 100000 in
theorem isInfo_any (x : Inf) (A0 : Option Addr) (c0 : Nat) (hcap : x.ps.length ≤ c0) (i wd : Int) (g : Nat) (w : World) (i0 : 0 ≤ i) (i1 : i ≤ 300) (w0 : 1 ≤ wd) (w1 : wd ≤ 24) (hc : w.cell? ⟨g, 0, none⟩ = some (.int .i64 wd)) (hs : RdI w w.heap.size (.slice A0 x.ps.length c0) x.ps) :
    Calls Try.prog 132 #[.pointer (some ⟨g, 0, none⟩), .int .i64 i, .agg #[.int .i64 x.k, .int .i64 x.y, .int .i64 x.b, .int .i64 x.p, .int .i64 x.d, .slice A0 x.ps.length c0]] w
      fun e w' => e = .returned (.bool (okInf wd i x)) ∧ Below w.heap.size w w' := by
  have hbig := hs.len_le
  have HS := Lib.hid hs
  obtain ⟨x0, x1, x2, x3, x4, x5⟩ := (CellsAt.of_alloc (w := w) (us := [.int .i64 x.k, .int .i64 x.y, .int .i64 x.b, .int .i64 x.p, .int .i64 x.d, .slice A0 x.ps.length c0]) (t := 37)).grow6
  have hm : ∀ X, (wgrow (w.alloc (.cells #[.int .i64 x.k, .int .i64 x.y, .int .i64 x.b, .int .i64 x.p, .int .i64 x.d, .slice A0 x.ps.length c0] 37)) X).cell? ⟨g, 0, none⟩ = some (.int .i64 wd) :=
    fun X => wgrow_cell ((World.cell?_alloc_lt _ _ _ (block_lt_of_cell hc)).trans hc)
  clear hs
  cases hk : kindM x.k
  · have HK := Lib.hid (okInf_kind (wd := wd) (i := i) hk)
    have k1 : (x.k == 1) = false := by simp [kindM] at hk; simp [hk]
    have k2 : (x.k == 2) = false := by simp [kindM] at hk; simp [hk]
    have k5 : (x.k == 5) = false := by simp [kindM] at hk; simp [hk]
    have m1 : (x.k != 1) = true := by simp [kindM] at hk; simp [hk]
    have m2 : (x.k != 2) = true := by simp [kindM] at hk; simp [hk]
    have m5 : (x.k != 5) = true := by simp [kindM] at hk; simp [hk]
    clear hk
    go_enter Try.func132, Try.ntmps132
    go_wp2
    go_ret
    exact ⟨ret_bool HK.out.symm, (Below.refl _ _).alloc (Nat.le_refl _) _⟩
  have hkk := kindM_cases hk
  have HK := Lib.hid hk
  clear hk
  have hkc : ((x.k == 1) = true ∧ (x.k != 1) = false ∧ (x.k == 2) = false ∧ (x.k != 2) = true ∧ (x.k == 5) = false ∧ (x.k != 5) = true) ∨ ((x.k == 1) = false ∧ (x.k != 1) = true ∧ (x.k == 2) = true ∧ (x.k != 2) = false ∧ (x.k == 5) = false ∧ (x.k != 5) = true) ∨
      ((x.k == 1) = false ∧ (x.k != 1) = true ∧ (x.k == 2) = false ∧ (x.k != 2) = true ∧ (x.k == 5) = true ∧ (x.k != 5) = false) := by
    rcases hkk with h | h | h <;> rw [h] <;> decide
  clear hkk
  have hy := fun W => isCarrier_b x.y W
  have hb := fun W => isBed_b x.b W
  have hp := fun W => within_b x.p 0 (wd - 1) W
  have hd := fun W => isDirection_b x.d W
  rcases headI_cases wd x with ⟨a1, hh⟩ | ⟨a1, a2, hh⟩ | ⟨a1, a2, a3, hh⟩ | ⟨a1, a2, a3, a4, hh⟩ | ⟨a1, a2, a3, a4, hh⟩
  /- isInfo where the head fails: simp only [a1] at hy lays the questions' answers -/
  · simp only [a1] at hy
    have hk := Lib.hid (okInf_head (i := i) hh)
    clear hh
    have HY := Lib.hid hy
    have HBD := Lib.hid hb
    have HP := Lib.hid hp
    have HD := Lib.hid hd
    clear hy hb hp hd
    rcases hkc with ⟨k1, m1, k2, m2, k5, m5⟩ | ⟨k1, m1, k2, m2, k5, m5⟩ | ⟨k1, m1, k2, m2, k5, m5⟩
    all_goals
      go_enter Try.func132, Try.ntmps132
      go_wp2
      refine wp_region_grow (by kernel_rfl) (by kernel_rfl) ?_
      repeat (go_big_quiet_step ((first | (go_at_call 65; exact calls_grow (HY.out _)) | (go_at_call 193; exact calls_grow (HBD.out _)) | (go_at_call 117; exact calls_grow (HP.out _)) | (go_at_call 150; exact calls_grow (HD.out _)))))
      refine wpQuiet_nil ?_
      intro wq hq
      go_wp2
      go_ret
      exact ⟨ret_bool hk.out.symm, ((Below.refl _ _).alloc (Nat.le_refl _) _).trans (hq.mono (by simp))⟩
  /- isInfo where the head fails: simp only [a1] at hy; simp only [a2] at hb lays the questions' answers -/
  · simp only [a1] at hy; simp only [a2] at hb
    have hk := Lib.hid (okInf_head (i := i) hh)
    clear hh
    have HY := Lib.hid hy
    have HBD := Lib.hid hb
    have HP := Lib.hid hp
    have HD := Lib.hid hd
    clear hy hb hp hd
    rcases hkc with ⟨k1, m1, k2, m2, k5, m5⟩ | ⟨k1, m1, k2, m2, k5, m5⟩ | ⟨k1, m1, k2, m2, k5, m5⟩
    all_goals
      go_enter Try.func132, Try.ntmps132
      go_wp2
      refine wp_region_grow (by kernel_rfl) (by kernel_rfl) ?_
      repeat (go_big_quiet_step ((first | (go_at_call 65; exact calls_grow (HY.out _)) | (go_at_call 193; exact calls_grow (HBD.out _)) | (go_at_call 117; exact calls_grow (HP.out _)) | (go_at_call 150; exact calls_grow (HD.out _)))))
      refine wpQuiet_nil ?_
      intro wq hq
      go_wp2
      go_ret
      exact ⟨ret_bool hk.out.symm, ((Below.refl _ _).alloc (Nat.le_refl _) _).trans (hq.mono (by simp))⟩
  /- isInfo where the head fails: simp only [a1] at hy; simp only [a2] at hb; simp only [a3] at hp lays the questions' answers -/
  · simp only [a1] at hy; simp only [a2] at hb; simp only [a3] at hp
    have hk := Lib.hid (okInf_head (i := i) hh)
    clear hh
    have HY := Lib.hid hy
    have HBD := Lib.hid hb
    have HP := Lib.hid hp
    have HD := Lib.hid hd
    clear hy hb hp hd
    rcases hkc with ⟨k1, m1, k2, m2, k5, m5⟩ | ⟨k1, m1, k2, m2, k5, m5⟩ | ⟨k1, m1, k2, m2, k5, m5⟩
    all_goals
      go_enter Try.func132, Try.ntmps132
      go_wp2
      refine wp_region_grow (by kernel_rfl) (by kernel_rfl) ?_
      repeat (go_big_quiet_step ((first | (go_at_call 65; exact calls_grow (HY.out _)) | (go_at_call 193; exact calls_grow (HBD.out _)) | (go_at_call 117; exact calls_grow (HP.out _)) | (go_at_call 150; exact calls_grow (HD.out _)))))
      refine wpQuiet_nil ?_
      intro wq hq
      go_wp2
      go_ret
      exact ⟨ret_bool hk.out.symm, ((Below.refl _ _).alloc (Nat.le_refl _) _).trans (hq.mono (by simp))⟩
  /- isInfo where the head fails: simp only [a1] at hy; simp only [a2] at hb; simp only [a3] at hp; simp only [a4] at hd lays the questions' answers -/
  · simp only [a1] at hy; simp only [a2] at hb; simp only [a3] at hp; simp only [a4] at hd
    have hk := Lib.hid (okInf_head (i := i) hh)
    clear hh
    have HY := Lib.hid hy
    have HBD := Lib.hid hb
    have HP := Lib.hid hp
    have HD := Lib.hid hd
    clear hy hb hp hd
    rcases hkc with ⟨k1, m1, k2, m2, k5, m5⟩ | ⟨k1, m1, k2, m2, k5, m5⟩ | ⟨k1, m1, k2, m2, k5, m5⟩
    all_goals
      go_enter Try.func132, Try.ntmps132
      go_wp2
      refine wp_region_grow (by kernel_rfl) (by kernel_rfl) ?_
      repeat (go_big_quiet_step ((first | (go_at_call 65; exact calls_grow (HY.out _)) | (go_at_call 193; exact calls_grow (HBD.out _)) | (go_at_call 117; exact calls_grow (HP.out _)) | (go_at_call 150; exact calls_grow (HD.out _)))))
      refine wpQuiet_nil ?_
      intro wq hq
      go_wp2
      go_ret
      exact ⟨ret_bool hk.out.symm, ((Below.refl _ _).alloc (Nat.le_refl _) _).trans (hq.mono (by simp))⟩
  · simp only [a1] at hy; simp only [a2] at hb; simp only [a3] at hp; simp only [a4] at hd
    have HH := Lib.hid hh
    clear hh a1 a2 a3 a4
    have HY := Lib.hid hy
    have HBD := Lib.hid hb
    have HP := Lib.hid hp
    have HD := Lib.hid hd
    clear hy hb hp hd
    by_cases h4 : ((x.ps.length : Nat) : Int) ≤ 4
    case neg =>
      have hk := Lib.hid (okInf_len (wd := wd) (i := i) (x := x) (by omega))
      rcases hkc with ⟨k1, m1, k2, m2, k5, m5⟩ | ⟨k1, m1, k2, m2, k5, m5⟩ | ⟨k1, m1, k2, m2, k5, m5⟩
      all_goals
        go_enter Try.func132, Try.ntmps132
        go_wp2
        refine wp_region_grow (by kernel_rfl) (by kernel_rfl) ?_
        repeat (go_big_quiet_step ((first | (go_at_call 65; exact calls_grow (HY.out _)) | (go_at_call 193; exact calls_grow (HBD.out _)) | (go_at_call 117; exact calls_grow (HP.out _)) | (go_at_call 150; exact calls_grow (HD.out _)))))
        refine wpQuiet_nil ?_
        intro wq hq
        go_wp2
        go_ret
        exact ⟨ret_bool hk.out.symm, ((Below.refl _ _).alloc (Nat.le_refl _) _).trans (hq.mono (by simp))⟩
    have hl4 : x.ps.length ≤ 4 := by omega
    have hk := Lib.hid (okInf_rest (wd := wd) (i := i) HK.out HH.out hl4)
    have hcl : ∀ w1, Below (w.alloc (.cells #[.int .i64 x.k, .int .i64 x.y, .int .i64 x.b, .int .i64 x.p, .int .i64 x.d, .slice A0 x.ps.length c0] 37)).heap.size (w.alloc (.cells #[.int .i64 x.k, .int .i64 x.y, .int .i64 x.b, .int .i64 x.p, .int .i64 x.d, .slice A0 x.ps.length c0] 37)) w1 →
        CellsAt w1 w.heap.size 0 [.int .i64 x.k, .int .i64 x.y, .int .i64 x.b, .int .i64 x.p, .int .i64 x.d, .slice A0 x.ps.length c0] := fun w1 hb => CellsAt.below CellsAt.of_alloc hb (by simp)
    have BW := Lib.hid (show Below w.heap.size w (w.alloc (.cells #[.int .i64 x.k, .int .i64 x.y, .int .i64 x.b, .int .i64 x.p, .int .i64 x.d, .slice A0 x.ps.length c0] 37)) from (Below.refl _ _).alloc (Nat.le_refl _) _)
    clear HH HK
    rcases hkc with ⟨k1, m1, k2, m2, k5, m5⟩ | ⟨k1, m1, k2, m2, k5, m5⟩ | ⟨k1, m1, k2, m2, k5, m5⟩
    all_goals
      go_enter Try.func132, Try.ntmps132
      go_wp2
      refine wp_region_grow (by kernel_rfl) (by kernel_rfl) ?_
      repeat (go_big_quiet_step ((first | (go_at_call 65; exact calls_grow (HY.out _)) | (go_at_call 193; exact calls_grow (HBD.out _)) | (go_at_call 117; exact calls_grow (HP.out _)) | (go_at_call 150; exact calls_grow (HD.out _)))))
      refine wpQuiet_nil ?_
      intro wq hq
      obtain ⟨y0, y1, y2, y3, y4, y5⟩ := (hcl _ hq).six
      have HQ := Lib.hid hq
      clear hq
      go_wp2
      go_loopw [58] (fun j wr => ∃ k : Nat, k ≤ x.ps.length ∧ j = .int .i64 k ∧ Hid (parsB i [] x.ps = parsB i (x.ps.take k) (x.ps.drop k)) ∧ Below (w.alloc (.cells #[.int .i64 x.k, .int .i64 x.y, .int .i64 x.b, .int .i64 x.p, .int .i64 x.d, .slice A0 x.ps.length c0] 37)).heap.size (w.alloc (.cells #[.int .i64 x.k, .int .i64 x.y, .int .i64 x.b, .int .i64 x.p, .int .i64 x.d, .slice A0 x.ps.length c0] 37)) wr) (fun j _ => x.ps.length - (intOf j).toNat)
      case atStart => exact ⟨0, Nat.zero_le _, rfl, rfl, HQ.out⟩
      case round =>
        rename_i wr
        obtain ⟨k, hkl, rfl, hd, hb⟩ := hrel
        have HB := Lib.hid hb
        clear hb y0 y1 y2 y3 y4 y5
        obtain ⟨y0, y1, y2, y3, y4, y5⟩ := (hcl _ HB.out).six
        have hw := BW.out.trans (HB.out.mono (by simp))
        by_cases hlt : k < x.ps.length
        · obtain ⟨b, off, p, rfl, hbb, hlk, hcp⟩ := (HS.out.below hw).at_ hlt
          have HSK := Lib.hid ((RdI.take (HS.out.up' hw hw.size) (Nat.le_of_lt hlt)))
          have HW := Lib.hid hw
          clear hw
          cases h1 : inB 0 p (i - 1)
          · have HT := Lib.hid (show okInf wd i x = false by rw [hk.out, pars_no1 hd.out hlk h1]; rfl)
            have H1 := Lib.hid h1
            clear h1 hlk hd
            go_wp2_with fail
            refine (within_b _ _ _ _).mono ?_
            rintro e w2 ⟨rfl, hb2⟩
            rw [H1.out]
            have HB2 := Lib.hid (HW.out.trans (hb2.mono HW.out.size))
            clear hb2 y0 y1 y2 y3 y4 y5 hcp
            go_wp2
            go_ret
            exact ⟨ret_bool HT.out.symm, HB2.out⟩
          · have H1 := Lib.hid h1
            cases h2 : (x.ps.take k).contains p
            · have HT := Lib.hid (pars_yes hd.out hlk h1 h2)
              have H2 := Lib.hid h2
              clear h1 h2 hlk hd
              go_wp2_with fail
              refine (within_b _ _ _ _).mono ?_
              rintro e w2 ⟨rfl, hb2⟩
              rw [H1.out]
              have HB2 := Lib.hid (HB.out.trans (hb2.mono HB.out.size))
              clear hb2 y0 y1 y2 y3 y4 y5 hcp
              obtain ⟨y0, y1, y2, y3, y4, y5⟩ := (hcl _ HB2.out).six
              have hw2 := BW.out.trans (HB2.out.mono (by simp))
              have HSK2 := Lib.hid ((RdI.take (HS.out.up' hw2 hw2.size) (Nat.le_of_lt hlt)))
              clear hw2
              go_wp2_with fail
              refine (containsI_any _ (x.ps.take k) p _ HSK2.out).mono ?_
              rintro e w3 ⟨rfl, hb3⟩
              rw [H2.out]
              have HB3 := Lib.hid (HB2.out.trans (hb3.mono HB2.out.size))
              clear hb3 y0 y1 y2 y3 y4 y5
              go_wp2
              exact ⟨⟨k + 1, by omega, by go_num, HT.out, HB3.out⟩, by simp [intOf]; omega⟩
            · have HT := Lib.hid (show okInf wd i x = false by rw [hk.out, pars_no2 hd.out hlk h2]; rfl)
              have H2 := Lib.hid h2
              clear h1 h2 hlk hd
              go_wp2_with fail
              refine (within_b _ _ _ _).mono ?_
              rintro e w2 ⟨rfl, hb2⟩
              rw [H1.out]
              have HB2 := Lib.hid (HB.out.trans (hb2.mono HB.out.size))
              clear hb2 y0 y1 y2 y3 y4 y5 hcp
              obtain ⟨y0, y1, y2, y3, y4, y5⟩ := (hcl _ HB2.out).six
              have hw2 := BW.out.trans (HB2.out.mono (by simp))
              have HSK2 := Lib.hid ((RdI.take (HS.out.up' hw2 hw2.size) (Nat.le_of_lt hlt)))
              clear hw2
              go_wp2_with fail
              refine (containsI_any _ (x.ps.take k) p _ HSK2.out).mono ?_
              rintro e w3 ⟨rfl, hb3⟩
              rw [H2.out]
              have HB3 := Lib.hid (BW.out.trans ((HB2.out.trans (hb3.mono HB2.out.size)).mono (by simp)))
              clear hb3 y0 y1 y2 y3 y4 y5
              go_wp2
              go_ret
              exact ⟨ret_bool HT.out.symm, HB3.out⟩
        · have HW := Lib.hid hw
          have HT := Lib.hid (show okInf wd i x = tailI x by rw [hk.out, hd.out, List.drop_of_length_le (by omega)]; rfl)
          clear hw hd
          by_cases hn0 : ((x.ps.length : Nat) : Int) = 0
          · have e0 : ((x.ps.length : Nat) : Int) ≤ 0 := by omega
            have HV := Lib.hid (show tailI x = ((!(x.k == 2) || true) && (!(x.k == 5) || false)) by unfold tailI; rw [decide_eq_true (show x.ps.length = 0 by omega), decide_eq_false (show ¬ 0 < x.ps.length by omega)])
            go_wp2
            all_goals go_ret
            all_goals first
              | (exfalso; omega)
              | (exfalso; rename_i hnil; simp [hnil] at hn0; done)
              | exact ⟨ret_bool (by rw [HT.out, HV.out, k2, k5]; first | rfl | exact decide_eq_true (by omega) | exact decide_eq_false (by omega) | (simp; done)), HW.out⟩
          · have e0 : 0 < ((x.ps.length : Nat) : Int) := by omega
            have HV := Lib.hid (show tailI x = ((!(x.k == 2) || false) && (!(x.k == 5) || true)) by unfold tailI; rw [decide_eq_false (show ¬ x.ps.length = 0 by omega), decide_eq_true (show 0 < x.ps.length by omega)])
            go_wp2
            all_goals go_ret
            all_goals first
              | (exfalso; omega)
              | (exfalso; rename_i hnil; simp [hnil] at hn0; done)
              | exact ⟨ret_bool (by rw [HT.out, HV.out, k2, k5]; first | rfl | exact decide_eq_true (by omega) | exact decide_eq_false (by omega) | (simp; done)), HW.out⟩

end Go.Proofs.Ytogaellhkjjeaaa

/-
  ValidMachine of the program.
-/
namespace Go.Proofs.Ytogaellhkjjeaaa
set_option linter.unusedVariables false
set_option linter.unusedSimpArgs false
open Go.RowKit

set_option maxHeartbeats 8000000 in
set_option maxRecDepth 100000 in
theorem validMachine_any (v : Value) (m : Mc) (w : World) (hl : RdM w w.heap.size v m) :
    Calls Try.prog 64 #[v] w fun e w' => e = .returned (.bool (okM m)) ∧ Below w.heap.size w w' := by
  obtain ⟨f, b, cs, ls, d, rfl, h1, h2, h3, h4, h5, h6⟩ := hl
  obtain ⟨AF, cF, rfl⟩ := RdN.shape h1
  obtain ⟨AG, cG, rfl⟩ := RdN.shape h2
  obtain ⟨AC, cC, rfl⟩ := RdS.lens h3
  obtain ⟨AI, cI, rfl⟩ := RdN.shape h4
  obtain ⟨AD, cD, rfl⟩ := RdI.len h5
  have b1 := RdN.le h1
  have b2 := RdN.le h2
  have b3 := RdS.le h3
  have b4 := RdN.le h4
  have b5 := h5.len_le
  have HF := Lib.hid h1
  have HG := Lib.hid h2
  have HC := Lib.hid h3
  have HI := Lib.hid h4
  have HD := Lib.hid h5
  have HDC := Lib.hid h6
  clear h1 h2 h3 h4 h5 h6
  generalize hR : okM m = R
  have HR := Lib.hid hR
  clear hR
  have hcl : ∀ w1, Below (w.alloc (.cells #[.int .i64 m.wd, .int .i64 m.rk, .slice AF m.fr.length cF, .slice AG m.bk.length cG, .slice AC m.cs.length cC, .slice AI m.ls.length cI, .slice AD m.dr.length cD] 29)).heap.size (w.alloc (.cells #[.int .i64 m.wd, .int .i64 m.rk, .slice AF m.fr.length cF, .slice AG m.bk.length cG, .slice AC m.cs.length cC, .slice AI m.ls.length cI, .slice AD m.dr.length cD] 29)) w1 →
      CellsAt w1 w.heap.size 0 [.int .i64 m.wd, .int .i64 m.rk, .slice AF m.fr.length cF, .slice AG m.bk.length cG, .slice AC m.cs.length cC, .slice AI m.ls.length cI, .slice AD m.dr.length cD] := fun w1 hb => CellsAt.below CellsAt.of_alloc hb (by simp)
  obtain ⟨W0, hW0⟩ : ∃ W0, W0 = w.alloc (.cells #[.int .i64 m.wd, .int .i64 m.rk, .slice AF m.fr.length cF, .slice AG m.bk.length cG, .slice AC m.cs.length cC, .slice AI m.ls.length cI, .slice AD m.dr.length cD] 29) := ⟨_, rfl⟩
  have BW := Lib.hid (show Below w.heap.size w W0 by rw [hW0]; exact (Below.refl _ _).alloc (Nat.le_refl _) _)
  have hws : w.heap.size < W0.heap.size := by rw [hW0]; simp
  have HW0 := Lib.hid hW0
  rw [← hW0] at hcl
  have HCL := Lib.hid hcl
  obtain ⟨x0, x1, x2, x3, x4, x5, x6⟩ := (hcl _ (Below.refl _ _)).seven
  clear hcl
  cases hh : headM m
  · have HN := Lib.hid (show R = false by rw [← HR.out]; simp [okM, hh])
    rcases headM_no hh with a1 | ⟨a1, a2⟩ | ⟨a1, a2, a3⟩ | ⟨a1, a2, a3, a4⟩ | ⟨a1, a2, a3, a4, a5⟩ | ⟨a1, a2, a3, a4, a5, a6⟩
    all_goals
      clear HR hh
      go_enter Try.func64, Try.ntmps64
      go_wp2_with (first
        | (go_at_call 117; refine (within_s _ _ _ _).mono ?_; rintro e w' ⟨rfl, rfl⟩; rw [a1])
        | (go_at_call 130; refine (isRack_s _ _).mono ?_; rintro e w' ⟨rfl, rfl⟩; rw [a2]))
      go_ret
      exact ⟨ret_bool HN.out.symm, by rw [← HW0.out]; exact BW.out⟩
  · obtain ⟨a1, a2, a3, a4, a5, a6, wb0, wb1, l1, l2, -⟩ := headM_yes hh
    have HR1 := Lib.hid (show R = (lens4 (m.fr ++ m.bk) && (carsB m.wd m.cs && (infsB m.wd 0 m.ls && (risB m.dr && parsB m.ls.length [] (m.fr.flatten ++ (m.bk.flatten ++ m.dr)))))) by rw [← HR.out]; simp [okM, hh, lens4, Bool.and_assoc])
    clear HR hh
    have hcat : Calls Try.prog 131 #[.slice (some ⟨w.heap.size + 1, 0, none⟩) 2 2] (W0.alloc (.cells #[.slice AF m.fr.length cF, .slice AG m.bk.length cG] 24)) fun e w' => ∃ v, e = .returned v ∧ RdLL w' w'.heap.size v (m.fr ++ m.bk) ∧ Below (W0.heap.size + 1) (W0.alloc (.cells #[.slice AF m.fr.length cF, .slice AG m.bk.length cG] 24)) w' := by
      rw [show w.heap.size + 1 = W0.heap.size by rw [HW0.out]; simp]
      have hb2 : Below w.heap.size w (W0.alloc (.cells #[.slice AF m.fr.length cF, .slice AG m.bk.length cG] 24)) := BW.out.alloc BW.out.size _
      have h := concat_any [.slice AF m.fr.length cF, .slice AG m.bk.length cG] [m.fr, m.bk] W0.heap.size 2 2 (W0.alloc (.cells #[.slice AF m.fr.length cF, .slice AG m.bk.length cG] 24)) rfl rfl (by omega) (by simp) CellsAt.of_alloc (by
        intro j V L hV hL
        rcases j with _ | _ | j
        · simp at hV hL
          subst hV hL
          exact RdLL.more (RdLL.below HF.out hb2) hb2.size
        · simp at hV hL
          subst hV hL
          exact RdLL.more (RdLL.below HG.out hb2) hb2.size
        · simp at hV) (by simp; omega)
      simpa using h
    have HCAT := Lib.hid hcat
    clear hcat
    go_enter Try.func64, Try.ntmps64
    go_wp2_with (first
      | (go_at_call 117; refine (within_s _ _ _ _).mono ?_; rintro e w' ⟨rfl, rfl⟩; rw [a1])
      | (go_at_call 130; refine (isRack_s _ _).mono ?_; rintro e w' ⟨rfl, rfl⟩; rw [a2]))
    rw [← HW0.out]
    refine HCAT.out.mono ?_
    rintro e w1 ⟨v1, rfl, hrd, hb⟩
    obtain ⟨LB, hLB⟩ : ∃ LB, LB = m.fr ++ m.bk := ⟨_, rfl⟩
    rw [← hLB] at hrd HR1
    obtain ⟨A1, c1, rfl⟩ := RdN.shape hrd
    have hbig := RdN.le hrd
    generalize hnl : LB.length = nl at *
    have HNL := Lib.hid hnl
    have HRD := Lib.hid hrd
    have HB1 := Lib.hid (((Below.refl W0.heap.size W0).alloc (Nat.le_refl _) _).trans (hb.mono (by omega)))
    clear hrd hb hLB hnl x0 x1 x2 x3 x4 x5 x6 HCAT
    go_wp2
    go_loopw [55] (fun i wr => ∃ (k : Nat) (W2 : World), W2 = wr ∧ k ≤ nl ∧ i = .int .i64 k ∧ Hid (R = (lens4 (LB.drop k) && (carsB m.wd m.cs && (infsB m.wd 0 m.ls && (risB m.dr && parsB m.ls.length [] (m.fr.flatten ++ (m.bk.flatten ++ m.dr))))))) ∧ Below w1.heap.size w1 W2) (fun i _ => nl - (intOf i).toNat)
    case atStart => exact ⟨0, _, rfl, Nat.zero_le _, rfl, HR1.out, Below.refl _ _⟩
    case round =>
      obtain ⟨k, wr, hwr, hk, rfl, hd, hb⟩ := hrel
      subst hwr
      by_cases hlt : k < nl
      · obtain ⟨b, off, x, s, rfl, hbb, hlk, hc, hs⟩ := (RdLL.below HRD.out hb).at_ hlt
        obtain ⟨A2, c2, rfl⟩ := hs.len
        have hbx := hs.len_le
        have HB2 := Lib.hid hb
        by_cases h4 : ((x.length : Nat) : Int) ≤ 4
        · have HN := Lib.hid (show R = (lens4 (LB.drop (k + 1)) && (carsB m.wd m.cs && (infsB m.wd 0 m.ls && (risB m.dr && parsB m.ls.length [] (m.fr.flatten ++ (m.bk.flatten ++ m.dr)))))) by rw [lens_next hd.out hlk, decide_eq_true (show x.length ≤ 4 by omega)]; rfl)
          clear hb hd hlk hs
          go_wp2
          exact ⟨⟨k + 1, _, rfl, by omega, by go_num, HN.out, HB2.out⟩, by simp [intOf]; omega⟩
        · have HN := Lib.hid (show R = false by rw [lens_next hd.out hlk, decide_eq_false (show ¬ x.length ≤ 4 by omega)]; rfl)
          clear hb hd hlk hs
          go_wp2
          go_ret
          exact ⟨ret_bool HN.out.symm, BW.out.trans ((HB1.out.trans (HB2.out.mono HB1.out.size)).mono (Nat.le_of_lt hws))⟩
      · have HR2 := Lib.hid (show R = (carsB m.wd (m.cs.drop 0) && (infsB m.wd 0 m.ls && (risB m.dr && parsB m.ls.length [] (m.fr.flatten ++ (m.bk.flatten ++ m.dr))))) by rw [hd.out, List.drop_of_length_le (by have := HNL.out; omega)]; rfl)
        have HB2 := Lib.hid (HB1.out.trans (hb.mono HB1.out.size))
        clear hb hd HR1 HRD HB1
        obtain ⟨x0, x1, x2, x3, x4, x5, x6⟩ := (HCL.out _ HB2.out).seven
        go_wp2
        clear x0 x1 x2 x3 x4 x5 x6
        go_loopw [66] (fun i wq => ∃ (k : Nat) (W3 : World), W3 = wq ∧ k ≤ m.cs.length ∧ i = .int .i64 k ∧ Hid (R = (carsB m.wd (m.cs.drop k) && (infsB m.wd 0 m.ls && (risB m.dr && parsB m.ls.length [] (m.fr.flatten ++ (m.bk.flatten ++ m.dr)))))) ∧ Below W0.heap.size W0 W3) (fun i _ => m.cs.length - (intOf i).toNat)
        case atStart => exact ⟨0, _, rfl, Nat.zero_le _, rfl, HR2.out, HB2.out⟩
        case round =>
          obtain ⟨k, wq, hwr, hk, rfl, hd, hb⟩ := hrel
          subst hwr
          obtain ⟨x0, x1, x2, x3, x4, x5, x6⟩ := (HCL.out _ hb).seven
          have hbw := BW.out.trans (hb.mono (Nat.le_of_lt hws))
          by_cases hlt : k < m.cs.length
          · obtain ⟨A', n', c', e', hn', hl', gl⟩ := RdS.below HC.out hbw
            injection e' with e1 e2 e3
            subst e1 e2 e3
            obtain ⟨b, off, x, rfl, hbb, hlk, hc⟩ := gl k hlt
            obtain ⟨c0, c1⟩ := hc.two
            have HB3 := Lib.hid hb
            have hnx := cars_next hd.out hlk
            unfold carB at hnx
            have hal := fun o => (World.cell?_alloc_lt wq o ⟨w.heap.size, 0, none⟩ (block_lt_of_cell x0)).trans x0
            cases q1 : inB (-3) x.p (m.wd + 3)
            · have HN := Lib.hid (show R = false by rw [hnx, q1]; rfl)
              have Q1 := Lib.hid q1
              have HBW := Lib.hid hbw
              clear hb hd hlk hc gl hnx hbw
              go_wp2_with (go_at_call 117; refine (within_s _ _ _ _).mono ?_; rintro e w' ⟨rfl, rfl⟩; rw [Q1.out])
              go_ret
              exact ⟨ret_bool HN.out.symm, HBW.out.alloc HBW.out.size _⟩
            · have Q1 := Lib.hid q1
              have HBW := Lib.hid hbw
              cases q2 : x.i
              · rw [q2] at c0
                by_cases q3 : x.p = 0
                · have HN := Lib.hid (show R = (carsB m.wd (m.cs.drop (k + 1)) && (infsB m.wd 0 m.ls && (risB m.dr && parsB m.ls.length [] (m.fr.flatten ++ (m.bk.flatten ++ m.dr))))) by rw [hnx, q1, q2, decide_eq_true q3]; rfl)
                  have q4 : (x.p != 0) = false := by simpa using q3
                  clear hb hd hlk hc gl hnx hbw q3
                  go_wp2_with (go_at_call 117; refine (within_s _ _ _ _).mono ?_; rintro e w' ⟨rfl, rfl⟩; rw [Q1.out])
                  exact ⟨⟨k + 1, _, rfl, by omega, by go_num, HN.out, HB3.out.alloc HB3.out.size _⟩, by simp [intOf]; omega⟩
                · have HN := Lib.hid (show R = false by rw [hnx, q1, q2, decide_eq_false q3]; rfl)
                  have q4 : (x.p != 0) = true := by simpa using q3
                  clear hb hd hlk hc gl hnx hbw
                  go_wp2_with (go_at_call 117; refine (within_s _ _ _ _).mono ?_; rintro e w' ⟨rfl, rfl⟩; rw [Q1.out])
                  go_ret
                  exact ⟨ret_bool HN.out.symm, HBW.out.alloc HBW.out.size _⟩
              · rw [q2] at c0
                have HN := Lib.hid (show R = (carsB m.wd (m.cs.drop (k + 1)) && (infsB m.wd 0 m.ls && (risB m.dr && parsB m.ls.length [] (m.fr.flatten ++ (m.bk.flatten ++ m.dr))))) by rw [hnx, q1, q2]; rfl)
                clear hb hd hlk hc gl hnx hbw
                go_wp2_with (go_at_call 117; refine (within_s _ _ _ _).mono ?_; rintro e w' ⟨rfl, rfl⟩; rw [Q1.out])
                exact ⟨⟨k + 1, _, rfl, by omega, by go_num, HN.out, HB3.out.alloc HB3.out.size _⟩, by simp [intOf]; omega⟩
          · have HR3 := Lib.hid (show R = (infsB m.wd ((0 : Nat) : Int) (m.ls.drop 0) && (risB m.dr && parsB m.ls.length [] (m.fr.flatten ++ (m.bk.flatten ++ m.dr)))) by rw [hd.out, List.drop_of_length_le (by omega)]; rfl)
            have HB3 := Lib.hid hb
            clear hb hd HR2 HB2
            go_wp2
            clear x0 x1 x2 x3 x4 x5 x6
            go_loopw [91] (fun i wz => ∃ (k : Nat) (W4 : World), W4 = wz ∧ k ≤ m.ls.length ∧ i = .int .i64 k ∧ Hid (R = (infsB m.wd (k : Int) (m.ls.drop k) && (risB m.dr && parsB m.ls.length [] (m.fr.flatten ++ (m.bk.flatten ++ m.dr))))) ∧ Below W0.heap.size W0 W4) (fun i _ => m.ls.length - (intOf i).toNat)
            case atStart => exact ⟨0, _, rfl, Nat.zero_le _, rfl, HR3.out, HB3.out⟩
            case round =>
              obtain ⟨k, wz, hwr, hk, rfl, hd, hb⟩ := hrel
              subst hwr
              obtain ⟨x0, x1, x2, x3, x4, x5, x6⟩ := (HCL.out _ hb).seven
              have hbw := BW.out.trans (hb.mono (Nat.le_of_lt hws))
              by_cases hlt : k < m.ls.length
              · obtain ⟨b, off, x, A5, c5, rfl, hbb, hlk, hc, hs, hcap⟩ := (RdIs.below HI.out hbw).at_cap hlt
                obtain ⟨c0, c1, c2, c3, c4, c5'⟩ := hc.six
                have HB4 := Lib.hid hb
                have HBW := Lib.hid hbw
                have hnx := infs_next hd.out hlk
                have hal := fun o => (World.cell?_alloc_lt wz o ⟨w.heap.size, 0, none⟩ (block_lt_of_cell x0)).trans x0
                have HS := fun o => Lib.hid (hs.up' (hbw.alloc hbw.size o |> fun h => ((Below.refl w.heap.size wz).alloc hbw.size o)) (by simp; have := hbw.size; omega))
                have hinf := fun o => isInfo_any x A5 c5 hcap (k : Int) m.wd w.heap.size (wz.alloc o) (by omega) (by omega) wb0 wb1 (hal o) (HS o).out
                cases q1 : okInf m.wd (k : Int) x
                · have HN := Lib.hid (show R = false by rw [hnx, q1]; rfl)
                  simp only [q1] at hinf
                  have HINF := Lib.hid hinf
                  clear hb hd hlk hc hnx hbw hs hinf HS
                  go_wp2_with fail
                  refine (HINF.out _).mono ?_
                  rintro e w5 ⟨rfl, hb5⟩
                  have HB5 := Lib.hid ((HBW.out.alloc HBW.out.size (.cells #[.int .i64 x.k, .int .i64 x.y, .int .i64 x.b, .int .i64 x.p, .int .i64 x.d, .slice A5 x.ps.length c5] 37)).trans (hb5.mono (by simp; have := HBW.out.size; omega)))
                  clear hb5
                  go_wp2
                  go_ret
                  exact ⟨ret_bool HN.out.symm, HB5.out⟩
                · have HN := Lib.hid (show R = (infsB m.wd ((k + 1 : Nat) : Int) (m.ls.drop (k + 1)) && (risB m.dr && parsB m.ls.length [] (m.fr.flatten ++ (m.bk.flatten ++ m.dr)))) by rw [hnx, q1, show ((k + 1 : Nat) : Int) = (k : Int) + 1 by omega]; rfl)
                  simp only [q1] at hinf
                  have HINF := Lib.hid hinf
                  clear hb hd hlk hc hnx hbw hs hinf HS
                  go_wp2_with fail
                  refine (HINF.out _).mono ?_
                  rintro e w5 ⟨rfl, hb5⟩
                  have HB5 := Lib.hid ((HB4.out.alloc HB4.out.size (.cells #[.int .i64 x.k, .int .i64 x.y, .int .i64 x.b, .int .i64 x.p, .int .i64 x.d, .slice A5 x.ps.length c5] 37)).trans (hb5.mono (by simp; have := HB4.out.size; omega)))
                  clear hb5 hal
                  go_wp2
                  exact ⟨⟨k + 1, _, rfl, by omega, by go_num, HN.out, HB5.out⟩, by simp [intOf]; omega⟩
              · have HR4 := Lib.hid (show R = (risAt m.dr 0 && parsB m.ls.length [] (m.fr.flatten ++ (m.bk.flatten ++ m.dr))) by rw [hd.out, List.drop_of_length_le (by omega)]; rfl)
                have HB4 := Lib.hid hb
                clear hb hd HR3 HB3
                go_wp2
                clear x0 x1 x2 x3 x4 x5 x6
                go_loopw [104] (fun i wy => ∃ (k : Nat) (W5 : World), W5 = wy ∧ k ≤ m.dr.length ∧ i = .int .i64 k ∧ Hid (R = (risAt m.dr k && parsB m.ls.length [] (m.fr.flatten ++ (m.bk.flatten ++ m.dr)))) ∧ Below W0.heap.size W0 W5) (fun i _ => m.dr.length - (intOf i).toNat)
                case atStart => exact ⟨0, _, rfl, Nat.zero_le _, rfl, HR4.out, HB4.out⟩
                case round =>
                  obtain ⟨k, wy, hwr, hk, rfl, hd, hb⟩ := hrel
                  subst hwr
                  have hcw := HCL.out _ hb
                  have hbw := BW.out.trans (hb.mono (Nat.le_of_lt hws))
                  have HBW := Lib.hid hbw
                  by_cases hlt : k < m.dr.length
                  · obtain ⟨b, off, y, rfl, hbb, hlk, hcy⟩ := (HD.out.below hbw).at_ hlt
                    have e0 := fun X => wgrow_cell (x := X) hcy
                    have f6 := fun X => wgrow_cell (x := X) hcw.seven.2.2.2.2.2.2
                    have HB5 := Lib.hid hb
                    by_cases hk0 : k = 0
                    · have HT := Lib.hid (show R = (risAt m.dr (k + 1) && parsB m.ls.length [] (m.fr.flatten ++ (m.bk.flatten ++ m.dr))) by subst hk0; rw [hd.out, risAt_one hlk])
                      have hg : decide (0 < k) = false := by simp; omega
                      clear hb hd hk0 hbw hcw
                      go_wp2
                      refine wp_region_grow (by kernel_rfl) (by kernel_rfl) ?_
                      repeat (go_big_quiet_step (fail))
                      refine wpQuiet_nil ?_
                      intro wu hbu
                      have HB6 := Lib.hid (HB5.out.trans (hbu.mono HB5.out.size))
                      clear hbu
                      go_wp2
                      exact ⟨⟨k + 1, _, rfl, by omega, by go_num, HT.out, HB6.out⟩, by simp [intOf]; omega⟩
                    · obtain ⟨b', off', x, e', hbb', hlk', hc'⟩ := (HD.out.below hbw).at_ (show k - 1 < m.dr.length by omega)
                      injection e' with e'
                      injection e' with e1 e2
                      subst e1 e2
                      have hkc : ((k - 1 : Nat) : Int) = (k : Int) - 1 := by omega
                      have f0 := fun X => wgrow_cell (x := X) hc'
                      have hw1 : IntKind.i64.wrap ((k : Int) - 1) = (k : Int) - 1 := IntWalk.i64_in _ (by omega)
                      have hnx := risAt_next (by omega) hlk' hlk
                      have hg : decide (0 < k) = true := by simp; omega
                      by_cases hxy : x < y
                      · have HT := Lib.hid (show R = (risAt m.dr (k + 1) && parsB m.ls.length [] (m.fr.flatten ++ (m.bk.flatten ++ m.dr))) by rw [hd.out, hnx, decide_eq_true hxy]; rfl)
                        have g1 : decide (y ≤ x) = false := by simp; omega
                        clear hb hd hnx hbw hcw
                        go_wp2
                        refine wp_region_grow (by kernel_rfl) (by kernel_rfl) ?_
                        repeat (go_big_quiet_step (fail))
                        refine wpQuiet_nil ?_
                        intro wu hbu
                        have HB6 := Lib.hid (HB5.out.trans (hbu.mono HB5.out.size))
                        clear hbu
                        go_wp2
                        exact ⟨⟨k + 1, _, rfl, by omega, by go_num, HT.out, HB6.out⟩, by simp [intOf]; omega⟩
                      · have HT := Lib.hid (show R = false by rw [hd.out, hnx, decide_eq_false hxy]; rfl)
                        have g1 : decide (y ≤ x) = true := by simp; omega
                        clear hb hd hnx hbw hcw
                        go_wp2
                        refine wp_region_grow (by kernel_rfl) (by kernel_rfl) ?_
                        repeat (go_big_quiet_step (fail))
                        refine wpQuiet_nil ?_
                        intro wu hbu
                        have HB6 := Lib.hid (BW.out.trans ((HB5.out.trans (hbu.mono HB5.out.size)).mono (Nat.le_of_lt hws)))
                        clear hbu
                        go_wp2
                        go_ret
                        exact ⟨ret_bool HT.out.symm, HB6.out⟩
                  · have HT := Lib.hid (show R = parsB m.ls.length [] (m.fr.flatten ++ (m.bk.flatten ++ m.dr)) by rw [hd.out, risAt_end (by omega)]; rfl)
                    have hcc := Lib.hid hcw
                    clear hb hd hbw hcw
                    go_wp2_with fail
                    have hu := HBW.out.size
                    refine (areApart_any m _ _ _ _ _ _ _ hcc.out (RdLL.more (RdLL.below HF.out HBW.out) hu) (RdLL.more (RdLL.below HG.out HBW.out) hu) (RdIs.more (RdIs.below HI.out HBW.out) hu) ((HD.out.below HBW.out).more hu) HDC.out l1 l2 (by omega)).mono ?_
                    rintro e w6 ⟨rfl, hb6⟩
                    rw [← HT.out]
                    have HB6 := Lib.hid (HBW.out.trans (hb6.mono HBW.out.size))
                    clear hb6
                    go_wp2
                    go_ret
                    exact ⟨rfl, HB6.out⟩

end Go.Proofs.Ytogaellhkjjeaaa

/-
  l07Ok where the head of a machine fails, case 1.
-/
namespace Go.Proofs.Ytogaellhkjjeaaa
set_option linter.unusedVariables false
set_option linter.unusedSimpArgs false
open Go.RowKit

set_option maxHeartbeats 8000000 in
set_option maxRecDepth 100000 in
theorem l07Ok_bad1 (m : Mc) (AF : Option Addr) (cF : Nat) (AG : Option Addr) (cG : Nat) (AC : Option Addr) (cC : Nat) (AI : Option Addr) (cI : Nat) (AD : Option Addr) (cD : Nat) (g : Nat) (w : World)
    (hc : CellsAt w g 0 [.int .i64 m.wd, .int .i64 m.rk, .slice AF m.fr.length cF, .slice AG m.bk.length cG, .slice AC m.cs.length cC, .slice AI m.ls.length cI, .slice AD m.dr.length cD]) (a1 : inB 1 m.wd 24 = false) (hn : okM m = false) :
    Calls Try.prog 67 #[.pointer (some ⟨g, 0, none⟩)] w fun e w' => e = .returned (.bool (okM m)) ∧ Below w.heap.size w w' := by
  obtain ⟨x0, x1, x2, x3, x4, x5, x6⟩ := hc.seven
  have e0 := fun X => wgrow_cell (x := X) x0
  have hq1 := fun W => l00In_b m.wd 1 24 W
  have hq2 := fun W => l00In_b m.rk (-3) 3 W
  simp only [a1] at hq1
  have HQ1 := Lib.hid hq1
  have HQ2 := Lib.hid hq2
  have HN := Lib.hid hn
  clear hq1 hq2 hn hc x0 x1 x2 x3 x4 x5 x6
  rw [HN.out]
  go_enter Try.func67, Try.ntmps67
  go_wp2
  refine wp_region_grow (by kernel_rfl) (by kernel_rfl) ?_
  repeat (go_big_quiet_step ((first | (go_at_call_of 122 (Value.int .i64 m.wd); exact calls_grow (HQ1.out _)) | (go_at_call_of 122 (Value.int .i64 m.rk); exact calls_grow (HQ2.out _)))))
  refine wpQuiet_nil ?_
  intro wq hq
  have HQ := Lib.hid hq
  clear hq
  go_wp2
  go_ret
  exact ⟨rfl, HQ.out⟩

end Go.Proofs.Ytogaellhkjjeaaa

/-
  l07Ok where the head of a machine fails, case 2.
-/
namespace Go.Proofs.Ytogaellhkjjeaaa
set_option linter.unusedVariables false
set_option linter.unusedSimpArgs false
open Go.RowKit

set_option maxHeartbeats 8000000 in
set_option maxRecDepth 100000 in
theorem l07Ok_bad2 (m : Mc) (AF : Option Addr) (cF : Nat) (AG : Option Addr) (cG : Nat) (AC : Option Addr) (cC : Nat) (AI : Option Addr) (cI : Nat) (AD : Option Addr) (cD : Nat) (g : Nat) (w : World)
    (hc : CellsAt w g 0 [.int .i64 m.wd, .int .i64 m.rk, .slice AF m.fr.length cF, .slice AG m.bk.length cG, .slice AC m.cs.length cC, .slice AI m.ls.length cI, .slice AD m.dr.length cD]) (a1 : inB 1 m.wd 24 = true) (a2 : inB (-3) m.rk 3 = false) (hn : okM m = false) :
    Calls Try.prog 67 #[.pointer (some ⟨g, 0, none⟩)] w fun e w' => e = .returned (.bool (okM m)) ∧ Below w.heap.size w w' := by
  obtain ⟨x0, x1, x2, x3, x4, x5, x6⟩ := hc.seven
  have e0 := fun X => wgrow_cell (x := X) x0
  have e1 := fun X => wgrow_cell (x := X) x1
  have hq1 := fun W => l00In_b m.wd 1 24 W
  have hq2 := fun W => l00In_b m.rk (-3) 3 W
  simp only [a1] at hq1
  simp only [a2] at hq2
  have HQ1 := Lib.hid hq1
  have HQ2 := Lib.hid hq2
  have HN := Lib.hid hn
  clear hq1 hq2 hn hc x0 x1 x2 x3 x4 x5 x6
  rw [HN.out]
  go_enter Try.func67, Try.ntmps67
  go_wp2
  refine wp_region_grow (by kernel_rfl) (by kernel_rfl) ?_
  repeat (go_big_quiet_step ((first | (go_at_call_of 122 (Value.int .i64 m.wd); exact calls_grow (HQ1.out _)) | (go_at_call_of 122 (Value.int .i64 m.rk); exact calls_grow (HQ2.out _)))))
  refine wpQuiet_nil ?_
  intro wq hq
  have HQ := Lib.hid hq
  clear hq
  go_wp2
  go_ret
  exact ⟨rfl, HQ.out⟩

end Go.Proofs.Ytogaellhkjjeaaa

/-
  l07Ok where the head of a machine fails, case 3.
-/
namespace Go.Proofs.Ytogaellhkjjeaaa
set_option linter.unusedVariables false
set_option linter.unusedSimpArgs false
open Go.RowKit

set_option maxHeartbeats 8000000 in
set_option maxRecDepth 100000 in
theorem l07Ok_bad3 (m : Mc) (AF : Option Addr) (cF : Nat) (AG : Option Addr) (cG : Nat) (AC : Option Addr) (cC : Nat) (AI : Option Addr) (cI : Nat) (AD : Option Addr) (cD : Nat) (g : Nat) (w : World)
    (hc : CellsAt w g 0 [.int .i64 m.wd, .int .i64 m.rk, .slice AF m.fr.length cF, .slice AG m.bk.length cG, .slice AC m.cs.length cC, .slice AI m.ls.length cI, .slice AD m.dr.length cD]) (a1 : inB 1 m.wd 24 = true) (a2 : inB (-3) m.rk 3 = true) (a3 : ((m.fr.length : Int) != m.wd) = true) (hn : okM m = false) :
    Calls Try.prog 67 #[.pointer (some ⟨g, 0, none⟩)] w fun e w' => e = .returned (.bool (okM m)) ∧ Below w.heap.size w w' := by
  obtain ⟨x0, x1, x2, x3, x4, x5, x6⟩ := hc.seven
  have e0 := fun X => wgrow_cell (x := X) x0
  have e1 := fun X => wgrow_cell (x := X) x1
  have e2 := fun X => wgrow_cell (x := X) x2
  have hq1 := fun W => l00In_b m.wd 1 24 W
  have hq2 := fun W => l00In_b m.rk (-3) 3 W
  simp only [a1] at hq1
  simp only [a2] at hq2
  have HQ1 := Lib.hid hq1
  have HQ2 := Lib.hid hq2
  have HN := Lib.hid hn
  clear hq1 hq2 hn hc x0 x1 x2 x3 x4 x5 x6
  rw [HN.out]
  go_enter Try.func67, Try.ntmps67
  go_wp2
  refine wp_region_grow (by kernel_rfl) (by kernel_rfl) ?_
  repeat (go_big_quiet_step ((first | (go_at_call_of 122 (Value.int .i64 m.wd); exact calls_grow (HQ1.out _)) | (go_at_call_of 122 (Value.int .i64 m.rk); exact calls_grow (HQ2.out _)))))
  refine wpQuiet_nil ?_
  intro wq hq
  have HQ := Lib.hid hq
  clear hq
  go_wp2
  go_ret
  exact ⟨rfl, HQ.out⟩

end Go.Proofs.Ytogaellhkjjeaaa

/-
  l07Ok where the head of a machine fails, case 4.
-/
namespace Go.Proofs.Ytogaellhkjjeaaa
set_option linter.unusedVariables false
set_option linter.unusedSimpArgs false
open Go.RowKit

set_option maxHeartbeats 8000000 in
set_option maxRecDepth 100000 in
theorem l07Ok_bad4 (m : Mc) (AF : Option Addr) (cF : Nat) (AG : Option Addr) (cG : Nat) (AC : Option Addr) (cC : Nat) (AI : Option Addr) (cI : Nat) (AD : Option Addr) (cD : Nat) (g : Nat) (w : World)
    (hc : CellsAt w g 0 [.int .i64 m.wd, .int .i64 m.rk, .slice AF m.fr.length cF, .slice AG m.bk.length cG, .slice AC m.cs.length cC, .slice AI m.ls.length cI, .slice AD m.dr.length cD]) (a1 : inB 1 m.wd 24 = true) (a2 : inB (-3) m.rk 3 = true) (a3 : ((m.fr.length : Int) != m.wd) = false) (a4 : ((m.bk.length : Int) != m.wd) = true) (hn : okM m = false) :
    Calls Try.prog 67 #[.pointer (some ⟨g, 0, none⟩)] w fun e w' => e = .returned (.bool (okM m)) ∧ Below w.heap.size w w' := by
  obtain ⟨x0, x1, x2, x3, x4, x5, x6⟩ := hc.seven
  have e0 := fun X => wgrow_cell (x := X) x0
  have e1 := fun X => wgrow_cell (x := X) x1
  have e2 := fun X => wgrow_cell (x := X) x2
  have e3 := fun X => wgrow_cell (x := X) x3
  have hq1 := fun W => l00In_b m.wd 1 24 W
  have hq2 := fun W => l00In_b m.rk (-3) 3 W
  simp only [a1] at hq1
  simp only [a2] at hq2
  have HQ1 := Lib.hid hq1
  have HQ2 := Lib.hid hq2
  have HN := Lib.hid hn
  clear hq1 hq2 hn hc x0 x1 x2 x3 x4 x5 x6
  rw [HN.out]
  go_enter Try.func67, Try.ntmps67
  go_wp2
  refine wp_region_grow (by kernel_rfl) (by kernel_rfl) ?_
  repeat (go_big_quiet_step ((first | (go_at_call_of 122 (Value.int .i64 m.wd); exact calls_grow (HQ1.out _)) | (go_at_call_of 122 (Value.int .i64 m.rk); exact calls_grow (HQ2.out _)))))
  refine wpQuiet_nil ?_
  intro wq hq
  have HQ := Lib.hid hq
  clear hq
  go_wp2
  go_ret
  exact ⟨rfl, HQ.out⟩

end Go.Proofs.Ytogaellhkjjeaaa

/-
  l07Ok where the head of a machine fails, case 5.
-/
namespace Go.Proofs.Ytogaellhkjjeaaa
set_option linter.unusedVariables false
set_option linter.unusedSimpArgs false
open Go.RowKit

set_option maxHeartbeats 8000000 in
set_option maxRecDepth 100000 in
theorem l07Ok_bad5 (m : Mc) (AF : Option Addr) (cF : Nat) (AG : Option Addr) (cG : Nat) (AC : Option Addr) (cC : Nat) (AI : Option Addr) (cI : Nat) (AD : Option Addr) (cD : Nat) (g : Nat) (w : World)
    (hc : CellsAt w g 0 [.int .i64 m.wd, .int .i64 m.rk, .slice AF m.fr.length cF, .slice AG m.bk.length cG, .slice AC m.cs.length cC, .slice AI m.ls.length cI, .slice AD m.dr.length cD]) (a1 : inB 1 m.wd 24 = true) (a2 : inB (-3) m.rk 3 = true) (a3 : ((m.fr.length : Int) != m.wd) = false) (a4 : ((m.bk.length : Int) != m.wd) = false) (a5 : ((m.cs.length : Int) != 4) = true) (hn : okM m = false) :
    Calls Try.prog 67 #[.pointer (some ⟨g, 0, none⟩)] w fun e w' => e = .returned (.bool (okM m)) ∧ Below w.heap.size w w' := by
  obtain ⟨x0, x1, x2, x3, x4, x5, x6⟩ := hc.seven
  have e0 := fun X => wgrow_cell (x := X) x0
  have e1 := fun X => wgrow_cell (x := X) x1
  have e2 := fun X => wgrow_cell (x := X) x2
  have e3 := fun X => wgrow_cell (x := X) x3
  have e4 := fun X => wgrow_cell (x := X) x4
  have hq1 := fun W => l00In_b m.wd 1 24 W
  have hq2 := fun W => l00In_b m.rk (-3) 3 W
  simp only [a1] at hq1
  simp only [a2] at hq2
  have HQ1 := Lib.hid hq1
  have HQ2 := Lib.hid hq2
  have HN := Lib.hid hn
  clear hq1 hq2 hn hc x0 x1 x2 x3 x4 x5 x6
  rw [HN.out]
  go_enter Try.func67, Try.ntmps67
  go_wp2
  refine wp_region_grow (by kernel_rfl) (by kernel_rfl) ?_
  repeat (go_big_quiet_step ((first | (go_at_call_of 122 (Value.int .i64 m.wd); exact calls_grow (HQ1.out _)) | (go_at_call_of 122 (Value.int .i64 m.rk); exact calls_grow (HQ2.out _)))))
  refine wpQuiet_nil ?_
  intro wq hq
  have HQ := Lib.hid hq
  clear hq
  go_wp2
  go_ret
  exact ⟨rfl, HQ.out⟩

end Go.Proofs.Ytogaellhkjjeaaa

/-
  l07Ok where the head of a machine fails, case 6.
-/
namespace Go.Proofs.Ytogaellhkjjeaaa
set_option linter.unusedVariables false
set_option linter.unusedSimpArgs false
open Go.RowKit

set_option maxHeartbeats 8000000 in
set_option maxRecDepth 100000 in
theorem l07Ok_bad6 (m : Mc) (AF : Option Addr) (cF : Nat) (AG : Option Addr) (cG : Nat) (AC : Option Addr) (cC : Nat) (AI : Option Addr) (cI : Nat) (AD : Option Addr) (cD : Nat) (g : Nat) (w : World)
    (hc : CellsAt w g 0 [.int .i64 m.wd, .int .i64 m.rk, .slice AF m.fr.length cF, .slice AG m.bk.length cG, .slice AC m.cs.length cC, .slice AI m.ls.length cI, .slice AD m.dr.length cD]) (a1 : inB 1 m.wd 24 = true) (a2 : inB (-3) m.rk 3 = true) (a3 : ((m.fr.length : Int) != m.wd) = false) (a4 : ((m.bk.length : Int) != m.wd) = false) (a5 : ((m.cs.length : Int) != 4) = false) (a6 : (300 : Int) < (m.ls.length : Int)) (hn : okM m = false) :
    Calls Try.prog 67 #[.pointer (some ⟨g, 0, none⟩)] w fun e w' => e = .returned (.bool (okM m)) ∧ Below w.heap.size w w' := by
  obtain ⟨x0, x1, x2, x3, x4, x5, x6⟩ := hc.seven
  have e0 := fun X => wgrow_cell (x := X) x0
  have e1 := fun X => wgrow_cell (x := X) x1
  have e2 := fun X => wgrow_cell (x := X) x2
  have e3 := fun X => wgrow_cell (x := X) x3
  have e4 := fun X => wgrow_cell (x := X) x4
  have e5 := fun X => wgrow_cell (x := X) x5
  have hq1 := fun W => l00In_b m.wd 1 24 W
  have hq2 := fun W => l00In_b m.rk (-3) 3 W
  simp only [a1] at hq1
  simp only [a2] at hq2
  have a7 : decide ((300 : Int) < (m.ls.length : Int)) = true := decide_eq_true a6
  have a8 : decide (300 < m.ls.length) = true := decide_eq_true (by omega)
  clear a6
  have HQ1 := Lib.hid hq1
  have HQ2 := Lib.hid hq2
  have HN := Lib.hid hn
  clear hq1 hq2 hn hc x0 x1 x2 x3 x4 x5 x6
  rw [HN.out]
  go_enter Try.func67, Try.ntmps67
  go_wp2
  refine wp_region_grow (by kernel_rfl) (by kernel_rfl) ?_
  repeat (go_big_quiet_step ((first | (go_at_call_of 122 (Value.int .i64 m.wd); exact calls_grow (HQ1.out _)) | (go_at_call_of 122 (Value.int .i64 m.rk); exact calls_grow (HQ2.out _)))))
  refine wpQuiet_nil ?_
  intro wq hq
  have HQ := Lib.hid hq
  clear hq
  go_wp2
  go_ret
  exact ⟨rfl, HQ.out⟩

end Go.Proofs.Ytogaellhkjjeaaa

/-
  l07Ok of the reference: what it says of every machine.
-/
namespace Go.Proofs.Ytogaellhkjjeaaa
set_option linter.unusedVariables false
set_option linter.unusedSimpArgs false
open Go.RowKit

theorem l07Ok_any (m : Mc) (F G C L D : Value) (g : Nat) (w : World) (hc : CellsAt w g 0 [.int .i64 m.wd, .int .i64 m.rk, F, G, C, L, D]) (hF : RdLL w w.heap.size F m.fr) (hG : RdLL w w.heap.size G m.bk) (hC : RdCs w w.heap.size C m.cs) (hL : RdIs w w.heap.size L m.ls) (hD : RdI w w.heap.size D m.dr) (hdr : m.dr.length ≤ 1048576) :
    Calls Try.prog 67 #[.pointer (some ⟨g, 0, none⟩)] w fun e w' => e = .returned (.bool (okM m)) ∧ Below w.heap.size w w' := by
  obtain ⟨AF, cF, rfl⟩ := RdN.shape hF
  obtain ⟨AG, cG, rfl⟩ := RdN.shape hG
  obtain ⟨AC, cC, rfl⟩ := RdS.lens hC
  obtain ⟨AI, cI, rfl⟩ := RdN.shape hL
  obtain ⟨AD, cD, rfl⟩ := RdI.len hD
  cases hh : headM m
  · have hn : okM m = false := by simp [okM, hh]
    rcases headM_no hh with a1 | ⟨a1, a2⟩ | ⟨a1, a2, a3⟩ | ⟨a1, a2, a3, a4⟩ | ⟨a1, a2, a3, a4, a5⟩ | ⟨a1, a2, a3, a4, a5, a6⟩
    · exact l07Ok_bad1 m AF cF AG cG AC cC AI cI AD cD g w hc a1 hn
    · exact l07Ok_bad2 m AF cF AG cG AC cC AI cI AD cD g w hc a1 a2 hn
    · exact l07Ok_bad3 m AF cF AG cG AC cC AI cI AD cD g w hc a1 a2 a3 hn
    · exact l07Ok_bad4 m AF cF AG cG AC cC AI cI AD cD g w hc a1 a2 a3 a4 hn
    · exact l07Ok_bad5 m AF cF AG cG AC cC AI cI AD cD g w hc a1 a2 a3 a4 a5 hn
    · exact l07Ok_bad6 m AF cF AG cG AC cC AI cI AD cD g w hc a1 a2 a3 a4 a5 a6 hn
  · exact l07Ok_main m AF cF AG cG AC cC AI cI AD cD g w hc hF hG hC hL hD hdr hh

end Go.Proofs.Ytogaellhkjjeaaa

/-
  A slice of bytes that came in; the bound on its length.
-/
namespace Go.Proofs.Ytogaellhkjjeaaa
set_option linter.unusedVariables false
set_option linter.unusedSimpArgs false
open Go.ChangeShapes Go.WideShapes Go.ChangeAt Go.RowKit Go.Deep

theorem byte_of_wf {x : Int} (h : (Lit.int .u8 x).wf = true) : 0 ≤ x ∧ x ≤ 255 := by
  simp [Lit.wf, IntKind.min, IntKind.max, IntKind.signed, IntKind.bits] at h
  exact ⟨by omega, by omega⟩
section
variable {H : Type} {enc : TypeId × Value → H} {P : Program} {W : World} {base : Nat} {d : DataW H} {p : List MemPlace} {v : Value}
theorem open_rdB {t e : TypeId} (ht : P.underlying t = some (.slice e)) (he : P.underlying e = some (.int .u8)) (hc : P.cellsOf e = 1) (ho : Value.okWide P W .any base t v)
    (h : DataW.Trod enc P W 0 (fun _ => true) true t v d p) : RdB W W.heap.size v := by
  obtain ⟨A, n, c, rfl⟩ := okWide_slice ht ho
  obtain ⟨fuel, hf⟩ := h
  rcases open_ints ht he hc hf with ⟨hcs, _⟩ | ⟨a, l', c', zs, hcs, _, hl, hm, hz, _, hcell, hwz⟩
  · simp [Value.cells] at hcs
    obtain ⟨rfl, rfl, rfl⟩ := hcs
    exact ⟨none, 0, 0, rfl, by omega, fun k hk => absurd hk (by omega)⟩
  · simp [Value.cells] at hcs
    obtain ⟨rfl, rfl, rfl⟩ := hcs
    simp only [if_true] at hz
    refine ⟨some a, n, c, rfl, by unfold maxLen at hm; omega, fun k hk => ?_⟩
    obtain ⟨h1, h2, h3⟩ := addr_of_cell (hcell k (by omega)) ⟨_, hcell 0 (by omega)⟩
    have hb : 0 ≤ zs.getD k 0 ∧ zs.getD k 0 ≤ 255 := by
      rw [List.getD_eq_getElem?_getD]
      cases hx : zs[k]? with
      | none => simp
      | some x => exact byte_of_wf (hwz x (List.mem_of_getElem? hx))
    exact ⟨a.block, a.off, zs.getD k 0, by rw [← h1], h2, hb.1, hb.2, h3⟩
end
theorem b10Long_s (A : Option Addr) (n c : Nat) (h : n ≤ 9223372036854775807) (b : Bool) (hb : decide (1048576 < n) = b) (w : World) : Calls Try.prog 12 #[.slice A n c] w fun e w' => e = .returned (.bool b) ∧ w = w' := by
  subst hb
  go_enter Try.func12, Try.ntmps12
  go_wp2
  go_ret
  exact ⟨ret_bool (by first | rfl | (rw [Bool.eq_iff_iff]; simp; omega)), by trivial⟩

end Go.Proofs.Ytogaellhkjjeaaa
