/-
  Needles and live loops: needles, on, live of the program, l07Live of the reference.
-/
import Derived.Test.YtccdnmafakaleaaDoorMcFab
import Derived.Test.YtccdnmafakaleaaDoorAppend
namespace Go.Proofs.YtccdnmafakaleaaDoor
set_option linter.unusedVariables false
set_option linter.unusedSimpArgs false
open Go.RowKit

abbrev ndC (n : Int × Int) : List Value := [.int .i64 n.1, .int .i64 n.2]
theorem ndC_len (n : Int × Int) : (ndC n).length = 2 := rfl
theorem info_nd : (Tryd.prog.info? 50).map (fun i => (i.zero, i.size, i.bytes)) = some (some (.agg #[.int .i64 0, .int .i64 0]), 2, 16) := by kernel_rfl
theorem nd_one (a b : Int) : ∀ u ∈ [Value.int .i64 a, .int .i64 b], u.oneCell' = true := by
  intro u hu
  simp at hu
  rcases hu with rfl | rfl <;> rfl
theorem vS_snoc {α : Type} (cs : α → List Value) (l : List α) (x : α) : vS cs (l ++ [x]) = vS cs l ++ cs x := by simp [vS]

theorem quiet_s {P : Program} {f : FuncId} {args : Array Value} {w : World} {n : Nat} {v : Value} (h : Calls P f args (w.drewN n) fun e w' => e = .returned v ∧ w.drewN n = w') :
    Calls P f args (w.drewN n) fun e w'' => e = .returned v ∧ ∃ m, w'' = w.drewN m := h.mono fun e w' ⟨h1, h2⟩ => ⟨h1, n, h2.symm⟩
theorem below_drewN {B : Nat} {a w : World} (h : Below B a w) (n : Nat) : Below B a (w.drewN n) := ⟨h.os, h.tape, h.output, h.size, h.block⟩
theorem nd_next {m : Mc} {Y acc : List (Int × Int)} {x : Int} (h : Y = acc ++ ndGo m (m.wd + 3 - x).toNat x) (hx : x < m.wd + 3) : Y = (acc ++ ndX m x) ++ ndGo m (m.wd + 3 - (x + 1)).toNat (x + 1) := by
  rw [h, show (m.wd + 3 - x).toNat = (m.wd + 3 - (x + 1)).toNat + 1 by omega, ndGo, List.append_assoc]
theorem nd_end {m : Mc} {Y acc : List (Int × Int)} {x : Int} (h : Y = acc ++ ndGo m (m.wd + 3 - x).toNat x) (hx : m.wd + 3 ≤ x) : Y = acc := by
  rw [h, show (m.wd + 3 - x).toNat = 0 by omega]; simp [ndGo]
theorem nd_start {m : Mc} (h : 1 ≤ m.wd) : ndL m = [] ++ ndGo m (m.wd + 3 - (-3)).toNat (-3) := by
  unfold ndL
  rw [show (m.wd + 3 - (-3)).toNat = m.wd.toNat + 6 by omega]
  rfl
theorem ndX_tt {m : Mc} {x : Int} (h1 : inB 0 x (m.wd - 1) = true) (h2 : inB 0 (x - m.rk) (m.wd - 1) = true) : ndX m x = [(1, x), (2, x - m.rk)] := by unfold ndX; rw [if_pos h1, if_pos h2]; rfl
theorem ndX_tf {m : Mc} {x : Int} (h1 : inB 0 x (m.wd - 1) = true) (h2 : inB 0 (x - m.rk) (m.wd - 1) = false) : ndX m x = [(1, x)] := by unfold ndX; rw [if_pos h1, if_neg (by rw [h2]; decide)]; rfl
theorem ndX_ft {m : Mc} {x : Int} (h1 : inB 0 x (m.wd - 1) = false) (h2 : inB 0 (x - m.rk) (m.wd - 1) = true) : ndX m x = [(2, x - m.rk)] := by unfold ndX; rw [if_neg (by rw [h1]; decide), if_pos h2]; rfl
theorem ndX_ff {m : Mc} {x : Int} (h1 : inB 0 x (m.wd - 1) = false) (h2 : inB 0 (x - m.rk) (m.wd - 1) = false) : ndX m x = [] := by unfold ndX; rw [if_neg (by rw [h1]; decide), if_neg (by rw [h2]; decide)]; rfl

set_option maxHeartbeats 8000000 in
set_option maxRecDepth 100000 in
theorem needles_any (m : Mc) (g : Nat) (w : World) (h : RdP w g m) (ok : okM m = true) :
    Calls Tryd.prog 101 #[.pointer (some ⟨g, 0, none⟩)] w (GivesOw w 50 2 (ndL m).length (vS ndC (ndL m))) := by
  obtain ⟨i0, hi, hz0, hz1, hz2⟩ := info_parts info_nd
  obtain ⟨F, G, C, L, D, hc, h1, h2, h3, h4, h5, h6⟩ := h
  obtain ⟨d1, d2, d3, d4, -, -, -⟩ := ok_wd ok
  obtain ⟨x0, x1, x2, x3, x4, x5, x6⟩ := hc.seven
  have hgl : g < w.heap.size := block_lt_of_cell x0
  have HC := Lib.hid hc
  have HY := Lib.hid (nd_start d1)
  have hw1 : IntKind.i64.wrap (m.wd - 1) = m.wd - 1 := IntWalk.i64_in _ (by omega)
  have hw3 : IntKind.i64.wrap (m.wd + 3) = m.wd + 3 := IntWalk.i64_in _ (by omega)
  clear hc h1 h2 h3 h4 h5 h6 ok
  generalize ndL m = Y at *
  go_enter Tryd.func101, Tryd.ntmps101
  go_wp2
  go_loopw [3, 4] (fun t i wr => ∃ (x : Int) (acc : List (Int × Int)), -3 ≤ x ∧ x ≤ m.wd + 3 ∧ i = .int .i64 x ∧ wr.ownsRow w.heap.size 50 2 t acc.length (vS ndC acc) ∧ (acc.length : Int) ≤ 2 * (x + 3) ∧ Hid (Y = acc ++ ndGo m (m.wd + 3 - x).toNat x) ∧ Below w.heap.size w wr) (fun _ i _ => (m.wd + 3 - intOf i).toNat)
  case atStart => exact ⟨-3, [], by omega, by omega, rfl, World.ownsRow_lit _ _ _ (Nat.le_refl _) (by unfold maxLen; omega) rfl, by simp, HY.out, (Below.refl _ _).alloc (Nat.le_refl _) _⟩
  case round =>
    rename_i wr
    obtain ⟨x, acc, q1, q2, rfl, hown, hak, hd, hb⟩ := hrel
    obtain ⟨y0, y1, y2, y3, y4, y5, y6⟩ := (HC.out.below hb hgl).seven
    have hwx : IntKind.i64.wrap (x - m.rk) = x - m.rk := IntWalk.i64_in _ (by omega)
    by_cases hlt : x < m.wd + 3
    · have HN := nd_next hd.out hlt
      have HB := Lib.hid hb
      have HO := Lib.hid hown
      have hz := hb.size
      cases hb1 : inB 0 x (m.wd - 1) <;> cases hb2 : inB 0 (x - m.rk) (m.wd - 1)
      · rw [ndX_ff hb1 hb2] at HN
        have HD := Lib.hid HN
        have I1 := Lib.hid hb1
        have I2 := Lib.hid hb2
        clear HN hb1 hb2 hb hown hd
        go_wp2_with (go_at_call 47; refine (within_s _ _ _ _).mono ?_; rintro e w' ⟨rfl, rfl⟩; rw [I1.out])
        go_quiet ((go_at_call 47; exact quiet_s (within_s _ _ _ _)))
        rename_i nq
        simp only [I2.out]
        have HBq := Lib.hid (below_drewN HB.out nq)
        have HOq : Hid ((wr.drewN nq).ownsRow w.heap.size 50 2 _ acc.length (vS ndC acc)) := HO.out
        clear HO HB
        have HB := HBq
        have HO := HOq
        clear HBq HOq
        go_wp2
        exact ⟨⟨x + 1, acc, by omega, by omega, by go_num, HO.out, by omega, by simpa using HD, HB.out⟩, by simp [intOf]; omega⟩
      · rw [ndX_ft hb1 hb2] at HN
        have HD := Lib.hid HN
        have I1 := Lib.hid hb1
        have I2 := Lib.hid hb2
        clear HN hb1 hb2 hb hown hd
        go_wp2_with (go_at_call 47; refine (within_s _ _ _ _).mono ?_; rintro e w' ⟨rfl, rfl⟩; rw [I1.out])
        go_quiet ((go_at_call 47; exact quiet_s (within_s _ _ _ _)))
        rename_i nq
        simp only [I2.out]
        have HBq := Lib.hid (below_drewN HB.out nq)
        have HOq : Hid ((wr.drewN nq).ownsRow w.heap.size 50 2 _ acc.length (vS ndC acc)) := HO.out
        clear HO HB
        have HB := HBq
        have HO := HOq
        clear HBq HOq
        go_wp2_with (first | (go_at_call 47; refine (within_s _ _ _ _).mono ?_; rintro e w' ⟨rfl, rfl⟩; rw [I1.out]) | (at_builtin; refine wpList_append_own _ rfl _ _ 148 rfl w.heap.size 50 i0 _ 2 16 Tryd.underlying148 hi hz0 hz1 hz2 rfl (by decide) _ _ _ rfl (HO.out.alloc _) ⟨(wr.drewN nq).heap.size, 0, none⟩ 1 1 (ndC (2, x - m.rk)) rfl rfl ?ft2a ?ft2b ?ft2c ?ft2d ?ft2e ?_))
        case ft2a => exact new_cells' _ _ rfl
        case ft2b => exact nd_one _ _
        case ft2c => (try simp only [List.length_append, List.length_cons, List.length_nil]); unfold maxLen; omega
        case ft2d => (try simp only [List.length_append, List.length_cons, List.length_nil]); omega
        case ft2e => exact Nat.le_trans HB.out.size ((Below.refl _ _).alloc (Nat.le_refl _) _).size
        intro v2 w2 hown2 hgrow2 _
        have HB2 := Lib.hid (below_append' (HB.out.alloc HB.out.size _) (Nat.le_trans HB.out.size ((Below.refl _ _).alloc (Nat.le_refl _) _).size) HO.out ((Below.refl _ _).alloc (Nat.le_refl _) _).size hgrow2)
        have HO2 : Hid (w2.ownsRow w.heap.size 50 2 v2 (acc ++ [((2 : Int), x - m.rk)]).length (vS ndC (acc ++ [((2 : Int), x - m.rk)]))) := by unfold Hid; rw [vS_snoc, show (acc ++ [((2 : Int), x - m.rk)]).length = acc.length + 1 from by simp]; exact hown2
        clear hown2 hgrow2 HO HB
        go_wp2
        exact ⟨⟨x + 1, acc ++ [((2 : Int), x - m.rk)], by omega, by omega, by go_num, HO2.out, by simp; omega, by simpa using HD, HB2.out⟩, by simp [intOf]; omega⟩
      · rw [ndX_tf hb1 hb2] at HN
        have HD := Lib.hid HN
        have I1 := Lib.hid hb1
        have I2 := Lib.hid hb2
        clear HN hb1 hb2 hb hown hd
        go_wp2_with (first | (go_at_call 47; refine (within_s _ _ _ _).mono ?_; rintro e w' ⟨rfl, rfl⟩; rw [I1.out]) | (at_builtin; refine wpList_append_own _ rfl _ _ 148 rfl w.heap.size 50 i0 _ 2 16 Tryd.underlying148 hi hz0 hz1 hz2 rfl (by decide) _ _ _ rfl (HO.out.alloc _) ⟨wr.heap.size, 0, none⟩ 1 1 (ndC (1, x)) rfl rfl ?tf1a ?tf1b ?tf1c ?tf1d ?tf1e ?_))
        case tf1a => exact new_cells' _ _ rfl
        case tf1b => exact nd_one _ _
        case tf1c => (try simp only [List.length_append, List.length_cons, List.length_nil]); unfold maxLen; omega
        case tf1d => (try simp only [List.length_append, List.length_cons, List.length_nil]); omega
        case tf1e => exact Nat.le_trans HB.out.size ((Below.refl _ _).alloc (Nat.le_refl _) _).size
        intro v1 w1 hown1 hgrow1 _
        have HB1 := Lib.hid (below_append' (HB.out.alloc HB.out.size _) (Nat.le_trans HB.out.size ((Below.refl _ _).alloc (Nat.le_refl _) _).size) HO.out ((Below.refl _ _).alloc (Nat.le_refl _) _).size hgrow1)
        have HO1 : Hid (w1.ownsRow w.heap.size 50 2 v1 (acc ++ [((1 : Int), x)]).length (vS ndC (acc ++ [((1 : Int), x)]))) := by unfold Hid; rw [vS_snoc, List.length_append]; exact hown1
        obtain ⟨z0, z1, z2, z3, z4, z5, z6⟩ := (HC.out.below HB1.out hgl).seven
        clear hown1 hgrow1 HO HB y0 y1 y2 y3 y4 y5 y6
        have HB := HB1
        have HO := HO1
        clear HB1 HO1
        go_wp2
        go_quiet ((go_at_call 47; exact quiet_s (within_s _ _ _ _)))
        rename_i nq
        simp only [I2.out]
        have HBq := Lib.hid (below_drewN HB.out nq)
        have HOq : Hid ((w1.drewN nq).ownsRow w.heap.size 50 2 _ (acc ++ [((1 : Int), x)]).length (vS ndC (acc ++ [((1 : Int), x)]))) := HO.out
        clear HO HB
        have HB := HBq
        have HO := HOq
        clear HBq HOq
        go_wp2
        exact ⟨⟨x + 1, (acc ++ [((1 : Int), x)]), by omega, by omega, by go_num, HO.out, by simp; omega, by simpa using HD, HB.out⟩, by simp [intOf]; omega⟩
      · rw [ndX_tt hb1 hb2] at HN
        have HD := Lib.hid HN
        have I1 := Lib.hid hb1
        have I2 := Lib.hid hb2
        clear HN hb1 hb2 hb hown hd
        go_wp2_with (first | (go_at_call 47; refine (within_s _ _ _ _).mono ?_; rintro e w' ⟨rfl, rfl⟩; rw [I1.out]) | (at_builtin; refine wpList_append_own _ rfl _ _ 148 rfl w.heap.size 50 i0 _ 2 16 Tryd.underlying148 hi hz0 hz1 hz2 rfl (by decide) _ _ _ rfl (HO.out.alloc _) ⟨wr.heap.size, 0, none⟩ 1 1 (ndC (1, x)) rfl rfl ?tt1a ?tt1b ?tt1c ?tt1d ?tt1e ?_))
        case tt1a => exact new_cells' _ _ rfl
        case tt1b => exact nd_one _ _
        case tt1c => (try simp only [List.length_append, List.length_cons, List.length_nil]); unfold maxLen; omega
        case tt1d => (try simp only [List.length_append, List.length_cons, List.length_nil]); omega
        case tt1e => exact Nat.le_trans HB.out.size ((Below.refl _ _).alloc (Nat.le_refl _) _).size
        intro v1 w1 hown1 hgrow1 _
        have HB1 := Lib.hid (below_append' (HB.out.alloc HB.out.size _) (Nat.le_trans HB.out.size ((Below.refl _ _).alloc (Nat.le_refl _) _).size) HO.out ((Below.refl _ _).alloc (Nat.le_refl _) _).size hgrow1)
        have HO1 : Hid (w1.ownsRow w.heap.size 50 2 v1 (acc ++ [((1 : Int), x)]).length (vS ndC (acc ++ [((1 : Int), x)]))) := by unfold Hid; rw [vS_snoc, List.length_append]; exact hown1
        obtain ⟨z0, z1, z2, z3, z4, z5, z6⟩ := (HC.out.below HB1.out hgl).seven
        clear hown1 hgrow1 HO HB y0 y1 y2 y3 y4 y5 y6
        have HB := HB1
        have HO := HO1
        clear HB1 HO1
        go_wp2
        go_quiet ((go_at_call 47; exact quiet_s (within_s _ _ _ _)))
        rename_i nq
        simp only [I2.out]
        have HBq := Lib.hid (below_drewN HB.out nq)
        have HOq : Hid ((w1.drewN nq).ownsRow w.heap.size 50 2 _ (acc ++ [((1 : Int), x)]).length (vS ndC (acc ++ [((1 : Int), x)]))) := HO.out
        clear HO HB
        have HB := HBq
        have HO := HOq
        clear HBq HOq
        go_wp2_with (first | (go_at_call 47; refine (within_s _ _ _ _).mono ?_; rintro e w' ⟨rfl, rfl⟩; rw [I1.out]) | (at_builtin; refine wpList_append_own _ rfl _ _ 148 rfl w.heap.size 50 i0 _ 2 16 Tryd.underlying148 hi hz0 hz1 hz2 rfl (by decide) _ _ _ rfl (HO.out.alloc _) ⟨(w1.drewN nq).heap.size, 0, none⟩ 1 1 (ndC (2, x - m.rk)) rfl rfl ?tt2a ?tt2b ?tt2c ?tt2d ?tt2e ?_))
        case tt2a => exact new_cells' _ _ rfl
        case tt2b => exact nd_one _ _
        case tt2c => (try simp only [List.length_append, List.length_cons, List.length_nil]); unfold maxLen; omega
        case tt2d => (try simp only [List.length_append, List.length_cons, List.length_nil]); omega
        case tt2e => exact Nat.le_trans HB.out.size ((Below.refl _ _).alloc (Nat.le_refl _) _).size
        intro v2 w2 hown2 hgrow2 _
        have HB2 := Lib.hid (below_append' (HB.out.alloc HB.out.size _) (Nat.le_trans HB.out.size ((Below.refl _ _).alloc (Nat.le_refl _) _).size) HO.out ((Below.refl _ _).alloc (Nat.le_refl _) _).size hgrow2)
        have HO2 : Hid (w2.ownsRow w.heap.size 50 2 v2 ((acc ++ [((1 : Int), x)]) ++ [((2 : Int), x - m.rk)]).length (vS ndC ((acc ++ [((1 : Int), x)]) ++ [((2 : Int), x - m.rk)]))) := by unfold Hid; rw [vS_snoc, show ((acc ++ [((1 : Int), x)]) ++ [((2 : Int), x - m.rk)]).length = acc.length + 1 + 1 from by simp]; exact hown2
        clear hown2 hgrow2 HO HB
        go_wp2
        exact ⟨⟨x + 1, (acc ++ [((1 : Int), x)]) ++ [((2 : Int), x - m.rk)], by omega, by omega, by go_num, HO2.out, by simp; omega, by simpa using HD, HB2.out⟩, by simp [intOf]; omega⟩
    · have HB := Lib.hid hb
      have HO := Lib.hid hown
      have HD := Lib.hid (nd_end hd.out (by omega))
      clear hb hown hd
      go_wp2
      go_ret
      exact ⟨_, rfl, by rw [HD.out]; exact OwC.of_own HO.out, HB.out⟩

/-- A pointer to a slice that reads as a list. -/
def GivesPtr (w : World) (l : List Int) (e : Ending) : Prop := ∃ b o A c, e = .returned (.pointer (some ⟨b, o, none⟩)) ∧ b < w.heap.size ∧ w.cell? ⟨b, o, none⟩ = some (.slice A l.length c) ∧ RdI w w.heap.size (.slice A l.length c) l

set_option maxHeartbeats 4000000 in
set_option maxRecDepth 100000 in
theorem on_any (m : Mc) (g : Nat) (n : Int × Int) (w : World) (h : RdP w g m) (ok : okM m = true) (hn : ndOk m n) :
    Calls Tryd.prog 102 #[.pointer (some ⟨g, 0, none⟩), .agg #[.int .i64 n.1, .int .i64 n.2]] w fun e w' => GivesPtr w (onL m n) e ∧ Below w.heap.size w w' := by
  obtain ⟨b, p⟩ := n
  obtain ⟨hn, p0, p1⟩ := hn
  obtain ⟨d1, d2, d3, d4, d5, d6, -⟩ := ok_wd ok
  obtain ⟨F, G, C, L, D, hc, h1, h2, h3, h4, h5, h6⟩ := h
  have hgl : g < w.heap.size := block_lt_of_cell hc.seven.1
  have hp1 : p < m.wd := p1
  obtain ⟨pn, rfl⟩ := Int.eq_ofNat_of_zero_le (show 0 ≤ p from p0)
  clear p0 p1
  have hc1 : ∀ (o : Obj), CellsAt (w.alloc o) g 0 [.int .i64 m.wd, .int .i64 m.rk, F, G, C, L, D] := fun o => hc.alloc hgl o
  have HC1 := Lib.hid hc1
  clear hc hc1 h3 h4 h5 h6 ok
  rcases hn with hb | hb
  · have hb' : b = 1 := hb
    subst hb'
    obtain ⟨AF, cF, rfl⟩ := RdN.shape h1
    obtain ⟨bb, off, x, s, rfl, hbb, hlk, hcell, hs⟩ := RdLL.at_ h1 (show pn < m.fr.length by omega)
    obtain ⟨As, cs', rfl⟩ := hs.len
    have HX : Hid (onL m (1, (pn : Int)) = x) := by
      unfold Hid onL
      rw [if_neg (by simp), List.getD_eq_getElem?_getD, show ((1 : Int), (pn : Int)).2.toNat = pn by simp, hlk]; rfl
    have HR := Lib.hid (show ∀ w', Below w.heap.size w w' → GivesPtr w (onL m (1, (pn : Int))) (.returned (.pointer (some ⟨bb, off + pn, none⟩))) ∧ Below w.heap.size w w' from fun w' hb => by rw [HX.out]; exact ⟨⟨_, _, _, _, rfl, hbb, hcell, hs⟩, hb⟩)
    have hlt : (pn : Int) < (m.fr.length : Int) := by omega
    clear hlk hcell hs h1 h2 HX
    obtain ⟨x0, x1, x2, x3, x4, x5, x6⟩ := (HC1.out (.cells #[.int .i64 1, .int .i64 (pn : Int)] 50)).seven
    go_enter Tryd.func102, Tryd.ntmps102
    go_wp2
    go_quiet (fail)
    go_wp2
    go_ret
    exact HR.out _ (below_drewN ((Below.refl _ _).alloc (Nat.le_refl _) _) _)
  · have hb' : b = 2 := hb
    subst hb'
    obtain ⟨AF, cF, rfl⟩ := RdN.shape h2
    obtain ⟨bb, off, x, s, rfl, hbb, hlk, hcell, hs⟩ := RdLL.at_ h2 (show pn < m.bk.length by omega)
    obtain ⟨As, cs', rfl⟩ := hs.len
    have HX : Hid (onL m (2, (pn : Int)) = x) := by
      unfold Hid onL
      rw [if_pos rfl, List.getD_eq_getElem?_getD, show ((2 : Int), (pn : Int)).2.toNat = pn by simp, hlk]; rfl
    have HR := Lib.hid (show ∀ w', Below w.heap.size w w' → GivesPtr w (onL m (2, (pn : Int))) (.returned (.pointer (some ⟨bb, off + pn, none⟩))) ∧ Below w.heap.size w w' from fun w' hb => by rw [HX.out]; exact ⟨⟨_, _, _, _, rfl, hbb, hcell, hs⟩, hb⟩)
    have hlt : (pn : Int) < (m.bk.length : Int) := by omega
    clear hlk hcell hs h1 h2 HX
    obtain ⟨x0, x1, x2, x3, x4, x5, x6⟩ := (HC1.out (.cells #[.int .i64 2, .int .i64 (pn : Int)] 50)).seven
    go_enter Tryd.func102, Tryd.ntmps102
    go_wp2
    go_quiet (fail)
    go_wp2
    go_ret
    exact HR.out _ (below_drewN ((Below.refl _ _).alloc (Nat.le_refl _) _) _)

set_option maxHeartbeats 4000000 in
set_option maxRecDepth 100000 in
theorem live_any (m : Mc) (g : Nat) (w : World) (h : RdP w g m) (ok : okM m = true) :
    Calls Tryd.prog 91 #[.pointer (some ⟨g, 0, none⟩)] w (GivesOw w 2 1 (liveL m).length (vI (liveL m))) := by
  obtain ⟨i0, hi, hz0, hz1, hz2'⟩ := info_parts info_int
  have HP := Lib.hid h
  have HOK := Lib.hid ok
  have hn60 := ndL_len ok
  have HY := Lib.hid (show liveL m = [] ++ ((ndL m).drop 0).flatMap (onL m) from rfl)
  have HND := Lib.hid (fun n (hn : n ∈ ndL m) => ndL_ok hn)
  clear h ok
  generalize liveL m = Y at *
  have BW := Lib.hid (show Below w.heap.size w (w.alloc (.cells #[] 2)) from (Below.refl _ _).alloc (Nat.le_refl _) _)
  go_enter Tryd.func91, Tryd.ntmps91
  go_wp2_with fail
  refine (needles_any m g _ (HP.out.below BW.out) HOK.out).mono ?_
  rintro e w1 ⟨v, rfl, ho, hb⟩
  obtain ⟨A, cp, rfl, -⟩ := ho.cells
  have hs1 := hb.size
  simp at hs1
  have HR := Lib.hid (ho.wide (show w.heap.size + 1 ≤ _ by simp) (Nat.le_refl _))
  have HB1 := Lib.hid (BW.out.trans (hb.mono BW.out.size))
  have HO1 := Lib.hid (own_below (World.ownsRow_lit (base := w.heap.size) (e := 2) (size := 1) w #[] 0 (Nat.le_refl _) (by unfold maxLen; omega) rfl) hb)
  generalize hln : (ndL m).length = n at *
  have HLN := Lib.hid hln
  clear ho hb hln BW
  go_wp2
  go_loopw [3, 10] (fun t i wr => ∃ (k : Nat) (acc : List Int), k ≤ n ∧ i = .int .i64 k ∧ wr.ownsRow w.heap.size 2 1 t acc.length (vI acc) ∧ acc.length ≤ 4 * k ∧ Hid (Y = acc ++ ((ndL m).drop k).flatMap (onL m)) ∧ Hid (Outs (w.heap.size + 1) w1.heap.size t) ∧ Hid (Same (w.heap.size + 1) w1.heap.size w1 wr) ∧ Hid (Below w.heap.size w wr) ∧ w1.heap.size ≤ wr.heap.size) (fun _ i _ => n - (intOf i).toNat)
  case atStart => exact ⟨0, [], Nat.zero_le _, rfl, HO1.out, by simp, HY.out, (fun g hg => by have : w.heap.size = g := Option.some.inj hg; omega), Same.refl _ _ _, HB1.out, Nat.le_refl _⟩
  case round =>
    rename_i wr
    obtain ⟨k, acc, hk, rfl, hown, hak, hd, hout, hsame, hb, hsz⟩ := hrel
    have hrow := HR.out.same hsame.out
    rw [← HLN.out] at hrow
    have hrd := RdS.of_own ndC_len hrow
    rw [HLN.out] at hrd
    by_cases hlt : k < n
    · obtain ⟨bb, off, nd, rfl, hbb, hlk, hcc⟩ := hrd.at_ hlt
      obtain ⟨c0, c1⟩ := hcc.two
      have hm4 := onL_len HOK.out nd
      have HNO := Lib.hid (HND.out nd (List.mem_of_getElem? hlk))
      have HN := Lib.hid (show Y = (acc ++ onL m nd) ++ ((ndL m).drop (k + 1)).flatMap (onL m) by rw [hd.out, drop_of_get hlk, List.flatMap_cons, List.append_assoc])
      have hbz := hb.out.size
      have HO := Lib.hid hown
      have HQ := Lib.hid (fun (o : Obj) => (on_any m g nd _ (HP.out.below (hb.out.alloc hbz o)) HOK.out HNO.out))
      clear hown hd hlk hcc hrow hrd
      go_wp2_with fail
      refine (HQ.out _).mono ?_
      rintro e w2 ⟨⟨b2, o2, A2, c2, rfl, hb2, hc2, hs2⟩, hbw2⟩
      have hc3 : w2.cell? ⟨b2, o2, none⟩ = some (.slice A2 (onL m nd).length c2) := (hbw2.cell hb2).trans hc2
      obtain ⟨hrd, _⟩ := (hs2.below hbw2).reads
      have HRD := Lib.hid hrd
      have HB2 := Lib.hid ((hb.out.alloc hbz _).trans (hbw2.mono (hb.out.alloc hbz _).size))
      have HS2 := Lib.hid ((hsame.out.alloc hsz _).below hbw2 (by simp; omega))
      have HO2 := Lib.hid (own_below (HO.out.alloc _) hbw2)
      have hz2 : w1.heap.size ≤ w2.heap.size := by have := hbw2.size; simp at this; omega
      clear hbw2 hs2 hc2 hrd HO c0 c1
      generalize hX : onL m nd = X at *
      have HX := Lib.hid hX
      clear hX
      go_wp2_with (at_builtin; refine wpList_append_any _ rfl _ _ _ rfl w.heap.size 2 i0 _ 1 8 Tryd.underlying25 hi hz0 hz1 hz2' rfl (by decide) _ _ _ rfl HO2.out _ A2 X.length c2 (vI X) rfl HRD.out (vI_one X) (by unfold maxLen; omega) (by omega) HB2.out.size ?_; intro v3 w3 hown3 hg3 hat3)
      have HG := Lib.hid (HB2.out.grown hg3 HB2.out.size (fun kk hkk => (HO2.out.lt kk hkk).1))
      have HS3 := Lib.hid (HS2.out.grown hg3 hout.out hz2)
      have HT3 := Lib.hid (hout.out.grown hat3 hz2)
      have hz3 : w1.heap.size ≤ w3.heap.size := by have := hg3.size; omega
      have HO3 : Hid (w3.ownsRow w.heap.size 2 1 v3 (acc ++ X).length (vI (acc ++ X))) := by unfold Hid; rw [List.length_append, vI_append]; exact hown3
      clear hown3 hg3 hat3
      go_wp2
      exact ⟨⟨k + 1, acc ++ X, by omega, by go_num, HO3.out, by simp; omega, HN.out, HT3.out, HS3.out, HG.out, hz3⟩, by simp [intOf]; omega⟩
    · have HB := Lib.hid hb.out
      have HO := Lib.hid hown
      have HD := Lib.hid (show Y = acc by rw [hd.out, List.drop_of_length_le (by have := HLN.out; omega)]; simp)
      clear hb hown hd hrow hrd
      go_wp2
      go_ret
      exact ⟨_, rfl, by rw [HD.out]; exact OwC.of_own HO.out, HB.out⟩

end Go.Proofs.YtccdnmafakaleaaDoor
