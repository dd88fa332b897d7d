/-
  The loops on a bed as one list (l07Lists of the reference); areApart of the program.
-/
import Derived.Test.YtccdnmafakaleaaDoorMcConcat
import Derived.Test.YtccdnmafakaleaaDoorMcSmall
import Derived.Deep.RegionHeld3
namespace Go.Proofs.YtccdnmafakaleaaDoor
set_option linter.unusedVariables false
set_option linter.unusedSimpArgs false
open Go.RowKit


def lens4 (l : List (List Int)) : Bool := l.all fun x => decide (x.length ≤ 4)
def flatOf (l : List (List Int)) : List Int := if lens4 l = true then l.flatten else []
theorem lens4_next {l : List (List Int)} {k : Nat} {x : List Int} {R : Bool} (h : R = lens4 (l.drop k)) (hx : l[k]? = some x) : R = (decide (x.length ≤ 4) && lens4 (l.drop (k + 1))) := by
  rw [h, drop_of_get hx]; rfl
theorem take_flat1 (l : List (List Int)) (k : Nat) {x : List Int} (h : l[k]? = some x) : (l.take (k + 1)).flatten = (l.take k).flatten ++ x := by
  rw [List.take_add_one, h]; simp

set_option maxHeartbeats 4000000 in
set_option maxRecDepth 100000 in
theorem l07Lists_any (v : Value) (l : List (List Int)) (w : World) (hl : RdLL w w.heap.size v l) (h24 : l.length ≤ 24) :
    Calls Tryd.prog 56 #[v] w fun e w' => ∃ v', e = .returned (.tuple #[v', .bool (lens4 l)]) ∧ w'.ownsRow w.heap.size 2 1 v' (flatOf l).length (vI (flatOf l)) ∧ (flatOf l).length ≤ 96 ∧ Below w.heap.size w w' := by
  obtain ⟨i0, hi, hz0, hz1, hz2⟩ := info_parts info_int
  obtain ⟨A, cp, rfl⟩ := RdN.shape hl
  have HL := Lib.hid hl
  clear hl
  generalize hln : l.length = n at *
  have HLN := Lib.hid hln
  clear hln
  generalize hR : lens4 l = R
  have HR := Lib.hid hR
  clear hR
  go_enter Tryd.func56, Tryd.ntmps56
  go_wp2
  go_loopw [4, 5] (fun t i wr => ∃ (k : Nat) (acc : List Int), k ≤ n ∧ i = .int .i64 k ∧ wr.ownsRow w.heap.size 2 1 t acc.length (vI acc) ∧ acc.length ≤ 4 * k ∧ Hid (acc = (l.take k).flatten) ∧ Hid (R = lens4 (l.drop k)) ∧ Below w.heap.size w wr) (fun _ i _ => n - (intOf i).toNat)
  case atStart => exact ⟨0, [], Nat.zero_le _, rfl, World.ownsRow_lit _ _ _ (Nat.le_refl _) (by unfold maxLen; omega) rfl, by simp, by unfold Hid; simp, HR.out.symm, (Below.refl _ _).alloc (Nat.le_refl _) _⟩
  case round =>
    rename_i wr
    obtain ⟨k, acc, hk, rfl, hown, hak, hacc, hd, hb⟩ := hrel
    by_cases hlt : k < n
    · obtain ⟨b, off, x, s, rfl, hbb, hlk, hc, hs⟩ := (RdLL.below HL.out hb).at_ hlt
      obtain ⟨A1, c1, rfl⟩ := hs.len
      have hbig := hs.len_le
      by_cases h4 : ((x.length : Nat) : Int) ≤ 4
      · have HN := Lib.hid (show R = lens4 (l.drop (k + 1)) by rw [lens4_next hd.out hlk, decide_eq_true (show x.length ≤ 4 by omega)]; rfl)
        have HA := Lib.hid (show acc ++ x = (l.take (k + 1)).flatten by rw [take_flat1 l k hlk, hacc.out])
        obtain ⟨hrd, _⟩ := hs.reads
        have HRD := Lib.hid hrd
        have HB := Lib.hid hb
        have HO := Lib.hid hown
        clear hb hlk hs hacc hd hrd hown
        go_wp2_with (at_builtin; refine wpList_append_any _ rfl _ _ _ rfl w.heap.size 2 i0 _ 1 8 Tryd.underlying25 hi hz0 hz1 hz2 rfl (by decide) _ _ _ rfl HO.out w.heap.size A1 x.length c1 (vI x) rfl HRD.out (vI_one x) (by unfold maxLen; omega) (by omega) HB.out.size ?_; intro v3 w3 hown3 hg3 hat3)
        have HG := Lib.hid (HB.out.grown hg3 HB.out.size (fun kk hkk => (HO.out.lt kk hkk).1))
        have HO3 : Hid (w3.ownsRow w.heap.size 2 1 v3 (acc ++ x).length (vI (acc ++ x))) := by unfold Hid; rw [List.length_append, vI_append]; exact hown3
        clear hown3 hg3 hat3
        go_wp2
        exact ⟨⟨k + 1, acc ++ x, by omega, by go_num, HO3.out, by simp; omega, HA.out, HN.out, HG.out⟩, by simp [intOf]; omega⟩
      · have HN := Lib.hid (show R = false by rw [lens4_next hd.out hlk, decide_eq_false (show ¬ x.length ≤ 4 by omega)]; rfl)
        have HF := Lib.hid (show flatOf l = [] by unfold flatOf; rw [if_neg (by rw [HR.out, HN.out]; decide)])
        have HB := Lib.hid hb
        clear hb hlk hs hacc hd hown
        go_wp2
        go_ret2
        refine ⟨_, by rw [HN.out]; rfl, by rw [HF.out]; exact World.ownsRow_nil _ _ _ _, by rw [HF.out]; simp, HB.out⟩
    · have HN := Lib.hid (show R = true by rw [hd.out, List.drop_of_length_le (by have := HLN.out; omega)]; rfl)
      have HF := Lib.hid (show flatOf l = acc by unfold flatOf; rw [if_pos (by rw [HR.out, HN.out]), hacc.out, List.take_of_length_le (by have := HLN.out; omega)])
      have HB := Lib.hid hb
      have HO := Lib.hid hown
      clear hb hacc hd hown
      go_wp2
      go_ret2
      exact ⟨_, by rw [HN.out]; rfl, by rw [HF.out]; exact HO.out, by rw [HF.out]; omega, HB.out⟩

/-! ### areApart -/
theorem info_bool : (Tryd.prog.info? 4).map (fun i => (i.zero, i.size, i.bytes)) = some (some (.bool false), 1, 1) := by kernel_rfl

/-- What a set of marks holds behind one more. -/
theorem seen_set {f : Nat → Value} {pre : List Int} {n q : Nat} (h : ∀ i, i < n → f i = .bool (pre.contains (i : Int))) : ∀ i, i < n → (fun j => if j = q then Value.bool true else f j) i = .bool ((pre ++ [(q : Int)]).contains (i : Int)) := by
  intro i hi
  show (if i = q then Value.bool true else f i) = _
  by_cases hiq : i = q
  · subst hiq
    rw [if_pos rfl]
    congr 1
    simp
  · rw [if_neg hiq, h i hi]
    congr 1
    rw [Bool.eq_iff_iff]
    simp
    intro h'
    omega
theorem pars_flat_yes {n : Int} {pre rest : List Int} {x : List Int} {j : Nat} {y : Int} {R : Bool} (h : R = parsB n pre (x.drop j ++ rest)) (hy : x[j]? = some y) (h1 : inB 0 y (n - 1) = true) (h2 : pre.contains y = false) : R = parsB n (pre ++ [y]) (x.drop (j + 1) ++ rest) := by
  rw [h, drop_of_get hy, List.cons_append, parsB, h1, h2]; rfl
theorem pars_flat_no1 {n : Int} {pre rest : List Int} {x : List Int} {j : Nat} {y : Int} {R : Bool} (h : R = parsB n pre (x.drop j ++ rest)) (hy : x[j]? = some y) (h1 : inB 0 y (n - 1) = false) : R = false := by
  rw [h, drop_of_get hy, List.cons_append, parsB, h1]; rfl
theorem pars_flat_no2 {n : Int} {pre rest : List Int} {x : List Int} {j : Nat} {y : Int} {R : Bool} (h : R = parsB n pre (x.drop j ++ rest)) (hy : x[j]? = some y) (h2 : pre.contains y = true) : R = false := by
  rw [h, drop_of_get hy, List.cons_append, parsB, h2]; simp

set_option maxHeartbeats 8000000 in
set_option maxRecDepth 100000 in
theorem areApart_any (m : Mc) (F B C L D : Value) (g : Nat) (w : World) (hc : CellsAt w g 0 [.int .i64 m.wd, .int .i64 m.rk, F, B, C, L, D]) (hF : RdLL w w.heap.size F m.fr) (hB : RdLL w w.heap.size B m.bk) (hL : RdIs w w.heap.size L m.ls) (hD : RdI w w.heap.size D m.dr) (hDc : CapOk D)
    (h24 : m.fr.length ≤ 24) (h24' : m.bk.length ≤ 24) (h300 : m.ls.length ≤ 300) :
    Calls Tryd.prog 66 #[.pointer (some ⟨g, 0, none⟩)] w fun e w' => e = .returned (.bool (parsB m.ls.length [] (m.fr.flatten ++ (m.bk.flatten ++ m.dr)))) ∧ Below w.heap.size w w' := by
  obtain ⟨AL, cL, rfl⟩ := RdN.shape hL
  obtain ⟨AF, cF, rfl⟩ := RdN.shape hF
  obtain ⟨AB, cB, rfl⟩ := RdN.shape hB
  obtain ⟨AD, cD, rfl⟩ := hD.len
  obtain ⟨x0, x1, x2, x3, x4, x5, x6⟩ := hc.seven
  have hgl : g < w.heap.size := block_lt_of_cell x0
  have HC := Lib.hid hc
  have HF := Lib.hid hF
  have HB := Lib.hid hB
  have HD := Lib.hid hD
  have HDC := Lib.hid hDc
  generalize hn : m.ls.length = n at *
  generalize hR : parsB n [] (m.fr.flatten ++ (m.bk.flatten ++ m.dr)) = R
  have HR := Lib.hid hR
  clear hc hF hB hD hDc hL hR
  have hmk := fun W => run_make_row' (P := Tryd.prog) 119 4 (.bool false) 1 Tryd.underlying119 info_bool rfl .i64 .i64 n (by omega) (by omega) W
  have hW1 : Below w.heap.size w (w.alloc (.cells (madeCells #[.bool false] n) 4)) := (Below.refl _ _).alloc (Nat.le_refl _) _
  have HROW1 := Lib.hid (World.rowIs_made w (.bool false) n 4)
  have hcat : ∀ W2, Below w.heap.size w W2 → CellsAt W2 (w.heap.size + 1) 0 [.slice AD m.dr.length cD] → CellsAt W2 (w.heap.size + 1 + 1) 0 [.slice AF m.fr.length cF, .slice AB m.bk.length cB, .slice (some ⟨w.heap.size + 1, 0, none⟩) 1 1] → w.heap.size + 3 ≤ W2.heap.size →
      Calls Tryd.prog 64 #[.slice (some ⟨w.heap.size + 1 + 1, 0, none⟩) 3 3] W2 fun e w' => ∃ v hs, e = .returned v ∧ w'.ownsRow W2.heap.size 25 1 v hs.length hs ∧ HdrR w' w.heap.size hs (m.fr ++ (m.bk ++ [m.dr])) ∧ Below W2.heap.size W2 w' := by
    intro W2 h1 h2 h3 h4
    have hfl : [m.fr, m.bk, [m.dr]].flatten = m.fr ++ (m.bk ++ [m.dr]) := by simp
    rw [← hfl]
    refine concat_own _ [m.fr, m.bk, [m.dr]] _ 3 3 w.heap.size W2 (by omega) rfl rfl (by omega) (by omega) h3 ?_ (by simp; omega)
    intro j V L hV hLj
    rcases j with _ | _ | _ | j
    · simp at hV hLj
      subst hV hLj
      obtain ⟨hs, g1, g2, g3⟩ := RdLL.hdr (RdLL.below HF.out h1)
      exact ⟨_, _, hs, rfl, g1.more (by omega), g2, g3⟩
    · simp at hV hLj
      subst hV hLj
      obtain ⟨hs, g1, g2, g3⟩ := RdLL.hdr (RdLL.below HB.out h1)
      exact ⟨_, _, hs, rfl, g1.more (by omega), g2, g3⟩
    · simp at hV hLj
      subst hV hLj
      refine ⟨some ⟨w.heap.size + 1, 0, none⟩, 1, [.slice AD m.dr.length cD], rfl, ⟨rfl, fun _ => ⟨_, rfl, by show w.heap.size + 1 < _; omega, fun j u hu => ?_⟩⟩, ⟨rfl, fun k x hx => ?_⟩, by simp [Value.oneCell']⟩
      · have h5 := h2 j u hu
        have ea : (⟨w.heap.size + 1, 0, none⟩ : Addr).add j = ⟨w.heap.size + 1, 0 + j, none⟩ := by unfold Addr.add; split <;> simp_all
        rw [ea]
        exact h5
      · rcases k with _ | k
        · simp at hx
          subst hx
          exact ⟨_, rfl, HD.out.below h1, HDC.out⟩
        · simp at hx
    · simp at hV
  have HCAT := Lib.hid hcat
  have y2 : (w.alloc (.cells (madeCells #[.bool false] n) 4)).cell? ⟨g, 2, none⟩ = some (.slice AF m.fr.length cF) := (World.cell?_alloc_lt _ _ _ hgl).trans x2
  have y3 : (w.alloc (.cells (madeCells #[.bool false] n) 4)).cell? ⟨g, 3, none⟩ = some (.slice AB m.bk.length cB) := (World.cell?_alloc_lt _ _ _ hgl).trans x3
  have y6 : (w.alloc (.cells (madeCells #[.bool false] n) 4)).cell? ⟨g, 6, none⟩ = some (.slice AD m.dr.length cD) := (World.cell?_alloc_lt _ _ _ hgl).trans x6
  clear hcat
  go_enter Tryd.func66, Tryd.ntmps66
  go_wp2
  clear hmk
  go_region_held3 (fun w' => w'.cell? ⟨g, 2, none⟩ = some (.slice AF m.fr.length cF) ∧ w'.cell? ⟨g, 3, none⟩ = some (.slice AB m.bk.length cB) ∧ w'.cell? ⟨g, 6, none⟩ = some (.slice AD m.dr.length cD)) (first | exact ⟨y2, y3, y6⟩ | exact ⟨z2, z3, z6⟩ | go_keep)
    (first
      | (go_at_call 64; refine (HCAT.out _ ((hW1.drew.alloc (by simp) _).alloc (by simp; try omega) _) (by intro j u hu; rcases j with _ | j <;> simp at hu <;> subst hu <;> simp [go_sem]) (by intro j u hu; rcases j with _ | _ | _ | j <;> simp at hu <;> subst hu <;> simp [go_sem]) (by simp)).mono ?_; rintro e w2 ⟨v, hs, rfl, hown, hhd, hb⟩; have how := OwC.of_own hown; clear hown; obtain ⟨Av, cv, rfl, -⟩ := how.cells; have hb0 := ((hW1.drew.alloc (by simp) _).alloc (by simp; try omega) _).trans (hb.mono (by simp; try omega)); obtain ⟨_, _, z2, z3, _, _, z6⟩ := (HC.out.below hb0 hgl).seven))
  have hrow2 : w2.rowIs w.heap.size 4 n (fun _ => .bool false) := HROW1.out.of_block ((((Below.refl (w.heap.size + 1) (w.alloc (.cells (madeCells #[.bool false] n) 4))).drew.alloc (by simp) _).alloc (by simp; try omega) _ |>.trans (hb.mono (by simp; try omega))).block _ (by omega))
  have hLL : (m.fr ++ (m.bk ++ [m.dr])).flatten = m.fr.flatten ++ (m.bk.flatten ++ m.dr) := by simp
  have hlen : hs.length ≤ 49 := by rw [hhd.1]; simp; omega
  rw [← hLL] at HR
  obtain ⟨LL, hLLe⟩ : ∃ LL, LL = m.fr ++ (m.bk ++ [m.dr]) := ⟨_, rfl⟩
  rw [← hLLe] at hhd HR
  have hhl := hhd.1
  generalize hqn : hs.length = qn at how hlen hhl ⊢
  have HOW := Lib.hid (how.wide (lo' := w.heap.size + 1) (by simp; try omega) (Nat.le_refl _))
  have HHD := Lib.hid hhd
  have HB0 := Lib.hid hb0
  have HROW2 := Lib.hid hrow2
  have HHL := Lib.hid hhl
  have HQN := Lib.hid hqn
  clear how hhd hb0 hb hrow2 hhl hLL hLLe z2 z3 z6 y2 y3 y6 HCAT HROW1 hW1 hqn x0 x1 x2 x3 x4 x5 x6
  have hset : ∀ (W : World) (q : Nat) (u : Value), Below w.heap.size w W → OwC W (w.heap.size + 1) w2.heap.size 25 1 (.slice Av qn cv) qn hs → HdrR W w.heap.size hs LL → w2.heap.size ≤ W.heap.size →
      Below w.heap.size w (W.setCell ⟨w.heap.size, q, none⟩ u) ∧ OwC (W.setCell ⟨w.heap.size, q, none⟩ u) (w.heap.size + 1) w2.heap.size 25 1 (.slice Av qn cv) qn hs ∧ HdrR (W.setCell ⟨w.heap.size, q, none⟩ u) w.heap.size hs LL ∧ w2.heap.size ≤ (W.setCell ⟨w.heap.size, q, none⟩ u).heap.size := by
    intro W q u h1 h2 h3 h4
    exact ⟨h1.setCell (Nat.le_refl _) _, h2.only ((Only.refl w.heap.size (w.heap.size + 1) W).setCell (by simp) (by simp) _) (.inr (Nat.le_refl _)) h4, h3.keep fun p hp => World.cell?_setCell_other _ _ _ _ (by intro e; subst e; simp at hp), by simp; exact h4⟩
  have HSET := Lib.hid hset
  clear hset
  go_wp2
  go_loopw [30] (fun i wr => ∃ (k : Nat) (pre : List Int) (f : Nat → Value), k ≤ qn ∧ i = .int .i64 k ∧ wr.rowIs w.heap.size 4 n f ∧ Hid (∀ i, i < n → f i = .bool (pre.contains (i : Int))) ∧ Hid (R = parsB n pre (LL.drop k).flatten) ∧
    Hid (OwC wr (w.heap.size + 1) w2.heap.size 25 1 (.slice Av qn cv) qn hs) ∧ Hid (HdrR wr w.heap.size hs LL) ∧ Hid (w2.heap.size ≤ wr.heap.size) ∧ Below w.heap.size w wr) (fun i _ => qn - (intOf i).toNat)
  case atStart => exact ⟨0, [], _, Nat.zero_le _, rfl, HROW2.out, fun i hi => by simp, HR.out.symm, HOW.out, HHD.out, Nat.le_refl _, HB0.out⟩
  case round =>
    rename_i wr
    obtain ⟨k, pre, f, hk, rfl, hrow, hf, hd, how, hhd, hsz, hb⟩ := hrel
    by_cases hlt : k < qn
    · have hx : LL[k]? = some (LL[k]'(by have := HHL.out; omega)) := List.getElem?_eq_getElem _
      obtain ⟨x, hxe⟩ : ∃ x, x = LL[k]'(by have := HHL.out; omega) := ⟨_, rfl⟩
      rw [← hxe] at hx
      obtain ⟨s, hs1, hs2, -⟩ := hhd.out.2 k x hx
      obtain ⟨A1, c1, rfl⟩ := hs2.len
      have hbig := hs2.len_le
      obtain ⟨A', c', e', -, hcell⟩ := how.out.cells
      injection e' with e1 _ e3
      obtain ⟨g2, hg2, -, -, -, hcc⟩ := hcell k hlt
      rw [← e1] at hg2
      have hck := hcc k _ (by omega) hs1
      have HX := Lib.hid hx
      have HS1 := Lib.hid hs1
      have HD0 := Lib.hid (show R = parsB n pre (x.drop 0 ++ (LL.drop (k + 1)).flatten) by rw [hd.out, drop_of_get hx]; rfl)
      have HB1 := Lib.hid hb
      have HRW := Lib.hid hrow
      clear hxe hx hs1 hs2 hcell hcc e1 e3 hd hb hrow
      subst hg2
      go_wp2
      go_loopw [36] (fun i wr' => ∃ (j : Nat) (pre : List Int) (f : Nat → Value) (W2 : World), W2 = wr' ∧ j ≤ x.length ∧ i = .int .i64 j ∧ W2.rowIs w.heap.size 4 n f ∧ Hid (∀ i, i < n → f i = .bool (pre.contains (i : Int))) ∧ Hid (R = parsB n pre (x.drop j ++ (LL.drop (k + 1)).flatten)) ∧
        Hid (OwC W2 (w.heap.size + 1) w2.heap.size 25 1 (.slice (some ⟨g2, 0, none⟩) qn cv) qn hs) ∧ Hid (HdrR W2 w.heap.size hs LL) ∧ Hid (w2.heap.size ≤ W2.heap.size) ∧ Below w.heap.size w W2) (fun i _ => x.length - (intOf i).toNat)
      case atStart => exact ⟨0, pre, f, _, rfl, Nat.zero_le _, rfl, HRW.out, hf.out, HD0.out, how.out, hhd.out, hsz.out, HB1.out⟩
      case round =>
        obtain ⟨j, pre2, f2, W2, hW2, hj, rfl, hrow, hf2, hd, how2, hhd2, hsz2, hb⟩ := hrel
        subst hW2
        obtain ⟨x0, x1, x2, x3, x4, x5, x6⟩ := (HC.out.below hb hgl).seven
        by_cases hlt2 : j < x.length
        · obtain ⟨s', hs1', hs2', -⟩ := hhd2.out.2 k x HX.out
          obtain rfl : s' = .slice A1 x.length c1 := by rw [HS1.out] at hs1'; injection hs1' with h; exact h.symm
          obtain ⟨b, off, y, rfl, hbb, hyk, hyc⟩ := hs2'.at_ hlt2
          have HB2 := Lib.hid hb
          cases h1 : inB 0 y ((n : Int) - 1)
          · have HT := Lib.hid (pars_flat_no1 hd.out hyk h1)
            have H1 := Lib.hid h1
            clear hd hyk hs1' hs2' h1 hb
            go_wp2_with (go_at_call 47; refine (within_s _ _ _ _).mono ?_; rintro e w' ⟨rfl, rfl⟩; rw [H1.out])
            go_ret
            exact ⟨ret_bool HT.out.symm, HB2.out⟩
          · obtain ⟨y0, y1⟩ := inB_iff.1 h1
            obtain ⟨yn, rfl⟩ := Int.eq_ofNat_of_zero_le y0
            have hyn : yn < n := by omega
            have H1 := Lib.hid h1
            have hcy := hrow.cell hyn
            rw [hf2.out yn hyn] at hcy
            have hfy := hrow.frozen yn
            cases h2 : pre2.contains (yn : Int)
            · have HT := Lib.hid (pars_flat_yes hd.out hyk h1 h2)
              rw [h2] at hcy
              have HRW2 := Lib.hid hrow
              clear hd hyk hs1' hs2' h1 h2 hb hrow
              go_wp2_with (go_at_call 47; refine (within_s _ _ _ _).mono ?_; rintro e w' ⟨rfl, rfl⟩; rw [H1.out])
              obtain ⟨n1, n2, n3, n4⟩ := HSET.out _ yn (.bool true) HB2.out how2.out hhd2.out hsz2.out
              exact ⟨⟨j + 1, pre2 ++ [(yn : Int)], _, _, rfl, by omega, by go_num, HRW2.out.set _ _, seen_set hf2.out, HT.out, n2, n3, n4, n1⟩, by simp [intOf]; omega⟩
            · have HT := Lib.hid (pars_flat_no2 hd.out hyk h2)
              rw [h2] at hcy
              clear hd hyk hs1' hs2' h1 h2 hb hrow
              go_wp2_with (go_at_call 47; refine (within_s _ _ _ _).mono ?_; rintro e w' ⟨rfl, rfl⟩; rw [H1.out])
              go_ret
              exact ⟨ret_bool HT.out.symm, HB2.out⟩
        · have HB2 := Lib.hid hb
          have HRW2 := Lib.hid hrow
          have HT := Lib.hid (show R = parsB n pre2 (LL.drop (k + 1)).flatten by rw [hd.out, List.drop_of_length_le (by omega)]; rfl)
          clear hb hrow hd x0 x1 x2 x3 x4 x5 x6
          go_wp2
          exact ⟨⟨k + 1, pre2, f2, by omega, by go_num, HRW2.out, hf2.out, HT.out, how2.out, hhd2.out, hsz2.out, HB2.out⟩, by simp [intOf]; omega⟩
    · have HB1 := Lib.hid hb
      have HT := Lib.hid (show R = true by rw [hd.out, List.drop_of_length_le (by have := HHL.out; omega)]; rfl)
      clear hb hrow hd
      go_wp2
      go_ret
      exact ⟨ret_bool HT.out.symm, HB1.out⟩

end Go.Proofs.YtccdnmafakaleaaDoor
