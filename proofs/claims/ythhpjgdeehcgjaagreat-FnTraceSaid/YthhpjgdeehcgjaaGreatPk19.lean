/-
  Texts joined: CatI, ExA, ExB.
-/
import Derived.Test.YthhpjgdeehcgjaaGreatMcConcat
import Derived.Test.YthhpjgdeehcgjaaGreatPk11
import Derived.Test.YthhpjgdeehcgjaaGreatPk7
import Derived.Deep.CutBlock
import Derived.Deep.RegionWith
/-
  slices.Grow and slices.Concat at lists of ints.
-/
namespace Go.Proofs.YthhpjgdeehcgjaaGreat
set_option linter.unusedVariables false
set_option linter.unusedSimpArgs false
open Go.RowKit

theorem take_flatI (Ls : List (List Int)) (k : Nat) {L : List Int} (h : Ls[k]? = some L) : (Ls.take (k + 1)).flatten = (Ls.take k).flatten ++ L := by
  rw [List.take_add_one, h]; simp
theorem take_flatI_le (Ls : List (List Int)) (k : Nat) : (Ls.take k).flatten.length ≤ Ls.flatten.length := by
  have : Ls.flatten = (Ls.take k).flatten ++ (Ls.drop k).flatten := by rw [← List.flatten_append, List.take_append_drop]
  rw [this, List.length_append]; omega
set_option maxHeartbeats 1000000 in
set_option maxRecDepth 100000 in
theorem growI_any (n : Nat) (hn : n ≤ 2097152) (w : World) : Calls Tryz.prog 105 #[.slice none 0 0, .int .i64 n] w fun e w' => ∃ v, e = .returned v ∧ w'.ownsRow w.heap.size 2 1 v 0 [] ∧ Below w.heap.size w w' := by
  obtain ⟨i0, hi, hz0, hz1, hz2⟩ := info_parts info_int
  by_cases h0 : n = 0
  · subst h0
    go_enter Tryz.func105, Tryz.ntmps105
    go_wp2
    go_ret
    exact ⟨_, rfl, World.ownsRow_nil _ _ _ _, Below.refl _ _⟩
  · have hr := Lib.run_append_nil_zeros (P := Tryz.prog) w 32 3 32 2 i0 (.int .i64 0) .i64 .i64 Tryz.underlying32 Tryz.underlying3 hi hz0 n (by omega) (by rw [hz1]; decide) (by omega) (by rw [hz2]; omega)
    have hcap := grownCap_ge w n 0 2
    have hcap2 := grownCap_le_maxLen w n 0 2 (by unfold maxLen; omega)
    have e0 : 0 < (n : Int) := by omega
    have HC := Lib.hid hcap
    have HC2 := Lib.hid hcap2
    have HR := Lib.hid hr
    clear hcap hcap2 hr
    go_enter Tryz.func105, Tryz.ntmps105
    go_wp2_with (at_builtin; refine Lib.wpList_append_run _ rfl _ _ _ _ rfl _ _ rfl rfl _ _ HR.out ?_)
    go_ret
    refine ⟨_, rfl, ⟨rfl, .inr ⟨w.heap.size, grownCap w n 0 2, _, rfl, Nat.le_refl _, heap_alloc_new w _, Nat.zero_le _, HC2.out, ?_, rfl⟩⟩, ((Below.refl _ _).alloc (Nat.le_refl _) _).drew⟩
    rw [Array.size_append, size_zeroCells, size_zeroCells]
    have := HC.out
    simp
    omega
set_option maxHeartbeats 4000000 in
set_option maxRecDepth 100000 in
theorem concatI_any (Vs : List Value) (Ls : List (List Int)) (g q c : Nat) (w : World) (hq : Vs.length = q) (hq1 : Ls.length = q) (hq3 : q ≤ 3) (hg : g < w.heap.size) (hc : CellsAt w g 0 Vs)
    (hr : ∀ (j : Nat) (V : Value) (L : List Int), Vs[j]? = some V → Ls[j]? = some L → RdI w w.heap.size V L) (hlen : Ls.flatten.length ≤ 1048576) :
    Calls Tryz.prog 98 #[.slice (some ⟨g, 0, none⟩) q c] w fun e w' => ∃ v, e = .returned v ∧ w'.ownsRow w.heap.size 2 1 v Ls.flatten.length (vI Ls.flatten) ∧ Below w.heap.size w w' := by
  obtain ⟨i0, hi, hz0, hz1, hz2⟩ := info_parts info_int
  have HC := Lib.hid hc
  have HRR := Lib.hid hr
  have HQ := Lib.hid hq
  have HQ1 := Lib.hid hq1
  clear hc hr hq hq1
  have hat : ∀ k, k < q → ∃ A n cp L, Ls[k]? = some L ∧ L.length = n ∧ w.cell? ⟨g, k, none⟩ = some (.slice A n cp) ∧ Reads w w.heap.size 1 A n (vI L) ∧ (Ls.take k).flatten.length + n ≤ 1048576 := by
    intro k hk
    have h1 : Vs[k]? = some (Vs[k]'(by rw [HQ.out]; exact hk)) := List.getElem?_eq_getElem _
    have h2 : Ls[k]? = some (Ls[k]'(by rw [HQ1.out]; exact hk)) := List.getElem?_eq_getElem _
    have h3 := HRR.out k _ _ h1 h2
    obtain ⟨A, n, cp, hv⟩ := RdI.shape' h3
    rw [hv] at h3
    obtain ⟨h6, h7⟩ := RdI.reads h3
    have h4 := HC.out k _ h1
    rw [Nat.zero_add, hv] at h4
    refine ⟨A, n, cp, _, h2, h7, h4, h6, ?_⟩
    have h5 := take_flatI_le Ls (k + 1)
    rw [take_flatI Ls k h2, List.length_append] at h5
    omega
  have HAT := Lib.hid hat
  clear hat
  go_enter Tryz.func98, Tryz.ntmps98
  go_wp2
  go_loopw [3, 11] (fun t i wr => ∃ (k s : Nat), k ≤ q ∧ i = .int .i64 k ∧ t = .int .i64 s ∧ s ≤ 1048576 ∧ Hid (s = (Ls.take k).flatten.length) ∧ Below w.heap.size w wr) (fun _ i _ => q - (intOf i).toNat)
  case atStart => exact ⟨0, 0, Nat.zero_le _, rfl, rfl, by omega, by unfold Hid; simp, Below.refl _ _⟩
  case round =>
    rename_i wr
    obtain ⟨k, s, hk, rfl, rfl, hs, hd, hb⟩ := hrel
    by_cases hlt : k < q
    · obtain ⟨A, n, cp, L, h1, h2, h3, h4, h5⟩ := HAT.out k hlt
      have h3' : wr.cell? ⟨g, k, none⟩ = some (.slice A n cp) := (hb.cell (p := ⟨g, k, none⟩) hg).trans h3
      have hsn : s + n ≤ 1048576 := by rw [hd.out]; exact h5
      have HD := Lib.hid (show s + n = (Ls.take (k + 1)).flatten.length by rw [take_flatI Ls k h1, List.length_append, hd.out, h2])
      have HB := Lib.hid hb
      clear hb hd h1 h2 h3 h4 h5
      go_wp2
      exact ⟨⟨k + 1, s + n, by omega, by go_num, by go_num, hsn, HD.out, HB.out⟩, by simp [intOf]; omega⟩
    · have HB := Lib.hid hb
      clear hb
      go_wp2_with fail
      refine (growI_any s (by omega) _).mono ?_
      rintro e w1 ⟨v1, rfl, hown, hb1⟩
      have HO := Lib.hid hown
      have HB1 := Lib.hid (HB.out.trans (hb1.mono HB.out.size))
      have HOz := Lib.hid HB.out.size
      clear hown hb1 hd
      go_wp2
      go_loopw [6, 27] (fun t i wr => ∃ (k : Nat) (acc : List Int) (W2 : World), W2 = wr ∧ k ≤ q ∧ i = .int .i64 k ∧ wr.ownsRow w.heap.size 2 1 t acc.length (vI acc) ∧ Hid (acc = (Ls.take k).flatten) ∧ Hid (acc.length ≤ 1048576) ∧ Below w.heap.size w wr) (fun _ i _ => q - (intOf i).toNat)
      case atStart => exact ⟨0, [], _, rfl, Nat.zero_le _, rfl, own_lo HO.out HOz.out, by unfold Hid; simp, by unfold Hid; simp, HB1.out⟩
      case round =>
        obtain ⟨k2, acc, wr2, hW2, hk2, rfl, hown, hhd, hle, hb⟩ := hrel
        subst hW2
        by_cases hlt2 : k2 < q
        · obtain ⟨A, n, cp, L, h1, h2, h3, h4, h5⟩ := HAT.out k2 hlt2
          have h3' : wr2.cell? ⟨g, k2, none⟩ = some (.slice A n cp) := (hb.cell (p := ⟨g, k2, none⟩) hg).trans h3
          have hrd := h4.below hb
          have HRD := Lib.hid hrd
          have HON := Lib.hid (vI_one L)
          have HN := Lib.hid (show acc ++ L = (Ls.take (k2 + 1)).flatten by rw [take_flatI Ls k2 h1, hhd.out])
          have HL := Lib.hid (show acc.length + L.length ≤ 1048576 by rw [hhd.out, h2]; exact h5)
          have h8 := HL.out
          have HB := Lib.hid hb
          have HO2 := Lib.hid hown
          have HNL := Lib.hid h2
          rw [h2] at h8
          clear hb hhd h1 h3 h4 h5 hown hrd h2
          go_wp2_with (at_builtin; refine wpList_append_any _ rfl _ _ _ rfl w.heap.size 2 i0 _ 1 8 Tryz.underlying32 hi hz0 hz1 hz2 rfl (by decide) _ _ _ rfl HO2.out w.heap.size A n cp (vI L) rfl HRD.out HON.out (by unfold maxLen; omega) (by omega) HB.out.size ?_; intro v3 w3 hown3 hg3 hat3)
          have hgb := HB.out.grown hg3 HB.out.size (fun kk hkk => (HO2.out.lt kk hkk).1)
          have HG := Lib.hid hgb
          have HO3 : Hid (w3.ownsRow w.heap.size 2 1 v3 (acc ++ L).length (vI (acc ++ L))) := by unfold Hid; rw [List.length_append, vI_append, HNL.out]; exact hown3
          clear hgb hown3 hg3 hat3
          go_wp2
          exact ⟨⟨k2 + 1, acc ++ L, _, rfl, by omega, by go_num, HO3.out, HN.out, by unfold Hid; rw [List.length_append]; exact HL.out, HG.out⟩, by simp [intOf]; omega⟩
        · have HB := Lib.hid hb
          have HO2 := Lib.hid hown
          have HN := Lib.hid (show acc = Ls.flatten by have := hhd.out; rwa [List.take_of_length_le (by rw [HQ1.out]; omega)] at this)
          clear hb hown hhd
          go_wp2
          go_ret
          exact ⟨_, rfl, by rw [← HN.out]; exact HO2.out, HB.out⟩

end Go.Proofs.YthhpjgdeehcgjaaGreat

/-
  The program's way to a needle's header on a machine of one's own; its loop: a loop more.
-/
namespace Go.Proofs.YthhpjgdeehcgjaaGreat
set_option linter.unusedVariables false
set_option linter.unusedSimpArgs false
open Go.RowKit

set_option maxHeartbeats 2000000 in
set_option maxRecDepth 100000 in
theorem cloneIX (A : Option Addr) (c n : Nat) (xs : List Value) (w : World) (hr : Reads w w.heap.size 1 A n xs) (hlen : n ≤ 1048576) (hone : ∀ u ∈ xs, u.oneCell' = true) :
    Calls Tryz.prog 97 #[.slice A n c] w (GivesRow w 2 1 n xs) := by
  obtain ⟨i0, hi, hz0, hz1, hz2⟩ := info_parts info_int
  rcases A with _ | ad
  · have h0 : n = 0 := by
      rcases Nat.eq_zero_or_pos n with h | h
      · exact h
      · obtain ⟨ad, hA, _⟩ := hr.2 h
        cases hA
    subst h0
    have hnil : xs = [] := List.eq_nil_of_length_eq_zero (by rw [hr.1])
    subst hnil
    have hq := fun W => Lib.run_eql_slice_nil (P := Tryz.prog) W 32 2 none 0 c 0 0 Tryz.underlying32
    clear hr hone
    go_enter Tryz.func97, Tryz.ntmps97
    go_wp2
    go_ret
    exact ⟨_, rfl, World.ownsRow_nil _ _ _ _, Below.refl _ _⟩
  · have hq := fun W => Lib.run_eql_slice_nil (P := Tryz.prog) W 32 2 (some ad) n c 0 0 Tryz.underlying32
    have HR := Lib.hid hr
    have HO := Lib.hid hone
    clear hr hone
    go_enter Tryz.func97, Tryz.ntmps97
    go_wp2_with (at_builtin; refine wpList_append_any _ rfl (.tmp 5) (.tmp 6) _ rfl w.heap.size 2 i0 _ 1 8 Tryz.underlying32 hi hz0 hz1 hz2 rfl (by decide) _ 0 [] rfl (World.ownsRow_lit _ _ _ (Nat.le_refl _) (by unfold maxLen; omega) rfl) w.heap.size (some ad) n c xs rfl (HR.out.alloc (Nat.le_refl _) _) HO.out (by unfold maxLen; omega) (by omega) (by simp) ?_; intro v1 w1 hown hg hat)
    go_ret
    refine ⟨v1, rfl, by simpa using hown, ((Below.refl _ _).alloc (Nat.le_refl _) _).grown hg (by simp) (fun k hk => ?_)⟩
    have hk' : some w.heap.size = some k := hk
    injection hk' with hk'
    omega
set_option maxHeartbeats 4000000 in
set_option maxRecDepth 100000 in
/-- The program's pointer to a needle's header. -/
theorem on_ms {w : World} {B g : Nat} {m : Mc} {S : Nat → Spot} (h : MSt w B g m S) (n : Int × Int) (hn : ndIn m n) (b c L : Nat) (hv : bedV S n.1 = .slice (some ⟨b, 0, none⟩) L c) (hlt : n.2 < (L : Int)) :
    Calls Tryz.prog 53 #[.pointer (some ⟨g, 0, none⟩), .agg #[.int .i64 n.1, .int .i64 n.2]] w fun e w' => e = .returned (.pointer (some ⟨b, n.2.toNat, none⟩)) ∧ Below w.heap.size w w' := by
  obtain ⟨nb, na⟩ := n
  obtain ⟨hb12, h0, -⟩ := hn
  have h0' : 0 ≤ na := h0
  have hlt' : na < (L : Int) := hlt
  obtain ⟨ka, rfl⟩ := Int.eq_ofNat_of_zero_le h0'
  have HM := Lib.hid (fun o => h.below ((Below.refl w.heap.size w).alloc (Nat.le_refl _) o))
  have hB1 := (Below.refl w.heap.size w).alloc (Nat.le_refl _) (.cells #[.int .i64 nb, .int .i64 (ka : Int)] 39)
  have HB1 := Lib.hid hB1
  have hv2 : bedV S nb = .slice (some ⟨b, 0, none⟩) L c := hv
  clear h h0 h0' hlt hv hB1
  have hb12' : nb = 1 ∨ nb = 2 := hb12
  rcases hb12' with rfl | rfl
  · have e1 : (S 1).v = .slice (some ⟨b, 0, none⟩) L c := hv2
    obtain ⟨x0, x1, x2, x3, x4, x5, x6⟩ := (HM.out (.cells #[.int .i64 1, .int .i64 (ka : Int)] 39)).cells.seven
    rw [e1] at x2
    clear hv2 e1 hb12
    go_enter Tryz.func53, Tryz.ntmps53
    go_wp2
    go_quiet (fail)
    go_wp2
    go_ret
    exact ⟨by simp, below_drewN HB1.out _⟩
  · have e1 : (S 2).v = .slice (some ⟨b, 0, none⟩) L c := hv2
    obtain ⟨x0, x1, x2, x3, x4, x5, x6⟩ := (HM.out (.cells #[.int .i64 2, .int .i64 (ka : Int)] 39)).cells.seven
    rw [e1] at x3
    clear hv2 e1 hb12
    go_enter Tryz.func53, Tryz.ntmps53
    go_wp2
    go_quiet (fail)
    go_wp2
    go_ret
    exact ⟨by simp, below_drewN HB1.out _⟩
theorem bed_row {S : Nat → Spot} {b : Int} {bF L c : Nat} (h : bedV S b = .slice (some ⟨bF, 0, none⟩) L c) : ∃ j, (j = 1 ∨ j = 2) ∧ (S j).v.ownBlock = some bF := by
  unfold bedV at h
  by_cases e : b = 2
  · rw [if_pos e] at h
    exact ⟨2, .inr rfl, by rw [h]; rfl⟩
  · rw [if_neg e] at h
    exact ⟨1, .inl rfl, by rw [h]; rfl⟩
/-- A reading stays while other blocks change. -/
theorem RdI.onlyT {w w' : World} {T : Nat → Prop} {hi : Nat} {v : Value} {l : List Int} (h : RdI w hi v l) (ho : OnlyT T w w') (hd : ∀ b off n c, v = .slice (some ⟨b, off, none⟩) n c → ¬ T b) : RdI w' hi v l := by
  obtain ⟨A, n, c, rfl, hn, hl, h⟩ := h
  refine ⟨A, n, c, rfl, hn, hl, fun k hkn => ?_⟩
  obtain ⟨b, off, x, h1, h2, h3, h4⟩ := h k hkn
  exact ⟨b, off, x, h1, h2, h3, ho.cell (p := ⟨b, off + k, none⟩) (hd b off n c (by rw [h1])) h4⟩
theorem addLp_setL (m : Mc) (x : Opr) (n : Int × Int) (l ps : List Int) : addLp (setL m n l) x ps = setL (addLp m x ps) n l := by
  unfold addLp setL
  split <;> rfl
theorem setL_ls (m : Mc) (n : Int × Int) (l : List Int) : (setL m n l).ls = m.ls := by
  unfold setL
  split <;> rfl
@[go_sem] def ldLp1 : Oper := { dst := some 14, op := Op.load 32 (Operand.tmp 13), type := 32, pos := "l07_machine.go:342", after := #[{ on := 2, ground := Ground.data }], guard := none }
@[go_sem] def ldLp2 : Oper := { dst := some 27, op := Op.load 31 (Operand.tmp 26), type := 31, pos := "l07_machine.go:343", after := #[{ on := 3, ground := Ground.data }], guard := none }
set_option maxHeartbeats 4000000 in
set_option maxRecDepth 100000 in
theorem loop_any {w : World} {B g : Nat} {m : Mc} {S : Nat → Spot} (h : MSt w B g m S) (hB : B ≤ w.heap.size) (x : Opr) (v : Value) (l : List Int) (hl : RdI w w.heap.size v l) (hd : ∀ b off n c, v = .slice (some ⟨b, off, none⟩) n c → ¬ blk S b) (hl4 : l.length ≤ 4) (hls : m.ls.length < 300) (hn : ndIn m x.f) (hon : (onL m x.f).length ≤ 4) :
    Calls Tryz.prog 81 #[.pointer (some ⟨g, 0, none⟩), x.v, v] w fun e w' => e = .returned (.tuple #[]) ∧ ∃ S', MSt w' B g (setL (addLp m x l) x.f (onL m x.f ++ [(m.ls.length : Int)])) S' ∧ Mv w S w' S' := by
  obtain ⟨i0, hi, hz0, hz1, hz2⟩ := info_parts info_int
  obtain ⟨j0, hj, hy0, hy1, hy2⟩ := info_parts info_inf
  obtain ⟨k, d, fb, fa, tb, ta, c, r⟩ := x
  have hb0 := (Below.refl w.heap.size w).alloc (Nat.le_refl _) (.cells #[.int .i64 k, .int .i64 d, .int .i64 fb, .int .i64 fa, .int .i64 tb, .int .i64 ta, .int .i64 c, .int .i64 r] 41)
  have HM1 := Lib.hid (h.below hb0)
  have HV1 := Lib.hid (Mv.of_below (S := S) hb0)
  have HO1 := Lib.hid (Bx.new w [.int .i64 k, .int .i64 d, .int .i64 fb, .int .i64 fa, .int .i64 tb, .int .i64 ta, .int .i64 c, .int .i64 r] 41)
  have HL1 := Lib.hid ((hl.below hb0).more hb0.size)
  have HD := Lib.hid hd
  have HN := Lib.hid hn
  have HNB := Lib.hid (show ¬ blk S w.heap.size from fun e => by have := (h.sp.ge e).2; omega)
  have hB1 : B ≤ (w.alloc (.cells #[.int .i64 k, .int .i64 d, .int .i64 fb, .int .i64 fa, .int .i64 tb, .int .i64 ta, .int .i64 c, .int .i64 r] 41)).heap.size := by simp; omega
  have hbl : w.heap.size < (w.alloc (.cells #[.int .i64 k, .int .i64 d, .int .i64 fb, .int .i64 fa, .int .i64 tb, .int .i64 ta, .int .i64 c, .int .i64 r] 41)).heap.size := by simp
  obtain ⟨AV, cV, rfl⟩ := hl.len
  obtain ⟨Y, hY⟩ : ∃ Y, Y = setL (addLp m ⟨k, d, fb, fa, tb, ta, c, r⟩ l) (fb, fa) (onL m (fb, fa) ++ [(m.ls.length : Int)]) := ⟨_, rfl⟩
  have HY := Lib.hid (hY.trans (addLp_setL m ⟨k, d, fb, fa, tb, ta, c, r⟩ (fb, fa) _ l).symm)
  show Calls _ _ _ _ fun e w' => e = _ ∧ ∃ S', MSt w' B g (setL (addLp m ⟨k, d, fb, fa, tb, ta, c, r⟩ l) (fb, fa) (onL m (fb, fa) ++ [(m.ls.length : Int)])) S' ∧ _
  rw [← hY]
  have hon' : (onL m (fb, fa)).length ≤ 4 := hon
  clear h hl hd hn hb0 hY hon
  go_enter Tryz.func81, Tryz.ntmps81
  go_wp2_with fail
  generalize w.alloc (.cells #[.int .i64 k, .int .i64 d, .int .i64 fb, .int .i64 fa, .int .i64 tb, .int .i64 ta, .int .i64 c, .int .i64 r] 41) = W1 at *
  obtain ⟨bF, cF, LF, hv, hlt, hbF, hbFw, hBF, hcell, hfr, he, hset⟩ := HM1.out.nd HN.out
  refine (on_ms HM1.out (fb, fa) HN.out bF cF LF hv hlt).mono ?_
  rintro e w2 ⟨rfl, hb2⟩
  have HM2 := Lib.hid (HM1.out.below hb2)
  have HV2 := Lib.hid (HV1.out.below_ hb2)
  have HO2 := Lib.hid (HO1.out.below hb2 HO1.out.2.2)
  have HL2 := Lib.hid ((HL1.out.below hb2).more hb2.size)
  have HSET := Lib.hid hset
  obtain ⟨-, ⟨Af, cf, hvf, hcf⟩, hown⟩ := HM2.out.onR HN.out
  have hvf' : (S (iN (fb, fa))).v = .slice Af (onL m (fb, fa)).length cf := hvf
  have hown' : w2.ownsRow B 2 1 (S (iN (fb, fa))).v (onL m (fb, fa)).length (vI (onL m (fb, fa))) := hown
  have yh : w2.cell? ⟨bF, (fb, fa).2.toNat, none⟩ = some (S (iN (fb, fa))).v := (hb2.cell (p := ⟨bF, _, none⟩) hbFw).trans hcell
  have hfr2 : ∀ o, w2.frozen? ⟨bF, o, none⟩ = false := fun o => (hb2.frozen (p := ⟨bF, o, none⟩) hbFw).trans (hfr o)
  have hsz2 := hb2.size
  have hbF2 : bF < w2.heap.size := by omega
  obtain ⟨A4, c4, hv4⟩ : ∃ A c, (S 4).v = .slice A m.ls.length c := by
    obtain ⟨xs, e4, h4⟩ := HM2.out.rowL
    obtain ⟨A, c, h1, -⟩ := (OwC.of_own h4).cells
    exact ⟨A, c, h1⟩
  have y5 : w2.cell? ⟨g, 5, none⟩ = some (.slice A4 m.ls.length c4) := by rw [← hv4]; exact HM2.out.cells.seven.2.2.2.2.2.1
  have y5a : ∀ o, (w2.alloc o).cell? ⟨g, 5, none⟩ = some (.slice A4 m.ls.length c4) := fun o => (World.cell?_alloc_lt w2 o ⟨g, 5, none⟩ (by exact HM2.out.size.1)).trans y5
  have yha : ∀ o, (w2.alloc o).cell? ⟨bF, (fb, fa).2.toNat, none⟩ = some (S (iN (fb, fa))).v := fun o => (World.cell?_alloc_lt w2 o ⟨bF, _, none⟩ hbF2).trans yh
  have hJ := bed_row hv
  have hob : (S (iN (fb, fa))).v.ownBlock ≠ some bF := fun e9 => by
    obtain ⟨j, h8, h7⟩ := hJ
    exact HM2.out.sp.dis (i := j) (j := iN (fb, fa)) (by rcases h8 with rfl | rfl <;> (unfold iN iF iB; split <;> omega)) h7 e9
  have hgF : g ≠ bF := fun e9 => by
    obtain ⟨j, h8, h7⟩ := hJ
    exact HM2.out.sp.dis (i := j) (j := 0) (by omega) h7 (by rw [← e9]; exact HM2.out.gbox)
  have hfgF := far_cell (Ne.symm hgF)
  have hog : (S (iN (fb, fa))).v.ownBlock ≠ some g := fun e9 => HM2.out.sp.dis (i := 0) (j := iN (fb, fa)) (by unfold iN iF iB; split <;> omega) HM2.out.gbox e9
  have HOB0 := Lib.hid hob
  rw [hvf'] at yh yha hown' hog hob
  have HOB := Lib.hid hob
  have HOG := Lib.hid hog
  have HOWN := Lib.hid hown'
  have HVF := Lib.hid hvf'
  generalize hNf : (onL m (fb, fa)).length = nf at *
  have hNF := Lib.hid hNf
  clear hb2 hcell hfr he hset hvf hvf' hown hown' hv hlt hob hog hJ hcf hv4 hNf
  obtain ⟨kN, hkN⟩ : ∃ q, q = (fb, fa).2.toNat := ⟨_, rfl⟩
  rw [← hkN] at yh yha HSET ⊢
  clear hkN
  go_upto_region 2 with fail
  rw [show ({ dst := some 14, op := Op.load 32 (Operand.tmp 13), type := 32, pos := "l07_machine.go:342", after := #[{ on := 2, ground := Ground.data }], guard := none } : Oper) = ldLp1 from rfl]
  go_region_held3 (fun w' => w'.cell? ⟨g, 5, none⟩ = some (.slice A4 m.ls.length c4))
    (first | exact y5 | exact y5a _ | exact s5 | (rw [hfgF]; exact s5) | go_keep)
    (first
      | (refine step_append_lies _ (by rfl) _ _ _ (by rfl) B 2 i0 _ 1 8 Tryz.underlying32 hi hz0 hz1 hz2 rfl (by omega) (.slice Af nf cf) nf (vI (onL m (fb, fa))) (by rfl) (HOWN.out.alloc _) ⟨w2.heap.size, 0, none⟩ 1 1 [.int .i64 m.ls.length] (by rfl) (by rfl) (World.news_of_block (cs := #[.int .i64 m.ls.length]) (t := 2) (fr := (0, 0)) (heap_alloc_new w2 _)) (by simp [Value.oneCell']) (by omega) (by unfold maxLen; omega) (by omega) (by simp; omega) (w2.heap.size + 1) (by simp) ?_; intro gg cap w3 hown3 hgrow hat hlt3; have s5 : w3.cell? ⟨g, 5, none⟩ = some (.slice A4 m.ls.length c4) := (hgrow.cell_far ⟨g, 5, none⟩ (by have := HM2.out.size.1; simp; omega) (Ne.symm HOG.out)).trans (y5a _); have th : w3.cell? ⟨bF, kN, none⟩ = some (.slice Af nf cf) := (hgrow.cell_far ⟨bF, kN, none⟩ (by simp; omega) (Ne.symm HOB.out)).trans (yha _); have tf : w3.frozen? ⟨bF, kN, none⟩ = false := (hgrow.frozen_far ⟨bF, kN, none⟩ (by simp; omega) (Ne.symm HOB.out)).trans (((Below.refl w2.heap.size w2).alloc (Nat.le_refl _) _).frozen (p := ⟨bF, kN, none⟩) hbF2 |>.trans (hfr2 kN))))
  all_goals
    have hown4 : (spI (.slice (some ⟨gg, 0, none⟩) (nf + 1) cap) (onL m (fb, fa) ++ [(m.ls.length : Int)])).owned w3 B := by
      show w3.ownsRow B 2 1 _ (onL m (fb, fa) ++ [(m.ls.length : Int)]).length (vI (onL m (fb, fa) ++ [(m.ls.length : Int)]))
      rw [List.length_append, hNF, vI_append]
      exact hown3
    have hg4 : (w2.alloc (.cells #[.int .i64 m.ls.length] 2)).drew.grownBy w3 (S (iN (fb, fa))).v.ownBlock := by rw [HVF.out]; exact hgrow
    have hat4 : (spI (.slice (some ⟨gg, 0, none⟩) (nf + 1) cap) (onL m (fb, fa) ++ [(m.ls.length : Int)])).v.ownBlock = (S (iN (fb, fa))).v.ownBlock ∨ (spI (.slice (some ⟨gg, 0, none⟩) (nf + 1) cap) (onL m (fb, fa) ++ [(m.ls.length : Int)])).v.ownBlock = some (w2.alloc (.cells #[.int .i64 m.ls.length] 2)).drew.heap.size := by
      rw [HVF.out]
      rcases hat with h9 | h9
      · exact .inl h9.symm
      · refine .inr ?_
        rw [h9]
        show some (w2.heap.size + 1) = some (w2.alloc _).heap.size
        rw [World.size_alloc]
    obtain ⟨S3, hm3, hmv3⟩ := HSET.out w3 (onL m (fb, fa) ++ [(m.ls.length : Int)]) (.slice (some ⟨gg, 0, none⟩) (nf + 1) cap) ((HM2.out.sp.alloc _).drew.app (iN (fb, fa)) _ hown4 hg4 hat4)
    have hv3 := hmv3 w S ((HV2.out.alloc _).drew.app (p := iN (fb, fa)) hg4 hat4)
    have hq3 := hmv3 w2 S (((Mv.refl w2 S).alloc _).drew.app (p := iN (fb, fa)) hg4 hat4)
    have hot : OnlyT (blk S) w2 (w3.setCell ⟨bF, kN, none⟩ (.slice (some ⟨gg, 0, none⟩) (nf + 1) cap)) := hq3.only
    have hl4' := HL2.out.onlyT hot (fun b off n c e => HD.out b off n c e)
    have HL4 := Lib.hid (hl4'.more hot.size)
    have hnb4 : ¬ blk S3 w.heap.size := hq3.nblk HNB.out (by omega)
    have HO4 : Hid (CellsAt (w3.setCell ⟨bF, kN, none⟩ (.slice (some ⟨gg, 0, none⟩) (nf + 1) cap)) w.heap.size 0 [.int .i64 k, .int .i64 d, .int .i64 fb, .int .i64 fa, .int .i64 tb, .int .i64 ta, .int .i64 c, .int .i64 r]) := hot.cells HNB.out HO2.out.1
    have HNB4 := Lib.hid hnb4
    have HM4 := Lib.hid hm3
    have HV4 := Lib.hid hv3
    have hbo4 : w.heap.size < (w3.setCell ⟨bF, kN, none⟩ (.slice (some ⟨gg, 0, none⟩) (nf + 1) cap)).heap.size := Nat.lt_of_lt_of_le (by omega) hot.size
    have hB4 : B ≤ (w3.setCell ⟨bF, kN, none⟩ (.slice (some ⟨gg, 0, none⟩) (nf + 1) cap)).heap.size := by omega
    have s6k : (w3.setCell ⟨bF, kN, none⟩ (.slice (some ⟨gg, 0, none⟩) (nf + 1) cap)).cell? ⟨g, 5, none⟩ = some (.slice A4 m.ls.length c4) := by rw [hfgF]; exact s5
    clear hown3 hown4 hg4 hat4 hgrow hat hm3 hv3 hq3 hot hl4' hnb4 HM2 HV2 HO2 HL2 HSET HOB HOB0 HOG HOWN HVF y5 y5a yh yha hfr2 th tf s5 hbF hbF2 hbFw hBF hNF hfgF hgF HM1 HV1 HO1 HL1 hlt3
    generalize w3.setCell ⟨bF, kN, none⟩ (.slice (some ⟨gg, 0, none⟩) (nf + 1) cap) = W4 at *
    have hYE : Y = addLp (setL m (fb, fa) (onL m (fb, fa) ++ [(m.ls.length : Int)])) ⟨k, d, fb, fa, tb, ta, c, r⟩ l := HY.out
    have hls1 : (setL m (fb, fa) (onL m (fb, fa) ++ [(m.ls.length : Int)])).ls.length = m.ls.length := by rw [setL_ls]
    have HM4' : Hid (MSt W4 B g (setL m (fb, fa) (onL m (fb, fa) ++ [(m.ls.length : Int)])) S3) := HM4.out
    clear HM4 HY
    generalize setL m (fb, fa) (onL m (fb, fa) ++ [(m.ls.length : Int)]) = m1 at *
    obtain ⟨xs, e4, hown4⟩ := HM4'.out.rowL
    obtain ⟨o0, o1, o2, o3, o4, o5, o6, o7⟩ := HO4.out.eight
    have x5 : W4.cell? ⟨g, 5, none⟩ = some (S3 4).v := HM4'.out.cells.seven.2.2.2.2.2.1
    have hgw := HM4'.out.size.1
    have HE4 := Lib.hid e4
    have HOW4 := Lib.hid hown4
    have HQ := Lib.hid (cloneIX AV cV l.length (vI l) W4.drew (by exact (HL4.out.reads).1) (by omega) (vI_one l))
    have hgb : g ≠ w.heap.size := fun e => HNB4.out ⟨0, by rw [HM4'.out.gbox, e]⟩
    have hv4 : (S3 4).v = .slice A4 m.ls.length c4 := by
      have h9 := x5.symm.trans s6k
      injection h9
    clear x5
    have HV4' := Lib.hid hv4
    have hb4 : (Value.slice A4 m.ls.length c4).ownBlock ≠ some w.heap.size := fun e => HNB4.out ⟨4, by rw [hv4]; exact e⟩
    have HB4 := Lib.hid hb4
    have HG4 : Hid ((Value.slice A4 m.ls.length c4).ownBlock ≠ some g) := fun e => HM4'.out.sp.dis (i := 4) (j := 0) (by omega) (by rw [hv4]; exact e) HM4'.out.gbox
    have hfgb := far_cell hgb
    generalize m.ls.length = N at *
    have HN1 := Lib.hid hls1
    clear e4 hown4 hv4 hls1 hb4
    go_upto_region 3 with fail
    rw [show ({ dst := some 27, op := Op.load 31 (Operand.tmp 26), type := 31, pos := "l07_machine.go:343", after := #[{ on := 3, ground := Ground.data }], guard := none } : Oper) = ldLp2 from rfl]
    go_region_held3 (fun w' => w'.cell? ⟨w.heap.size, 0, none⟩ = some (.int .i64 k) ∧ w'.cell? ⟨w.heap.size, 6, none⟩ = some (.int .i64 c) ∧ w'.cell? ⟨w.heap.size, 2, none⟩ = some (.int .i64 fb) ∧ w'.cell? ⟨w.heap.size, 3, none⟩ = some (.int .i64 fa) ∧ w'.cell? ⟨w.heap.size, 1, none⟩ = some (.int .i64 d))
      (first | exact ⟨o0, o6, o2, o3, o1⟩ | exact ⟨q0, q6, q2, q3, q1⟩ | exact ⟨s0, s6, s2, s3, s1⟩ | (rw [hfgb, hfgb, hfgb, hfgb, hfgb]; exact ⟨s0, s6, s2, s3, s1⟩) | go_keep)
      (first
        | (go_at_call 97; refine (HQ.out).mono ?_; rintro e w5 ⟨v2, rfl, hown2, hb2⟩; have hb2' : Below W4.heap.size W4 w5 := (Below.refl W4.heap.size W4).drew.trans hb2; obtain ⟨q0, q1, q2, q3, q4, q5, q6, q7⟩ := (CellsAt.below HO4.out hb2' hbo4).eight; have z5 : w5.cell? ⟨g, 5, none⟩ = some (.slice A4 N c4) := (hb2'.cell (p := ⟨g, 5, none⟩) hgw).trans s6k; have z5a : ∀ ob, (w5.alloc ob).cell? ⟨g, 5, none⟩ = some (.slice A4 N c4) := fun ob => (World.cell?_alloc_lt w5 ob ⟨g, 5, none⟩ (by have := hb2'.size; show g < _; omega)).trans z5; have hm2 := HM4'.out.below hb2'; have hw4 := own_below HOW4.out hb2'; rw [HV4'.out, HN1.out] at hw4; obtain ⟨A2, c2, rfl⟩ : ∃ A c, v2 = .slice A l.length c := by (obtain ⟨A, c, h1, -⟩ := (OwC.of_own hown2).cells; exact ⟨A, c, h1⟩))
        | (refine step_append_lies _ (by rfl) _ _ _ (by rfl) B 50 j0 _ 6 64 Tryz.underlying31 hj hy0 hy1 hy2 rfl (by omega) (.slice A4 N c4) N xs (by rfl) (hw4.alloc _) ⟨w5.heap.size, 0, none⟩ 1 1 [.int .i64 k, .int .i64 c, .int .i64 fb, .int .i64 fa, .int .i64 d, .slice A2 l.length c2] (by rfl) (by rfl) (World.news_of_block (cs := #[.int .i64 k, .int .i64 c, .int .i64 fb, .int .i64 fa, .int .i64 d, .slice A2 l.length c2]) (t := 50) (fr := (0, 0)) (heap_alloc_new w5 _)) (by simp [Value.oneCell']) (by omega) (by unfold maxLen; omega) (by omega) (by have := hb2'.size; simp; omega) (w5.heap.size + 1) (by simp) ?_; intro gg cap w6 hown3 hgrow hat hlt; have hbw2 : w.heap.size < w5.heap.size := Nat.lt_of_lt_of_le hbo4 hb2'.size; have hfar : ∀ (j : Nat) (u : Value), w5.cell? ⟨w.heap.size, j, none⟩ = some u → w6.cell? ⟨w.heap.size, j, none⟩ = some u := fun j u hu => (hgrow.cell_far ⟨w.heap.size, j, none⟩ (by simp; omega) (Ne.symm HB4.out)).trans ((World.cell?_alloc_lt w5 _ ⟨w.heap.size, j, none⟩ hbw2).trans hu); have s0 := hfar _ _ q0; have s1 := hfar _ _ q1; have s2 := hfar _ _ q2; have s3 := hfar _ _ q3; have s6 := hfar _ _ q6; clear hfar; have t5 : w6.cell? ⟨g, 5, none⟩ = some (.slice A4 N c4) := (hgrow.cell_far ⟨g, 5, none⟩ (by have := hb2'.size; simp; omega) (Ne.symm HG4.out)).trans ((World.cell?_alloc_lt w5 _ ⟨g, 5, none⟩ (by have := hb2'.size; show g < _; omega)).trans z5); have tf5 : w6.frozen? ⟨g, 5, none⟩ = false := (hgrow.frozen_far ⟨g, 5, none⟩ (by have := hb2'.size; simp; omega) (Ne.symm HG4.out)).trans (((((Below.refl w5.heap.size w5).alloc (Nat.le_refl _) _).frozen (p := ⟨g, 5, none⟩) (by have := hb2'.size; show g < _; omega))).trans (hm2.frozen 5))))
    all_goals
      have hF : ∃ S', MSt (w6.setCell ⟨g, 5, none⟩ (.slice (some ⟨gg, 0, none⟩) (N + 1) cap)) B g Y S' ∧ Mv w S (w6.setCell ⟨g, 5, none⟩ (.slice (some ⟨gg, 0, none⟩) (N + 1) cap)) S' := by
        have hN := HN1.out
        subst hN
        have hWA : Below w5.heap.size w5 (w5.alloc (.cells #[.int .i64 k, .int .i64 c, .int .i64 fb, .int .i64 fa, .int .i64 d, .slice A2 l.length c2] 50)) := (Below.refl _ _).alloc (Nat.le_refl _) _
        rw [hYE]
        refine MSt.addLm (w1 := w5.alloc (.cells #[.int .i64 k, .int .i64 c, .int .i64 fb, .int .i64 fa, .int .i64 d, .slice A2 l.length c2] 50)) (x := ⟨k, c, fb, fa, d, l⟩) (hm2.below hWA) ((HV4.out.below_ hb2').alloc _) HE4.out (own_base (own_below hown2 hWA) hB4) (fun q hq => ?_) hown3 (by rw [HV4'.out]; exact hgrow) (by rw [HV4'.out]; rcases hat with h9 | h9; exact .inl h9.symm; exact .inr (by rw [h9]; simp [Value.ownBlock]))
        have h9 : W4.heap.size ≤ q := (World.ownsRow.lt hown2 q hq).1
        exact ⟨fun e => by have := (HM4'.out.sp.ge e).2; omega, by omega⟩
      have HF := Lib.hid hF
      clear hF hown3 hgrow hat hown2 hb2 hb2' hm2 hw4 HM4' HO4 HNB4 HQ HE4 HOW4 HV4 HB4 HG4 hYE
      go_wp2
      go_end0
      exact ⟨rfl, HF.out⟩

end Go.Proofs.YthhpjgdeehcgjaaGreat

/-
  The program's transfer on a machine of its own.
-/
namespace Go.Proofs.YthhpjgdeehcgjaaGreat
set_option linter.unusedVariables false
set_option linter.unusedSimpArgs false
open Go.RowKit

theorem ndIn_setL {m : Mc} {n t : Int × Int} {l : List Int} (h : ndIn m n) : ndIn (setL m t l) n := by
  obtain ⟨h1, h2, h3, h4⟩ := h
  unfold setL
  split <;> exact ⟨h1, h2, by simpa using h3, by simpa using h4⟩
/-- MSt.nd, and what becomes of the rows' values. -/
theorem MSt.nd3 {w : World} {B g : Nat} {m : Mc} {S : Nat → Spot} (h : MSt w B g m S) {n : Int × Int} (hn : ndIn m n) : ∃ b c L, bedV S n.1 = .slice (some ⟨b, 0, none⟩) L c ∧ n.2 < (L : Int) ∧ blk S b ∧ b < w.heap.size ∧ B ≤ b ∧ w.cell? ⟨b, n.2.toNat, none⟩ = some (S (iN n)).v ∧ (∀ o, w.frozen? ⟨b, o, none⟩ = false) ∧ S (iN n) = spI (S (iN n)).v (onL m n) ∧
    ∀ (w' : World) (l' : List Int) (v' : Value), SpotsT w' B (putS S (iN n) (spI v' l')) → ∃ S', MSt (w'.setCell ⟨b, n.2.toNat, none⟩ v') B g (setL m n l') S' ∧ (∀ w0 S0, Mv w0 S0 w' (putS S (iN n) (spI v' l')) → Mv w0 S0 (w'.setCell ⟨b, n.2.toNat, none⟩ v') S') ∧ (∀ j, j ≠ iN n → (S' j).v = (S j).v) ∧ (S' (iN n)).v = v' := by
  obtain ⟨h1, h2, h3, h4⟩ := hn
  by_cases e : n.1 = 2
  · obtain ⟨b, c, hv, hB, hb, hc, ho⟩ := h.gB (by omega)
    obtain ⟨g1, g2, g3⟩ := h.listB h4 ho
    have ei : iN n = iB n.2.toNat := by unfold iN; rw [if_pos e]
    have eo : onL m n = m.bk[n.2.toNat] := by unfold onL; rw [if_pos e, List.getD_eq_getElem?_getD, List.getElem?_eq_getElem h4]; rfl
    refine ⟨b, c, m.bk.length, by unfold bedV; rw [if_pos e]; exact hv, by omega, ⟨2, ho⟩, hb, hB, by rw [ei]; exact g1, g2, by rw [ei, eo]; exact g3, fun w' l' v' hsp => ?_⟩
    rw [ei] at hsp
    have e2 : putS S (iB n.2.toNat) (spI v' l') 2 = S 2 := putS_ne (fun e => by unfold iB at e; omega)
    refine ⟨_, by unfold setL; rw [if_pos e]; exact h.setB h4 ho hsp, fun w0 S0 hm => ?_, fun j hj => ?_, ?_⟩
    · rw [ei] at hm
      have := hm.setCell (p := 2) (g := b) (i := n.2.toNat) (by rw [e2]; exact ho) v' ((S 2).xs.set n.2.toNat v')
      rw [e2] at this
      exact this
    · by_cases j2 : j = 2
      · rw [j2, putS_same]
      · rw [putS_ne j2, putS_ne (by rw [← ei]; exact hj)]
    · rw [ei, putS_ne (fun e => by unfold iB at e; omega), putS_same]
  · obtain ⟨b, c, hv, hB, hb, hc, ho⟩ := h.gF (by omega)
    obtain ⟨g1, g2, g3⟩ := h.listF h3 ho
    have ei : iN n = iF n.2.toNat := by unfold iN; rw [if_neg e]
    have eo : onL m n = m.fr[n.2.toNat] := by unfold onL; rw [if_neg e, List.getD_eq_getElem?_getD, List.getElem?_eq_getElem h3]; rfl
    refine ⟨b, c, m.fr.length, by unfold bedV; rw [if_neg e]; exact hv, by omega, ⟨1, ho⟩, hb, hB, by rw [ei]; exact g1, g2, by rw [ei, eo]; exact g3, fun w' l' v' hsp => ?_⟩
    rw [ei] at hsp
    have e2 : putS S (iF n.2.toNat) (spI v' l') 1 = S 1 := putS_ne (fun e => by unfold iF at e; omega)
    refine ⟨_, by unfold setL; rw [if_neg e]; exact h.setF h3 ho hsp, fun w0 S0 hm => ?_, fun j hj => ?_, ?_⟩
    · rw [ei] at hm
      have := hm.setCell (p := 1) (g := b) (i := n.2.toNat) (by rw [e2]; exact ho) v' ((S 1).xs.set n.2.toNat v')
      rw [e2] at this
      exact this
    · by_cases j2 : j = 1
      · rw [j2, putS_same]
      · rw [putS_ne j2, putS_ne (by rw [← ei]; exact hj)]
    · rw [ei, putS_ne (fun e => by unfold iF at e; omega), putS_same]
theorem bedV_keep {S S' : Nat → Spot} {n : Int × Int} (h : ∀ j, j ≠ iN n → (S' j).v = (S j).v) (b : Int) : bedV S' b = bedV S b := by
  unfold bedV
  rw [h 1 (by unfold iN iF iB; split <;> omega), h 2 (by unfold iN iF iB; split <;> omega)]
theorem iN_ne {f t : Int × Int} (hf : f.1 = 1 ∨ f.1 = 2) (ht : t.1 = 1 ∨ t.1 = 2) (h : f.1 ≠ t.1) : iN f ≠ iN t := by
  unfold iN iF iB
  rcases hf with h1 | h1 <;> rcases ht with h2 | h2
  · omega
  · rw [if_neg (by omega), if_pos h2]; omega
  · rw [if_pos h1, if_neg (by omega)]; omega
  · omega
/-- A needle's row, its header's row and the machine's box are apart. -/
theorem nd_apart {w : World} {B g : Nat} {m : Mc} {S : Nat → Spot} (h : MSt w B g m S) {b : Int} {bF L c : Nat} (hv : bedV S b = .slice (some ⟨bF, 0, none⟩) L c) (n : Int × Int) : (S (iN n)).v.ownBlock ≠ some bF ∧ (S (iN n)).v.ownBlock ≠ some g ∧ g ≠ bF := by
  obtain ⟨j, h8, h7⟩ := bed_row hv
  refine ⟨fun e9 => ?_, fun e9 => ?_, fun e9 => ?_⟩
  · exact h.sp.dis (i := j) (j := iN n) (by rcases h8 with rfl | rfl <;> (unfold iN iF iB; split <;> omega)) h7 e9
  · exact h.sp.dis (i := 0) (j := iN n) (by unfold iN iF iB; split <;> omega) h.gbox e9
  · exact h.sp.dis (i := j) (j := 0) (by omega) h7 (by rw [← e9]; exact h.gbox)
theorem two_rd {P : Value → List Int → Prop} {a b : Value} {x y : List Int} (h1 : P a x) (h2 : P b y) : ∀ (j : Nat) (V : Value) (L : List Int), [a, b][j]? = some V → [x, y][j]? = some L → P V L := by
  intro j V L g1 g2
  match j with
  | 0 =>
    simp at g1 g2
    rw [← g1, ← g2]
    exact h1
  | 1 =>
    simp at g1 g2
    rw [← g1, ← g2]
    exact h2
  | j + 2 => simp at g1
@[go_sem] def ldTr3 : Oper := { dst := some 24, op := Op.load 32 (Operand.tmp 23), type := 32, pos := "l07_machine.go:331", after := #[{ on := 7, ground := Ground.data }], guard := none }
@[go_sem] def ldTr4 : Oper := { dst := some 35, op := Op.load 32 (Operand.tmp 34), type := 32, pos := "l07_machine.go:333", after := #[{ on := 6, ground := Ground.data }], guard := none }

set_option maxHeartbeats 4000000 in
set_option maxRecDepth 100000 in
theorem transfer_b {w : World} {B g : Nat} {m : Mc} {S : Nat → Spot} (h : MSt w B g m S) (hB : B ≤ w.heap.size) (fa ta : Int) (hf : ndIn m (1, fa)) (ht : ndIn m (2, ta)) (h4 : ∀ n, (onL m n).length ≤ 4) :
    Calls Tryz.prog 82 #[.pointer (some ⟨g, 0, none⟩), .agg #[.int .i64 1, .int .i64 fa], .agg #[.int .i64 2, .int .i64 ta]] w fun e w' => ∃ v S', e = .returned v ∧ RdI w' w'.heap.size v (onL m (1, fa)) ∧ (∀ b off n c, v = .slice (some ⟨b, off, none⟩) n c → ¬ blk S' b) ∧ MSt w' B g (setL (setL m (2, ta) (onL m (1, fa) ++ onL m (2, ta))) (1, fa) []) S' ∧ Mv w S w' S' := by
  have hb0 := ((Below.refl w.heap.size w).alloc (Nat.le_refl _) (.cells #[.int .i64 1, .int .i64 fa] 39)).alloc (by simp) (.cells #[.int .i64 2, .int .i64 ta] 39)
  have HM1 := Lib.hid (h.below hb0)
  have HV1 := Lib.hid (Mv.of_below (S := S) hb0)
  have HF1 := Lib.hid ((Bx.new w [.int .i64 1, .int .i64 fa] 39).alloc (.cells #[.int .i64 2, .int .i64 ta] 39))
  have hT1 := Bx.new (w.alloc (.cells #[.int .i64 1, .int .i64 fa] 39)) [.int .i64 2, .int .i64 ta] 39
  rw [World.size_alloc] at hT1
  have HT1 := Lib.hid hT1
  have hs1 : ((w.alloc (.cells #[.int .i64 1, .int .i64 fa] 39)).alloc (.cells #[.int .i64 2, .int .i64 ta] 39)).heap.size = w.heap.size + 2 := by simp
  have HNF := Lib.hid hf
  have HNT := Lib.hid ht
  have hnf4 := h4 (1, fa)
  have hnt4 := h4 (2, ta)
  clear hb0 hT1 hf ht
  go_enter Tryz.func82, Tryz.ntmps82
  go_wp2_with fail
  generalize (w.alloc (.cells #[.int .i64 1, .int .i64 fa] 39)).alloc (.cells #[.int .i64 2, .int .i64 ta] 39) = W1 at *
  obtain ⟨bF, cF, LF, hvF, hltF, hbF, hbFw, hBF, hcellF, hfrF, -, -⟩ := HM1.out.nd3 HNF.out
  refine (on_ms HM1.out (1, fa) HNF.out bF cF LF hvF hltF).mono ?_
  rintro e w2 ⟨rfl, hb2⟩
  have HM2 := Lib.hid (HM1.out.below hb2)
  have HV2 := Lib.hid (HV1.out.below_ hb2)
  have HF2 := Lib.hid (HF1.out.below hb2 HF1.out.2.2)
  have HT2 := Lib.hid (HT1.out.below hb2 HT1.out.2.2)
  have hsz2 := hb2.size
  obtain ⟨hrF, ⟨Af, cf, hvf, -⟩, -⟩ := HM2.out.onR HNF.out
  obtain ⟨hrT, ⟨At, ct, hvt, -⟩, -⟩ := HM2.out.onR HNT.out
  obtain ⟨bT, cT, LT, hvT, hltT, hbT, hbTw, hBT, hcellT, hfrT, -, hsetT⟩ := HM2.out.nd3 HNT.out
  have yF : w2.cell? ⟨bF, fa.toNat, none⟩ = some (S (iN (1, fa))).v := (hb2.cell (p := ⟨bF, _, none⟩) hbFw).trans hcellF
  have yT : w2.cell? ⟨bT, ta.toNat, none⟩ = some (S (iN (2, ta))).v := hcellT
  obtain ⟨hap1, -, hap3⟩ := nd_apart HM2.out hvT (1, fa)
  obtain ⟨haf1, -, -⟩ := nd_apart HM2.out hvF (1, fa)
  rw [hvf] at yF hrF hap1 haf1
  rw [hvt] at yT hrT
  have HRF := Lib.hid hrF
  have HRT := Lib.hid hrT
  have HSET := Lib.hid hsetT
  have HAP := Lib.hid (And.intro hap1 haf1)
  have HVF := Lib.hid hvf
  have HBV := Lib.hid hvF
  have HBL := Lib.hid hltF
  have hbF2 : bF < w2.heap.size := by omega
  have hQ := fun (X : World) (hX : Below w2.heap.size w2 X) => on_ms (HM2.out.below hX) (2, ta) HNT.out bT cT LT hvT hltT
  have HQ := Lib.hid hQ
  have HFRT := Lib.hid hfrT
  have HYT := Lib.hid yT
  obtain ⟨n0, n1⟩ := HF2.out.two
  obtain ⟨t0, t1⟩ := HT2.out.two
  clear hb2 hrF hrT hvf hvt hvF hvT hltF hltT hsetT hcellF hcellT hfrF hfrT hap1 hap3 haf1 hbFw hBF hBT hQ HM1 HV1 HF1 HT1 yT
  generalize hlf : (onL m (1, fa)).length = nf at *
  generalize hlt : (onL m (2, ta)).length = nt at *
  have HLF := Lib.hid hlf
  have HLT := Lib.hid hlt
  clear hlf hlt
  have hfTN := far_cell (show bT ≠ w.heap.size + 1 by have := (h.sp.ge hbT).2; omega)
  go_upto_region 3 with fail
  have HSW := Lib.hid (fun (X : World) (hX : Below w2.heap.size w2 X) => show X.cell? ⟨w.heap.size + 1, 0, none⟩ = some (.int .i64 2) ∧ X.cell? ⟨w.heap.size + 1, 1, none⟩ = some (.int .i64 ta) from (HT2.out.below hX HT2.out.2.2).two)
  have HWB := Lib.hid (fun (X X' : World) (hX : Below w2.heap.size w2 X) (hX' : Below X.heap.size X X') => hX.trans (hX'.mono hX.size))
  have HTC := Lib.hid (fun (X : World) (hX : Below w2.heap.size w2 X) => (hX.cell (p := ⟨bT, ta.toNat, none⟩) hbTw).trans HYT.out)
  have HTF := Lib.hid (fun (X : World) (hX : Below w2.heap.size w2 X) (o : Nat) => (hX.frozen (p := ⟨bT, o, none⟩) hbTw).trans (HFRT.out o))
  rw [show ({ dst := some 24, op := Op.load 32 (Operand.tmp 23), type := 32, pos := "l07_machine.go:331", after := #[{ on := 7, ground := Ground.data }], guard := none } : Oper) = ldTr3 from rfl]
  go_region_held3 (fun w' => w'.cell? ⟨w.heap.size + 1, 0, none⟩ = some (.int .i64 2) ∧ w'.cell? ⟨w.heap.size + 1, 1, none⟩ = some (.int .i64 ta))
    (first | with_reducible exact HSW.out _ (Below.refl _ _) | with_reducible exact HSW.out _ (Below.refl _ _).drew | with_reducible exact HSW.out _ hbC | with_reducible exact HSW.out _ hbX | with_reducible exact HSW.out _ hbB | with_reducible exact HSW.out _ hbA | (rw [hfTN, hfTN]; with_reducible exact HSW.out _ hbC) | go_keep)
    (first
      | (go_at_call 53; refine (HQ.out _ hbA).mono ?_; rintro e wB ⟨rfl, hbB0⟩; have hbB : Below w2.heap.size w2 wB := HWB.out _ _ hbA hbB0; have tTB := HTC.out _ hbB)
      | (go_at_call 53; refine (HQ.out _ (Below.refl w2.heap.size w2).drew).mono ?_; rintro e wA ⟨rfl, hbA0⟩; have hbA : Below w2.heap.size w2 wA := HWB.out _ _ (Below.refl w2.heap.size w2).drew hbA0; have tTA := HTC.out _ hbA)
      | (go_at_call 98; have hbX : Below w2.heap.size w2 (wB.alloc (.cells #[.slice Af nf cf, .slice At nt ct] 32)) := hbB.alloc hbB.size _; refine (concatI_any [.slice Af nf cf, .slice At nt ct] [onL m (1, fa), onL m (2, ta)] wB.heap.size 2 2 (wB.alloc (.cells #[.slice Af nf cf, .slice At nt ct] 32)) rfl rfl (by omega) (by simp) (CellsAt.of_alloc (us := [.slice Af nf cf, .slice At nt ct])) (two_rd (P := fun V L => RdI _ _ V L) ((HRF.out.below hbX).more hbX.size) ((HRT.out.below hbX).more hbX.size)) (by have := HLF.out; have := HLT.out; simp; omega)).mono ?_; rintro e wC ⟨vC, rfl, hoC, hbC0⟩; have hbC : Below w2.heap.size w2 wC := HWB.out _ _ hbX hbC0; have tTC := HTC.out _ hbC; have tfC := HTF.out _ hbC ta.toNat; obtain ⟨AC, cC, rfl⟩ : ∃ A c, vC = .slice A ((onL m (1, fa)).length + (onL m (2, ta)).length) c := (by (obtain ⟨A, c, h1, -⟩ := (OwC.of_own hoC).cells; exact ⟨A, c, by rw [h1]; simp⟩))))
  all_goals
    have hcat : [onL m (1, fa), onL m (2, ta)].flatten = onL m (1, fa) ++ onL m (2, ta) := by simp
    have hoC1 : wC.ownsRow (wB.alloc (.cells #[.slice Af nf cf, .slice At nt ct] 32)).heap.size 2 1 (Value.slice AC ((onL m (1, fa)).length + (onL m (2, ta)).length) cC) (onL m (1, fa) ++ onL m (2, ta)).length (vI (onL m (1, fa) ++ onL m (2, ta))) := by rw [← hcat]; exact hoC
    have hownC := own_base hoC1 (show B ≤ (wB.alloc (.cells #[.slice Af nf cf, .slice At nt ct] 32)).heap.size from Nat.le_trans hB (by have := hbX.size; omega))
    have hnewC : ∀ q, ((Value.slice AC ((onL m (1, fa)).length + (onL m (2, ta)).length) cC)).ownBlock = some q → w2.heap.size ≤ q := fun q hq => Nat.le_trans hbX.size (World.ownsRow.lt hoC1 q hq).1
    obtain ⟨S3, hm3, hmv3, hk3, hs3⟩ := HSET.out wC (onL m (1, fa) ++ onL m (2, ta)) (Value.slice AC ((onL m (1, fa)).length + (onL m (2, ta)).length) cC) ((HM2.out.below hbC).sp.putX (iN (2, ta)) hownC (fun q hq e => by have h8 := (HM2.out.sp.ge e).2; have h9 := hnewC q hq; omega))
    have hv3 := hmv3 w S ((HV2.out.below_ hbC).put (iN (2, ta)) (spI (Value.slice AC ((onL m (1, fa)).length + (onL m (2, ta)).length) cC) (onL m (1, fa) ++ onL m (2, ta))) (fun q hq => .inr (by have h9 := hnewC q hq; omega)))
    have hot : OnlyT (fun q => q = bT ∨ q = bF) w2 (wC.setCell ⟨bT, ta.toNat, none⟩ (Value.slice AC ((onL m (1, fa)).length + (onL m (2, ta)).length) cC)) := (OnlyT.of_below hbC).setCell (.inl (.inl rfl)) (Value.slice AC ((onL m (1, fa)).length + (onL m (2, ta)).length) cC)
    have hef : (S3 (iN (1, fa))).v = .slice Af nf cf := (hk3 _ (iN_ne HNF.out.1 HNT.out.1 (by show (1 : Int) ≠ 2; decide))).trans HVF.out
    have hbv : bedV S3 1 = .slice (some ⟨bF, 0, none⟩) LF cF := (bedV_keep hk3 1).trans HBV.out
    have HM5 := Lib.hid hm3
    have HV5 := Lib.hid hv3
    have HOT := Lib.hid hot
    have HEF := Lib.hid hef
    have HBV3 := Lib.hid hbv
    have hsz5 : w2.heap.size ≤ (wC.setCell ⟨bT, ta.toNat, none⟩ (Value.slice AC ((onL m (1, fa)).length + (onL m (2, ta)).length) cC)).heap.size := hot.size
    obtain ⟨n0', n1'⟩ : (wC.setCell ⟨bT, ta.toNat, none⟩ (Value.slice AC ((onL m (1, fa)).length + (onL m (2, ta)).length) cC)).cell? ⟨w.heap.size, 0, none⟩ = some (.int .i64 1) ∧ (wC.setCell ⟨bT, ta.toNat, none⟩ (Value.slice AC ((onL m (1, fa)).length + (onL m (2, ta)).length) cC)).cell? ⟨w.heap.size, 1, none⟩ = some (.int .i64 fa) := by
      have hnb : ¬ (w.heap.size = bT ∨ w.heap.size = bF) := by
        have h1 : B ≤ bT ∧ bT < w2.heap.size := HM2.out.sp.ge hbT
        have h2 : ¬ blk S w.heap.size := fun e => by have := (h.sp.ge e).2; omega
        rintro (e | e)
        · exact h2 (by rw [e]; exact hbT)
        · exact h2 (by rw [e]; exact hbF)
      exact ⟨hot.cell hnb n0, hot.cell hnb n1⟩
    clear n0 n1 t0 t1 hm3 hv3 hmv3 hk3 hs3 hot hef hbv hownC hnewC hoC1 hoC hbC hbX hbC0 hbB hbB0 hbA hbA0 tTA tTB tTC tfC HSW HWB HTC HTF HSET HQ HFRT HYT yF HF2 HT2 HV2 HVF HBV
    generalize wC.setCell ⟨bT, ta.toNat, none⟩ (Value.slice AC ((onL m (1, fa)).length + (onL m (2, ta)).length) cC) = W5 at *
    have HNF5 := Lib.hid (ndIn_setL (t := (2, ta)) (l := onL m (1, fa) ++ onL m (2, ta)) HNF.out)
    go_wp2_with fail
    refine (on_ms HM5.out (1, fa) HNF5.out bF cF LF HBV3.out HBL.out).mono ?_
    rintro e w6 ⟨rfl, hb6⟩
    have HM6 := Lib.hid (HM5.out.below hb6)
    have HV6 := Lib.hid (HV5.out.below_ hb6)
    have HOT6 := Lib.hid (HOT.out.trans (OnlyT.of_below hb6))
    obtain ⟨bF', cF', LF', hvF', -, -, hbw', -, hcell', hfr', -, hset'⟩ := HM6.out.nd3 HNF5.out
    have hEB : bF' = bF := by
      have h9 := hvF'.symm.trans HBV3.out
      injection h9 with h9
      injection h9 with h9
      injection h9
    subst hEB
    have yF6 : w6.cell? ⟨bF', fa.toNat, none⟩ = some (.slice Af nf cf) := by rw [← HEF.out]; exact hcell'
    obtain ⟨S4, hm4, hmv4, hk4, hs4⟩ := hset' w6 [] (.slice none 0 0) (HM6.out.sp.putNone (iN (1, fa)) 2 1)
    have hv4 := hmv4 w S (HV6.out.put (iN (1, fa)) (spI (.slice none 0 0) []) (fun q hq => by cases hq))
    have hot7 : OnlyT (fun q => q = bT ∨ q = bF') w2 (w6.setCell ⟨bF', fa.toNat, none⟩ (.slice none 0 0)) := HOT6.out.setCell (.inl (.inr rfl)) _
    have hrd7 : RdI (w6.setCell ⟨bF', fa.toNat, none⟩ (.slice none 0 0)) (w6.setCell ⟨bF', fa.toNat, none⟩ (.slice none 0 0)).heap.size (.slice Af nf cf) (onL m (1, fa)) := by
      refine RdI.more (HRF.out.onlyT hot7 (fun b off n c e => ?_)) hot7.size
      have h9 : (Value.slice Af nf cf).ownBlock = some b := by rw [e]; rfl
      rintro (h8 | h8)
      · exact HAP.out.1 (by rw [h9, h8])
      · exact HAP.out.2 (by rw [h9, h8])
    have hnb7 : ∀ b off n c, Value.slice Af nf cf = .slice (some ⟨b, off, none⟩) n c → ¬ blk S4 b := fun b off n c e => by
      have h9 : (S3 (iN (1, fa))).v.ownBlock = some b := by rw [HEF.out, e]; rfl
      rintro ⟨j, hj⟩
      by_cases hjf : j = iN (1, fa)
      · rw [hjf, hs4] at hj; cases hj
      · rw [hk4 j hjf] at hj
        exact HM6.out.sp.dis (i := iN (1, fa)) (j := j) (Ne.symm hjf) h9 hj
    have hfr6 := hfr' fa.toNat
    have HFIN := Lib.hid (And.intro hrd7 (And.intro hnb7 (And.intro hm4 hv4)))
    clear hrd7 hnb7 hm4 hv4 hot7 hmv4 hk4 hs4 hset' hvF' hcell' hfr' hb6 n0' n1' HM5 HM6 HV5 HV6 HOT HOT6 HEF HBV3
    go_wp2
    go_ret
    obtain ⟨f1, f2, f3, f4⟩ := HFIN.out
    exact ⟨_, S4, rfl, f1, f2, f3, f4⟩

set_option maxHeartbeats 4000000 in
set_option maxRecDepth 100000 in
theorem transfer_f {w : World} {B g : Nat} {m : Mc} {S : Nat → Spot} (h : MSt w B g m S) (hB : B ≤ w.heap.size) (fa ta : Int) (hf : ndIn m (2, fa)) (ht : ndIn m (1, ta)) (h4 : ∀ n, (onL m n).length ≤ 4) :
    Calls Tryz.prog 82 #[.pointer (some ⟨g, 0, none⟩), .agg #[.int .i64 2, .int .i64 fa], .agg #[.int .i64 1, .int .i64 ta]] w fun e w' => ∃ v S', e = .returned v ∧ RdI w' w'.heap.size v (onL m (2, fa)) ∧ (∀ b off n c, v = .slice (some ⟨b, off, none⟩) n c → ¬ blk S' b) ∧ MSt w' B g (setL (setL m (1, ta) (onL m (1, ta) ++ onL m (2, fa))) (2, fa) []) S' ∧ Mv w S w' S' := by
  have hb0 := ((Below.refl w.heap.size w).alloc (Nat.le_refl _) (.cells #[.int .i64 2, .int .i64 fa] 39)).alloc (by simp) (.cells #[.int .i64 1, .int .i64 ta] 39)
  have HM1 := Lib.hid (h.below hb0)
  have HV1 := Lib.hid (Mv.of_below (S := S) hb0)
  have HF1 := Lib.hid ((Bx.new w [.int .i64 2, .int .i64 fa] 39).alloc (.cells #[.int .i64 1, .int .i64 ta] 39))
  have hT1 := Bx.new (w.alloc (.cells #[.int .i64 2, .int .i64 fa] 39)) [.int .i64 1, .int .i64 ta] 39
  rw [World.size_alloc] at hT1
  have HT1 := Lib.hid hT1
  have hs1 : ((w.alloc (.cells #[.int .i64 2, .int .i64 fa] 39)).alloc (.cells #[.int .i64 1, .int .i64 ta] 39)).heap.size = w.heap.size + 2 := by simp
  have HNF := Lib.hid hf
  have HNT := Lib.hid ht
  have hnf4 := h4 (2, fa)
  have hnt4 := h4 (1, ta)
  clear hb0 hT1 hf ht
  go_enter Tryz.func82, Tryz.ntmps82
  go_wp2_with fail
  generalize (w.alloc (.cells #[.int .i64 2, .int .i64 fa] 39)).alloc (.cells #[.int .i64 1, .int .i64 ta] 39) = W1 at *
  obtain ⟨bF, cF, LF, hvF, hltF, hbF, hbFw, hBF, hcellF, hfrF, -, -⟩ := HM1.out.nd3 HNF.out
  refine (on_ms HM1.out (2, fa) HNF.out bF cF LF hvF hltF).mono ?_
  rintro e w2 ⟨rfl, hb2⟩
  have HM2 := Lib.hid (HM1.out.below hb2)
  have HV2 := Lib.hid (HV1.out.below_ hb2)
  have HF2 := Lib.hid (HF1.out.below hb2 HF1.out.2.2)
  have HT2 := Lib.hid (HT1.out.below hb2 HT1.out.2.2)
  have hsz2 := hb2.size
  obtain ⟨hrF, ⟨Af, cf, hvf, -⟩, -⟩ := HM2.out.onR HNF.out
  obtain ⟨hrT, ⟨At, ct, hvt, -⟩, -⟩ := HM2.out.onR HNT.out
  obtain ⟨bT, cT, LT, hvT, hltT, hbT, hbTw, hBT, hcellT, hfrT, -, hsetT⟩ := HM2.out.nd3 HNT.out
  have yF : w2.cell? ⟨bF, fa.toNat, none⟩ = some (S (iN (2, fa))).v := (hb2.cell (p := ⟨bF, _, none⟩) hbFw).trans hcellF
  have yT : w2.cell? ⟨bT, ta.toNat, none⟩ = some (S (iN (1, ta))).v := hcellT
  obtain ⟨hap1, -, hap3⟩ := nd_apart HM2.out hvT (2, fa)
  obtain ⟨haf1, -, -⟩ := nd_apart HM2.out hvF (2, fa)
  rw [hvf] at yF hrF hap1 haf1
  rw [hvt] at yT hrT
  have HRF := Lib.hid hrF
  have HRT := Lib.hid hrT
  have HSET := Lib.hid hsetT
  have HAP := Lib.hid (And.intro hap1 haf1)
  have HVF := Lib.hid hvf
  have HBV := Lib.hid hvF
  have HBL := Lib.hid hltF
  have hbF2 : bF < w2.heap.size := by omega
  have hQ := fun (X : World) (hX : Below w2.heap.size w2 X) => on_ms (HM2.out.below hX) (1, ta) HNT.out bT cT LT hvT hltT
  have HQ := Lib.hid hQ
  have HFRT := Lib.hid hfrT
  have HYT := Lib.hid yT
  obtain ⟨n0, n1⟩ := HF2.out.two
  obtain ⟨t0, t1⟩ := HT2.out.two
  clear hb2 hrF hrT hvf hvt hvF hvT hltF hltT hsetT hcellF hcellT hfrF hfrT hap1 hap3 haf1 hbFw hBF hBT hQ HM1 HV1 HF1 HT1 yT
  generalize hlf : (onL m (2, fa)).length = nf at *
  generalize hlt : (onL m (1, ta)).length = nt at *
  have HLF := Lib.hid hlf
  have HLT := Lib.hid hlt
  clear hlf hlt
  have hfTN := far_cell (show bT ≠ w.heap.size + 1 by have := (h.sp.ge hbT).2; omega)
  go_upto_region 4 with fail
  have HSW := Lib.hid (fun (X : World) (hX : Below w2.heap.size w2 X) => show X.cell? ⟨w.heap.size + 1, 0, none⟩ = some (.int .i64 1) ∧ X.cell? ⟨w.heap.size + 1, 1, none⟩ = some (.int .i64 ta) from (HT2.out.below hX HT2.out.2.2).two)
  have HWB := Lib.hid (fun (X X' : World) (hX : Below w2.heap.size w2 X) (hX' : Below X.heap.size X X') => hX.trans (hX'.mono hX.size))
  have HTC := Lib.hid (fun (X : World) (hX : Below w2.heap.size w2 X) => (hX.cell (p := ⟨bT, ta.toNat, none⟩) hbTw).trans HYT.out)
  have HTF := Lib.hid (fun (X : World) (hX : Below w2.heap.size w2 X) (o : Nat) => (hX.frozen (p := ⟨bT, o, none⟩) hbTw).trans (HFRT.out o))
  rw [show ({ dst := some 35, op := Op.load 32 (Operand.tmp 34), type := 32, pos := "l07_machine.go:333", after := #[{ on := 6, ground := Ground.data }], guard := none } : Oper) = ldTr4 from rfl]
  go_region_held3 (fun w' => w'.cell? ⟨w.heap.size + 1, 0, none⟩ = some (.int .i64 1) ∧ w'.cell? ⟨w.heap.size + 1, 1, none⟩ = some (.int .i64 ta))
    (first | with_reducible exact HSW.out _ (Below.refl _ _) | with_reducible exact HSW.out _ (Below.refl _ _).drew | with_reducible exact HSW.out _ hbC | with_reducible exact HSW.out _ hbX | with_reducible exact HSW.out _ hbB | with_reducible exact HSW.out _ hbA | (rw [hfTN, hfTN]; with_reducible exact HSW.out _ hbC) | go_keep)
    (first
      | (go_at_call 53; refine (HQ.out _ hbA).mono ?_; rintro e wB ⟨rfl, hbB0⟩; have hbB : Below w2.heap.size w2 wB := HWB.out _ _ hbA hbB0; have tTB := HTC.out _ hbB)
      | (go_at_call 53; refine (HQ.out _ (Below.refl w2.heap.size w2).drew).mono ?_; rintro e wA ⟨rfl, hbA0⟩; have hbA : Below w2.heap.size w2 wA := HWB.out _ _ (Below.refl w2.heap.size w2).drew hbA0; have tTA := HTC.out _ hbA)
      | (go_at_call 98; have hbX : Below w2.heap.size w2 (wB.alloc (.cells #[.slice At nt ct, .slice Af nf cf] 32)) := hbB.alloc hbB.size _; refine (concatI_any [.slice At nt ct, .slice Af nf cf] [onL m (1, ta), onL m (2, fa)] wB.heap.size 2 2 (wB.alloc (.cells #[.slice At nt ct, .slice Af nf cf] 32)) rfl rfl (by omega) (by simp) (CellsAt.of_alloc (us := [.slice At nt ct, .slice Af nf cf])) (two_rd (P := fun V L => RdI _ _ V L) ((HRT.out.below hbX).more hbX.size) ((HRF.out.below hbX).more hbX.size)) (by have := HLF.out; have := HLT.out; simp; omega)).mono ?_; rintro e wC ⟨vC, rfl, hoC, hbC0⟩; have hbC : Below w2.heap.size w2 wC := HWB.out _ _ hbX hbC0; have tTC := HTC.out _ hbC; have tfC := HTF.out _ hbC ta.toNat; obtain ⟨AC, cC, rfl⟩ : ∃ A c, vC = .slice A ((onL m (1, ta)).length + (onL m (2, fa)).length) c := (by (obtain ⟨A, c, h1, -⟩ := (OwC.of_own hoC).cells; exact ⟨A, c, by rw [h1]; simp⟩))))
  all_goals
    have hcat : [onL m (1, ta), onL m (2, fa)].flatten = onL m (1, ta) ++ onL m (2, fa) := by simp
    have hoC1 : wC.ownsRow (wB.alloc (.cells #[.slice At nt ct, .slice Af nf cf] 32)).heap.size 2 1 (Value.slice AC ((onL m (1, ta)).length + (onL m (2, fa)).length) cC) (onL m (1, ta) ++ onL m (2, fa)).length (vI (onL m (1, ta) ++ onL m (2, fa))) := by rw [← hcat]; exact hoC
    have hownC := own_base hoC1 (show B ≤ (wB.alloc (.cells #[.slice At nt ct, .slice Af nf cf] 32)).heap.size from Nat.le_trans hB (by have := hbX.size; omega))
    have hnewC : ∀ q, ((Value.slice AC ((onL m (1, ta)).length + (onL m (2, fa)).length) cC)).ownBlock = some q → w2.heap.size ≤ q := fun q hq => Nat.le_trans hbX.size (World.ownsRow.lt hoC1 q hq).1
    obtain ⟨S3, hm3, hmv3, hk3, hs3⟩ := HSET.out wC (onL m (1, ta) ++ onL m (2, fa)) (Value.slice AC ((onL m (1, ta)).length + (onL m (2, fa)).length) cC) ((HM2.out.below hbC).sp.putX (iN (1, ta)) hownC (fun q hq e => by have h8 := (HM2.out.sp.ge e).2; have h9 := hnewC q hq; omega))
    have hv3 := hmv3 w S ((HV2.out.below_ hbC).put (iN (1, ta)) (spI (Value.slice AC ((onL m (1, ta)).length + (onL m (2, fa)).length) cC) (onL m (1, ta) ++ onL m (2, fa))) (fun q hq => .inr (by have h9 := hnewC q hq; omega)))
    have hot : OnlyT (fun q => q = bT ∨ q = bF) w2 (wC.setCell ⟨bT, ta.toNat, none⟩ (Value.slice AC ((onL m (1, ta)).length + (onL m (2, fa)).length) cC)) := (OnlyT.of_below hbC).setCell (.inl (.inl rfl)) (Value.slice AC ((onL m (1, ta)).length + (onL m (2, fa)).length) cC)
    have hef : (S3 (iN (2, fa))).v = .slice Af nf cf := (hk3 _ (iN_ne HNF.out.1 HNT.out.1 (by show (2 : Int) ≠ 1; decide))).trans HVF.out
    have hbv : bedV S3 2 = .slice (some ⟨bF, 0, none⟩) LF cF := (bedV_keep hk3 2).trans HBV.out
    have HM5 := Lib.hid hm3
    have HV5 := Lib.hid hv3
    have HOT := Lib.hid hot
    have HEF := Lib.hid hef
    have HBV3 := Lib.hid hbv
    have hsz5 : w2.heap.size ≤ (wC.setCell ⟨bT, ta.toNat, none⟩ (Value.slice AC ((onL m (1, ta)).length + (onL m (2, fa)).length) cC)).heap.size := hot.size
    obtain ⟨n0', n1'⟩ : (wC.setCell ⟨bT, ta.toNat, none⟩ (Value.slice AC ((onL m (1, ta)).length + (onL m (2, fa)).length) cC)).cell? ⟨w.heap.size, 0, none⟩ = some (.int .i64 2) ∧ (wC.setCell ⟨bT, ta.toNat, none⟩ (Value.slice AC ((onL m (1, ta)).length + (onL m (2, fa)).length) cC)).cell? ⟨w.heap.size, 1, none⟩ = some (.int .i64 fa) := by
      have hnb : ¬ (w.heap.size = bT ∨ w.heap.size = bF) := by
        have h1 : B ≤ bT ∧ bT < w2.heap.size := HM2.out.sp.ge hbT
        have h2 : ¬ blk S w.heap.size := fun e => by have := (h.sp.ge e).2; omega
        rintro (e | e)
        · exact h2 (by rw [e]; exact hbT)
        · exact h2 (by rw [e]; exact hbF)
      exact ⟨hot.cell hnb n0, hot.cell hnb n1⟩
    clear n0 n1 t0 t1 hm3 hv3 hmv3 hk3 hs3 hot hef hbv hownC hnewC hoC1 hoC hbC hbX hbC0 hbB hbB0 hbA hbA0 tTA tTB tTC tfC HSW HWB HTC HTF HSET HQ HFRT HYT yF HF2 HT2 HV2 HVF HBV
    generalize wC.setCell ⟨bT, ta.toNat, none⟩ (Value.slice AC ((onL m (1, ta)).length + (onL m (2, fa)).length) cC) = W5 at *
    have HNF5 := Lib.hid (ndIn_setL (t := (1, ta)) (l := onL m (1, ta) ++ onL m (2, fa)) HNF.out)
    go_wp2_with fail
    refine (on_ms HM5.out (2, fa) HNF5.out bF cF LF HBV3.out HBL.out).mono ?_
    rintro e w6 ⟨rfl, hb6⟩
    have HM6 := Lib.hid (HM5.out.below hb6)
    have HV6 := Lib.hid (HV5.out.below_ hb6)
    have HOT6 := Lib.hid (HOT.out.trans (OnlyT.of_below hb6))
    obtain ⟨bF', cF', LF', hvF', -, -, hbw', -, hcell', hfr', -, hset'⟩ := HM6.out.nd3 HNF5.out
    have hEB : bF' = bF := by
      have h9 := hvF'.symm.trans HBV3.out
      injection h9 with h9
      injection h9 with h9
      injection h9
    subst hEB
    have yF6 : w6.cell? ⟨bF', fa.toNat, none⟩ = some (.slice Af nf cf) := by rw [← HEF.out]; exact hcell'
    obtain ⟨S4, hm4, hmv4, hk4, hs4⟩ := hset' w6 [] (.slice none 0 0) (HM6.out.sp.putNone (iN (2, fa)) 2 1)
    have hv4 := hmv4 w S (HV6.out.put (iN (2, fa)) (spI (.slice none 0 0) []) (fun q hq => by cases hq))
    have hot7 : OnlyT (fun q => q = bT ∨ q = bF') w2 (w6.setCell ⟨bF', fa.toNat, none⟩ (.slice none 0 0)) := HOT6.out.setCell (.inl (.inr rfl)) _
    have hrd7 : RdI (w6.setCell ⟨bF', fa.toNat, none⟩ (.slice none 0 0)) (w6.setCell ⟨bF', fa.toNat, none⟩ (.slice none 0 0)).heap.size (.slice Af nf cf) (onL m (2, fa)) := by
      refine RdI.more (HRF.out.onlyT hot7 (fun b off n c e => ?_)) hot7.size
      have h9 : (Value.slice Af nf cf).ownBlock = some b := by rw [e]; rfl
      rintro (h8 | h8)
      · exact HAP.out.1 (by rw [h9, h8])
      · exact HAP.out.2 (by rw [h9, h8])
    have hnb7 : ∀ b off n c, Value.slice Af nf cf = .slice (some ⟨b, off, none⟩) n c → ¬ blk S4 b := fun b off n c e => by
      have h9 : (S3 (iN (2, fa))).v.ownBlock = some b := by rw [HEF.out, e]; rfl
      rintro ⟨j, hj⟩
      by_cases hjf : j = iN (2, fa)
      · rw [hjf, hs4] at hj; cases hj
      · rw [hk4 j hjf] at hj
        exact HM6.out.sp.dis (i := iN (2, fa)) (j := j) (Ne.symm hjf) h9 hj
    have hfr6 := hfr' fa.toNat
    have HFIN := Lib.hid (And.intro hrd7 (And.intro hnb7 (And.intro hm4 hv4)))
    clear hrd7 hnb7 hm4 hv4 hot7 hmv4 hk4 hs4 hset' hvF' hcell' hfr' hb6 n0' n1' HM5 HM6 HV5 HV6 HOT HOT6 HEF HBV3
    go_wp2
    go_ret
    obtain ⟨f1, f2, f3, f4⟩ := HFIN.out
    exact ⟨_, S4, rfl, f1, f2, f3, f4⟩


end Go.Proofs.YthhpjgdeehcgjaaGreat
