/-
  Texts joined: RkA, RkB, RkC, RkD, RkF, RkE0.
-/
import Derived.Test.YthhpjgdeehcgjaaGreatPk6
import Derived.Test.YthhpjgdeehcgjaaGreatPk7
import Derived.Test.YthhpjgdeehcgjaaGreatPk1
import Derived.Test.YthhpjgdeehcgjaaGreatPk10
import Derived.StillTailTactics
import Derived.Test.YthhpjgdeehcgjaaGreatInt
import Derived.Test.YthhpjgdeehcgjaaGreatAppend
import Derived.Maps.AppendAt
import Derived.Test.YthhpjgdeehcgjaaGreatPk3
import Derived.Test.YthhpjgdeehcgjaaGreatWords
import Derived.Deep.RegionHeld3
import Derived.Deep.DeepCutAuto
/-
  The reference's words of a rack's step: the strands before a needle, a block of crossings.
-/
namespace Go.Proofs.YthhpjgdeehcgjaaGreat
set_option linter.unusedVariables false
set_option linter.unusedSimpArgs false
open Go.RowKit

def befG (m : Mc) (n : Nd) (k : Nat) : Nat := ((List.range k).map (befT m n)).sum
theorem befG_succ (m : Mc) (n : Nd) (k : Nat) : befG m n (k + 1) = befG m n k + befT m n k := by
  unfold befG
  rw [List.range_succ, List.map_append, List.sum_append]
  simp
theorem szN_le {m : Mc} (ok : okM m = true) (n : Nd) : szN m n ≤ 4 := onL_len ok n
theorem befG_le {m : Mc} (ok : okM m = true) (n : Nd) : ∀ k, befG m n k ≤ 8 * k
  | 0 => Nat.le_refl _
  | k + 1 => by
    have h1 := befG_le ok n k
    have h2 := szN_le ok (1, (k : Int))
    have h3 := szN_le ok (2, (k : Int))
    rw [befG_succ]
    unfold befT
    split <;> split <;> omega

set_option maxHeartbeats 4000000 in
set_option maxRecDepth 100000 in
theorem l10Before_gen (m : Mc) (g : Nat) (n : Nd) (w : World) (h : RdP w g m) (ok : okM m = true) (a0 : 0 ≤ n.2) (a1 : n.2 < m.wd) :
    Calls Tryz.prog 86 #[.pointer (some ⟨g, 0, none⟩), .agg #[.int .i64 n.1, .int .i64 n.2]] w fun e w' => e = .returned (.int .i64 (befS m n)) ∧ Below w.heap.size w w' := by
  obtain ⟨b, a⟩ := n
  have ha0 : 0 ≤ a := a0
  have ha1 : a < m.wd := a1
  obtain ⟨d1, d2, d3, d4, d5, d6, -⟩ := ok_wd ok
  obtain ⟨F, G, C, L, D, hc, h1, h2, h3, h4, h5, h6⟩ := h
  have hgl : g < w.heap.size := block_lt_of_cell hc.seven.1
  obtain ⟨AF, cF, rfl⟩ := RdN.shape h1
  obtain ⟨AB, cB, rfl⟩ := RdN.shape h2
  have HQ := Lib.hid (fun X => l07Place_any b a m.rk (by omega) (by omega) (by omega) (by omega) X)
  have hPb : -100 ≤ plc b a m.rk ∧ plc b a m.rk ≤ 100 := by unfold plc; split <;> omega
  have HT := Lib.hid (fun (k : Nat) => show befT m (b, a) k = (if (k : Int) < plc b a m.rk ∨ ((k : Int) = plc b a m.rk ∧ b = 2) then szN m (1, (k : Int)) else 0) + (if (k : Int) + m.rk < plc b a m.rk then szN m (2, (k : Int)) else 0) from rfl)
  have HG := Lib.hid (fun k => befG_le ok (b, a) k)
  have HS := Lib.hid (fun k => befG_succ m (b, a) k)
  have HZ := Lib.hid (fun n => szN_le ok n)
  have HE := Lib.hid (show befS m (b, a) = befG m (b, a) m.wd.toNat from rfl)
  generalize plc b a m.rk = P at *
  generalize befS m (b, a) = R at *
  have HF := Lib.hid (fun (k : Nat) (hk : (k : Int) < m.wd) => show ∃ bb off s c, AF = some ⟨bb, off, none⟩ ∧ bb < w.heap.size ∧ w.cell? ⟨bb, off + k, none⟩ = some (.slice s (szN m (1, (k : Int))) c) from by
    obtain ⟨bb, off, x, s, e, hbb, hlk, hcell, hs⟩ := RdLL.at_ h1 (show k < m.fr.length by omega)
    obtain ⟨As, cs', rfl⟩ := hs.len
    refine ⟨bb, off, As, cs', e, hbb, ?_⟩
    have e1 : onL m (1, (k : Int)) = x := by unfold onL; rw [if_neg (by simp), List.getD_eq_getElem?_getD, show ((1 : Int), (k : Int)).2.toNat = k by simp, hlk]; rfl
    unfold szN
    rw [e1]
    exact hcell)
  have HB := Lib.hid (fun (k : Nat) (hk : (k : Int) < m.wd) => show ∃ bb off s c, AB = some ⟨bb, off, none⟩ ∧ bb < w.heap.size ∧ w.cell? ⟨bb, off + k, none⟩ = some (.slice s (szN m (2, (k : Int))) c) from by
    obtain ⟨bb, off, x, s, e, hbb, hlk, hcell, hs⟩ := RdLL.at_ h2 (show k < m.bk.length by omega)
    obtain ⟨As, cs', rfl⟩ := hs.len
    refine ⟨bb, off, As, cs', e, hbb, ?_⟩
    have e1 : onL m (2, (k : Int)) = x := by unfold onL; rw [if_pos rfl, List.getD_eq_getElem?_getD, show ((2 : Int), (k : Int)).2.toNat = k by simp, hlk]; rfl
    unfold szN
    rw [e1]
    exact hcell)
  have HC := Lib.hid hc
  have HBW := Lib.hid ((Below.refl w.heap.size w).alloc (Nat.le_refl _) (.cells #[.int .i64 b, .int .i64 a] 39))
  have N0 := Bx.new w [.int .i64 b, .int .i64 a] 39
  have hz0 : (w.alloc (.cells #[.int .i64 b, .int .i64 a] 39)).heap.size = w.heap.size + 1 := by simp
  obtain ⟨p0, p1⟩ := hPb
  clear hc h1 h2 h3 h4 h5 h6 ok a0 a1
  go_enter Tryz.func86, Tryz.ntmps86
  go_wp2
  generalize w.alloc (.cells #[.int .i64 b, .int .i64 a] 39) = W0 at *
  have HC0 := Lib.hid (HC.out.below HBW.out hgl)
  have x1 : ∀ X, (wgrow W0 X).cell? ⟨g, 0 + 1, none⟩ = some (.int .i64 m.rk) := fun X => HC0.out.grow X 1 _ rfl
  have n0 : ∀ X, (wgrow W0 X).cell? ⟨w.heap.size, 0, none⟩ = some (.int .i64 b) := fun X => N0.1.grow X 0 _ rfl
  have n1 : ∀ X, (wgrow W0 X).cell? ⟨w.heap.size, 0 + 1, none⟩ = some (.int .i64 a) := fun X => N0.1.grow X 1 _ rfl
  refine wp_region_grow (by kernel_rfl) (by kernel_rfl) ?_
  repeat (go_big_quiet_step ((go_at_call 75; exact calls_grow (HQ.out _))))
  refine wpQuiet_nil ?_
  intro w2 hb2
  have HN2 := Lib.hid (N0.below hb2 N0.2.2)
  have HB2 := Lib.hid (HBW.out.trans (hb2.mono HBW.out.size))
  clear x1 n0 n1 N0 HC0 hb2 HBW hz0
  go_wp2
  go_loopw [6, 7] (fun o i wr => ∃ (k q : Nat), (k : Int) ≤ m.wd ∧ i = .int .i64 k ∧ o = .int .i64 q ∧ q ≤ 8 * k ∧ Hid (befG m (b, a) k = q) ∧ Hid (Below w2.heap.size w2 wr)) (fun _ i _ => m.wd.toNat - (intOf i).toNat)
  case atStart => exact ⟨0, 0, by omega, rfl, rfl, Nat.le_refl _, rfl, Below.refl _ _⟩
  case round =>
    rename_i wr
    obtain ⟨k, q, hk, rfl, rfl, hq, hd, hbr⟩ := hrel
    have HBR := Lib.hid (HB2.out.trans (hbr.out.mono HB2.out.size))
    obtain ⟨y0, y1, y2, y3, y4, y5, y6⟩ := (HC.out.below HBR.out hgl).seven
    obtain ⟨n0, n1⟩ := (HN2.out.below hbr.out HN2.out.2.2).two
    by_cases hlt : (k : Int) < m.wd
    · obtain ⟨bf, of, sf, cf, rfl, hbf, hcf⟩ := HF.out k hlt
      obtain ⟨bb, ob, sb, cb, rfl, hbb, hcb⟩ := HB.out k hlt
      have xf := (HBR.out.cell (p := ⟨bf, of + k, none⟩) hbf).trans hcf
      have xb := (HBR.out.cell (p := ⟨bb, ob + k, none⟩) hbb).trans hcb
      have hz1 := HZ.out (1, (k : Int))
      have hz2 := HZ.out (2, (k : Int))
      have ht := HT.out k
      have hs := HS.out k
      rw [ht, hd.out] at hs
      have HSS := Lib.hid hs
      generalize szN m (1, (k : Int)) = s1 at *
      generalize szN m (2, (k : Int)) = s2 at *
      clear hcf hcb ht hs
      by_cases c1 : (k : Int) < P
      · by_cases c2 : (k : Int) + m.rk < P
        · have HV := Lib.hid (show befG m (b, a) (k + 1) = q + s1 + s2 by rw [HSS.out, if_pos (.inl c1), if_pos c2]; omega)
          clear HSS
          go_wp2
          exact ⟨⟨k + 1, q + s1 + s2, by omega, by go_num, by go_num, by omega, HV.out, hbr⟩, by simp [intOf]; omega⟩
        · have HV := Lib.hid (show befG m (b, a) (k + 1) = q + s1 by rw [HSS.out, if_pos (.inl c1), if_neg c2]; omega)
          clear HSS
          go_wp2
          exact ⟨⟨k + 1, q + s1, by omega, by go_num, by go_num, by omega, HV.out, hbr⟩, by simp [intOf]; omega⟩
      · by_cases c3 : (k : Int) = P
        · have c3' : ((k : Int) == P) = true := by simpa using c3
          by_cases hb2 : b = 2
          · subst hb2
            by_cases c2 : (k : Int) + m.rk < P
            · have HV := Lib.hid (show befG m (2, a) (k + 1) = q + s1 + s2 by rw [HSS.out, if_pos (by omega), if_pos c2]; omega)
              clear HSS c3
              go_wp2
              exact ⟨⟨k + 1, q + s1 + s2, by omega, by go_num, by go_num, by omega, HV.out, hbr⟩, by simp [intOf]; omega⟩
            · have HV := Lib.hid (show befG m (2, a) (k + 1) = q + s1 by rw [HSS.out, if_pos (by omega), if_neg c2]; omega)
              clear HSS c3
              go_wp2
              exact ⟨⟨k + 1, q + s1, by omega, by go_num, by go_num, by omega, HV.out, hbr⟩, by simp [intOf]; omega⟩
          · have hb3 : (b == 2) = false := by simpa using hb2
            by_cases c2 : (k : Int) + m.rk < P
            · have HV := Lib.hid (show befG m (b, a) (k + 1) = q + s2 by rw [HSS.out, if_neg (by omega), if_pos c2]; omega)
              clear HSS c3 hb2
              go_wp2
              exact ⟨⟨k + 1, q + s2, by omega, by go_num, by go_num, by omega, HV.out, hbr⟩, by simp [intOf]; omega⟩
            · have HV := Lib.hid (show befG m (b, a) (k + 1) = q by rw [HSS.out, if_neg (by omega), if_neg c2]; omega)
              clear HSS c3 hb2
              go_wp2
              exact ⟨⟨k + 1, q, by omega, by go_num, by go_num, by omega, HV.out, hbr⟩, by simp [intOf]; omega⟩
        · have c3' : ((k : Int) == P) = false := by simpa using c3
          by_cases c2 : (k : Int) + m.rk < P
          · have HV := Lib.hid (show befG m (b, a) (k + 1) = q + s2 by rw [HSS.out, if_neg (by omega), if_pos c2]; omega)
            clear HSS c3
            go_wp2
            exact ⟨⟨k + 1, q + s2, by omega, by go_num, by go_num, by omega, HV.out, hbr⟩, by simp [intOf]; omega⟩
          · have HV := Lib.hid (show befG m (b, a) (k + 1) = q by rw [HSS.out, if_neg (by omega), if_neg c2]; omega)
            clear HSS c3
            go_wp2
            exact ⟨⟨k + 1, q, by omega, by go_num, by go_num, by omega, HV.out, hbr⟩, by simp [intOf]; omega⟩
    · have HV := Lib.hid (show R = q by rw [HE.out, ← hd.out, show m.wd.toNat = k by omega])
      clear hd
      go_wp2
      go_ret
      exact ⟨ret_int (by rw [HV.out]), HBR.out⟩
theorem l10Before_any (m : Mc) (g : Nat) (n : Nd) (w : World) (h : RdP w g m) (ok : okM m = true) (hn : ndOk m n) :
    Calls Tryz.prog 86 #[.pointer (some ⟨g, 0, none⟩), .agg #[.int .i64 n.1, .int .i64 n.2]] w fun e w' => e = .returned (.int .i64 (befS m n)) ∧ Below w.heap.size w w' := l10Before_gen m g n w h ok hn.2.1 hn.2.2

end Go.Proofs.YthhpjgdeehcgjaaGreat

/-
  A block of crossings, of the reference and of the program.
-/
namespace Go.Proofs.YthhpjgdeehcgjaaGreat
set_option linter.unusedVariables false
set_option linter.unusedSimpArgs false
open Go.RowKit

/-! ### Crossings -/
def crEv (x : Int × Int) : Ev := ⟨1, x.1, x.2, 0, 0, 0⟩
def crEs (l : List (Int × Int)) : List Ev := l.map crEv
theorem crRow_len (p s : Int) (t : Nat) : ∀ a, (crRow p s t a).length = a
  | 0 => rfl
  | k + 1 => by rw [crRow, List.length_cons, crRow_len]
theorem crL_len (p : Int) (a b : Nat) (s : Int) : (crL p a b s).length = b * a := by
  unfold crL
  induction b with
  | zero => simp
  | succ b ih => rw [List.range_succ, List.flatMap_append, List.length_append, ih]; simp [crRow_len, Nat.succ_mul]
theorem crL_succ (p : Int) (a b : Nat) (s : Int) : crL p a (b + 1) s = crL p a b s ++ crRow p s b a := by
  unfold crL
  rw [List.range_succ, List.flatMap_append]
  simp

set_option maxHeartbeats 4000000 in
set_option maxRecDepth 100000 in
theorem l10Cross_any (p : Int) (a b : Nat) (s : Int) (h0 : 0 ≤ p) (h1 : p ≤ 1000) (ha : a ≤ 4) (hb : b ≤ 4) (w : World) :
    Calls Tryz.prog 101 #[.int .i64 p, .int .i64 a, .int .i64 b, .int .i64 s] w (GivesOw w 47 6 (crEs (crL p a b s)).length (vE (crEs (crL p a b s)))) := by
  obtain ⟨i0, hi, hz0, hz1, hz2⟩ := info_parts info_ev
  have HL := Lib.hid (fun t => crL_succ p a t s)
  have HN := Lib.hid (fun t => crL_len p a t s)
  go_enter Tryz.func101, Tryz.ntmps101
  go_wp2
  go_loopw [9, 10] (fun v i wr => ∃ (t : Nat) (acc : List Ev), t ≤ b ∧ i = .int .i64 t ∧ wr.ownsRow w.heap.size 47 6 v acc.length (vE acc) ∧ acc.length ≤ 4 * t ∧ Hid (acc = crEs (crL p a t s)) ∧ Hid (Below w.heap.size w wr)) (fun _ i _ => b - (intOf i).toNat)
  case atStart => exact ⟨0, [], Nat.zero_le _, rfl, World.ownsRow_lit _ _ _ (Nat.le_refl _) (by unfold maxLen; omega) rfl, Nat.le_refl _, rfl, (Below.refl _ _).alloc (Nat.le_refl _) _⟩
  case round =>
    rename_i wr
    obtain ⟨t, acc, ht, rfl, hown, hac, hd, hbw⟩ := hrel
    by_cases hlt : t < b
    · have HO := Lib.hid hown
      have HY := Lib.hid (show crEs (crL p a (t + 1) s) = acc ++ crEs (crRow p s t a) by rw [HL.out t, hd.out]; simp [crEs])
      clear hown hd
      obtain ⟨Y, hYE⟩ : ∃ Y, Y = crEs (crL p a (t + 1) s) := ⟨_, rfl⟩
      rw [← hYE] at HY
      have HYE := Lib.hid hYE
      clear hYE
      have hw1 : IntKind.i64.wrap ((a : Int) - 1) = (a : Int) - 1 := IntWalk.i64_in _ (by omega)
      go_wp2
      go_loopw [9, 11] (fun v i wr => ∃ (W2 : World) (k : Nat) (acc2 : List Ev), W2 = wr ∧ k ≤ a ∧ i = .int .i64 ((k : Int) - 1) ∧ wr.ownsRow w.heap.size 47 6 v acc2.length (vE acc2) ∧ acc2.length + k ≤ 4 * t + a ∧ Hid (Y = acc2 ++ crEs (crRow p s t k)) ∧ Hid (Below w.heap.size w wr)) (fun _ i _ => (intOf i + 1).toNat)
      case atStart => exact ⟨wr, a, acc, rfl, Nat.le_refl _, rfl, HO.out, by omega, HY.out, hbw⟩
      case round =>
        obtain ⟨W2, k, acc2, hWW, hk, rfl, hown2, hac2, hd2, hbw2⟩ := hrel
        subst hWW
        rcases k with _ | k
        · have HO2 := Lib.hid hown2
          have HD2 := Lib.hid (show Y = acc2 by rw [hd2.out]; simp [crRow, crEs])
          clear hown2 hd2
          have hneg : ¬ (0 : Int) ≤ ((0 : Nat) : Int) - 1 := by omega
          go_wp2
          exact ⟨⟨t + 1, acc2, by omega, by go_num, HO2.out, by omega, (by unfold Hid; rw [← HD2.out]; exact HYE.out), hbw2⟩, by simp [intOf]; omega⟩
        · have HO2 := Lib.hid hown2
          have HD2 := Lib.hid (show Y = (acc2 ++ [(⟨1, p + (t : Int) + (k : Int), s, 0, 0, 0⟩ : Ev)]) ++ crEs (crRow p s t k) by rw [hd2.out]; simp [crRow, crEs, crEv])
          have hsz2 := hbw2.out.size
          clear hown2 hd2
          have hk1 : ((k + 1 : Nat) : Int) - 1 = (k : Int) := by omega
          rw [hk1]
          go_wp2_with (at_builtin; refine wpList_append_own _ rfl _ _ 26 rfl w.heap.size 47 i0 _ 6 48 Tryz.underlying26 hi hz0 hz1 hz2 rfl (by decide) _ _ _ rfl (HO2.out.alloc _) ⟨W2.heap.size, 0, none⟩ 1 1 (⟨1, p + (t : Int) + (k : Int), s, 0, 0, 0⟩ : Ev).cells rfl rfl ?c1 ?c2 ?c3 ?c4 ?c5 ?_)
          case c1 => exact new_cells' _ _ (by simp)
          case c2 => intro u hu; simp at hu; rcases hu with rfl | rfl | rfl | rfl <;> rfl
          case c3 => unfold maxLen; omega
          case c4 => omega
          case c5 => simp; omega
          intro v' w3 hown3 hgrow3 _
          have HB3 := Lib.hid (below_append' (hbw2.out.alloc hsz2 _) (by simp; omega) HO2.out (by simp) hgrow3)
          have HO3 : Hid (w3.ownsRow w.heap.size 47 6 v' (acc2 ++ [(⟨1, p + (t : Int) + (k : Int), s, 0, 0, 0⟩ : Ev)]).length (vE (acc2 ++ [(⟨1, p + (t : Int) + (k : Int), s, 0, 0, 0⟩ : Ev)]))) := by show w3.ownsRow _ _ 6 v' _ (vS Ev.cells (acc2 ++ [_])); rw [vS_snoc, List.length_append]; exact hown3
          clear hgrow3 hown3 HO2
          go_wp2
          exact ⟨⟨w3, k, acc2 ++ [(⟨1, p + (t : Int) + (k : Int), s, 0, 0, 0⟩ : Ev)], rfl, by omega, by go_num, HO3.out, by simp; omega, HD2.out, HB3.out⟩, by simp [intOf]⟩
    · have HO := Lib.hid hown
      have HD := Lib.hid (show acc = crEs (crL p a b s) by rw [hd.out, show t = b by omega])
      clear hown hd
      go_wp2
      go_ret
      exact ⟨_, rfl, by rw [← HD.out]; exact OwC.of_own HO.out, hbw.out⟩

/-! ### The program's -/
def blkL (l : List (Int × Int)) : List Int := l.map fun x => x.1 + 1
theorem crRow_mem {p s : Int} {t : Nat} : ∀ {a : Nat} {x : Int × Int}, x ∈ crRow p s t a → p + (t : Int) ≤ x.1 ∧ x.1 < p + (t : Int) + (a : Int) ∧ x.2 = s
  | 0, x, h => by simp [crRow] at h
  | k + 1, x, h => by
    rw [crRow] at h
    rcases List.mem_cons.1 h with rfl | h
    · exact ⟨by simp only; omega, by simp only; omega, rfl⟩
    · have := crRow_mem h
      omega
theorem crL_mem {p s : Int} {a b : Nat} {x : Int × Int} (h : x ∈ crL p a b s) : p ≤ x.1 ∧ x.1 < p + (a : Int) + (b : Int) ∧ x.2 = s := by
  unfold crL at h
  obtain ⟨t, ht, hx⟩ := List.mem_flatMap.1 h
  have := crRow_mem hx
  have := List.mem_range.1 ht
  omega
set_option maxHeartbeats 4000000 in
set_option maxRecDepth 100000 in
theorem blockLetters_any (p : Int) (a b : Nat) (h0 : 0 ≤ p) (h1 : p ≤ 1000) (ha : a ≤ 4) (hb : b ≤ 4) (w : World) (s : Int) :
    Calls Tryz.prog 117 #[.int .i64 p, .int .i64 a, .int .i64 b, .int .i64 1] w (GivesOw w 2 1 (blkL (crL p a b s)).length (vI (blkL (crL p a b s)))) := by
  obtain ⟨i0, hi, hz0, hz1, hz2⟩ := info_parts info_int
  have HL := Lib.hid (fun t => crL_succ p a t s)
  go_enter Tryz.func117, Tryz.ntmps117
  go_wp2
  go_loopw [9, 14] (fun v i wr => ∃ (t : Nat) (acc : List Int), t ≤ b ∧ i = .int .i64 t ∧ wr.ownsRow w.heap.size 2 1 v acc.length (vI acc) ∧ acc.length ≤ 4 * t ∧ Hid (acc = blkL (crL p a t s)) ∧ Hid (Below w.heap.size w wr)) (fun _ i _ => b - (intOf i).toNat)
  case atStart => exact ⟨0, [], Nat.zero_le _, rfl, World.ownsRow_lit _ _ _ (Nat.le_refl _) (by unfold maxLen; omega) rfl, Nat.le_refl _, rfl, (Below.refl _ _).alloc (Nat.le_refl _) _⟩
  case round =>
    rename_i wr
    obtain ⟨t, acc, ht, rfl, hown, hac, hd, hbw⟩ := hrel
    by_cases hlt : t < b
    · have HO := Lib.hid hown
      have HY := Lib.hid (show blkL (crL p a (t + 1) s) = acc ++ blkL (crRow p s t a) by rw [HL.out t, hd.out]; simp [blkL])
      clear hown hd
      obtain ⟨Y, hYE⟩ : ∃ Y, Y = blkL (crL p a (t + 1) s) := ⟨_, rfl⟩
      rw [← hYE] at HY
      have HYE := Lib.hid hYE
      clear hYE
      have hw1 : IntKind.i64.wrap ((a : Int) - 1) = (a : Int) - 1 := IntWalk.i64_in _ (by omega)
      go_wp2
      go_loopw [9, 11] (fun v i wr => ∃ (W2 : World) (k : Nat) (acc2 : List Int), W2 = wr ∧ k ≤ a ∧ i = .int .i64 ((k : Int) - 1) ∧ wr.ownsRow w.heap.size 2 1 v acc2.length (vI acc2) ∧ acc2.length + k ≤ 4 * t + a ∧ Hid (Y = acc2 ++ blkL (crRow p s t k)) ∧ Hid (Below w.heap.size w wr)) (fun _ i _ => (intOf i + 1).toNat)
      case atStart => exact ⟨wr, a, acc, rfl, Nat.le_refl _, rfl, HO.out, by omega, HY.out, hbw⟩
      case round =>
        obtain ⟨W2, k, acc2, hWW, hk, rfl, hown2, hac2, hd2, hbw2⟩ := hrel
        subst hWW
        rcases k with _ | k
        · have HO2 := Lib.hid hown2
          have HD2 := Lib.hid (show Y = acc2 by rw [hd2.out]; simp [crRow, blkL])
          clear hown2 hd2
          have hneg : ¬ (0 : Int) ≤ ((0 : Nat) : Int) - 1 := by omega
          go_wp2
          exact ⟨⟨t + 1, acc2, by omega, by go_num, HO2.out, by omega, (by unfold Hid; rw [← HD2.out]; exact HYE.out), hbw2⟩, by simp [intOf]; omega⟩
        · have HO2 := Lib.hid hown2
          have HD2 := Lib.hid (show Y = (acc2 ++ [p + (t : Int) + (k : Int) + 1]) ++ blkL (crRow p s t k) by rw [hd2.out]; simp [crRow, blkL])
          have hsz2 := hbw2.out.size
          clear hown2 hd2
          have hk1 : ((k + 1 : Nat) : Int) - 1 = (k : Int) := by omega
          rw [hk1]
          have hm1 : 1 * (p + (t : Int) + (k : Int) + 1) = p + (t : Int) + (k : Int) + 1 := Int.one_mul _
          go_wp2_with (at_builtin; refine wpList_append_own _ rfl _ _ 32 rfl w.heap.size 2 i0 _ 1 8 Tryz.underlying32 hi hz0 hz1 hz2 rfl (by decide) _ _ _ rfl (HO2.out.alloc _) ⟨W2.heap.size, 0, none⟩ 1 1 [.int .i64 (p + (t : Int) + (k : Int) + 1)] rfl rfl ?c1 ?c2 ?c3 ?c4 ?c5 ?_)
          case c1 => exact new_cells' _ _ (by simp)
          case c2 => intro u hu; simp at hu; subst hu; rfl
          case c3 => unfold maxLen; omega
          case c4 => omega
          case c5 => simp; omega
          intro v' w3 hown3 hgrow3 _
          have HB3 := Lib.hid (below_append' (hbw2.out.alloc hsz2 _) (by simp; omega) HO2.out (by simp) hgrow3)
          have HO3 : Hid (w3.ownsRow w.heap.size 2 1 v' (acc2 ++ [p + (t : Int) + (k : Int) + 1]).length (vI (acc2 ++ [p + (t : Int) + (k : Int) + 1]))) := by unfold Hid; rw [vI_append, List.length_append]; exact hown3
          clear hgrow3 hown3 HO2
          go_wp2
          exact ⟨⟨w3, k, acc2 ++ [p + (t : Int) + (k : Int) + 1], rfl, by omega, by go_num, HO3.out, by simp; omega, HD2.out, HB3.out⟩, by simp [intOf]⟩
    · have HO := Lib.hid hown
      have HD := Lib.hid (show acc = blkL (crL p a b s) by rw [hd.out, show t = b by omega])
      clear hown hd
      go_wp2
      go_ret
      exact ⟨_, rfl, by rw [← HD.out]; exact OwC.of_own HO.out, hbw.out⟩
theorem crs_snoc {Y acc : List Ev} {l : List (Int × Int)} {k : Nat} {x : Int × Int} (h : Y = acc ++ crEs (l.drop k)) (hx : l[k]? = some x) : Y = (acc ++ [(⟨1, x.1, x.2, 0, 0, 0⟩ : Ev)]) ++ crEs (l.drop (k + 1)) := by
  rw [h, drop_of_get hx, List.append_assoc]
  rfl
set_option maxHeartbeats 4000000 in
set_option maxRecDepth 100000 in
theorem crossings_any (p : Int) (a b : Nat) (s : Int) (h0 : 0 ≤ p) (h1 : p ≤ 1000) (ha : a ≤ 4) (hb : b ≤ 4) (w : World) :
    Calls Tryz.prog 104 #[.int .i64 p, .int .i64 a, .int .i64 b, .int .i64 s] w (GivesOw w 47 6 (crEs (crL p a b s)).length (vE (crEs (crL p a b s)))) := by
  obtain ⟨i0, hi, hz0, hz1, hz2⟩ := info_parts info_ev
  have HQ := Lib.hid (fun W => blockLetters_any p a b h0 h1 ha hb W s)
  have hlen : (crL p a b s).length ≤ 16 := by rw [crL_len]; exact Nat.le_trans (Nat.mul_le_mul hb ha) (Nat.le_refl _)
  have HM := Lib.hid (fun x (hx : x ∈ crL p a b s) => crL_mem hx)
  have HY := Lib.hid (show crEs (crL p a b s) = [] ++ crEs ((crL p a b s).drop 0) from rfl)
  generalize crL p a b s = l at *
  have hbl : (blkL l).length = l.length := by simp [blkL]
  rw [hbl] at HQ
  generalize hN : l.length = N at *
  have HN := Lib.hid hN
  obtain ⟨Y, hYE⟩ : ∃ Y, Y = crEs l := ⟨_, rfl⟩
  rw [← hYE] at HY ⊢
  clear hN hbl hYE
  go_enter Tryz.func104, Tryz.ntmps104
  go_wp2_with fail
  refine (HQ.out _).mono ?_
  rintro e w1 ⟨v, rfl, ho, hb1⟩
  obtain ⟨A, cp, rfl, -⟩ := ho.cells
  have hs1 := hb1.size
  simp at hs1
  have BW := Lib.hid (show Below w.heap.size w (w.alloc (.cells #[] 47)) from (Below.refl _ _).alloc (Nat.le_refl _) _)
  have HR := Lib.hid (ho.wide (show w.heap.size + 1 ≤ _ by simp) (Nat.le_refl _))
  have HB1 := Lib.hid (BW.out.trans (hb1.mono BW.out.size))
  have HO1 := Lib.hid (own_below (World.ownsRow_lit (base := w.heap.size) (e := 47) (size := 6) w #[] 0 (Nat.le_refl _) (by unfold maxLen; omega) rfl) hb1)
  clear ho hb1
  go_wp2
  go_loopw [9, 18] (fun v i wr => ∃ (k : Nat) (acc : List Ev), k ≤ N ∧ i = .int .i64 k ∧ wr.ownsRow w.heap.size 47 6 v acc.length (vE acc) ∧ acc.length = k ∧ Hid (Y = acc ++ crEs (l.drop k)) ∧ Hid (Outs (w.heap.size + 1) w1.heap.size v) ∧ Hid (Same (w.heap.size + 1) w1.heap.size w1 wr) ∧ Hid (Below w.heap.size w wr) ∧ w1.heap.size ≤ wr.heap.size) (fun _ i _ => N - (intOf i).toNat)
  case atStart => exact ⟨0, [], Nat.zero_le _, rfl, HO1.out, rfl, HY.out, (fun g hg => by have : w.heap.size = g := Option.some.inj hg; omega), Same.refl _ _ _, HB1.out, Nat.le_refl _⟩
  case round =>
    rename_i wr
    obtain ⟨k, acc, hk, rfl, hown, hak, hd, hout, hsame, hb, hsz⟩ := hrel
    have hrow := HR.out.same hsame.out
    have hrd := RdI.of_own (l := blkL l) (by rw [show (blkL l).length = N by simp [blkL]; exact HN.out]; exact hrow)
    by_cases hlt : k < N
    · obtain ⟨bb, off, y, rfl, hbb, hlk, hcc⟩ := hrd.at_ hlt
      have hxk : l[k]? = some (l[k]'(by have := HN.out; omega)) := List.getElem?_eq_getElem _
      generalize l[k]'(by have := HN.out; omega) = x at hxk
      have hyx : y = x.1 + 1 := by
        unfold blkL at hlk
        rw [List.getElem?_map, hxk] at hlk
        simpa using hlk.symm
      obtain ⟨m0, m1, m2⟩ := HM.out x (List.mem_of_getElem? hxk)
      have HD := Lib.hid (crs_snoc hd.out hxk)
      obtain ⟨x1, x2⟩ := x
      have hm2 : x2 = s := m2
      have hy2 : y = x1 + 1 := hyx
      clear hyx m2
      subst hy2 hm2
      have m0' : p ≤ x1 := m0
      have m1' : x1 < p + (a : Int) + (b : Int) := m1
      have HO := Lib.hid hown
      have hbz := hb.out.size
      have hsub : x1 + 1 - 1 = x1 := by omega
      clear hown hd hlk hxk hrow hrd m0 m1
      go_wp2_with (at_builtin; refine wpList_append_own_at _ rfl _ _ 26 rfl w.heap.size 47 i0 _ 6 48 Tryz.underlying26 hi hz0 hz1 hz2 rfl (by decide) _ _ _ rfl (HO.out.alloc _) ⟨wr.heap.size, 0, none⟩ 1 1 (⟨1, x1, x2, 0, 0, 0⟩ : Ev).cells rfl rfl (new_cells' _ _ (by simp)) (by intro u hu; simp at hu; rcases hu with rfl | rfl | rfl | rfl <;> rfl) (by unfold maxLen; omega) (by omega) (by simp; omega) ?_; intro v' w3 hown3 hgrow3 _ hat3)
      have HB3 := Lib.hid (below_append' (hb.out.alloc hbz _) (by simp; omega) HO.out (by simp) hgrow3)
      have HS3 := Lib.hid ((hsame.out.alloc hsz _).grown hgrow3 hout.out (by show _ ≤ (wr.alloc _).heap.size; simp; omega))
      have HT3 := Lib.hid (hout.out.grown hat3 (by show _ ≤ (wr.alloc _).heap.size; simp; omega))
      have hz3 : w1.heap.size ≤ w3.heap.size := by have := hgrow3.size; simp at this; omega
      have HO3 : Hid (w3.ownsRow w.heap.size 47 6 v' (acc ++ [(⟨1, x1, x2, 0, 0, 0⟩ : Ev)]).length (vE (acc ++ [(⟨1, x1, x2, 0, 0, 0⟩ : Ev)]))) := by show w3.ownsRow _ _ 6 v' _ (vS Ev.cells (acc ++ [_])); rw [vS_snoc, List.length_append]; exact hown3
      clear hgrow3 hown3 hat3 HO
      go_wp2
      exact ⟨⟨k + 1, acc ++ [(⟨1, x1, x2, 0, 0, 0⟩ : Ev)], by omega, by go_num, HO3.out, by simp; omega, HD.out, HT3.out, HS3.out, HB3.out, hz3⟩, by simp [intOf]; omega⟩
    · have HB := Lib.hid hb.out
      have HO := Lib.hid hown
      have HD := Lib.hid (show Y = acc by rw [hd.out, List.drop_of_length_le (by have := HN.out; omega)]; simp [crEs])
      clear hb hown hd hrow hrd
      go_wp2
      go_ret
      exact ⟨_, rfl, by rw [HD.out]; exact OwC.of_own HO.out, HB.out⟩

end Go.Proofs.YthhpjgdeehcgjaaGreat

/-
  A needle's index; the program's count of the strands before a needle.
-/
namespace Go.Proofs.YthhpjgdeehcgjaaGreat
set_option linter.unusedVariables false
set_option linter.unusedSimpArgs false
open Go.RowKit

def befI (m : Mc) (n : Nd) : Nat := szL m ((ndL m).takeWhile fun y => !decide (y = n))
theorem tw_stop {P T : List Nd} {n : Nd} (h : ¬ n ∈ P) : (P ++ n :: T).takeWhile (fun y => !decide (y = n)) = P := by
  induction P with
  | nil => simp
  | cons a t ih =>
    have h1 : ¬ a = n := fun e => h (by simp [e])
    have h2 : ¬ n ∈ t := fun e => h (by simp [e])
    rw [List.cons_append, List.takeWhile_cons, ih h2]
    simp [h1]
theorem befI_eq {m : Mc} {n : Nd} (hn : ndOk m n) (hr : -3 ≤ m.rk ∧ m.rk ≤ 3) : befI m n = befS m n := by
  obtain ⟨b, a⟩ := n
  obtain ⟨hb, h0, h1⟩ := hn
  have h0' : 0 ≤ a := h0
  have h1' : a < m.wd := h1
  have hx : ∃ x : Int, x = plN m (b, a) ∧ -3 ≤ x ∧ x < m.wd + 3 := ⟨_, rfl, by unfold plN; split <;> (simp only at *; omega), by unfold plN; split <;> (simp only at *; omega)⟩
  obtain ⟨x, hxe, x0, x1⟩ := hx
  obtain ⟨k, hk⟩ : ∃ k : Nat, (k : Int) = x + 3 := ⟨(x + 3).toNat, by omega⟩
  obtain ⟨f, hf⟩ : ∃ f : Nat, m.wd.toNat + 6 = k + (f + 1) := ⟨m.wd.toNat + 5 - k, by omega⟩
  have hkx : (-3 : Int) + (k : Int) = x := by omega
  have hsplit : ndL m = ndGo m k (-3) ++ (Fx m x ++ (Bxx m x ++ ndGo m f (x + 1))) := by
    unfold ndL
    rw [hf, ndGo_split, hkx, ndGo_step, ndX_FB, List.append_assoc]
  have hsz := szL_go m (by omega) k (-3)
  rw [hkx, sA_low m (-3) (by omega), sB_low m (-3) (by omega)] at hsz
  have hpre : ∀ y ∈ ndGo m k (-3), plN m y < x := by
    have hgo : ∀ (q : Nat) (z : Int) (y : Nd), y ∈ ndGo m q z → plN m y < z + q := by
      intro q
      induction q with
      | zero => intro z y hy; simp [ndGo] at hy
      | succ q ih =>
        intro z y hy
        rw [ndGo_step] at hy
        rcases List.mem_append.1 hy with hy | hy
        · rw [ndX_pl hy]; omega
        · have := ih _ _ hy; omega
    intro y hy
    have := hgo k (-3) y hy
    omega
  have hb' : b = 1 ∨ b = 2 := hb
  unfold befI
  rcases hb' with rfl | rfl
  · have hxa : x = a := by rw [hxe]; unfold plN; rw [if_neg (by simp)]
    have hF : Fx m x = [(1, a)] := by unfold Fx; rw [if_pos (inB_iff.2 ⟨by omega, by omega⟩), hxa]
    rw [hsplit, hF, List.singleton_append, tw_stop (fun e => by have := hpre _ e; rw [hxe] at this; omega), befS_front, ← hxa]
    omega
  · have hxa : x = a + m.rk := by rw [hxe]; unfold plN; rw [if_pos rfl]
    have hB : Bxx m x = [(2, a)] := by unfold Bxx; rw [if_pos (inB_iff.2 ⟨by omega, by omega⟩), hxa]; simp
    have hA := sA_step m (by omega) x
    rw [hsplit, hB, List.singleton_append, ← List.append_assoc, tw_stop (fun e => by
      rcases List.mem_append.1 e with e | e
      · have := hpre _ e; rw [hxe] at this; omega
      · have := Fx_mem e; simp at this), szL_append, befS_back, ← hxa]
    omega

set_option maxHeartbeats 1000000 in
theorem indexNd_any (v : Value) (l : List Nd) (x : Nd) (w : World) (hl : RdS ndC 2 w w.heap.size v l) :
    Calls Tryz.prog 103 #[v, .agg #[.int .i64 x.1, .int .i64 x.2]] w fun e w' => e = .returned (.int .i64 (idxOf (fun y => decide (x = y)) l)) ∧ Below w.heap.size w w' := by
  obtain ⟨xb, xa⟩ := x
  have HB0 := Lib.hid (show Below w.heap.size w (w.alloc (.cells #[.int .i64 xb, .int .i64 xa] 39)) from (Below.refl _ _).alloc (Nat.le_refl _) _)
  have HP0 := Lib.hid (Bx.new w [.int .i64 xb, .int .i64 xa] 39).1
  have HL := Lib.hid hl
  obtain ⟨A, n, c, rfl, hbig, hln, gl⟩ := hl
  clear gl
  generalize hR : idxOf (fun y => decide ((xb, xa) = y)) l = R
  have HR := Lib.hid hR
  have HLN := Lib.hid hln.out
  clear hR hln
  go_enter Tryz.func103, Tryz.ntmps103
  go_wp2
  go_loopw [5, 8] (fun _ i wr => ∃ k : Nat, k ≤ n ∧ i = .int .i64 k ∧ Hid (R = idxFrom (fun y => decide ((xb, xa) = y)) k (l.drop k)) ∧ Hid (CellsAt wr w.heap.size 0 [.int .i64 xb, .int .i64 xa]) ∧ Below w.heap.size w wr) (fun _ i _ => n - (intOf i).toNat)
  case atStart => exact ⟨0, Nat.zero_le _, rfl, HR.out.symm, HP0.out, HB0.out⟩
  case round =>
    rename_i wr
    obtain ⟨k, hk, rfl, hd, HP, hb⟩ := hrel
    by_cases hlt : k < n
    · obtain ⟨b, off, y, rfl, hbb, hlk, hc⟩ := (HL.out.below hb).at_ hlt
      obtain ⟨yb, ya⟩ := y
      have HB := Lib.hid hb
      obtain ⟨c0, c1⟩ := hc.two
      obtain ⟨p0, p1⟩ := HP.out.two
      by_cases hy : xb = yb ∧ xa = ya
      · have HT := Lib.hid (show R = (k : Int) by rw [hd.out, drop_of_get hlk]; simp [hy, idxFrom])
        have heq : ∀ W, (binOp .eql 39 (.agg #[.int .i64 xb, .int .i64 xa]) (.agg #[.int .i64 yb, .int .i64 ya])).run Tryz.prog W = .ok (.bool true) W := fun W => by rw [eql_nd]; simp [hy]
        clear hb hlk hd hy hc
        go_wp2
        go_quiet (fail)
        have HB2 := Lib.hid (below_drewN HB.out nq)
        go_wp2
        go_ret
        exact ⟨ret_int HT.out.symm, HB2.out⟩
      · have HT := Lib.hid (show R = idxFrom (fun y => decide ((xb, xa) = y)) (k + 1) (l.drop (k + 1)) by rw [hd.out, drop_of_get hlk, idxFrom, if_neg (by simpa [Prod.ext_iff] using hy)])
        have heq : ∀ W, (binOp .eql 39 (.agg #[.int .i64 xb, .int .i64 xa]) (.agg #[.int .i64 yb, .int .i64 ya])).run Tryz.prog W = .ok (.bool false) W := fun W => by rw [eql_nd]; simp; intro h1 h2; exact hy ⟨h1, h2⟩
        clear hb hlk hd hy hc
        go_wp2
        go_quiet (fail)
        have HB2 := Lib.hid (below_drewN HB.out nq)
        go_wp2
        exact ⟨⟨k + 1, by omega, by go_num, HT.out, HP.out, HB2.out⟩, by simp [intOf]; omega⟩
    · have HB := Lib.hid hb
      have HT := Lib.hid (show R = -1 by rw [hd.out, List.drop_of_length_le (by have := HLN.out; omega)]; rfl)
      clear hb
      go_wp2
      go_ret
      exact ⟨ret_int HT.out.symm, HB.out⟩

theorem befI_yes {m : Mc} {l : List Nd} {n y : Nd} {k R q : Nat} (h : R = q + szL m ((l.drop k).takeWhile fun y => !decide (y = n))) (hk : l[k]? = some y) (hy : ¬ y = n) : R = (q + szN m y) + szL m ((l.drop (k + 1)).takeWhile fun y => !decide (y = n)) := by
  rw [h, drop_of_get hk, List.takeWhile_cons]
  simp [hy, szL]
  omega
theorem befI_no {m : Mc} {l : List Nd} {n y : Nd} {k R q : Nat} (h : R = q + szL m ((l.drop k).takeWhile fun y => !decide (y = n))) (hk : l[k]? = some y) (hy : y = n) : R = q := by
  rw [h, drop_of_get hk, List.takeWhile_cons]
  simp [hy, szL]

set_option maxHeartbeats 4000000 in
set_option maxRecDepth 100000 in
theorem before_any (m : Mc) (g : Nat) (n : Nd) (w : World) (h : RdP w g m) (ok : okM m = true) (hn : ndOk m n) :
    Calls Tryz.prog 55 #[.pointer (some ⟨g, 0, none⟩), .agg #[.int .i64 n.1, .int .i64 n.2]] w fun e w' => e = .returned (.int .i64 (befS m n)) ∧ Below w.heap.size w w' := by
  have HP := Lib.hid h
  have HOK := Lib.hid ok
  have hn60 := ndL_len ok
  have HY := Lib.hid (show befI m n = 0 + szL m (((ndL m).drop 0).takeWhile fun y => !decide (y = n)) by unfold befI; simp)
  have HEQ := Lib.hid (befI_eq hn ⟨(ok_wd ok).2.2.1, (ok_wd ok).2.2.2.1⟩)
  have HND := Lib.hid (fun n (hn : n ∈ ndL m) => ndL_ok hn)
  obtain ⟨b, a⟩ := n
  clear h ok hn
  generalize befI m (b, a) = R at *
  have HBW := Lib.hid ((Below.refl w.heap.size w).alloc (Nat.le_refl _) (.cells #[.int .i64 b, .int .i64 a] 39))
  have N0 := Lib.hid (Bx.new w [.int .i64 b, .int .i64 a] 39)
  go_enter Tryz.func55, Tryz.ntmps55
  go_wp2_with fail
  refine (needles_any m g _ (HP.out.below HBW.out) HOK.out).mono ?_
  rintro e w1 ⟨v, rfl, ho, hb⟩
  obtain ⟨A, cp, rfl, -⟩ := ho.cells
  have HR := Lib.hid (RdS.of_own ndC_len ho)
  have HB1 := Lib.hid (HBW.out.trans (hb.mono HBW.out.size))
  have HN1 := Lib.hid (N0.out.below hb N0.out.2.2)
  generalize hln : (ndL m).length = N at *
  clear ho hb hln
  go_wp2
  go_loopw [5, 11] (fun o i wr => ∃ (k q : Nat), k ≤ N ∧ i = .int .i64 k ∧ o = .int .i64 q ∧ q ≤ 4 * k ∧ Hid (R = q + szL m (((ndL m).drop k).takeWhile fun y => !decide (y = (b, a)))) ∧ Hid (Below w1.heap.size w1 wr)) (fun _ i _ => N - (intOf i).toNat)
  case atStart => exact ⟨0, 0, Nat.zero_le _, rfl, rfl, by omega, HY.out, Below.refl _ _⟩
  case round =>
    rename_i wr
    obtain ⟨k, q, hk, rfl, rfl, hq, hd, hbr⟩ := hrel
    have HBR := Lib.hid (HB1.out.trans (hbr.out.mono HB1.out.size))
    by_cases hlt : k < N
    · obtain ⟨bb, off, y, rfl, hbb, hlk, hc⟩ := (HR.out.below hbr.out).at_ hlt
      have hm4 := szN_le HOK.out y
      have HNO := Lib.hid (HND.out y (List.mem_of_getElem? hlk))
      obtain ⟨yb, ya⟩ := y
      obtain ⟨c0, c1⟩ := hc.two
      obtain ⟨n0, n1⟩ := (HN1.out.below hbr.out HN1.out.2.2).two
      have hz0 : w.heap.size < wr.heap.size := by have := (HN1.out.below hbr.out HN1.out.2.2).2.2; exact this
      by_cases hy : yb = b ∧ ya = a
      · have HT := Lib.hid (befI_no hd.out hlk (by rw [hy.1, hy.2]))
        have heq : ∀ W, (binOp .eql 39 (.agg #[.int .i64 yb, .int .i64 ya]) (.agg #[.int .i64 b, .int .i64 a])).run Tryz.prog W = .ok (.bool true) W := fun W => by rw [eql_nd]; simp [hy]
        clear hd hlk hy hc
        go_wp2
        go_ret
        exact ⟨ret_int (by rw [← HEQ.out, HT.out]), (HBR.out.alloc HBR.out.size _)⟩
      · have HT := Lib.hid (befI_yes hd.out hlk (fun e => hy (by injection e with e1 e2; exact ⟨e1, e2⟩)))
        have heq : ∀ W, (binOp .eql 39 (.agg #[.int .i64 yb, .int .i64 ya]) (.agg #[.int .i64 b, .int .i64 a])).run Tryz.prog W = .ok (.bool false) W := fun W => by rw [eql_nd]; simp; intro h1 h2; exact hy ⟨h1, h2⟩
        have HQ := Lib.hid (fun (o : Obj) => on_any m g (yb, ya) _ (HP.out.below ((HBR.out.alloc HBR.out.size o))) HOK.out HNO.out)
        clear hd hlk hy hc
        go_wp2_with fail
        refine (HQ.out _).mono ?_
        rintro e w2 ⟨⟨b2, o2, A2, c2, rfl, hb2, hc2, hs2⟩, hbw2⟩
        have hc3 : w2.cell? ⟨b2, o2, none⟩ = some (.slice A2 (szN m (yb, ya)) c2) := (hbw2.cell hb2).trans hc2
        have HB2 := Lib.hid ((hbr.out.alloc hbr.out.size _).trans (hbw2.mono (hbr.out.alloc hbr.out.size _).size))
        generalize szN m (yb, ya) = s at *
        clear hbw2 hs2 hc2
        go_wp2
        exact ⟨⟨k + 1, q + s, by omega, by go_num, by go_num, by omega, HT.out, HB2.out⟩, by simp [intOf]; omega⟩
    · have HT := Lib.hid (show R = q by rw [hd.out, List.drop_of_length_le (by have := HR.out; obtain ⟨_, _, _, e, _, h2, _⟩ := this; injection e with e1 e2 e3; have := h2.out; omega)]; simp [szL])
      clear hd
      go_wp2
      go_ret
      exact ⟨ret_int (by rw [← HEQ.out, HT.out]), HBR.out⟩

end Go.Proofs.YthhpjgdeehcgjaaGreat

/-
  The program's order of needles as a row of its own: how it is read and turned; the cases of a needle's part of a step.
-/
namespace Go.Proofs.YthhpjgdeehcgjaaGreat
set_option linter.unusedVariables false
set_option linter.unusedSimpArgs false
open Go.RowKit

theorem bx_of_own {w : World} {lo hi E N : Nat} {v : Value} {L : List Nd} (h : OwC w lo hi E 2 v N (vS ndC L)) (hN : 0 < N) :
    ∃ bo cap, v = .slice (some ⟨bo, 0, none⟩) N cap ∧ lo ≤ bo ∧ bo < hi ∧ N ≤ cap ∧ Bx w bo (vS ndC L) := by
  rcases h.2 with ⟨h0, _⟩ | ⟨g, cap, cur, rfl, hlo, hhi, hg, hnc, hcap, hsz, hx⟩
  · omega
  · refine ⟨g, cap, rfl, hlo, hhi, hnc, fun j u hj => ?_, fun j => frozen_of_row w g j cur E hg, ?_⟩
    · have h1 : j < N * 2 := by rw [← h.1]; exact (List.getElem?_eq_some_iff.1 hj).1
      rw [Nat.zero_add, cell_of_row w g j cur E (0, 0) hg, ← Array.getElem?_toList, ← hj, ← hx, List.getElem?_take, if_pos h1]
    · exact (Array.getElem?_eq_some_iff.1 hg).1
theorem bx_at {w : World} {bo : Nat} {L : List Nd} (h : Bx w bo (vS ndC L)) {k : Nat} {y : Nd} (hk : L[k]? = some y) : CellsAt w bo (0 + k * 2) (ndC y) := fun j u hj => by
  have h1 : j < 2 := (List.getElem?_eq_some_iff.1 hj).1
  have h2 := vS_get ndC_len L k y hk j h1
  rw [hj] at h2
  have := h.1 (k * 2 + j) u h2
  rw [show 0 + (k * 2 + j) = 0 + k * 2 + j by omega] at this
  exact this
theorem bx_rd {w : World} {bo N cap : Nat} {L : List Nd} (h : Bx w bo (vS ndC L)) (hN : L.length = N) (hb : N ≤ 60) : RdS ndC 2 w w.heap.size (.slice (some ⟨bo, 0, none⟩) N cap) L :=
  ⟨_, _, _, rfl, by omega, hN, fun k hk => ⟨bo, 0, L[k]'(by omega), rfl, h.2.2, List.getElem?_eq_getElem _, bx_at h (List.getElem?_eq_getElem _)⟩⟩
theorem vS_nd_app (A B : List Nd) : vS ndC (A ++ B) = vS ndC A ++ vS ndC B := by simp [vS]
theorem vS_swap (P T : List Nd) (u v : Nd) : ((((vS ndC (P ++ u :: v :: T)).set (P.length * 2) (.int .i64 v.1)).set (P.length * 2 + 1) (.int .i64 v.2)).set ((P.length + 1) * 2) (.int .i64 u.1)).set ((P.length + 1) * 2 + 1) (.int .i64 u.2) = vS ndC (P ++ v :: u :: T) := by
  have hl : (vS ndC P).length = P.length * 2 := vS_len ndC_len P
  rw [vS_nd_app, vS_nd_app, ← hl]
  have e : ∀ (y z : Nd), vS ndC (y :: z :: T) = .int .i64 y.1 :: .int .i64 y.2 :: .int .i64 z.1 :: .int .i64 z.2 :: vS ndC T := fun y z => rfl
  rw [e, e]
  have key : ∀ (j : Nat) (x : Value) (B : List Value), (vS ndC P ++ B).set ((vS ndC P).length + j) x = vS ndC P ++ B.set j x := fun j x B => by
    rw [List.set_append_right _ _ (Nat.le_add_right _ _), Nat.add_sub_cancel_left]
  have k0 := fun x B => key 0 x B
  simp only [Nat.add_zero] at k0
  rw [k0, key 1, show (P.length + 1) * 2 = (vS ndC P).length + 2 by omega, key 2, show (vS ndC P).length + 2 + 1 = (vS ndC P).length + 3 by omega, key 3]
  rfl

/-! ### Cases -/
theorem idxF_nd (n : Nd) : ∀ (l : List Nd) (k : Nat), (n ∈ l → idxFrom (fun y => decide (n = y)) k l = ((k + l.idxOf n : Nat) : Int)) ∧ (¬ n ∈ l → idxFrom (fun y => decide (n = y)) k l = -1)
  | [], k => ⟨fun h => by simp at h, fun _ => rfl⟩
  | y :: t, k => by
    have ih := idxF_nd n t (k + 1)
    rw [idxFrom]
    by_cases hy : n = y
    · rw [if_pos (by simp [hy])]
      refine ⟨fun _ => by subst hy; simp, fun h => absurd (by simp [hy]) h⟩
    · have h3 : (y == n) = false := by simp; exact fun e => hy e.symm
      rw [if_neg (by simpa using hy), List.idxOf_cons, h3, cond_false]
      refine ⟨fun h => ?_, fun h => ih.2 (fun e => h (by simp [e]))⟩
      rw [ih.1 (by rcases List.mem_cons.1 h with h | h; exact absurd h hy; exact h)]
      omega
theorem idx_nd_yes {n : Nd} {l : List Nd} (h : n ∈ l) : idxOf (fun y => decide (n = y)) l = ((l.idxOf n : Nat) : Int) := by unfold idxOf; rw [(idxF_nd n l 0).1 h, Nat.zero_add]
theorem idxOf_no {n : Nd} : ∀ {l : List Nd}, ¬ n ∈ l → l.idxOf n = l.length
  | [], _ => rfl
  | y :: t, h => by
    have h3 : (y == n) = false := by simp; exact fun e => h (by simp [e])
    rw [List.idxOf_cons, h3, cond_false, idxOf_no (fun e => h (by simp [e])), List.length_cons]
theorem idx_nd_no {n : Nd} {l : List Nd} (h : ¬ n ∈ l) : idxOf (fun y => decide (n = y)) l = -1 ∧ l.idxOf n = l.length := ⟨(idxF_nd n l 0).2 h, idxOf_no h⟩
/-- What a needle's part of a step comes to. -/
inductive RkCase (m : Mc) (up : Bool) (i : Nat) (L : List Nd) (a : Int) (bk : Nd) : Prop where
  | low (h : a < 0) (hs : rkI m up i L = (L, []))
  | high (p : Nat) (h : a = p) (hp : L.length ≤ p + 1) (hs : rkI m up i L = (L, []))
  | apart (p : Nat) (u v : Nd) (h : a = p) (hp : p + 1 < L.length) (hu : L[p]? = some u) (hv : L[p + 1]? = some v) (h1 : u ≠ bk) (h2 : v ≠ bk) (hs : rkI m up i L = (L, []))
  | go (P T : List Nd) (u v : Nd) (h : a = (P.length : Int)) (hL : L = P ++ u :: v :: T) (h1 : u = bk ∨ v = bk) (hs : rkI m up i L = (P ++ v :: u :: T, crL (szL m P) (szN m u) (szN m v) (if up = true then -1 else 1)))
theorem split_two {L : List Nd} {p : Nat} {u v : Nd} (hu : L[p]? = some u) (hv : L[p + 1]? = some v) : L = L.take p ++ u :: v :: L.drop (p + 2) ∧ (L.take p).length = p := by
  obtain ⟨h1, e1⟩ := List.getElem?_eq_some_iff.1 hu
  obtain ⟨h2, e2⟩ := List.getElem?_eq_some_iff.1 hv
  refine ⟨?_, by rw [List.length_take]; omega⟩
  have h3 := List.drop_eq_getElem_cons h1
  have h4 := List.drop_eq_getElem_cons h2
  rw [e1] at h3
  rw [e2] at h4
  rw [h4] at h3
  rw [← h3, List.take_append_drop]
theorem rk_case (m : Mc) (up : Bool) (i : Nat) (L : List Nd) (d : Int) (hd : d = if up = true then 1 else 0) :
    RkCase m up i L (idxOf (fun y => decide (((1 : Int), (i : Int)) = y)) L - d) (2, (i : Int) - m.rk - d) := by
  by_cases hm : ((1 : Int), (i : Int)) ∈ L
  · rw [idx_nd_yes hm]
    have hJ : rkI m up i L = rkJ m up L (((L.idxOf ((1, (i : Int)) : Nd) : Nat) : Int) - d) (2, (i : Int) - m.rk - d) := by rw [hd]; rfl
    generalize ((L.idxOf ((1, (i : Int)) : Nd) : Nat) : Int) - d = a at *
    by_cases h0 : a < 0
    · exact .low h0 (by rw [hJ]; exact rkJ_no _ _ _ _ _ (.inl h0))
    · obtain ⟨p, rfl⟩ := Int.eq_ofNat_of_zero_le (show 0 ≤ a by omega)
      by_cases h1 : L.length ≤ p + 1
      · exact .high p rfl h1 (by rw [hJ]; exact rkJ_no _ _ _ _ _ (.inr (.inl (by omega))))
      · have hu : L[p]? = some (L[p]'(by omega)) := List.getElem?_eq_getElem _
        have hv : L[p + 1]? = some (L[p + 1]'(by omega)) := List.getElem?_eq_getElem _
        generalize L[p]'(by omega) = u at hu
        generalize L[p + 1]'(by omega) = v at hv
        by_cases h2 : u = (2, (i : Int) - m.rk - d) ∨ v = (2, (i : Int) - m.rk - d)
        · obtain ⟨hs, hl⟩ := split_two hu hv
          refine .go (L.take p) (L.drop (p + 2)) u v (by rw [hl]) hs h2 ?_
          rw [hJ]
          have := rkJ_yes m up (L.take p) (L.drop (p + 2)) u v _ h2
          rw [← hs, hl] at this
          exact this
        · refine .apart p u v rfl (by omega) hu hv (fun e => h2 (.inl e)) (fun e => h2 (.inr e)) ?_
          rw [hJ]
          refine rkJ_no _ _ _ _ _ (.inr (.inr ?_))
          rw [show ((p : Int)).toNat = p from rfl, hu, hv]
          exact ⟨fun e => h2 (.inl (Option.some.inj e)), fun e => h2 (.inr (Option.some.inj e))⟩
  · obtain ⟨e1, e2⟩ := idx_nd_no hm
    rw [e1]
    refine .low (by rw [hd]; split <;> omega) ?_
    cases up
    · rw [rkI_dn' m i L _ e2]
      exact rkJ_no _ _ _ _ _ (.inr (.inl (by omega)))
    · rw [rkI_up' m i L _ e2]
      exact rkJ_no _ _ _ _ _ (.inr (.inl (by omega)))
theorem rkG_next {m : Mc} {up : Bool} {Y acc : List Ev} {f i : Nat} {L L' : List Nd} {c : List (Int × Int)} (h : Y = acc ++ crEs (rkG m up (f + 1) i L)) (hs : rkI m up i L = (L', c)) : Y = (acc ++ crEs c) ++ crEs (rkG m up f (i + 1) L') := by
  rw [h, rkG, hs]
  simp [crEs]

end Go.Proofs.YthhpjgdeehcgjaaGreat

/-
  The place of a needle's row: known ahead of the call.
-/
namespace Go.Proofs.YthhpjgdeehcgjaaGreat
set_option linter.unusedVariables false
set_option linter.unusedSimpArgs false
open Go.RowKit

set_option maxHeartbeats 4000000 in
set_option maxRecDepth 100000 in
/-- Where the row of a needle lies: the same in each world that keeps the machine. -/
theorem on_fix (m : Mc) (g : Nat) (n : Nd) (w : World) (h : RdP w g m) (ok : okM m = true) (hn : ndOk m n) :
    ∃ b o s c, b < w.heap.size ∧ w.cell? ⟨b, o, none⟩ = some (.slice s (szN m n) c) ∧ ∀ X, Below w.heap.size w X → Calls Tryz.prog 53 #[.pointer (some ⟨g, 0, none⟩), .agg #[.int .i64 n.1, .int .i64 n.2]] X fun e w' => e = .returned (.pointer (some ⟨b, o, none⟩)) ∧ Below X.heap.size X w' := by
  obtain ⟨b, p⟩ := n
  obtain ⟨hn, p0, p1⟩ := hn
  obtain ⟨d1, d2, d3, d4, d5, d6, -⟩ := ok_wd ok
  obtain ⟨F, G, C, L, D, hc, h1, h2, h3, h4, h5, h6⟩ := h
  have hgl : g < w.heap.size := block_lt_of_cell hc.seven.1
  have hp1 : p < m.wd := p1
  obtain ⟨pn, rfl⟩ := Int.eq_ofNat_of_zero_le (show 0 ≤ p from p0)
  clear p0 p1
  have HC := Lib.hid hc
  clear hc h3 h4 h5 h6 ok
  rcases hn with hb | hb
  · have hb' : b = 1 := hb
    subst hb'
    obtain ⟨AF, cF, rfl⟩ := RdN.shape h1
    obtain ⟨bb, off, x, s, rfl, hbb, hlk, hcell, hs⟩ := RdLL.at_ h1 (show pn < m.fr.length by omega)
    obtain ⟨As, cs', rfl⟩ := hs.len
    have HX : onL m (1, (pn : Int)) = x := by
      unfold onL
      rw [if_neg (by simp), List.getD_eq_getElem?_getD, show ((1 : Int), (pn : Int)).2.toNat = pn by simp, hlk]; rfl
    refine ⟨bb, off + pn, As, cs', hbb, by unfold szN; rw [HX]; exact hcell, fun X hX => ?_⟩
    have hlt : (pn : Int) < (m.fr.length : Int) := by omega
    have HXB := Lib.hid hX
    obtain ⟨x0, x1, x2, x3, x4, x5, x6⟩ := ((HC.out.below hX hgl).alloc (Nat.lt_of_lt_of_le hgl hX.size) (.cells #[.int .i64 1, .int .i64 (pn : Int)] 39)).seven
    clear hlk hcell hs h1 h2 HX hX
    go_enter Tryz.func53, Tryz.ntmps53
    go_wp2
    go_quiet (fail)
    go_wp2
    go_ret
    exact ⟨rfl, below_drewN ((Below.refl _ _).alloc (Nat.le_refl _) _) _⟩
  · have hb' : b = 2 := hb
    subst hb'
    obtain ⟨AF, cF, rfl⟩ := RdN.shape h2
    obtain ⟨bb, off, x, s, rfl, hbb, hlk, hcell, hs⟩ := RdLL.at_ h2 (show pn < m.bk.length by omega)
    obtain ⟨As, cs', rfl⟩ := hs.len
    have HX : onL m (2, (pn : Int)) = x := by
      unfold onL
      rw [if_pos rfl, List.getD_eq_getElem?_getD, show ((2 : Int), (pn : Int)).2.toNat = pn by simp, hlk]; rfl
    refine ⟨bb, off + pn, As, cs', hbb, by unfold szN; rw [HX]; exact hcell, fun X hX => ?_⟩
    have hlt : (pn : Int) < (m.bk.length : Int) := by omega
    have HXB := Lib.hid hX
    obtain ⟨x0, x1, x2, x3, x4, x5, x6⟩ := ((HC.out.below hX hgl).alloc (Nat.lt_of_lt_of_le hgl hX.size) (.cells #[.int .i64 2, .int .i64 (pn : Int)] 39)).seven
    clear hlk hcell hs h1 h2 HX hX
    go_enter Tryz.func53, Tryz.ntmps53
    go_wp2
    go_quiet (fail)
    go_wp2
    go_ret
    exact ⟨rfl, below_drewN ((Below.refl _ _).alloc (Nat.le_refl _) _) _⟩
/-- The order's row after the two needles have changed places. -/
theorem bx_swap {w : World} {bo p : Nat} {L P T : List Nd} {u v : Nd} (h : Bx w bo (vS ndC L)) (hL : L = P ++ u :: v :: T) (hp : p = P.length) :
    Bx ((((w.setCell ⟨bo, p * 2, none⟩ (.int .i64 v.1)).setCell ⟨bo, p * 2 + 1, none⟩ (.int .i64 v.2)).setCell ⟨bo, (p + 1) * 2, none⟩ (.int .i64 u.1)).setCell ⟨bo, (p + 1) * 2 + 1, none⟩ (.int .i64 u.2)) bo (vS ndC (P ++ v :: u :: T)) := by
  have hl : (vS ndC L).length = L.length * 2 := vS_len ndC_len L
  have hl2 : p + 2 ≤ L.length := by rw [hL, hp]; simp
  have h1 := h.set (i := p * 2) (by omega) (.int .i64 v.1)
  have h2 := h1.set (i := p * 2 + 1) (by rw [List.length_set]; omega) (.int .i64 v.2)
  have h3 := h2.set (i := (p + 1) * 2) (by rw [List.length_set, List.length_set]; omega) (.int .i64 u.1)
  have h4 := h3.set (i := (p + 1) * 2 + 1) (by rw [List.length_set, List.length_set, List.length_set]; omega) (.int .i64 u.2)
  rw [hL, hp, vS_swap] at h4
  rw [hp]
  exact h4
theorem vE_one (l : List Ev) : ∀ u ∈ vE l, u.oneCell' = true := by
  intro u hu
  unfold vE vS at hu
  obtain ⟨x, _, hx⟩ := List.mem_flatMap.1 hu
  simp only [List.mem_cons, List.not_mem_nil, or_false] at hx
  rcases hx with rfl | rfl | rfl | rfl | rfl | rfl <;> rfl
theorem vE_app (a b : List Ev) : vE (a ++ b) = vE a ++ vE b := by simp [vS]
theorem crs_le {p s : Int} {a b : Nat} (ha : a ≤ 4) (hb : b ≤ 4) : (crEs (crL p a b s)).length ≤ 16 := by
  unfold crEs
  rw [List.length_map, crL_len]
  exact Nat.le_trans (Nat.mul_le_mul hb ha) (Nat.le_refl _)

end Go.Proofs.YthhpjgdeehcgjaaGreat

/-
  Small facts for the program's crossings of a step of the rack.
-/
namespace Go.Proofs.YthhpjgdeehcgjaaGreat
set_option linter.unusedVariables false
set_option linter.unusedSimpArgs false
open Go.RowKit

theorem idx_rng (n : Nd) (l : List Nd) : -1 ≤ idxOf (fun y => decide (n = y)) l ∧ idxOf (fun y => decide (n = y)) l < (l.length : Int) := by
  by_cases h : n ∈ l
  · rw [idx_nd_yes h]
    have := List.idxOf_lt_length_of_mem h
    omega
  · rw [(idx_nd_no h).1]
    omega
theorem ndL_pos {m : Mc} (ok : okM m = true) : 0 < (ndL m).length := by
  obtain ⟨d1, d2, d3, d4, -, -, -⟩ := ok_wd ok
  have h : ((1 : Int), (0 : Int)) ∈ ndL m := by
    refine ndGo_mem (p := 0) ?_ _ _ (by omega) (by omega)
    have h1 := ndX_mem (m := m) (n := (1, 0)) (.inl rfl) (by simp) (by simp only; omega)
    rw [show plc ((1 : Int), (0 : Int)).1 ((1 : Int), (0 : Int)).2 m.rk = 0 from rfl] at h1
    exact h1
  exact List.length_pos_of_mem h
theorem szL_cons (m : Mc) (a : Nd) (t : List Nd) : szL m (a :: t) = szN m a + szL m t := by simp [szL]
theorem szL_le {m : Mc} (ok : okM m = true) : ∀ l : List Nd, szL m l ≤ 4 * l.length
  | [] => Nat.le_refl _
  | a :: t => by
    have h1 := szL_le ok t
    have h2 := szN_le ok a
    rw [szL_cons, List.length_cons]
    omega

end Go.Proofs.YthhpjgdeehcgjaaGreat
