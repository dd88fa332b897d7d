/-
  Letters of permutations; the first letter that can move; half twists.
-/
import Derived.Test.YtfeonaocmnpkcaaGarB
import Derived.Test.YtfeonaocmnpkcaaCont
import Derived.BigRegion
namespace Go.Proofs.Ytfeonaocmnpkcaa
set_option linter.unusedVariables false
set_option linter.unusedSimpArgs false
open Go.RowKit

set_option maxHeartbeats 2000000 in
set_option maxRecDepth 100000 in
theorem reverseI_any (n cap g : Nat) (val : Nat → Int) (f : Nat → Value) (w : World) (hn : n ≤ 12) (hnc : n ≤ cap) (hr : w.rowIs g 2 cap f) (hv : ∀ j, j < n → f j = .int .i64 (val j)) :
    Calls Try.prog 103 #[.slice (some ⟨g, 0, none⟩) n cap] w fun e w' => e = .returned (.tuple #[]) ∧ (∃ f', w'.rowIs g 2 cap f' ∧ ∀ j, j < n → f' j = .int .i64 (val (n - 1 - j))) ∧ Only g (g + 1) w w' := by
  have HR0 := Lib.hid hr
  have HV0 := Lib.hid hv
  clear hr hv
  go_enter Try.func103, Try.ntmps103
  go_wp2
  go_loopw [2, 3] (fun a b wr => ∃ (k : Nat) (F : Nat → Value), 2 * k ≤ n + 1 ∧ a = .int .i64 k ∧ b = .int .i64 ((n : Int) - 1 - k) ∧ wr.rowIs g 2 cap F ∧ Hid (∀ j, j < n → F j = .int .i64 (if j < k ∨ n - 1 - j < k then val (n - 1 - j) else val j)) ∧ Only g (g + 1) w wr) (fun a b _ => (intOf b + 1 - intOf a).toNat)
  case atStart => exact ⟨0, f, by omega, rfl, by simp, HR0.out, fun j hj => by rw [if_neg (by omega)]; exact HV0.out j hj, Only.refl _ _ _⟩
  case round =>
    rename_i wr
    obtain ⟨k, F, hk, rfl, rfl, hrow, hF, hon⟩ := hrel
    have HR := Lib.hid hrow
    have HON := Lib.hid hon
    by_cases hlt : (k : Int) < (n : Int) - 1 - k
    · have d0 := hrow.cell (i := k) (by omega)
      have d1 := hrow.cell (i := n - 1 - k) (by omega)
      have g0 := fun i => hrow.frozen i
      rw [hF.out k (by omega), if_neg (by omega)] at d0
      rw [hF.out (n - 1 - k) (by omega), if_neg (by omega)] at d1
      have hb0 : 0 ≤ (n : Int) - 1 - k := by omega
      have hb1 : (n : Int) - 1 - k < n := by omega
      have hk1 : (k : Int) < n := by omega
      clear hrow hon
      go_wp2
      have hne : (⟨g, k, none⟩ : Addr) ≠ ⟨g, n - 1 - k, none⟩ := by intro e; injection e with _ e _; omega
      have hne' : ¬ k = n - 1 - k := by omega
      have hne2 : ¬ n - 1 - k = k := by omega
      go_region
      all_goals
        go_wp2
        have HR2 := ((HR.out.set k (.int .i64 (val (n - 1 - k)))).set (n - 1 - k) (.int .i64 (val k))).drew
        refine ⟨⟨k + 1, _, by omega, by go_num, by rw [show (n : Int) - 1 - ((k + 1 : Nat) : Int) = (n : Int) - 1 - k - 1 by omega], HR2, fun j hj => ?_, ((HON.out.setCell (p := ⟨g, k, none⟩) (Nat.le_refl _) (by simp) _).setCell (p := ⟨g, n - 1 - k, none⟩) (Nat.le_refl _) (by simp) _).drew⟩, by simp [intOf]; omega⟩
        show (if j = n - 1 - k then _ else if j = k then _ else F j) = _
        by_cases h1 : j = n - 1 - k
        · rw [if_pos h1, if_pos (by omega), h1, show n - 1 - (n - 1 - k) = k by omega]
        · rw [if_neg h1]
          by_cases h2 : j = k
          · rw [if_pos h2, if_pos (by omega), h2]
          · rw [if_neg h2, hF.out j hj]
            by_cases h3 : j < k ∨ n - 1 - j < k
            · rw [if_pos h3, if_pos (by omega)]
            · rw [if_neg h3, if_neg (by omega)]
    · clear hrow hon
      go_wp2
      go_end0
      refine ⟨rfl, ⟨F, HR.out, fun j hj => ?_⟩, HON.out⟩
      rw [hF.out j hj]
      by_cases h3 : j < k ∨ n - 1 - j < k
      · rw [if_pos h3]
      · rw [if_neg h3, show n - 1 - j = j by omega]

set_option maxHeartbeats 1000000 in
theorem halfTwist_any (n : Nat) (hn0 : 0 < n) (hn : n ≤ 12) (w : World) : Calls Try.prog 93 #[.int .i64 (n : Int)] w (GivesL w (lst n (Pm.half n))) := by
  go_enter Try.func93, Try.ntmps93
  go_wp2_with fail
  refine (identity_any n hn _).mono ?_
  rintro e w1 ⟨v1, rfl, ho, hb⟩
  rw [lst_len] at ho
  obtain ⟨g, cap, f, rfl, hlo, hhi, hrow, hnc, hcap, hf⟩ := ho.row hn0
  rw [Nat.mul_one] at hrow
  have hf' : ∀ j, j < n → f j = .int .i64 (((fun j : Nat => (j : Int)) j : Int)) := fun j hj => by
    have := hf j (by omega)
    simp [vI, lst, hj] at this
    rw [← this]; rfl
  have HB := Lib.hid hb
  have HQ := Lib.hid (reverseI_any n cap g _ f w1 hn hnc hrow hf')
  clear hf hf' hrow hb ho
  go_wp2_with fail
  refine HQ.out.mono ?_
  rintro e w2 ⟨rfl, ⟨f', hr', hf'⟩, hon⟩
  have HR := Lib.hid hr'
  have HF := Lib.hid hf'
  have HB2 := Lib.hid (HB.out.trans (hon.below hlo HB.out.size))
  have hz := hon.size
  clear hr' hf' hon
  go_wp2
  go_ret
  refine GivesL.mk (n := n) (val := fun i => ((Pm.dl n i : Nat) : Int)) (OwC.of_rowC (f := f') (by rw [Nat.mul_one]; exact HR.out) hlo (by omega) hnc hcap (by simp [vI]) (fun i hi => ?_)) HB2.out
  have hin : i < n := by omega
  rw [HF.out i hin]
  simp only [vI, List.getElem?_map, List.getElem?_range hin, Option.map_some]
  rw [Pm.dl_lt hin]

theorem deU_next (p : Pm) (k : Nat) : deU p (k + 1) = if p.f (k + 1) < p.f k then deU p k ++ [(k : Int)] else deU p k := rfl
set_option maxHeartbeats 4000000 in
set_option maxRecDepth 100000 in
theorem descents_any (n : Nat) (hn0 : 0 < n) (hn : n ≤ 12) (p : Pm) (v : Value) (w : World) (hv : RdI w w.heap.size v (lst n p)) :
    Calls Try.prog 119 #[v] w (GivesL w (deU p (n - 1))) := by
  obtain ⟨A, c, rfl⟩ := hv.len
  simp only [lst_len] at *
  obtain ⟨b, off, rfl, hbb, hcell⟩ := hv.base hn0
  have HC := Lib.hid (fun k (hk : k < n) => hcell k _ (lst_get hk))
  obtain ⟨i0, hi, hz0, hz1, hz2⟩ := info_parts info_int
  clear hv hcell
  go_enter Try.func119, Try.ntmps119
  go_wp2
  go_loopw [3, 4] (fun t i wr => ∃ (k : Nat), k + 1 ≤ n ∧ i = .int .i64 k ∧ wr.ownsRow w.heap.size 2 1 t (deU p k).length (vI (deU p k)) ∧ Below w.heap.size w wr) (fun _ i _ => n - (intOf i).toNat)
  case atStart => exact ⟨0, by omega, rfl, World.ownsRow_lit _ _ _ (Nat.le_refl _) (by unfold maxLen; omega) rfl, (Below.refl _ _).alloc (Nat.le_refl _) _⟩
  case round =>
    rename_i wr
    obtain ⟨k, hk, rfl, hown, hb⟩ := hrel
    have HB := Lib.hid hb
    have HO := Lib.hid hown
    have hlen := deU_len p k
    by_cases hlt : k + 1 < n
    · have e0 : wr.cell? ⟨b, off + k, none⟩ = some (.int .i64 ((p.f k : Nat) : Int)) := (hb.cell (p := ⟨b, off + k, none⟩) hbb).trans (HC.out k (by omega))
      have e1 : wr.cell? ⟨b, off + (k + 1), none⟩ = some (.int .i64 ((p.f (k + 1) : Nat) : Int)) := (hb.cell (p := ⟨b, off + (k + 1), none⟩) hbb).trans (HC.out (k + 1) (by omega))
      have HN := Lib.hid (deU_next p k)
      have hlt1 : (k : Int) + 1 < n := by omega
      clear hb hown
      generalize p.f (k + 1) = y at *
      generalize p.f k = x at *
      by_cases hyx : y < x
      · have hyx1 : (y : Int) < x := by omega
        rw [if_pos hyx] at HN
        go_wp2
        go_quiet (fail)
        go_wp2_with (at_builtin; refine wpList_append_own _ rfl _ _ 22 rfl w.heap.size 2 i0 _ 1 8 Try.underlying22 hi hz0 hz1 hz2 rfl (by decide) _ _ _ rfl (HO.out.alloc _) ⟨wr.heap.size, 0, none⟩ 1 1 [.int .i64 (k : Int)] rfl rfl ?c1 ?c2 ?c3 ?c4 ?c5 ?_)
        case c1 => exact new_cells' _ _ (by simp [World.drewN])
        case c2 => intro u hu; simp at hu; subst hu; rfl
        case c3 => unfold maxLen; omega
        case c4 => omega
        case c5 => have := HB.out.size; simp; omega
        intro v' w2 hown2 hgrow2 _
        have HB1 := Lib.hid (below_append' ((below_drewN HB.out nq).alloc (by have := HB.out.size; simpa using this) _) (by have := HB.out.size; simp; omega) HO.out (by simp) hgrow2)
        have HO1 : Hid (w2.ownsRow w.heap.size 2 1 v' (deU p (k + 1)).length (vI (deU p (k + 1)))) := by unfold Hid; rw [HN.out, vI_append, List.length_append]; exact hown2
        clear hgrow2 hown2 HB HO
        go_wp2
        exact ⟨⟨k + 1, by omega, by go_num, HO1.out, HB1.out⟩, by simp [intOf]; omega⟩
      · have hyx1 : ¬ (y : Int) < x := by omega
        rw [if_neg hyx] at HN
        go_wp2
        go_quiet (fail)
        go_wp2
        exact ⟨⟨k + 1, by omega, by go_num, by rw [HN.out]; exact HO.out, below_drewN HB.out nq⟩, by simp [intOf]; omega⟩
    · have hlt1 : ¬ (k : Int) + 1 < n := by omega
      clear hb hown
      go_wp2
      go_ret
      obtain rfl : k = n - 1 := by omega
      exact ⟨_, rfl, OwC.of_own HO.out, HB.out⟩

end Go.Proofs.Ytfeonaocmnpkcaa
