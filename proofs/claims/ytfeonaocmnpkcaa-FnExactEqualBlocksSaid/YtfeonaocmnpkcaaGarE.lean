/-
  A letter in front of a permutation, and behind it, of the reference.
-/
import Derived.Test.YtfeonaocmnpkcaaGarB
namespace Go.Proofs.Ytfeonaocmnpkcaa
set_option linter.unusedVariables false
set_option linter.unusedSimpArgs false
open Go.RowKit

theorem own_lst {w : World} {lo hi n : Nat} {v : Value} {p : Pm} (ho : OwC w lo hi 2 1 v (lst n p).length (vI (lst n p))) (hn : 0 < n) :
    ∃ g cap f, v = .slice (some ⟨g, 0, none⟩) n cap ∧ lo ≤ g ∧ g < hi ∧ w.rowIs g 2 cap f ∧ n ≤ cap ∧ cap ≤ maxLen ∧ ∀ j, j < n → f j = .int .i64 ((p.f j : Nat) : Int) := by
  rw [lst_len] at ho
  obtain ⟨g, cap, f, rfl, hlo, hhi, hrow, hnc, hcap, hf⟩ := ho.row hn
  rw [Nat.mul_one] at hrow
  refine ⟨g, cap, f, rfl, hlo, hhi, hrow, hnc, hcap, fun j hj => ?_⟩
  have := hf j (by omega)
  simp [vI, lst, hj] at this
  exact this.symm
theorem OwC.of_lst {w : World} {lo g cap n : Nat} {f : Nat → Value} {p : Pm} (hr : w.rowIs g 2 cap f) (h1 : lo ≤ g) (hn : n ≤ cap) (hc : cap ≤ maxLen) (hf : ∀ j, j < n → f j = .int .i64 ((p.f j : Nat) : Int)) :
    OwC w lo w.heap.size 2 1 (.slice (some ⟨g, 0, none⟩) n cap) (lst n p).length (vI (lst n p)) := by
  rw [lst_len]
  refine OwC.of_rowC (f := f) (by rw [Nat.mul_one]; exact hr) h1 ?_ hn hc (by simp [vI, lst]) (fun j hj => ?_)
  · obtain ⟨cur, g1, _⟩ := hr
    exact (Array.getElem?_eq_some_iff.1 g1).1
  · rw [hf j (by omega)]
    simp [vI, lst, show j < n by omega]

set_option maxHeartbeats 2000000 in
set_option maxRecDepth 100000 in
theorem l04Before_any (n k : Nat) (hn : n ≤ 12) (hk : 1 ≤ k) (hkn : k < n) (p : Pm) (v : Value) (w : World) (hv : RdI w w.heap.size v (lst n p)) :
    Calls Try.prog 98 #[.int .i64 (k : Int), v] w (GivesL w (lst n (p.before k hk))) := by
  have HQ := Lib.hid (l00Own_any v _ w hv (by rw [lst_len]; omega))
  obtain ⟨A, c, rfl⟩ := hv.len
  simp only [lst_len] at *
  obtain ⟨b, off, rfl, hbb, hcell⟩ := hv.base (by omega)
  obtain ⟨j, rfl⟩ : ∃ j, k = j + 1 := ⟨k - 1, by omega⟩
  have c0 := hcell j _ (lst_get (by omega))
  have c1 := hcell (j + 1) _ (lst_get hkn)
  clear hv hcell
  go_enter Try.func98, Try.ntmps98
  go_wp2_with fail
  refine HQ.out.mono ?_
  rintro e w1 ⟨v1, rfl, ho, hb⟩
  obtain ⟨g, cap, f, rfl, hlo, hhi, hrow, hnc, hcap, hf⟩ := own_lst ho (by omega)
  have e0 := (hb.cell (p := ⟨b, off + j, none⟩) hbb).trans c0
  have e1 := (hb.cell (p := ⟨b, off + (j + 1), none⟩) hbb).trans c1
  have hne : b ≠ g := by omega
  have d0 := hrow.cell (i := j) (by omega)
  have d1 := hrow.cell (i := j + 1) (by omega)
  have g0 := fun i => hrow.frozen i
  have HR := Lib.hid hrow
  have HF := Lib.hid hf
  have HB := Lib.hid hb
  have HP0 := Lib.hid (show (p.before (j + 1) hk).f j = p.f (j + 1) by show p.f (Pm.sw (j + 1) j) = _; have := Pm.sw_l (k := j + 1) (by omega); rw [Nat.add_sub_cancel] at this; rw [this])
  have HP1 := Lib.hid (show (p.before (j + 1) hk).f (j + 1) = p.f j by show p.f (Pm.sw (j + 1) (j + 1)) = _; rw [Pm.sw_r]; simp)
  have HPO := Lib.hid (show ∀ i, i ≠ j → i ≠ j + 1 → (p.before (j + 1) hk).f i = p.f i from fun i h1 h2 => by show p.f (Pm.sw (j + 1) i) = _; rw [Pm.sw_o h2 (by omega)])
  clear hrow hf hb ho c0 c1
  generalize hx : p.f j = x at e0 HP1
  generalize hy : p.f (j + 1) = y at e1 HP0
  clear hx hy
  go_wp2
  go_ret
  refine ⟨_, rfl, OwC.of_lst ((HR.out.set j (.int .i64 (y : Int))).set (j + 1) (.int .i64 (x : Int))) hlo hnc hcap (fun i hi => ?_), (HB.out.setCell hlo _).setCell hlo _⟩
  show (if i = j + 1 then _ else if i = j then _ else f i) = _
  by_cases h1 : i = j + 1
  · rw [if_pos h1, h1, HP1.out]
  · rw [if_neg h1]
    by_cases h2 : i = j
    · rw [if_pos h2, h2, HP0.out]
    · rw [if_neg h2, HF.out i hi, HPO.out i h2 h1]

set_option maxHeartbeats 4000000 in
set_option maxRecDepth 100000 in
theorem l04Behind_any (n k : Nat) (hn : n ≤ 12) (hk : 1 ≤ k) (hkn : k < n) (p : Pm) (v : Value) (w : World) (hv : RdI w w.heap.size v (lst n p)) :
    Calls Try.prog 79 #[v, .int .i64 (k : Int)] w (GivesL w (lst n (p.behind k hk))) := by
  have HQ := Lib.hid (l00Own_any v _ w hv (by rw [lst_len]; omega))
  obtain ⟨A, c, rfl⟩ := hv.len
  simp only [lst_len] at *
  obtain ⟨b, off, rfl, hbb, hcell⟩ := hv.base (by omega)
  have HC := Lib.hid (fun i (hi : i < n) => hcell i _ (lst_get hi))
  obtain ⟨j, rfl⟩ : ∃ j, k = j + 1 := ⟨k - 1, by omega⟩
  clear hv hcell
  go_enter Try.func79, Try.ntmps79
  go_wp2_with fail
  refine HQ.out.mono ?_
  rintro e w1 ⟨v1, rfl, ho, hb⟩
  obtain ⟨g, cap, f, rfl, hlo, hhi, hrow, hnc, hcap, hf⟩ := own_lst ho (by omega)
  have HR := Lib.hid hrow
  have HF := Lib.hid hf
  have HB := Lib.hid hb
  have hne : b ≠ g := by omega
  have hcapm := hcap
  clear hrow hf hb ho
  go_wp2
  go_loopw [6] (fun i wr => ∃ (m : Nat) (F : Nat → Value), m ≤ n ∧ i = .int .i64 m ∧ wr.rowIs g 2 cap F ∧ Hid (∀ i, i < n → F i = .int .i64 (((if i < m then Pm.sw (j + 1) (p.f i) else p.f i) : Nat) : Int)) ∧ Below w.heap.size w wr) (fun i _ => n - (intOf i).toNat)
  case atStart => exact ⟨0, f, Nat.zero_le _, rfl, HR.out, fun i hi => by rw [if_neg (by omega)]; exact HF.out i hi, HB.out⟩
  case round =>
    rename_i wr
    obtain ⟨m, F, hm, rfl, hrow, hF, hb⟩ := hrel
    have HB1 := Lib.hid hb
    have HR1 := Lib.hid hrow
    by_cases hlt : m < n
    · have e0 := (hb.cell (p := ⟨b, off + m, none⟩) hbb).trans (HC.out m hlt)
      have d0 := hrow.cell (i := m) (by omega)
      rw [hF.out m hlt, if_neg (by omega)] at d0
      have g0 := fun i => hrow.frozen i
      have HN : Hid (∀ F' : Nat → Value, F' m = .int .i64 ((Pm.sw (j + 1) (p.f m) : Nat) : Int) → (∀ i, i ≠ m → F' i = F i) → ∀ i, i < n → F' i = .int .i64 (((if i < m + 1 then Pm.sw (j + 1) (p.f i) else p.f i) : Nat) : Int)) := by
        intro F' h1 h2 i hi
        by_cases h3 : i = m
        · subst h3; rw [if_pos (by omega)]; exact h1
        · rw [h2 i h3, hF.out i hi]
          by_cases h4 : i < m
          · rw [if_pos h4, if_pos (by omega)]
          · rw [if_neg h4, if_neg (by omega)]
      have HFm := Lib.hid (hF.out m hlt)
      rw [if_neg (by omega)] at HFm
      generalize hx : p.f m = x at *
      clear hx hb hrow hF
      by_cases h1 : x = j
      · have b1 : ((x : Int) == ((j + 1 : Nat) : Int) - 1) = true := by simp [h1]
        have b2 : ((x : Int) == ((j + 1 : Nat) : Int)) = false := by simp; omega
        have HV := Lib.hid (show (Pm.sw (j + 1) x : Nat) = j + 1 by rw [h1]; have := Pm.sw_l (k := j + 1) (by omega); rw [Nat.add_sub_cancel] at this; exact this)
        subst h1
        have b3 : ((x : Int) == (x : Int) + 1) = false := by simp; omega
        go_wp2
        refine ⟨⟨m + 1, _, by omega, by go_num, HR1.out.set m _, HN.out _ (by show (if m = m then _ else _) = _; rw [if_pos rfl, HV.out]; rfl) (fun i hi => by show (if i = m then _ else _) = _; rw [if_neg hi]), HB1.out.setCell hlo _⟩, by simp [intOf]; omega⟩
      · by_cases h2 : x = j + 1
        · have HV := Lib.hid (show (Pm.sw (j + 1) x : Nat) = j by rw [h2, Pm.sw_r]; simp)
          subst h2
          have b1 : (((j : Int) + 1) == (j : Int)) = false := by simp; omega
          go_wp2
          refine ⟨⟨m + 1, _, by omega, by go_num, HR1.out.set m _, HN.out _ (by show (if m = m then _ else _) = _; rw [if_pos rfl, HV.out]; try simp) (fun i hi => by show (if i = m then _ else _) = _; rw [if_neg hi]), HB1.out.setCell hlo _⟩, by simp [intOf]; omega⟩
        · have b1 : ((x : Int) == (j : Int)) = false := by simp; omega
          have b2 : ((x : Int) == (j : Int) + 1) = false := by simp; omega
          have HV := Lib.hid (show (Pm.sw (j + 1) x : Nat) = x by rw [Pm.sw_o h2 (by omega)])
          clear h1 h2
          go_wp2
          refine ⟨⟨m + 1, F, by omega, by go_num, HR1.out, HN.out F (by rw [HV.out]; exact HFm.out) (fun i hi => rfl), HB1.out⟩, by simp [intOf]; omega⟩
    · clear hb hrow
      go_wp2
      go_ret
      obtain rfl : m = n := by omega
      refine ⟨_, rfl, OwC.of_lst HR1.out hlo hnc hcapm (fun i hi => ?_), HB1.out⟩
      rw [hF.out i hi, if_pos hi]
      rfl

end Go.Proofs.Ytfeonaocmnpkcaa
