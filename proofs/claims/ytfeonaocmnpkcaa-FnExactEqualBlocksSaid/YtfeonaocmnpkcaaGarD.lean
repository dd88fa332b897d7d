/-
  Start letters, finish letters, the first letter that can move.
-/
import Derived.Test.YtfeonaocmnpkcaaGarC
namespace Go.Proofs.Ytfeonaocmnpkcaa
set_option linter.unusedVariables false
set_option linter.unusedSimpArgs false
open Go.RowKit

theorem OwC.vI_get {w : World} {lo hi E n : Nat} {v : Value} {l : List Int} (h : OwC w lo hi E 1 v l.length (vI l)) {k : Nat} {x : Int} (hx : l[k]? = some x) : (vI l)[k]? = some (.int .i64 x) := by simp [vI, hx]
theorem upL_len (l : List Int) : (upL l).length = l.length := by simp [upL]
theorem deU_bd {p : Pm} {m k : Nat} {x : Int} (h : (deU p m)[k]? = some x) : 0 ≤ x ∧ x < m := by
  obtain ⟨i, rfl, h1, _⟩ := mem_deU.1 (List.mem_of_getElem? h)
  omega

set_option maxHeartbeats 2000000 in
set_option maxRecDepth 100000 in
theorem startLetters_any (n : Nat) (hn0 : 0 < n) (hn : n ≤ 12) (p : Pm) (v : Value) (w : World) (hv : RdI w w.heap.size v (lst n p)) :
    Calls Try.prog 116 #[v] w (GivesL w (stL n p)) := by
  have HQ := Lib.hid (descents_any n hn0 hn p v w hv)
  obtain ⟨A, c, rfl⟩ := hv.len
  simp only [lst_len] at *
  clear hv
  unfold stL
  have hdl := deU_len p (n - 1)
  have hbd : ∀ (k : Nat) (x : Int), (deU p (n - 1))[k]? = some x → 0 ≤ x ∧ x ≤ 11 := fun k x hx => by have := deU_bd hx; omega
  generalize deU p (n - 1) = l at *
  have HBD := Lib.hid hbd
  clear hbd
  go_enter Try.func116, Try.ntmps116
  go_wp2_with fail
  refine HQ.out.mono ?_
  rintro e w1 ⟨v1, rfl, ho, hb⟩
  generalize hd : l.length = d at *
  have HD := Lib.hid hd
  clear hd
  rcases Nat.eq_zero_or_pos d with h0 | hpos
  · subst h0
    obtain ⟨A1, c1, rfl, -⟩ := ho.cells
    have hl : l = [] := List.eq_nil_of_length_eq_zero HD.out
    subst hl
    have HB := Lib.hid hb
    clear hb ho
    go_wp2
    go_loopw [9] (fun i wr => i = .int .i64 0 ∧ w1 = wr) (fun i _ => 0 - (intOf i).toNat)
    case atStart => exact ⟨rfl, rfl⟩
    case round =>
      rename_i wr
      obtain ⟨rfl, rfl⟩ := hrel
      go_wp2
      go_ret
      exact ⟨_, rfl, ⟨by simp [vI, upL], .inl ⟨rfl, A1, c1, rfl⟩⟩, HB.out⟩
  · obtain ⟨g, cap, f, rfl, hlo, hhi, hrow, hnc, hcap, hf⟩ := ho.row hpos
    rw [Nat.mul_one] at hrow
    have hf' : ∀ j x, l[j]? = some x → f j = .int .i64 x := fun j x hx => by
      have hj : j < d := by rw [← HD.out]; exact (List.getElem?_eq_some_iff.1 hx).1
      have := hf j (by omega)
      simp [vI, hx] at this
      exact this.symm
    have HB := Lib.hid hb
    have HF := Lib.hid hf'
    have HR0 := Lib.hid hrow
    have hcap1 := hcap
    clear hf hf' hrow hb ho
    go_wp2
    go_loopw [9] (fun i wr => ∃ (k : Nat) (F : Nat → Value), k ≤ d ∧ i = .int .i64 k ∧ wr.rowIs g 2 cap F ∧ Hid (∀ j x, l[j]? = some x → F j = .int .i64 (if j < k then x + 1 else x)) ∧ Below w.heap.size w wr) (fun i _ => d - (intOf i).toNat)
    case atStart => exact ⟨0, f, Nat.zero_le _, rfl, HR0.out, fun j x hx => by rw [if_neg (by omega)]; exact HF.out j x hx, HB.out⟩
    case round =>
      rename_i wr
      obtain ⟨k, F, hk, rfl, hrow, hF, hb⟩ := hrel
      have HB1 := Lib.hid hb
      have HR := Lib.hid hrow
      by_cases hlt : k < d
      · obtain ⟨x, hx⟩ : ∃ x, l[k]? = some x := ⟨_, List.getElem?_eq_getElem (by rw [HD.out]; exact hlt)⟩
        obtain ⟨hx0, hx1⟩ := HBD.out k x hx
        have HX := Lib.hid hx
        have d0 := hrow.cell (i := k) (by omega)
        rw [hF.out k x hx, if_neg (by omega)] at d0
        have g0 := fun i => hrow.frozen i
        clear hrow hb hx
        go_wp2
        refine ⟨⟨k + 1, _, by omega, by go_num, HR.out.set _ _, fun j y hy => ?_, HB1.out.setCell hlo _⟩, by simp [intOf]; omega⟩
        show (if j = k then _ else F j) = _
        by_cases h1 : j = k
        · subst h1
          have hxy : x = y := by have := HX.out.symm.trans hy; injection this
          rw [if_pos rfl, if_pos (by omega), hxy]
        · rw [if_neg h1, hF.out j y hy]
          by_cases h2 : j < k
          · rw [if_pos h2, if_pos (by omega)]
          · rw [if_neg h2, if_neg (by omega)]
      · clear hrow hb
        go_wp2
        go_ret
        obtain rfl : k = d := by omega
        have hsz : g < wr.heap.size := by obtain ⟨cur, h1, _⟩ := HR.out; exact (Array.getElem?_eq_some_iff.1 h1).1
        refine ⟨_, rfl, ?_, HB1.out⟩
        rw [upL_len, HD.out]
        refine OwC.of_rowC (f := F) (by rw [Nat.mul_one]; exact HR.out) hlo hsz hnc hcap1 (by simp [vI, upL, HD.out]) (fun j hj => ?_)
        obtain ⟨x, hx⟩ : ∃ x, l[j]? = some x := ⟨_, List.getElem?_eq_getElem (by rw [HD.out]; omega)⟩
        rw [hF.out j x hx, if_pos (by omega)]
        simp [vI, upL, hx]

theorem upL_next (p : Pm) (k : Nat) : upL (deU p (k + 1)) = if p.f (k + 1) < p.f k then upL (deU p k) ++ [(k : Int) + 1] else upL (deU p k) := by
  show upL (if p.f (k + 1) < p.f k then deU p k ++ [(k : Int)] else deU p k) = _
  split
  · simp [upL]
  · rfl
set_option maxHeartbeats 4000000 in
set_option maxRecDepth 100000 in
theorem l04Start_any (n : Nat) (hn0 : 0 < n) (hn : n ≤ 12) (p : Pm) (v : Value) (w : World) (hv : RdI w w.heap.size v (lst n p)) :
    Calls Try.prog 111 #[v] w (GivesL w (stL n p)) := by
  unfold stL
  obtain ⟨A, c, rfl⟩ := hv.len
  simp only [lst_len] at *
  obtain ⟨b, off, rfl, hbb, hcell⟩ := hv.base hn0
  have HC := Lib.hid (fun k (hk : k < n) => hcell k _ (lst_get hk))
  obtain ⟨i0, hi, hz0, hz1, hz2⟩ := info_parts info_int
  clear hv hcell
  go_enter Try.func111, Try.ntmps111
  go_wp2
  go_loopw [3, 4] (fun t i wr => ∃ (k : Nat), k + 1 ≤ n ∧ i = .int .i64 ((k : Int) + 1) ∧ wr.ownsRow w.heap.size 2 1 t (upL (deU p k)).length (vI (upL (deU p k))) ∧ Below w.heap.size w wr) (fun _ i _ => n - (intOf i).toNat)
  case atStart => exact ⟨0, by omega, rfl, World.ownsRow_lit _ _ _ (Nat.le_refl _) (by unfold maxLen; omega) rfl, (Below.refl _ _).alloc (Nat.le_refl _) _⟩
  case round =>
    rename_i wr
    obtain ⟨k, hk, rfl, hown, hb⟩ := hrel
    have HB := Lib.hid hb
    have HO := Lib.hid hown
    have hlen : (upL (deU p k)).length ≤ k := by rw [upL_len]; exact deU_len p k
    by_cases hlt : k + 1 < n
    · have e0 : wr.cell? ⟨b, off + k, none⟩ = some (.int .i64 ((p.f k : Nat) : Int)) := (hb.cell (p := ⟨b, off + k, none⟩) hbb).trans (HC.out k (by omega))
      have e1 : wr.cell? ⟨b, off + (k + 1), none⟩ = some (.int .i64 ((p.f (k + 1) : Nat) : Int)) := (hb.cell (p := ⟨b, off + (k + 1), none⟩) hbb).trans (HC.out (k + 1) (by omega))
      have HN := Lib.hid (upL_next p k)
      have hlt1 : (k : Int) + 1 < n := by omega
      clear hb hown
      generalize p.f (k + 1) = y at *
      generalize p.f k = x at *
      by_cases hyx : y < x
      · have hyx1 : (y : Int) < x := by omega
        rw [if_pos hyx] at HN
        go_wp2
        go_quiet (fail)
        go_wp2_with (at_builtin; refine wpList_append_own _ rfl _ _ 22 rfl w.heap.size 2 i0 _ 1 8 Try.underlying22 hi hz0 hz1 hz2 rfl (by decide) _ _ _ rfl (HO.out.alloc _) ⟨wr.heap.size, 0, none⟩ 1 1 [.int .i64 ((k : Int) + 1)] rfl rfl ?c1 ?c2 ?c3 ?c4 ?c5 ?_)
        case c1 => exact new_cells' _ _ (by simp [World.drewN])
        case c2 => intro u hu; simp at hu; subst hu; rfl
        case c3 => unfold maxLen; omega
        case c4 => omega
        case c5 => have := HB.out.size; simp; omega
        intro v' w2 hown2 hgrow2 _
        have HB1 := Lib.hid (below_append' ((below_drewN HB.out nq).alloc (by have := HB.out.size; simpa using this) _) (by have := HB.out.size; simp; omega) HO.out (by simp) hgrow2)
        have HO1 : Hid (w2.ownsRow w.heap.size 2 1 v' (upL (deU p (k + 1))).length (vI (upL (deU p (k + 1))))) := by unfold Hid; rw [HN.out, vI_append, List.length_append]; exact hown2
        clear hgrow2 hown2 HB HO
        go_wp2
        exact ⟨⟨k + 1, by omega, by go_num, HO1.out, HB1.out⟩, by simp [intOf]; omega⟩
      · have hyx1 : ¬ (y : Int) < x := by omega
        rw [if_neg hyx] at HN
        go_wp2
        go_quiet (fail)
        go_wp2
        exact ⟨⟨k + 1, by omega, by go_num, by rw [HN.out]; exact HO.out, below_drewN HB.out nq⟩, by simp [intOf]; omega⟩
    · have hlt1 : ¬ (k : Int) + 1 < n := by omega
      clear hb hown
      go_wp2
      go_ret
      obtain rfl : k = n - 1 := by omega
      exact ⟨_, rfl, OwC.of_own HO.out, HB.out⟩

set_option maxHeartbeats 1000000 in
theorem l04Finish_any (n : Nat) (hn0 : 0 < n) (hn : n ≤ 12) (p : Pm) (hp : p.On n) (v : Value) (w : World) (hv : RdI w w.heap.size v (lst n p)) :
    Calls Try.prog 110 #[v] w (GivesL w (stL n p.inv)) := by
  have HQ := Lib.hid (l04Inverse_any n hn p hp v w hv)
  obtain ⟨A, c, rfl⟩ := hv.len
  clear hv
  go_enter Try.func110, Try.ntmps110
  go_wp2_with fail
  refine HQ.out.mono ?_
  rintro e w1 ⟨v1, rfl, ho, hb⟩
  have HQ2 := Lib.hid (l04Start_any n hn0 hn p.inv v1 w1 (RdI.of_own ho))
  obtain ⟨A1, c1, rfl, -⟩ := ho.cells
  have HB := Lib.hid hb
  clear hb ho
  go_wp2_with fail
  refine HQ2.out.mono ?_
  rintro e w2 ⟨v2, rfl, ho, hb⟩
  have HO := Lib.hid (ho.wide HB.out.size (Nat.le_refl _))
  obtain ⟨A2, c2, rfl, -⟩ := ho.cells
  have HB2 := Lib.hid (HB.out.trans (hb.mono HB.out.size))
  clear hb ho
  go_wp2
  go_ret
  exact ⟨_, rfl, HO.out, HB2.out⟩

theorem find_next {l : List Int} {q : Int → Bool} {R : Int} {k : Nat} {x : Int} (h : R = ((l.drop k).find? q).getD 0) (hx : l[k]? = some x) (hq : q x = false) : R = ((l.drop (k + 1)).find? q).getD 0 := by
  rw [h, drop_of_get hx, List.find?_cons, hq]
theorem find_here {l : List Int} {q : Int → Bool} {R : Int} {k : Nat} {x : Int} (h : R = ((l.drop k).find? q).getD 0) (hx : l[k]? = some x) (hq : q x = true) : R = x := by
  rw [h, drop_of_get hx, List.find?_cons, hq]
  rfl

/- the first letter with which q can begin and p cannot end, of the reference: l04Extra name · spec.l04Extra function · 7 the counter's slot · l04Finish_any finish letters · l04Start_any start letters · l00Has_any the question · §7, §8 (idle) -/
set_option maxHeartbeats 4000000 in
set_option maxRecDepth 100000 in
theorem l04Extra_any (n : Nat) (hn0 : 0 < n) (hn : n ≤ 12) (p q : Pm) (hp : p.On n) (u v : Value) (w : World) (hu : RdI w w.heap.size u (lst n p)) (hv : RdI w w.heap.size v (lst n q)) :
    Calls Try.prog 97 #[u, v] w fun e w' => e = .returned (.int .i64 (exP n p q)) ∧ Below w.heap.size w w' := by
  have HQ := Lib.hid (l04Finish_any n hn0 hn p hp u w hu)
  have HV := Lib.hid hv
  obtain ⟨A, c, rfl⟩ := hu.len
  obtain ⟨A', c', rfl⟩ := hv.len
  simp only [lst_len] at *
  clear hu hv
  unfold exP
  generalize hR : Option.getD _ (0 : Int) = R
  have HR := Lib.hid hR
  clear hR
  go_enter Try.func97, Try.ntmps97
  go_wp2_with fail
  refine HQ.out.mono ?_
  rintro e w1 ⟨v1, rfl, ho, hb⟩
  have HO1 := Lib.hid (RdI.of_own ho)
  have HB1 := Lib.hid hb
  have HQ2 := Lib.hid (l04Start_any n hn0 hn q _ w1 ((HV.out.below hb).more hb.size))
  obtain ⟨A1, c1, rfl, -⟩ := ho.cells
  clear hb ho
  go_wp2_with fail
  refine HQ2.out.mono ?_
  rintro e w2 ⟨v2, rfl, ho, hb⟩
  have HO2 := Lib.hid (RdI.of_own ho)
  have HP2 := Lib.hid ((HO1.out.below hb).more hb.size)
  have HB2 := Lib.hid (HB1.out.trans (hb.mono HB1.out.size))
  obtain ⟨A2, c2, rfl, -⟩ := ho.cells
  clear hb ho
  generalize stL n q = l at *
  generalize stL n p.inv = fl at *
  have hbig := HO2.out.len_le
  generalize hd : l.length = d at *
  have HD := Lib.hid hd
  clear hd
  go_wp2
  go_loopw [7] (fun i wr => ∃ (k : Nat), k ≤ d ∧ i = .int .i64 k ∧ Hid (R = ((l.drop k).find? fun x => !(fl.contains x)).getD 0) ∧ Below w2.heap.size w2 wr) (fun i _ => d - (intOf i).toNat)
  case atStart => exact ⟨0, Nat.zero_le _, rfl, HR.out.symm, Below.refl _ _⟩
  case round =>
    rename_i wr
    obtain ⟨k, hk, rfl, hd, hb⟩ := hrel
    by_cases hlt : k < d
    · obtain ⟨b, off, x, rfl, hbb, hlk, hc⟩ := (HO2.out.below hb).at_ hlt
      have HB := Lib.hid hb
      have HC := Lib.hid hc
      have HQ3 := Lib.hid (l00Has_any _ fl x wr ((HP2.out.below hb).more hb.size))
      cases hx : fl.contains x
      · have HN := Lib.hid (find_here hd.out hlk (by rw [hx]; rfl))
        rw [hx] at HQ3
        clear hb hlk hx
        go_wp2_with fail
        refine HQ3.out.mono ?_
        rintro e w3 ⟨rfl, hb3⟩
        have hc3 : w3.cell? ⟨b, off + k, none⟩ = some (.int .i64 x) := (hb3.cell (p := ⟨b, off + k, none⟩) (by have := HB.out.size; show b < wr.heap.size; omega)).trans HC.out
        have HB3 := Lib.hid (HB2.out.trans ((HB.out.trans (hb3.mono HB.out.size)).mono HB2.out.size))
        clear hb3
        go_wp2
        go_ret
        exact ⟨ret_int HN.out.symm, HB3.out⟩
      · have HN := Lib.hid (find_next hd.out hlk (by rw [hx]; rfl))
        rw [hx] at HQ3
        clear hb hlk hx
        go_wp2_with fail
        refine HQ3.out.mono ?_
        rintro e w3 ⟨rfl, hb3⟩
        have HB3 := Lib.hid (HB.out.trans (hb3.mono HB.out.size))
        clear hb3
        go_wp2
        exact ⟨⟨k + 1, by omega, by go_num, HN.out, HB3.out⟩, by simp [intOf]; omega⟩
    · have HB := Lib.hid (HB2.out.trans (hb.mono HB2.out.size))
      have HN := Lib.hid (show R = 0 by rw [hd.out, List.drop_of_length_le (by have := HD.out; omega)]; rfl)
      clear hb hd
      go_wp2
      go_ret
      exact ⟨ret_int HN.out.symm, HB.out⟩
/- the same of the program: missing name · impl.missing function -/
set_option maxHeartbeats 4000000 in
set_option maxRecDepth 100000 in
theorem missing_any (n : Nat) (hn0 : 0 < n) (hn : n ≤ 12) (p q : Pm) (hp : p.On n) (u v : Value) (w : World) (hu : RdI w w.heap.size u (lst n p)) (hv : RdI w w.heap.size v (lst n q)) :
    Calls Try.prog 114 #[u, v] w fun e w' => e = .returned (.int .i64 (exP n p q)) ∧ Below w.heap.size w w' := by
  have HQ := Lib.hid (invert_any n hn p hp u w hu)
  have HV := Lib.hid hv
  obtain ⟨A, c, rfl⟩ := hu.len
  obtain ⟨A', c', rfl⟩ := hv.len
  simp only [lst_len] at *
  clear hu hv
  unfold exP
  generalize hR : Option.getD _ (0 : Int) = R
  have HR := Lib.hid hR
  clear hR
  go_enter Try.func114, Try.ntmps114
  go_wp2_with fail
  refine HQ.out.mono ?_
  rintro e w0 ⟨v0, rfl, ho, hb⟩
  have HQ1 := Lib.hid (startLetters_any n hn0 hn p.inv v0 w0 (RdI.of_own ho))
  have HB0 := Lib.hid hb
  obtain ⟨A0, c0, rfl, -⟩ := ho.cells
  clear hb ho
  go_wp2_with fail
  refine HQ1.out.mono ?_
  rintro e w1 ⟨v1, rfl, ho, hb⟩
  have HO1 := Lib.hid (RdI.of_own ho)
  have HB1 := Lib.hid (HB0.out.trans (hb.mono HB0.out.size))
  have HQ2 := Lib.hid (startLetters_any n hn0 hn q _ w1 ((HV.out.below HB1.out).more HB1.out.size))
  obtain ⟨A1, c1, rfl, -⟩ := ho.cells
  clear hb ho
  go_wp2_with fail
  refine HQ2.out.mono ?_
  rintro e w2 ⟨v2, rfl, ho, hb⟩
  have HO2 := Lib.hid (RdI.of_own ho)
  have HP2 := Lib.hid ((HO1.out.below hb).more hb.size)
  have HB2 := Lib.hid (HB1.out.trans (hb.mono HB1.out.size))
  obtain ⟨A2, c2, rfl, -⟩ := ho.cells
  clear hb ho
  generalize stL n q = l at *
  generalize stL n p.inv = fl at *
  have hbig := HO2.out.len_le
  generalize hd : l.length = d at *
  have HD := Lib.hid hd
  clear hd
  go_wp2
  go_loopw [14] (fun i wr => ∃ (k : Nat), k ≤ d ∧ i = .int .i64 k ∧ Hid (R = ((l.drop k).find? fun x => !(fl.contains x)).getD 0) ∧ Below w2.heap.size w2 wr) (fun i _ => d - (intOf i).toNat)
  case atStart => exact ⟨0, Nat.zero_le _, rfl, HR.out.symm, Below.refl _ _⟩
  case round =>
    rename_i wr
    obtain ⟨k, hk, rfl, hd, hb⟩ := hrel
    by_cases hlt : k < d
    · obtain ⟨b, off, x, rfl, hbb, hlk, hc⟩ := (HO2.out.below hb).at_ hlt
      have HB := Lib.hid hb
      have HQ3 := Lib.hid (containsI_any _ fl x wr ((HP2.out.below hb).more hb.size))
      cases hx : fl.contains x
      · have HN := Lib.hid (find_here hd.out hlk (by rw [hx]; rfl))
        rw [hx] at HQ3
        clear hb hlk hx
        go_wp2_with fail
        refine HQ3.out.mono ?_
        rintro e w3 ⟨rfl, hb3⟩
        have HB3 := Lib.hid (HB2.out.trans ((HB.out.trans (hb3.mono HB.out.size)).mono HB2.out.size))
        clear hb3
        go_wp2
        go_ret
        exact ⟨ret_int HN.out.symm, HB3.out⟩
      · have HN := Lib.hid (find_next hd.out hlk (by rw [hx]; rfl))
        rw [hx] at HQ3
        clear hb hlk hx
        go_wp2_with fail
        refine HQ3.out.mono ?_
        rintro e w3 ⟨rfl, hb3⟩
        have HB3 := Lib.hid (HB.out.trans (hb3.mono HB.out.size))
        clear hb3
        go_wp2
        exact ⟨⟨k + 1, by omega, by go_num, HN.out, HB3.out⟩, by simp [intOf]; omega⟩
    · have HB := Lib.hid (HB2.out.trans (hb.mono HB2.out.size))
      have HN := Lib.hid (show R = 0 by rw [hd.out, List.drop_of_length_le (by have := HD.out; omega)]; rfl)
      clear hb hd
      go_wp2
      go_ret
      exact ⟨ret_int HN.out.symm, HB.out⟩

end Go.Proofs.Ytfeonaocmnpkcaa
