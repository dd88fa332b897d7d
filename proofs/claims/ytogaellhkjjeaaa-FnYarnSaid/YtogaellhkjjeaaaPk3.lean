/-
  Texts joined: PlF, McAsk, McNb, McRes, McKids, McRes2, McState, McUndo, McUndo2, McTop, McCounts, McCourse, McCourse2, McRun, McRunTop.
-/
import Derived.Test.YtogaellhkjjeaaaMcFab
import Derived.Test.YtogaellhkjjeaaaPk1
import Derived.Test.YtogaellhkjjeaaaMcAsk0
import Derived.Test.YtogaellhkjjeaaaMcYarn
import Derived.OwnWalk
import Derived.Test.YtogaellhkjjeaaaSpot
import Derived.StillTailTactics
import Derived.Deep.RegionHeld3
/-
  Plain laws of a valid machine's fabric: yarns, courses, wales, states, and what comes undone.
-/
namespace Go.Proofs.Ytogaellhkjjeaaa
set_option linter.unusedVariables false
set_option linter.unusedSimpArgs false
open Go.RowKit

/-! ### Yarns -/
theorem yarn_sum : ∀ (l : List Inf) (i : Int), (∀ x ∈ l, 1 ≤ x.y ∧ x.y ≤ 4) → (yarnGo 1 i l).length + (yarnGo 2 i l).length + (yarnGo 3 i l).length + (yarnGo 4 i l).length = l.length
  | [], i, _ => by simp [yarnGo]
  | x :: t, i, h => by
    have ih := yarn_sum t (i + 1) (fun y hy => h y (by simp [hy]))
    have hx := h x (by simp)
    obtain e | e | e | e : x.y = 1 ∨ x.y = 2 ∨ x.y = 3 ∨ x.y = 4 := by omega
    all_goals
      simp only [yarnGo, e, List.length_cons]
      simp
      omega

/-! ### Courses -/
theorem fold_ge {acc : List Int} : ∀ (ps : List Int) (n : Int), n ≤ ps.foldl (cmx acc) n ∧ ∀ p ∈ ps, acc.getD p.toNat 0 + 1 ≤ ps.foldl (cmx acc) n
  | [], n => ⟨Int.le_refl _, by simp⟩
  | q :: t, n => by
    have ih := fold_ge (acc := acc) t (cmx acc n q)
    have hm : n ≤ cmx acc n q ∧ acc.getD q.toNat 0 + 1 ≤ cmx acc n q := by
      unfold cmx
      exact ⟨Int.le_max_left _ _, Int.le_max_right _ _⟩
    rw [List.foldl_cons]
    refine ⟨Int.le_trans hm.1 ih.1, fun p hp => ?_⟩
    rcases List.mem_cons.1 hp with rfl | hp
    · exact Int.le_trans hm.2 ih.1
    · exact ih.2 p hp
theorem cgo_app : ∀ (a b : List Inf) (acc : List Int), cgo acc (a ++ b) = cgo (cgo acc a) b
  | [], b, acc => rfl
  | x :: a, b, acc => by rw [List.cons_append, cgo, cgo, cgo_app a b]
def coL (m : Mc) (k : Int) : Int := (cgo [] m.ls).getD k.toNat 0
theorem cgo_split {m : Mc} {k : Nat} {x : Inf} (hx : m.ls[k]? = some x) : ∃ acc, acc.length = k ∧ (∀ j, j < k → (cgo [] m.ls).getD j 0 = acc.getD j 0) ∧ (cgo [] m.ls).getD k 0 = cst acc x := by
  have hk := (List.getElem?_eq_some_iff.1 hx).1
  have e : m.ls = m.ls.take k ++ x :: m.ls.drop (k + 1) := by rw [← drop_of_get hx, List.take_append_drop]
  have hl : (cgo [] (m.ls.take k)).length = k := by rw [cgo_len]; simp; omega
  have e2 : cgo [] m.ls = cgo (cgo [] (m.ls.take k) ++ [cst (cgo [] (m.ls.take k)) x]) (m.ls.drop (k + 1)) := by
    conv => lhs; rw [e]
    rw [cgo_app]
    rfl
  generalize cgo [] (m.ls.take k) = acc at *
  refine ⟨acc, hl, fun j hj => ?_, ?_⟩
  · rw [e2, cgo_at (by simp; omega), List.getD_eq_getElem?_getD, List.getD_eq_getElem?_getD, List.getElem?_append_left (by omega)]
  · rw [e2, cgo_at (by simp; omega), List.getD_eq_getElem?_getD, List.getElem?_append_right (by omega), hl]
    simp
theorem co_nn (m : Mc) (k : Int) : 0 ≤ coL m k := by
  unfold coL
  rw [List.getD_eq_getElem?_getD]
  cases hx : m.ls[k.toNat]? with
  | none =>
    have : (cgo [] m.ls)[k.toNat]? = none := by
      rw [List.getElem?_eq_none_iff] at hx ⊢
      rw [cgo_len]
      simpa using hx
    rw [this]
    simp
  | some x =>
    obtain ⟨acc, _, _, h⟩ := cgo_split hx
    rw [List.getD_eq_getElem?_getD] at h
    rw [h]
    exact (fold_ge x.ps 0).1
/-- A loop's course is greater than those of its parents. -/
theorem co_par {m : Mc} {k : Nat} {x : Inf} {p : Int} (hx : m.ls[k]? = some x) (hp : p ∈ x.ps) (h0 : 0 ≤ p) (h1 : p < k) : coL m p + 1 ≤ coL m (k : Int) := by
  obtain ⟨acc, hl, ha, hb⟩ := cgo_split hx
  have := (fold_ge (acc := acc) x.ps 0).2 p hp
  unfold coL
  rw [show ((k : Int)).toNat = k by omega, hb, ha p.toNat (by omega)]
  exact this
theorem co_child {m : Mc} (ok : okM m = true) {c k : Int} (hk : k ∈ chL m c) (h0 : 0 ≤ c) : coL m c < coL m k := by
  obtain ⟨j, x, h1, h2, h3⟩ := chGo_mem hk
  have h4 : c ∈ x.ps := by simpa using h3
  have h5 := (ok_loop ok h2).1 c h4
  have := co_par h2 h4 h5.1 h5.2
  obtain rfl : k = (j : Int) := by omega
  omega

theorem cgo_small : ∀ (l : List Inf) (acc : List Int), Small acc → (∀ (j : Nat) (x : Inf), l[j]? = some x → ∀ p ∈ x.ps, 0 ≤ p ∧ p < (acc.length : Int) + (j : Int)) → Small (cgo acc l)
  | [], acc, h, _ => h
  | x :: t, acc, h, hp => by
    rw [cgo]
    refine cgo_small t _ (small_next h (fun p hpx => by have := hp 0 x rfl p hpx; omega)) (fun j y hy p hpy => ?_)
    have := hp (j + 1) y (by simpa using hy) p hpy
    simp
    omega
theorem co_le {m : Mc} (ok : okM m = true) {k : Nat} (hk : k < m.ls.length) : coL m (k : Int) ≤ k := by
  have hs := cgo_small m.ls [] (fun j z h => by simp at h) (fun j x hx p hp => by have := (ok_loop ok hx).1 p hp; simp; exact this)
  unfold coL
  rw [show ((k : Int)).toNat = k by omega, List.getD_eq_getElem?_getD]
  cases hx : (cgo [] m.ls)[k]? with
  | none => simp
  | some z => exact (hs k z hx).2

/-! ### Wales -/
theorem wale_co {m : Mc} (ok : okM m = true) : ∀ (f : Nat) (k : Int), 0 ≤ k → k < m.ls.length → ((waleT m f k).length : Int) ≤ coL m k
  | 0, k, h0, h1 => by have := co_nn m k; simpa [waleT] using this
  | f + 1, k, h0, h1 => by
    have hn := co_nn m k
    rw [waleT]
    split
    · simpa using hn
    · rename_i x hx
      split
      · simpa using hn
      · rename_i p t hp
        have hpm : p ∈ x.ps := by rw [hp]; simp
        have h2 := (ok_loop ok hx).1 p hpm
        have ih := wale_co ok f p h2.1 (by omega)
        have h3 := co_par hx hpm h2.1 h2.2
        rw [show ((k.toNat : Nat) : Int) = k by omega] at h3
        rw [List.length_cons]
        omega
theorem waleL_co {m : Mc} (ok : okM m = true) {k : Int} (h0 : 0 ≤ k) (h1 : k < m.ls.length) : ((waleL m k).length : Int) ≤ coL m k + 1 := by
  have := wale_co ok (k.toNat + 1) k h0 h1
  unfold waleL
  rw [List.length_cons]
  omega
theorem wale_lt {m : Mc} (ok : okM m = true) : ∀ (f : Nat) (k : Int), 0 ≤ k → (∀ z ∈ waleT m f k, z < k) ∧ (waleT m f k).Nodup
  | 0, k, h0 => by simp [waleT]
  | f + 1, k, h0 => by
    rw [waleT]
    split
    · simp
    · rename_i x hx
      split
      · simp
      · rename_i p t hp
        have hpm : p ∈ x.ps := by rw [hp]; simp
        have h2 := (ok_loop ok hx).1 p hpm
        have ih := wale_lt ok f p h2.1
        refine ⟨fun z hz => ?_, List.nodup_cons.2 ⟨fun hz => ?_, ih.2⟩⟩
        · rcases List.mem_cons.1 hz with rfl | hz
          · omega
          · have := ih.1 z hz; omega
        · have := ih.1 p hz; omega
theorem waleL_nodup {m : Mc} (ok : okM m = true) {k : Int} (h0 : 0 ≤ k) : (waleL m k).Nodup := by
  have h := wale_lt ok (k.toNat + 1) k h0
  exact List.nodup_cons.2 ⟨fun hz => by have := h.1 k hz; omega, h.2⟩
theorem nodup_sub : ∀ (l r : List Int), l.Nodup → (∀ x ∈ l, x ∈ r) → l.length ≤ r.length
  | [], r, _, _ => by simp
  | x :: t, r, hn, hs => by
    obtain ⟨h1, h2⟩ := List.nodup_cons.1 hn
    have hx := hs x (by simp)
    have ih := nodup_sub t (r.erase x) h2 (fun y hy => (List.mem_erase_of_ne (fun e : y = x => h1 (by rw [← e]; exact hy))).2 (hs y (by simp [hy])))
    rw [List.length_erase_of_mem hx] at ih
    have := List.length_pos_of_mem hx
    simp
    omega
theorem lad_take (r : List Int) : ∀ l : List Int, ∀ x ∈ l.take (ladN r l), x ∈ r
  | [] => by simp [ladN]
  | k :: t => by
    rw [ladN]
    split
    · rename_i h
      intro x hx
      rw [List.take_succ_cons] at hx
      rcases List.mem_cons.1 hx with rfl | hx
      · simpa using h
      · exact lad_take r t x hx
    · simp
theorem lad_len (r : List Int) : ∀ l : List Int, ladN r l ≤ l.length
  | [] => Nat.le_refl _
  | x :: t => by
    have := lad_len r t
    rw [ladN]
    split <;> simp <;> omega
theorem lad_run {r l : List Int} (h : l.Nodup) : ladN r l ≤ r.length := by
  have h1 := nodup_sub (l.take (ladN r l)) r (h.sublist (List.take_sublist _ _)) (lad_take r l)
  rw [List.length_take, Nat.min_eq_left (lad_len r l)] at h1
  exact h1
theorem lad_pos (r : List Int) (k : Int) (t : List Int) : decide (0 < (ladN r (k :: t) : Int)) = r.contains k := by
  rw [ladN]
  cases h : r.contains k
  · simp
  · simp

/-! ### Counts -/
theorem kind_rng' (k : Int) : 0 ≤ kindJ k ∧ kindJ k ≤ 2 := by
  unfold kindJ
  split
  · omega
  · split <;> omega
theorem fc_low (m : Mc) : ∀ n : Nat, fcF m n 0 + fcF m n 1 + fcF m n 2 = n
  | 0 => by simp [fcF]
  | n + 1 => by
    have ih := fc_low m n
    have h1 := kind_rng' ((m.ls[n]?).elim 0 Inf.k)
    have h2 := stM_rng m n
    simp only [fcF]
    generalize kindJ ((m.ls[n]?).elim 0 Inf.k) = a at *
    generalize stM m n = b at *
    rw [if_neg (show ¬ 2 + b = 0 by omega), if_neg (show ¬ 2 + b = 1 by omega), if_neg (show ¬ 2 + b = 2 by omega)]
    obtain rfl | rfl | rfl : a = 0 ∨ a = 1 ∨ a = 2 := by omega
    all_goals simp; omega
theorem fc_high (m : Mc) : ∀ n : Nat, fcF m n 3 + fcF m n 4 + fcF m n 5 + fcF m n 6 = n
  | 0 => by simp [fcF]
  | n + 1 => by
    have ih := fc_high m n
    have h1 := kind_rng' ((m.ls[n]?).elim 0 Inf.k)
    have h2 := stM_rng m n
    simp only [fcF]
    generalize kindJ ((m.ls[n]?).elim 0 Inf.k) = a at *
    generalize stM m n = b at *
    rw [if_neg (show ¬ a = 3 by omega), if_neg (show ¬ a = 4 by omega), if_neg (show ¬ a = 5 by omega), if_neg (show ¬ a = 6 by omega)]
    obtain rfl | rfl | rfl | rfl : b = 1 ∨ b = 2 ∨ b = 3 ∨ b = 4 := by omega
    all_goals simp; omega
def cntN (d : List Int) : Nat → Int
  | 0 => 0
  | n + 1 => cntN d n + (if d.contains (n : Int) = true then 1 else 0)
theorem cnt_nil : ∀ n, cntN [] n = 0
  | 0 => rfl
  | n + 1 => by rw [cntN, cnt_nil n]; simp
theorem cnt_cons (x : Int) (d : List Int) : ∀ n, cntN (x :: d) n ≤ cntN d n + (if x < n then 1 else 0)
  | 0 => by simp [cntN]; split <;> omega
  | n + 1 => by
    have ih := cnt_cons x d n
    rw [cntN, cntN]
    by_cases h1 : d.contains (n : Int) = true
    · rw [if_pos h1, if_pos (by simp at h1 ⊢; exact .inr h1)]
      split at ih <;> split <;> omega
    · rw [if_neg h1]
      by_cases h2 : (n : Int) = x
      · rw [if_neg (show ¬ x < (n : Int) by omega)] at ih
        rw [if_pos (show x < ((n + 1 : Nat) : Int) by omega)]
        split <;> omega
      · rw [if_neg (by simp at h1 ⊢; exact ⟨h2, h1⟩)]
        split at ih <;> split <;> omega
theorem cnt_le : ∀ (d : List Int) (n : Nat), cntN d n ≤ d.length
  | [], n => by rw [cnt_nil]; simp
  | x :: d, n => by
    have h1 := cnt_cons x d n
    have h2 := cnt_le d n
    rw [List.length_cons]
    split at h1 <;> omega
theorem fc_drop (m : Mc) : ∀ n : Nat, fcF m n 5 ≤ cntN m.dr n
  | 0 => by simp [fcF, cntN]
  | n + 1 => by
    have ih := fc_drop m n
    have h1 := kind_rng' ((m.ls[n]?).elim 0 Inf.k)
    rw [fcF, cntN, if_neg (show ¬ kindJ ((m.ls[n]?).elim 0 Inf.k) = 5 by omega)]
    by_cases h2 : m.dr.contains (n : Int) = true
    · rw [if_pos h2]
      split <;> omega
    · rw [if_neg h2, if_neg]
      · omega
      · unfold stM
        rw [if_neg h2]
        split
        · omega
        · split <;> omega

/-! ### What comes undone -/
theorem undR_drop (m : Mc) (H : Int → Bool) (d : Nat) : ∀ e, (undR m H (d + e)).drop e = undR m H d
  | 0 => rfl
  | e + 1 => by rw [← Nat.add_assoc, undR, List.drop_succ_cons, undR_drop m H d e]
theorem undL_at {m : Mc} (ok : okM m = true) (H : Int → Bool) {i : Nat} (hi : i < m.ls.length) : (undL m H)[i]? = some (!H (i : Int) && (chL m (i : Int)).all fun k => (undL m H).getD k.toNat false) := by
  have hd := undR_drop m H (m.ls.length - i) i
  rw [show m.ls.length - i + i = m.ls.length by omega] at hd
  have e1 : undR m H (m.ls.length - i) = undR m H (m.ls.length - i - 1 + 1) := by rw [show m.ls.length - i - 1 + 1 = m.ls.length - i by omega]
  have hd2 := undR_drop m H (m.ls.length - i - 1) (i + 1)
  rw [show m.ls.length - i - 1 + (i + 1) = m.ls.length by omega] at hd2
  have h0 : (undL m H)[i]? = ((undL m H).drop i)[0]? := by rw [List.getElem?_drop, Nat.add_zero]
  have key : ∀ k ∈ chL m (i : Int), (undR m H (m.ls.length - i - 1)).getD (k - ((m.ls.length : Int) - ((m.ls.length - i - 1 : Nat) : Int))).toNat false = (undL m H).getD k.toNat false := fun k hk => by
    have hr := chL_rng ok hk
    unfold undL
    rw [← hd2, List.getD_eq_getElem?_getD, List.getD_eq_getElem?_getD, List.getElem?_drop, show i + 1 + (k - ((m.ls.length : Int) - ((m.ls.length - i - 1 : Nat) : Int))).toNat = k.toNat by omega]
  have hall : ((chL m (i : Int)).all fun k => (undR m H (m.ls.length - i - 1)).getD (k - ((m.ls.length : Int) - ((m.ls.length - i - 1 : Nat) : Int))).toNat false) = ((chL m (i : Int)).all fun k => (undL m H).getD k.toNat false) := by
    rw [Bool.eq_iff_iff, List.all_eq_true, List.all_eq_true]
    exact ⟨fun h k hk => by rw [← key k hk]; exact h k hk, fun h k hk => by rw [key k hk]; exact h k hk⟩
  rw [← hall, h0]
  show ((undR m H m.ls.length).drop i)[0]? = _
  rw [hd, e1, undR, List.getElem?_cons_zero, show (m.ls.length : Int) - (((m.ls.length - i - 1 : Nat) : Int) + 1) = (i : Int) by omega]
theorem undL_len (m : Mc) (H : Int → Bool) : (undL m H).length = m.ls.length := undR_len m H _
/-- A loop that comes undone without another one. -/
structure RunAt (m : Mc) (k i : Int) : Prop where
  lo : 0 ≤ i
  hi : i < m.ls.length
  then_ : (undL m (thenB m k))[i.toNat]? = some true
  now : (undL m (hasB (liveL m)))[i.toNat]? = some false
theorem run_iff {m : Mc} {k i : Int} : i ∈ runL m k ↔ RunAt m k i := by
  unfold runL
  rw [idxT_mem]
  unfold runB
  rw [Int.sub_zero, List.getElem?_zipWith]
  constructor
  · rintro ⟨h1, h2⟩
    cases ha : (undL m (thenB m k))[i.toNat]? with
    | none => rw [ha] at h2; simp at h2
    | some a =>
      cases hb : (undL m (hasB (liveL m)))[i.toNat]? with
      | none => rw [ha, hb] at h2; simp at h2
      | some b =>
        rw [ha, hb] at h2
        simp at h2
        obtain ⟨rfl, rfl⟩ := h2
        have := (List.getElem?_eq_some_iff.1 ha).1
        rw [undL_len] at this
        exact ⟨h1, by omega, ha, hb⟩
  · rintro ⟨h1, h2, h3, h4⟩
    exact ⟨h1, by rw [h3, h4]; rfl⟩
theorem gone_iff {m : Mc} {i : Int} : i ∈ undone m ↔ 0 ≤ i ∧ (undL m (hasB (liveL m)))[i.toNat]? = some true := by
  unfold undone
  rw [idxT_mem, Int.sub_zero]
theorem RunAt.gone {m : Mc} {k i : Int} (h : RunAt m k i) : i ∉ undone m := fun hg => by
  have := (gone_iff.1 hg).2
  rw [h.now] at this
  cases this
theorem RunAt.live {m : Mc} {k i : Int} (ok : okM m = true) (h : RunAt m k i) (hne : i ≠ k) : i ∉ liveL m := fun hl => by
  have h1 := undL_at ok (thenB m k) (i := i.toNat) (by have := h.lo; have := h.hi; omega)
  rw [h.then_] at h1
  injection h1 with h1
  have h2 : thenB m k i = true := by
    unfold thenB hasB
    rw [Bool.and_eq_true]
    exact ⟨by simpa using hl, by simpa using hne⟩
  rw [show ((i.toNat : Nat) : Int) = i by have := h.lo; omega, h2] at h1
  simp at h1
theorem RunAt.child {m : Mc} {k i c : Int} (ok : okM m = true) (h : RunAt m k i) (hc : c ∈ chL m i) : c ∈ runL m k ∨ c ∈ undone m := by
  have h1 := undL_at ok (thenB m k) (i := i.toNat) (by have := h.lo; have := h.hi; omega)
  rw [h.then_] at h1
  injection h1 with h1
  rw [show ((i.toNat : Nat) : Int) = i by have := h.lo; omega] at h1
  have h2 := (Bool.and_eq_true _ _ ▸ h1.symm : _ ∧ _).2
  have h3 := List.all_eq_true.1 h2 c hc
  have hr := chL_rng ok hc
  have h0 := h.lo
  have hlt : c.toNat < m.ls.length := by omega
  have hA : (undL m (thenB m k))[c.toNat]? = some true := by
    rw [List.getD_eq_getElem?_getD] at h3
    cases hx : (undL m (thenB m k))[c.toNat]? with
    | none => rw [hx] at h3; simp at h3
    | some b => rw [hx] at h3; simp at h3; rw [h3]
  cases hb : (undL m (hasB (liveL m)))[c.toNat]? with
  | none =>
    rw [List.getElem?_eq_none_iff, undL_len] at hb
    omega
  | some b =>
    cases b
    · exact .inl (run_iff.2 ⟨by omega, by omega, hA, hb⟩)
    · exact .inr (gone_iff.2 ⟨by omega, hb⟩)

end Go.Proofs.Ytogaellhkjjeaaa

/-
  loopCode of the program, l11Ask of the reference: the code of a machine and a loop.
-/
namespace Go.Proofs.Ytogaellhkjjeaaa
set_option linter.unusedVariables false
set_option linter.unusedSimpArgs false
open Go.RowKit

set_option maxHeartbeats 2000000 in
set_option maxRecDepth 100000 in
theorem loopCode_any (v : Value) (m : Mc) (k : Int) (w : World) (hl : RdM w w.heap.size v m) :
    Calls Try.prog 61 #[v, .int .i64 k] w fun e w' => e = .returned (.int .i64 (askC m k)) ∧ Below w.heap.size w w' := by
  have hl0 := hl
  obtain ⟨f, b, cs, ls, d, rfl, h1, h2, h3, h4, h5, h6⟩ := hl
  obtain ⟨AF, cF, rfl⟩ := RdN.shape h1
  obtain ⟨AG, cG, rfl⟩ := RdN.shape h2
  obtain ⟨AC, cC, rfl⟩ := RdS.lens h3
  obtain ⟨AI, cI, rfl⟩ := RdN.shape h4
  obtain ⟨AD, cD, rfl⟩ := RdI.len h5
  have b4 := RdN.le h4
  have HL := Lib.hid hl0
  clear h1 h2 h3 h4 h5 h6 hl0
  have hcl : ∀ w1, Below (w.alloc (.cells #[.int .i64 m.wd, .int .i64 m.rk, .slice AF m.fr.length cF, .slice AG m.bk.length cG, .slice AC m.cs.length cC, .slice AI m.ls.length cI, .slice AD m.dr.length cD] 29)).heap.size (w.alloc (.cells #[.int .i64 m.wd, .int .i64 m.rk, .slice AF m.fr.length cF, .slice AG m.bk.length cG, .slice AC m.cs.length cC, .slice AI m.ls.length cI, .slice AD m.dr.length cD] 29)) w1 →
      CellsAt w1 w.heap.size 0 [.int .i64 m.wd, .int .i64 m.rk, .slice AF m.fr.length cF, .slice AG m.bk.length cG, .slice AC m.cs.length cC, .slice AI m.ls.length cI, .slice AD m.dr.length cD] := fun w1 hb => CellsAt.below CellsAt.of_alloc hb (by simp)
  have HCL := Lib.hid hcl
  clear hcl
  have BW := Lib.hid (show Below w.heap.size w (w.alloc (.cells #[.int .i64 m.wd, .int .i64 m.rk, .slice AF m.fr.length cF, .slice AG m.bk.length cG, .slice AC m.cs.length cC, .slice AI m.ls.length cI, .slice AD m.dr.length cD] 29)) from (Below.refl _ _).alloc (Nat.le_refl _) _)
  cases hok : okM m
  · have HK := Lib.hid hok
    have HN := Lib.hid (ask_bad (k := k) hok)
    rw [HN.out]
    clear hok
    go_enter Try.func61, Try.ntmps61
    go_wp2_with fail
    refine (validMachine_any _ m _ (HL.out.up BW.out BW.out.size)).mono ?_
    rintro e w1 ⟨rfl, hb⟩
    rw [HK.out]
    have HB := Lib.hid (BW.out.trans (hb.mono BW.out.size))
    clear hb
    go_wp2
    go_ret
    exact ⟨rfl, HB.out⟩
  · have HK := Lib.hid hok
    have hl3 := ls_len hok
    cases hin : inB 0 k ((m.ls.length : Int) - 1)
    all_goals
      first
        | have HN := Lib.hid (ask_rng (k := k) hok hin)
        | have HN := Lib.hid (ask_ok (k := k) hok hin)
      rw [HN.out]
      have HI := Lib.hid hin
      clear hin
      go_enter Try.func61, Try.ntmps61
      go_wp2_with fail
      refine (validMachine_any _ m _ (HL.out.up BW.out BW.out.size)).mono ?_
      rintro e w1 ⟨rfl, hb⟩
      rw [HK.out]
      obtain ⟨x0, x1, x2, x3, x4, x5, x6⟩ := (HCL.out _ hb).seven
      have HB := Lib.hid (BW.out.trans (hb.mono BW.out.size))
      clear hb
      go_wp2_with (go_at_call 117; refine (within_s _ _ _ _).mono ?_; rintro e w' ⟨rfl, rfl⟩; rw [HI.out])
      go_ret
      exact ⟨rfl, HB.out⟩

set_option maxHeartbeats 2000000 in
set_option maxRecDepth 100000 in
theorem l11Ask_any (m : Mc) (F G C L D : Value) (g : Nat) (k : Int) (w : World) (hc : CellsAt w g 0 [.int .i64 m.wd, .int .i64 m.rk, F, G, C, L, D]) (hF : RdLL w w.heap.size F m.fr) (hG : RdLL w w.heap.size G m.bk) (hC : RdCs w w.heap.size C m.cs) (hL : RdIs w w.heap.size L m.ls) (hD : RdI w w.heap.size D m.dr) (hdr : m.dr.length ≤ 1048576) :
    Calls Try.prog 78 #[.pointer (some ⟨g, 0, none⟩), .int .i64 k] w fun e w' => e = .returned (.int .i64 (askC m k)) ∧ Below w.heap.size w w' := by
  have H := Lib.hid (l07Ok_any m F G C L D g w hc hF hG hC hL hD hdr)
  obtain ⟨AI, cI, rfl⟩ := RdN.shape hL
  have HC := Lib.hid hc
  have hgl : g < w.heap.size := block_lt_of_cell hc.seven.1
  clear hc hF hG hC hL hD hdr
  cases hok : okM m
  · have HK := Lib.hid hok
    have HN := Lib.hid (ask_bad (k := k) hok)
    rw [HN.out]
    clear hok
    go_enter Try.func78, Try.ntmps78
    go_wp2_with fail
    refine H.out.mono ?_
    rintro e w1 ⟨rfl, hb⟩
    rw [HK.out]
    have HB := Lib.hid hb
    clear hb
    go_wp2
    go_ret
    exact ⟨rfl, HB.out⟩
  · have HK := Lib.hid hok
    have hl3 := ls_len hok
    cases hin : inB 0 k ((m.ls.length : Int) - 1)
    all_goals
      first
        | have HN := Lib.hid (ask_rng (k := k) hok hin)
        | have HN := Lib.hid (ask_ok (k := k) hok hin)
      rw [HN.out]
      have HI := Lib.hid hin
      clear hin
      go_enter Try.func78, Try.ntmps78
      go_wp2_with fail
      refine H.out.mono ?_
      rintro e w1 ⟨rfl, hb⟩
      rw [HK.out]
      obtain ⟨x0, x1, x2, x3, x4, x5, x6⟩ := (HC.out.below hb hgl).seven
      have HB := Lib.hid hb
      clear hb
      go_wp2_with (go_at_call 122; refine (l00In_s _ _ _ _).mono ?_; rintro e w' ⟨rfl, rfl⟩; rw [HI.out])
      go_ret
      exact ⟨rfl, HB.out⟩

end Go.Proofs.Ytogaellhkjjeaaa

/-
  YarnNeighbours of the program and of the reference.
-/
namespace Go.Proofs.Ytogaellhkjjeaaa
set_option linter.unusedVariables false
set_option linter.unusedSimpArgs false
open Go.RowKit

theorem yarn_app (c : Int) : ∀ (a b : List Inf) (i : Int), yarnGo c i (a ++ b) = yarnGo c i a ++ yarnGo c (i + a.length) b
  | [], b, i => by simp [yarnGo]
  | x :: a, b, i => by
    rw [List.cons_append, yarnGo, yarnGo, yarn_app c a b (i + 1)]
    have : i + 1 + (a.length : Int) = i + ((x :: a).length : Int) := by simp; omega
    rw [this]
    split <;> rfl
theorem yarn_mem (c : Int) : ∀ (l : List Inf) (i z : Int), z ∈ yarnGo c i l → i ≤ z ∧ z < i + l.length
  | [], i, z, h => by simp [yarnGo] at h
  | x :: t, i, z, h => by
    rw [yarnGo] at h
    have hl : ((x :: t).length : Int) = t.length + 1 := by simp
    rw [hl]
    split at h
    · rcases List.mem_cons.1 h with rfl | h
      · omega
      · have := yarn_mem c t _ z h; omega
    · have := yarn_mem c t _ z h; omega
theorem yarn_len (c : Int) : ∀ (l : List Inf) (i : Int), (yarnGo c i l).length ≤ l.length
  | [], i => by simp [yarnGo]
  | x :: t, i => by
    rw [yarnGo]
    have := yarn_len c t (i + 1)
    split <;> simp <;> omega
/-- Where a loop lies on its own yarn. -/
theorem yarn_split {l : List Inf} {k : Nat} {x : Inf} (hx : l[k]? = some x) : ∃ P S, yarnGo x.y 0 l = P ++ (k : Int) :: S ∧ (∀ z ∈ P, z < (k : Int)) ∧ (∀ z ∈ S, (k : Int) < z) ∧ P.length + 1 + S.length ≤ l.length := by
  have hk : k < l.length := (List.getElem?_eq_some_iff.1 hx).1
  have hl : l = l.take k ++ x :: l.drop (k + 1) := by rw [← drop_of_get hx, List.take_append_drop]
  have htk : (l.take k).length = k := by simp; omega
  have e : yarnGo x.y 0 l = yarnGo x.y 0 (l.take k) ++ (k : Int) :: yarnGo x.y ((k : Int) + 1) (l.drop (k + 1)) := by
    conv => lhs; rw [hl]
    rw [yarn_app, htk, yarnGo, if_pos rfl]
    simp
  refine ⟨_, _, e, fun z hz => ?_, fun z hz => ?_, ?_⟩
  · have := yarn_mem _ _ _ _ hz
    rw [htk] at this
    omega
  · have := yarn_mem _ _ _ _ hz
    omega
  · have h1 := yarn_len x.y (l.take k) 0
    have h2 := yarn_len x.y (l.drop (k + 1)) ((k : Int) + 1)
    rw [htk] at h1
    simp at h2
    omega

/-- The reference's search: the last below k, the first above. -/
def nbF (k : Int) : Int → Int → List Int → Int × Int
  | b, a, [] => (b, a)
  | b, a, z :: t => nbF k (if z < k then z else b) (if k < z ∧ a < 0 then z else a) t
theorem nbF_hi {k : Int} (hk : 0 ≤ k) : ∀ (S : List Int) (b a : Int), (∀ z ∈ S, k < z) → 0 ≤ a → nbF k b a S = (b, a)
  | [], b, a, h, ha => rfl
  | z :: t, b, a, h, ha => by
    have hz := h z (by simp)
    rw [nbF, if_neg (by omega), if_neg (by omega)]
    exact nbF_hi hk t b a (fun y hy => h y (by simp [hy])) ha
theorem nbF_mid {k : Int} (hk : 0 ≤ k) {S : List Int} (b : Int) (h : ∀ z ∈ S, k < z) : nbF k b (-1) (k :: S) = (b, S.head?.getD (-1)) := by
  rw [nbF, if_neg (by omega), if_neg (by omega)]
  cases S with
  | nil => rfl
  | cons z t =>
    have hz := h z (by simp)
    rw [nbF, if_neg (by omega), if_pos ⟨hz, by omega⟩]
    exact nbF_hi hk t b z (fun y hy => h y (by simp [hy])) (by omega)
theorem nbF_lo {k : Int} (hk : 0 ≤ k) {S : List Int} (hS : ∀ z ∈ S, k < z) : ∀ (P : List Int) (b : Int), (∀ z ∈ P, z < k) → nbF k b (-1) (P ++ k :: S) = (P.getLast?.getD b, S.head?.getD (-1))
  | [], b, h => by simpa using nbF_mid hk b hS
  | z :: t, b, h => by
    have hz := h z (by simp)
    rw [List.cons_append, nbF, if_pos hz, if_neg (by omega), nbF_lo hk hS t z (fun y hy => h y (by simp [hy]))]
    congr 1
    cases t with
    | nil => rfl
    | cons y u => simp [List.getLast?_cons]
theorem idx_split {k : Int} : ∀ (P : List Int) (S : List Int) (j : Nat), (∀ z ∈ P, z < k) → idxFrom (fun y => y == k) j (P ++ k :: S) = ((j + P.length : Nat) : Int)
  | [], S, j, h => by simp [idxFrom]
  | z :: t, S, j, h => by
    have hz := h z (by simp)
    rw [List.cons_append, idxFrom, if_neg (by simp; omega), idx_split t S (j + 1) (fun y hy => h y (by simp [hy]))]
    congr 1
    simp
    omega

def nbL (m : Mc) (k : Int) : List Int := match m.ls[k.toNat]? with | some x => yarnGo x.y 0 m.ls | none => []
def nb0 (m : Mc) (k : Int) : Int := if askC m k = 0 then (nbF k (-1) (-1) (nbL m k)).1 else 0
def nb1 (m : Mc) (k : Int) : Int := if askC m k = 0 then (nbF k (-1) (-1) (nbL m k)).2 else 0
def nbR (m : Mc) (k : Int) (e : Ending) : Prop := e = .returned (.tuple #[.int .i64 (nb0 m k), .int .i64 (nb1 m k), .int .i64 (askC m k)])
theorem ask_zeroN {m : Mc} {k : Int} (h : askC m k = 0) : okM m = true ∧ 0 ≤ k ∧ k < m.ls.length := by
  unfold askC at h
  cases ho : okM m
  · simp [ho] at h
  · cases hi : inB 0 k ((m.ls.length : Int) - 1)
    · simp [ho, hi] at h
    · have := inB_iff.1 hi
      exact ⟨rfl, by omega, by omega⟩


theorem last_at {P T : List Int} (h : 0 < P.length) : (P ++ T)[P.length - 1]? = some (P.getLast?.getD (-1)) := by
  rw [List.getElem?_append_left (by omega), List.getLast?_eq_getElem?]
  rw [List.getElem?_eq_getElem (by omega)]
  rfl
theorem head_at {P S : List Int} {k : Int} (h : 0 < S.length) : (P ++ k :: S)[P.length + 1]? = some (S.head?.getD (-1)) := by
  rw [List.getElem?_append_right (by omega), show P.length + 1 - P.length = 1 by omega]
  cases S with
  | nil => simp at h
  | cons z t => rfl

set_option maxHeartbeats 8000000 in
set_option maxRecDepth 100000 in
theorem implNb_any (v : Value) (m : Mc) (k : Int) (w : World) (hl : RdM w w.heap.size v m) (hf : FitM m) :
    Calls Try.prog 14 #[v, .int .i64 k] w fun e w' => nbR m k e ∧ Below w.heap.size w w' := by
  have hl0 := hl
  obtain ⟨f, b, cs, ls, d, rfl, h1, h2, h3, h4, h5, h6⟩ := hl
  obtain ⟨AF, cF, rfl⟩ := RdN.shape h1
  obtain ⟨AG, cG, rfl⟩ := RdN.shape h2
  obtain ⟨AC, cC, rfl⟩ := RdS.lens h3
  obtain ⟨AI, cI, rfl⟩ := RdN.shape h4
  obtain ⟨AD, cD, rfl⟩ := RdI.len h5
  have BW := Lib.hid (show Below w.heap.size w (w.alloc (.cells #[.int .i64 m.wd, .int .i64 m.rk, .slice AF m.fr.length cF, .slice AG m.bk.length cG, .slice AC m.cs.length cC, .slice AI m.ls.length cI, .slice AD m.dr.length cD] 29)) from (Below.refl _ _).alloc (Nat.le_refl _) _)
  have hcl : ∀ w1, Below (w.alloc (.cells #[.int .i64 m.wd, .int .i64 m.rk, .slice AF m.fr.length cF, .slice AG m.bk.length cG, .slice AC m.cs.length cC, .slice AI m.ls.length cI, .slice AD m.dr.length cD] 29)).heap.size (w.alloc (.cells #[.int .i64 m.wd, .int .i64 m.rk, .slice AF m.fr.length cF, .slice AG m.bk.length cG, .slice AC m.cs.length cC, .slice AI m.ls.length cI, .slice AD m.dr.length cD] 29)) w1 →
      CellsAt w1 w.heap.size 0 [.int .i64 m.wd, .int .i64 m.rk, .slice AF m.fr.length cF, .slice AG m.bk.length cG, .slice AC m.cs.length cC, .slice AI m.ls.length cI, .slice AD m.dr.length cD] := fun w1 hb => CellsAt.below CellsAt.of_alloc hb (by simp)
  have HA := Lib.hid (loopCode_any _ m k _ (hl0.up BW.out BW.out.size))
  have HI := Lib.hid h4
  have HCL := Lib.hid hcl
  clear h1 h2 h3 h4 h5 h6 hcl hl0
  by_cases ha : askC m k = 0
  case neg =>
    have HN := Lib.hid (show nbR m k (.returned (.tuple #[.int .i64 0, .int .i64 0, .int .i64 (askC m k)])) by simp [nbR, nb0, nb1, ha])
    have e0 : (askC m k != 0) = true := by simpa using ha
    generalize askC m k = A at *
    go_enter Try.func14, Try.ntmps14
    go_wp2_with fail
    refine HA.out.mono ?_
    rintro e w1 ⟨rfl, hb⟩
    have HB := Lib.hid (BW.out.trans (hb.mono BW.out.size))
    clear hb
    go_wp2
    go_ret3
    exact ⟨HN.out, HB.out⟩
  obtain ⟨hok, hk0, hk1⟩ := ask_zeroN ha
  have h300 := ls_len hok
  obtain ⟨kn, rfl⟩ := Int.eq_ofNat_of_zero_le hk0
  have hkn : kn < m.ls.length := by omega
  have HAA := Lib.hid ha
  clear ha hok hk0 hk1
  go_enter Try.func14, Try.ntmps14
  go_wp2_with fail
  refine HA.out.mono ?_
  rintro e w1 ⟨rfl, hb⟩
  rw [HAA.out]
  have HB1 := Lib.hid hb
  clear hb HA
  have hw1 := BW.out.trans (HB1.out.mono BW.out.size)
  have hcc1 := HCL.out _ HB1.out
  obtain ⟨x0, x1, x2, x3, x4, x5, x6⟩ := hcc1.seven
  obtain ⟨bb, off, x, s, rfl, hbb, hlk, hcc, hs⟩ := (RdIs.below HI.out hw1).at_ hkn
  obtain ⟨c0, c1, c2, c3, c4, c5⟩ := hcc.six
  have HY := Lib.hid (yarn_any m _ _ _ _ _ w.heap.size x.y w1 hcc1 (RdIs.more (RdIs.below HI.out hw1) hw1.size) h300)
  obtain ⟨P, S, hY, hP, hS, hlen⟩ := yarn_split hlk
  have HNB := Lib.hid (show nb0 m (kn : Int) = P.getLast?.getD (-1) ∧ nb1 m (kn : Int) = S.head?.getD (-1) by
    have hnl : nbL m (kn : Int) = P ++ (kn : Int) :: S := by unfold nbL; rw [show ((kn : Int)).toNat = kn by omega, hlk]; exact hY
    unfold nb0 nb1
    rw [if_pos HAA.out, if_pos HAA.out, hnl, nbF_lo (by omega) hS P (-1) hP]
    exact ⟨rfl, rfl⟩)
  have HIX := Lib.hid (show idxOf (fun y => y == (kn : Int)) (P ++ (kn : Int) :: S) = ((P.length : Nat) : Int) by unfold idxOf; rw [idx_split P S 0 hP]; simp)
  have hyl : (P ++ (kn : Int) :: S).length = P.length + 1 + S.length := by simp; omega
  have hL := fun h => @last_at P ((kn : Int) :: S) h
  have hH := fun h => @head_at P S (kn : Int) h
  have HW1 := Lib.hid hw1
  rw [hY, hyl] at HY
  clear hw1 hcc1 hlk hcc hs hP hS hY
  go_wp2_with fail
  refine HY.out.mono ?_
  rintro e w2 ⟨v2, rfl, ho, hb2⟩
  obtain ⟨A2, cc2, rfl, -⟩ := ho.cells
  rw [← hyl] at ho
  have HR := Lib.hid (RdI.of_own ho)
  have HB2 := Lib.hid (HW1.out.trans (hb2.mono HW1.out.size))
  rw [hyl] at HR
  clear ho hb2 x0 x1 x2 x3 x4 x5 x6 c0 c1 c2 c3 c4 c5 HY
  go_wp2_with fail
  refine (indexI_any _ (P ++ (kn : Int) :: S) (kn : Int) _ HR.out).mono ?_
  rintro e w3 ⟨rfl, hb3⟩
  rw [HIX.out]
  have HR3 := Lib.hid (HR.out.below hb3)
  have HB3 := Lib.hid (HB2.out.trans (hb3.mono HB2.out.size))
  clear hb3 HIX HR
  generalize hYY : P ++ (kn : Int) :: S = Y at *
  clear hYY
  generalize hzb : P.getLast?.getD (-1) = zb at *
  generalize hza : S.head?.getD (-1) = za at *
  have hzb0 : P.length = 0 → zb = -1 := fun h => by rw [← hzb, List.eq_nil_of_length_eq_zero h]; rfl
  have hza0 : S.length = 0 → za = -1 := fun h => by rw [← hza, List.eq_nil_of_length_eq_zero h]; rfl
  clear hzb hza
  generalize P.length = p at *
  generalize S.length = q at *
  have hR : nbR m (kn : Int) (.returned (.tuple #[.int .i64 zb, .int .i64 za, .int .i64 0])) := by unfold nbR; rw [HNB.out.1, HNB.out.2, HAA.out]
  have HRR := Lib.hid hR
  clear hR HNB
  by_cases hp : 0 < p
  · obtain ⟨b1, o1, z1, e1, hb1, hz1, hc1⟩ := HR3.out.at_ (show p - 1 < p + 1 + q by omega)
    have hz1' : z1 = zb := by rw [hL hp] at hz1; injection hz1 with h; exact h.symm
    subst hz1'
    have hkc : ((p - 1 : Nat) : Int) = (p : Int) - 1 := by omega
    have hw1 : IntKind.i64.wrap ((p : Int) - 1) = (p : Int) - 1 := IntWalk.i64_in _ (by omega)
    subst e1
    by_cases hq : 0 < q
    · obtain ⟨b2, o2, z2, e2, hb2, hz2, hc2⟩ := HR3.out.at_ (show p + 1 < p + 1 + q by omega)
      have hz2' : z2 = za := by rw [hH hq] at hz2; injection hz2 with h; exact h.symm
      subst hz2'
      injection e2 with e2
      injection e2 with q1 q2
      subst q1 q2
      clear hz1 hz2 hL hH hzb0 hza0
      go_wp2
      go_ret3
      exact ⟨HRR.out, HB3.out⟩
    · obtain rfl : za = -1 := hza0 (by omega)
      clear hz1 hL hH hzb0 hza0
      go_wp2
      go_ret3
      exact ⟨HRR.out, HB3.out⟩
  · obtain rfl : zb = -1 := hzb0 (by omega)
    obtain rfl : p = 0 := by omega
    by_cases hq : 0 < q
    · obtain ⟨b2, o2, z2, e2, hb2, hz2, hc2⟩ := HR3.out.at_ (show 0 + 1 < 0 + 1 + q by omega)
      have hz2' : z2 = za := by rw [hH hq] at hz2; injection hz2 with h; exact h.symm
      subst hz2'
      subst e2
      clear hz2 hL hH hzb0 hza0
      go_wp2
      go_ret3
      exact ⟨HRR.out, HB3.out⟩
    · obtain rfl : za = -1 := hza0 (by omega)
      clear hL hH hzb0 hza0
      go_wp2
      go_ret3
      exact ⟨HRR.out, HB3.out⟩

end Go.Proofs.Ytogaellhkjjeaaa

/-
  YarnOf, of the program and of the reference: a list and a code.
-/
namespace Go.Proofs.Ytogaellhkjjeaaa
set_option linter.unusedVariables false
set_option linter.unusedSimpArgs false
open Go.RowKit

theorem l07Ok_p (m : Mc) (g : Nat) (w : World) (h : RdP w g m) (hdr : m.dr.length ≤ 1048576) :
    Calls Try.prog 67 #[.pointer (some ⟨g, 0, none⟩)] w fun e w' => e = .returned (.bool (okM m)) ∧ Below w.heap.size w w' := by
  obtain ⟨F, G, C, L, D, hc, h1, h2, h3, h4, h5, h6⟩ := h
  exact l07Ok_any m F G C L D g w hc h1 h2 h3 h4 h5 hdr
theorem l11Ask_p (m : Mc) (g : Nat) (k : Int) (w : World) (h : RdP w g m) (hdr : m.dr.length ≤ 1048576) :
    Calls Try.prog 78 #[.pointer (some ⟨g, 0, none⟩), .int .i64 k] w fun e w' => e = .returned (.int .i64 (askC m k)) ∧ Below w.heap.size w w' := by
  obtain ⟨F, G, C, L, D, hc, h1, h2, h3, h4, h5, h6⟩ := h
  exact l11Ask_any m F G C L D g k w hc h1 h2 h3 h4 h5 hdr

/-- A list that is told if the code is 0. -/
def okList (c : Int) (l : List Int) : List Int := if c = 0 then l else []
theorem okList_no {c : Int} {l : List Int} (h : c ≠ 0) : okList c l = [] := by unfold okList; rw [if_neg h]
theorem okList_yes {c : Int} {l : List Int} (h : c = 0) : okList c l = l := by unfold okList; rw [if_pos h]
theorem okList_len {c : Int} {l : List Int} {n : Nat} (h : c = 0 → l.length ≤ n) : (okList c l).length ≤ n := by
  unfold okList
  split
  · rename_i hc; exact h hc
  · simp
theorem GivesC.nil {w w' : World} {E sz : Nat} {code c : Int} {l : List Int} (hc : c ≠ 0) (e : code = c) (hb : Below w.heap.size w w') : GivesC w E sz (okList c l).length (vI (okList c l)) code (.returned (.tuple #[.slice none 0 0, .int .i64 c])) w' := by
  subst e
  rw [okList_no hc]
  exact ⟨_, rfl, OwC.nil, hb⟩
theorem GivesC.yes {w w' : World} {E sz : Nat} {code c : Int} {v : Value} {l : List Int} (hc : c = 0) (e : code = c) (ho : OwC w' w.heap.size w'.heap.size E sz v l.length (vI l)) (hb : Below w.heap.size w w') : GivesC w E sz (okList c l).length (vI (okList c l)) code (.returned (.tuple #[v, .int .i64 0])) w' := by
  subst e
  subst hc
  rw [okList_yes rfl]
  exact ⟨_, rfl, ho, hb⟩

/-- The code of a machine and a carrier. -/
def yarnC (m : Mc) (c : Int) : Int := if okM m = false then 1 else if inB 1 c 4 = false then 2 else 0
theorem yarnC_bad {m : Mc} {c : Int} (h : okM m = false) : yarnC m c = 1 := by simp [yarnC, h]
theorem yarnC_rng {m : Mc} {c : Int} (h : okM m = true) (h1 : inB 1 c 4 = false) : yarnC m c = 2 := by simp [yarnC, h, h1]
theorem yarnC_ok {m : Mc} {c : Int} (h : okM m = true) (h1 : inB 1 c 4 = true) : yarnC m c = 0 := by simp [yarnC, h, h1]

theorem yarn_p (m : Mc) (g : Nat) (c : Int) (w : World) (h : RdP w g m) (h300 : m.ls.length ≤ 300) :
    Calls Try.prog 62 #[.pointer (some ⟨g, 0, none⟩), .int .i64 c] w (GivesOw w 2 1 (yarnGo c 0 m.ls).length (vI (yarnGo c 0 m.ls))) := by
  obtain ⟨F, G, C, L, D, hc, h1, h2, h3, h4, h5, h6⟩ := h
  exact yarn_any m F G C L D g c w hc h4 h300
theorem OwC.lo {w : World} {lo lo' hi E sz n : Nat} {v : Value} {xs : List Value} (h : OwC w lo hi E sz v n xs) (hl : lo' ≤ lo) : OwC w lo' hi E sz v n xs := h.wide hl (Nat.le_refl _)

set_option maxHeartbeats 4000000 in
set_option maxRecDepth 100000 in
theorem implYarn_any (v : Value) (m : Mc) (c : Int) (w : World) (hl : RdM w w.heap.size v m) (hf : FitM m) :
    Calls Try.prog 15 #[v, .int .i64 c] w (GivesC w 2 1 (okList (yarnC m c) (yarnGo c 0 m.ls)).length (vI (okList (yarnC m c) (yarnGo c 0 m.ls))) (yarnC m c)) := by
  have hl0 := hl
  obtain ⟨f, b, cs, ls, d, rfl, h1, h2, h3, h4, h5, h6⟩ := hl
  obtain ⟨AF, cF, rfl⟩ := RdN.shape h1
  obtain ⟨AG, cG, rfl⟩ := RdN.shape h2
  obtain ⟨AC, cC, rfl⟩ := RdS.lens h3
  obtain ⟨AI, cI, rfl⟩ := RdN.shape h4
  obtain ⟨AD, cD, rfl⟩ := RdI.len h5
  have BW := Lib.hid (show Below w.heap.size w (w.alloc (.cells #[.int .i64 m.wd, .int .i64 m.rk, .slice AF m.fr.length cF, .slice AG m.bk.length cG, .slice AC m.cs.length cC, .slice AI m.ls.length cI, .slice AD m.dr.length cD] 29)) from (Below.refl _ _).alloc (Nat.le_refl _) _)
  have HP := Lib.hid (RdP.box (T := 29) h1 h2 h3 h4 h5 h6)
  have HM := Lib.hid (hl0.up BW.out BW.out.size)
  clear h1 h2 h3 h4 h5 h6 hl0
  generalize hY : yarnC m c = Y
  generalize hR : okList Y (yarnGo c 0 m.ls) = R
  cases hok : okM m
  · have hC := yarnC_bad (c := c) hok
    have HN := Lib.hid (show ∀ w', Below w.heap.size w w' → GivesC w 2 1 R.length (vI R) Y (.returned (.tuple #[.slice none 0 0, .int .i64 1])) w' from fun w' hb => by rw [← hR]; rw [← hY, hC]; exact GivesC.nil (by decide) rfl hb)
    have HK := Lib.hid hok
    clear hok hC hY hR
    go_enter Try.func15, Try.ntmps15
    go_wp2_with fail
    refine (validMachine_any _ m _ HM.out).mono ?_
    rintro e w1 ⟨rfl, hb⟩
    rw [HK.out]
    have HB := Lib.hid (BW.out.trans (hb.mono BW.out.size))
    clear hb
    go_wp2
    go_ret2
    exact HN.out _ HB.out
  · have HK := Lib.hid hok
    have h300 := ls_len hok
    cases hin : inB 1 c 4
    · have hC := yarnC_rng hok hin
      have HN := Lib.hid (show ∀ w', Below w.heap.size w w' → GivesC w 2 1 R.length (vI R) Y (.returned (.tuple #[.slice none 0 0, .int .i64 2])) w' from fun w' hb => by rw [← hR]; rw [← hY, hC]; exact GivesC.nil (by decide) rfl hb)
      have HI := Lib.hid hin
      clear hin hok hC hY hR
      go_enter Try.func15, Try.ntmps15
      go_wp2_with fail
      refine (validMachine_any _ m _ HM.out).mono ?_
      rintro e w1 ⟨rfl, hb⟩
      rw [HK.out]
      have HB := Lib.hid (BW.out.trans (hb.mono BW.out.size))
      clear hb
      go_wp2_with (go_at_call 65; refine (isCarrier_s _ _).mono ?_; rintro e w' ⟨rfl, rfl⟩; rw [HI.out])
      go_ret2
      exact HN.out _ HB.out
    · have hC := yarnC_ok hok hin
      have HN := Lib.hid (show ∀ v w', OwC w' w.heap.size w'.heap.size 2 1 v (yarnGo c 0 m.ls).length (vI (yarnGo c 0 m.ls)) → Below w.heap.size w w' → GivesC w 2 1 R.length (vI R) Y (.returned (.tuple #[v, .int .i64 0])) w' from fun v w' ho hb => by rw [← hR]; rw [← hY, hC]; exact GivesC.yes rfl rfl ho hb)
      have HI := Lib.hid hin
      clear hin hok hC hY hR
      go_enter Try.func15, Try.ntmps15
      go_wp2_with fail
      refine (validMachine_any _ m _ HM.out).mono ?_
      rintro e w1 ⟨rfl, hb⟩
      rw [HK.out]
      have HB := Lib.hid (BW.out.trans (hb.mono BW.out.size))
      have HP1 := Lib.hid (HP.out.below hb)
      clear hb
      go_wp2_with (go_at_call 65; refine (isCarrier_s _ _).mono ?_; rintro e w' ⟨rfl, rfl⟩; rw [HI.out])
      refine (yarn_p m _ c _ HP1.out h300).mono ?_
      rintro e w2 ⟨v, rfl, ho, hb⟩
      have HO := Lib.hid (ho.lo HB.out.size)
      have HB2 := Lib.hid (HB.out.trans (hb.mono HB.out.size))
      clear ho hb
      go_wp2
      go_ret2
      exact HN.out _ _ HO.out HB2.out


end Go.Proofs.Ytogaellhkjjeaaa

/-
  Rows of rows that grow: children of the program.
-/
namespace Go.Proofs.Ytogaellhkjjeaaa
set_option linter.unusedVariables false
set_option linter.unusedSimpArgs false
open Go.RowKit

theorem own_set {w : World} {base e sz n : Nat} {v : Value} {xs : List Value} (h : w.ownsRow base e sz v n xs) {p : Addr} (hp : p.block < base) (u : Value) : (w.setCell p u).ownsRow base e sz v n xs := by
  refine ⟨h.1, ?_⟩
  rcases h.2 with h2 | ⟨g, cap, cur, hv, hb, hh, h3⟩
  · exact .inl h2
  · exact .inr ⟨g, cap, cur, hv, hb, (Below.heap_setCell _ _ _ _ (by omega)).trans hh, h3⟩
theorem rowIs_block {w w' : World} {g t n : Nat} {f : Nat → Value} (h : w.rowIs g t n f) (hb : w'.heap[g]? = w.heap[g]?) : w'.rowIs g t n f := by
  obtain ⟨cur, h1, h2, h3⟩ := h
  exact ⟨cur, hb.trans h1, h2, h3⟩
theorem rowIs_lt {w : World} {g t n : Nat} {f : Nat → Value} (h : w.rowIs g t n f) : g < w.heap.size := by
  obtain ⟨cur, h1, h2, h3⟩ := h
  exact (Array.getElem?_eq_some_iff.1 h1).1
theorem rowIs_below {w w' : World} {g t n : Nat} {f : Nat → Value} (h : w.rowIs g t n f) (hb : Below w.heap.size w w') : w'.rowIs g t n f := rowIs_block h (hb.block g (rowIs_lt h))

/-- Rows of the call's own behind one row of their headers. -/
structure Mat (w : World) (go n : Nat) (L : Nat → List Int) (f : Nat → Value) : Prop where
  row : w.rowIs go 27 n f
  own : ∀ j, j < n → w.ownsRow (go + 1) 2 1 (f j) (L j).length (vI (L j))
  dis : ∀ i j, i < n → j < n → i ≠ j → ∀ g, (f i).ownBlock = some g → (f j).ownBlock ≠ some g
theorem Mat.below {w w' : World} {go n : Nat} {L : Nat → List Int} {f : Nat → Value} (h : Mat w go n L f) (hb : Below w.heap.size w w') : Mat w' go n L f :=
  ⟨rowIs_below h.row hb, fun j hj => own_below (h.own j hj) hb, h.dis⟩
theorem Mat.congr {w : World} {go n : Nat} {L L' : Nat → List Int} {f : Nat → Value} (h : Mat w go n L f) (e : ∀ j, j < n → L' j = L j) : Mat w go n L' f :=
  ⟨h.row, fun j hj => by rw [e j hj]; exact h.own j hj, h.dis⟩
theorem Mat.app {w w' : World} {go n p : Nat} {x : Int} {L : Nat → List Int} {f : Nat → Value} {v' : Value} (h : Mat w go n L f) (hp : p < n) (hown : w'.ownsRow (go + 1) 2 1 v' (L p ++ [x]).length (vI (L p ++ [x])))
    (hg : w.grownBy w' (f p).ownBlock) (hat : v'.ownBlock = (f p).ownBlock ∨ v'.ownBlock = some w.heap.size) :
    Mat (w'.setCell ⟨go, p, none⟩ v') go n (fun j => if j = p then L p ++ [x] else L j) (fun j => if j = p then v' else f j) := by
  refine ⟨(rowIs_block h.row (hg.block go (rowIs_lt h.row) (fun e => ?_))).set p v', fun j hj => ?_, fun i j hi hj hij g hgi => ?_⟩
  · have := ((h.own p hp).lt _ e.symm).1
    omega
  · by_cases e : j = p
    · simp only [e, if_true]
      exact own_set hown (by simp) _
    · simp only [e, if_false]
      exact own_set (own_other (h.own j hj) hg (fun g hgj hgp => h.dis p j hp hj (fun h => e h.symm) g hgp hgj)) (by simp) _
  · by_cases ei : i = p
    · subst ei
      have ej : ¬ j = i := fun h => hij h.symm
      simp only [if_true] at hgi
      simp only [ej, if_false]
      rcases hat with hat | hat
      · exact h.dis i j hi hj hij g (hat ▸ hgi)
      · rw [hat] at hgi
        injection hgi with hgi
        intro hgj
        have := ((h.own j hj).lt _ hgj).2
        omega
    · simp only [ei, if_false] at hgi
      by_cases ej : j = p
      · subst ej
        simp only [if_true]
        rcases hat with hat | hat
        · rw [hat]; exact h.dis i j hi hj hij g hgi
        · rw [hat]
          intro hgj
          injection hgj with hgj
          have := ((h.own i hi).lt _ hgi).2
          omega
      · simp only [ej, if_false]
        exact h.dis i j hi hj hij g hgi

def GivesMat (w : World) (n : Nat) (L : Nat → List Int) (e : Ending) (w' : World) : Prop := ∃ f, e = .returned (.slice (some ⟨w.heap.size, 0, none⟩) n n) ∧ Mat w' w.heap.size n L f ∧ Below w.heap.size w w'

theorem pars_dis {n : Int} : ∀ {l pre : List Int} {j : Nat} {p : Int}, parsB n pre l = true → l[j]? = some p → (pre ++ l.take j).contains p = false
  | [], pre, j, p, h, hp => by simp at hp
  | x :: t, pre, 0, p, h, hp => by
    rw [parsB] at h
    simp at h hp
    subst hp
    simpa using h.2.1
  | x :: t, pre, j + 1, p, h, hp => by
    rw [parsB] at h
    simp at h
    have := pars_dis (pre := pre ++ [x]) (j := j) h.2.2 (by simpa using hp)
    simpa using this
theorem ok_dis {m : Mc} {i j : Nat} {x : Inf} {p : Int} (h : okM m = true) (hx : m.ls[i]? = some x) (hp : x.ps[j]? = some p) : (x.ps.take j).contains p = false := by
  unfold okM at h
  simp at h
  have h1 := infs_at h.2.2.2.2.1 hx
  unfold okInf at h1
  simp at h1
  obtain ⟨_, _, h4, h5, _⟩ := h1
  simpa using pars_dis h5 hp

/-- The children while the parents of loop i are told, j of them. -/
def kidL (l : List Inf) (i : Nat) (ps : List Int) (j : Nat) (c : Nat) : List Int := chGo (c : Int) 0 (l.take i) ++ (if (ps.take j).contains (c : Int) = true then [(i : Int)] else [])
theorem kid_zero (l : List Inf) (i : Nat) (ps : List Int) (c : Nat) : kidL l i ps 0 c = chGo (c : Int) 0 (l.take i) := by simp [kidL]
theorem kid_end {l : List Inf} {i : Nat} {x : Inf} (hx : l[i]? = some x) (c : Nat) : chGo (c : Int) 0 (l.take (i + 1)) = kidL l i x.ps x.ps.length c := by
  rw [chGo_take hx, kidL, List.take_length]
theorem kid_next {l : List Inf} {i j p : Nat} {ps : List Int} (hp : ps[j]? = some (p : Int)) (hd : (ps.take j).contains (p : Int) = false) (c : Nat) :
    kidL l i ps (j + 1) c = if c = p then kidL l i ps j p ++ [(i : Int)] else kidL l i ps j c := by
  unfold kidL
  rw [List.take_add_one, hp]
  by_cases e : c = p
  · subst e
    rw [if_pos rfl]
    simp only [hd]
    simp
  · rw [if_neg e]
    have e1 : (ps.take j ++ [(p : Int)]).contains (c : Int) = (ps.take j).contains (c : Int) := by
      rw [Bool.eq_iff_iff]; simp; omega
    show _ ++ (if (ps.take j ++ [(p : Int)]).contains (c : Int) = true then _ else _) = _
    rw [e1]
theorem kid_len {l : List Inf} {i j c : Nat} {ps : List Int} : (kidL l i ps j c).length ≤ l.length + 1 := by
  unfold kidL
  have := chGo_len (c : Int) (l.take i) 0
  rw [List.length_append]
  have h2 : (l.take i).length ≤ l.length := List.length_take_le' i l
  split <;> simp <;> omega

set_option maxHeartbeats 8000000 in
set_option maxRecDepth 100000 in
theorem children_any (m : Mc) (g : Nat) (w : World) (h : RdP w g m) (ok : okM m = true) :
    Calls Try.prog 68 #[.pointer (some ⟨g, 0, none⟩)] w (GivesMat w m.ls.length (fun j => chL m (j : Int))) := by
  obtain ⟨i0, hi, hz0, hz1, hz2⟩ := info_parts info_int
  have h300 := ls_len ok
  have hgl := h.lt
  obtain ⟨F, G, C, L, D, hc, h1, h2, h3, h4, h5, h6⟩ := h
  obtain ⟨AI, cI, rfl⟩ := RdN.shape h4
  have HI := Lib.hid h4
  have HC := Lib.hid hc
  have HOK := Lib.hid ok
  have hl0 : ∀ j : Nat, j < m.ls.length → chGo (j : Int) 0 (m.ls.take 0) = [] := fun j _ => rfl
  have HL0 := Lib.hid hl0
  have HLE := Lib.hid (show ∀ j : Nat, chL m (j : Int) = chGo (j : Int) 0 (m.ls.take m.ls.length) from fun j => by rw [List.take_length]; rfl)
  generalize hln : m.ls.length = n at *
  have HLN := Lib.hid hln
  obtain ⟨x0, x1, x2, x3, x4, x5, x6⟩ := hc.seven
  have hmk : ∀ W : World, (Instr.makeSlice 24 (.int .i64 (n : Int)) (.int .i64 (n : Int))).run Try.prog W = .ok (.slice (some ⟨W.heap.size, 0, none⟩) n n) (W.alloc (.cells (madeCells #[.slice none 0 0] n) 27)) := fun W => run_make_row' (P := Try.prog) 24 27 (.slice none 0 0) 24 Try.underlying24 info_sl rfl .i64 .i64 n (by omega) (by omega) W
  clear h1 h2 h3 h4 h5 h6 hc hln ok hl0
  go_enter Try.func68, Try.ntmps68
  go_wp2
  clear hmk
  go_loopw [19] (fun i wr => ∃ (q : Nat) (f : Nat → Value), q ≤ n ∧ i = .int .i64 q ∧ Hid (Mat wr w.heap.size n (fun c => chGo (c : Int) 0 (m.ls.take q)) f) ∧ Hid (Below w.heap.size w wr)) (fun i _ => n - (intOf i).toNat)
  case atStart =>
    refine ⟨0, _, Nat.zero_le _, rfl, ⟨World.rowIs_made _ _ _ _, fun j hj => ?_, fun i j hi hj hij g hg => ?_⟩, (Below.refl _ _).alloc (Nat.le_refl _) _⟩
    · rw [HL0.out j hj]; exact World.ownsRow_nil _ _ _ _
    · cases hg
  case round =>
    rename_i wr
    obtain ⟨q, f, hq, rfl, hmat, hbb⟩ := hrel
    by_cases hlt : q < n
    · obtain ⟨b, off, x, s, rfl, hb1, hlk, hcc, hs⟩ := (RdIs.below HI.out hbb.out).at_ hlt
      obtain ⟨A1, c1, rfl⟩ := hs.len
      obtain ⟨q0, q1, q2, q3, q4, q5⟩ := hcc.six
      have HPS := Lib.hid (ok_loop HOK.out hlk).1
      have hp4 := (ok_loop HOK.out hlk).2
      have HDI := Lib.hid (fun j p hp => ok_dis (j := j) (p := p) HOK.out hlk hp)
      have HS := Lib.hid hs
      have HKE := Lib.hid (kid_end hlk)
      have hbz := hbb.out.size
      have HM0 := Lib.hid (fun o : Obj => (hmat.out.below (w' := wr.alloc o) ((Below.refl _ _).alloc (Nat.le_refl _) o)).congr (L' := kidL m.ls q x.ps 0) (fun j _ => kid_zero _ _ _ _))
      have HB0 := Lib.hid (fun o : Obj => hbb.out.alloc hbz o)
      clear hlk hs hcc
      go_wp2
      go_loopw [27] (fun i wq => ∃ (j : Nat) (f2 : Nat → Value) (W2 : World), W2 = wq ∧ j ≤ x.ps.length ∧ i = .int .i64 j ∧ Hid (Mat W2 w.heap.size n (kidL m.ls q x.ps j) f2) ∧ Hid (Below w.heap.size w W2)) (fun i _ => x.ps.length - (intOf i).toNat)
      case atStart => exact ⟨0, f, _, rfl, Nat.zero_le _, rfl, HM0.out _, HB0.out _⟩
      case round =>
        obtain ⟨j, f2, W2, hwe, hj, rfl, hm2, hb2⟩ := hrel
        subst hwe
        by_cases hlt2 : j < x.ps.length
        · obtain ⟨b2, o2, p, rfl, hbb2, hpk, hpc⟩ := (HS.out.keep (fun p hp => (hb2.out.cell hp).trans (hbb.out.cell hp).symm)).at_ hlt2
          obtain ⟨p0, p1⟩ := HPS.out p (List.mem_of_getElem? hpk)
          obtain ⟨pn, rfl⟩ := Int.eq_ofNat_of_zero_le p0
          have hpn : pn < n := by omega
          have hd := HDI.out j _ hpk
          have HKN := Lib.hid (kid_next (l := m.ls) (i := q) hpk hd)
          have cp := hm2.out.row.cell (i := pn) hpn
          have fz := fun i => hm2.out.row.frozen i
          have hkl : (kidL m.ls q x.ps j pn).length ≤ 301 := by have := kid_len (l := m.ls) (i := q) (j := j) (c := pn) (ps := x.ps); have := HLN.out; omega
          have hw2 := hb2.out.size
          have hlw : w.heap.size < W2.heap.size := rowIs_lt hm2.out.row
          have HO := Lib.hid (hm2.out.own pn hpn)
          clear hpk hd p0
          generalize hfp : f2 pn = fp at *
          have HFP := Lib.hid hfp
          clear hfp
          go_wp2_with (at_builtin; refine wpList_append_own_at _ rfl _ _ 27 rfl (w.heap.size + 1) 2 i0 _ 1 8 Try.underlying27 hi hz0 hz1 hz2 rfl (by decide) _ _ _ rfl (HO.out.alloc _) ⟨W2.heap.size, 0, none⟩ 1 1 [.int .i64 (q : Int)] rfl rfl ?c1 ?c2 ?c3 ?c4 ?c5 ?_)
          case c1 => exact new_cells' _ _ rfl
          case c2 => exact int_one _
          case c3 => unfold maxLen; omega
          case c4 => omega
          case c5 => simp; omega
          intro v' w3 hown3 hg3 _ hat3
          obtain ⟨gv, capv, rfl, hgv0, hgv1⟩ := hown3.form (by omega)
          have hmA := hm2.out.below ((Below.refl W2.heap.size W2).alloc (Nat.le_refl _) (.cells #[.int .i64 (q : Int)] 2))
          have hr3 : w3.rowIs w.heap.size 27 n f2 := rowIs_block hmA.row (hg3.block _ (by simp; omega) (fun e => by have := (HO.out.lt _ e.symm).1; omega))
          have cp3 := hr3.cell (i := pn) hpn
          have fz3 := fun i => hr3.frozen i
          have HM3 := Lib.hid ((Mat.app (x := (q : Int)) hmA hpn (by rw [vI_snoc, List.length_append]; exact hown3) (by rw [HFP.out]; exact hg3) (by rw [HFP.out]; simpa using hat3)).congr (L' := kidL m.ls q x.ps (j + 1)) (fun c _ => HKN.out c))
          have HB3 := Lib.hid ((((hb2.out.alloc hw2 _).grown hg3 (by simp; omega) (fun k hk => by have := (HO.out.lt k hk).1; omega))).setCell (p := ⟨w.heap.size, pn, none⟩) (Nat.le_refl _) (.slice (some ⟨gv, 0, none⟩) ((kidL m.ls q x.ps j pn).length + 1) capv))
          clear hmA hr3 hown3 hg3 hat3 cp fz
          go_wp2
          exact ⟨⟨j + 1, _, _, rfl, by omega, by go_num, HM3.out, HB3.out⟩, by simp [intOf]; omega⟩
        · have HM := Lib.hid (hm2.out.congr (L' := fun c : Nat => chGo (c : Int) 0 (m.ls.take (q + 1))) (fun c _ => by have e : j = x.ps.length := (by omega); rw [e]; exact HKE.out c))
          go_wp2
          exact ⟨⟨q + 1, f2, by omega, by go_num, HM.out, hb2⟩, by simp [intOf]; omega⟩
    · have HM := Lib.hid (hmat.out.congr (L' := fun c : Nat => chL m (c : Int)) (fun c _ => by have e : q = n := (by omega); rw [e]; exact HLE.out c))
      go_wp2
      go_ret
      exact ⟨_, rfl, HM.out, hbb.out⟩

end Go.Proofs.Ytogaellhkjjeaaa

/-
  WaleOf, ChildrenOf, of the program and of the reference.
-/
namespace Go.Proofs.Ytogaellhkjjeaaa
set_option linter.unusedVariables false
set_option linter.unusedSimpArgs false
open Go.RowKit

theorem ask_zero {m : Mc} {k : Int} (h : askC m k = 0) : okM m = true ∧ 0 ≤ k ∧ k < m.ls.length := by
  unfold askC at h
  split at h
  · omega
  · rename_i h1
    split at h
    · omega
    · rename_i h2
      have h3 : inB 0 k ((m.ls.length : Int) - 1) = true := by simpa using h2
      have := inB_iff.1 h3
      exact ⟨by simpa using h1, this.1, by omega⟩

set_option maxHeartbeats 4000000 in
set_option maxRecDepth 100000 in
theorem implWale_any (v : Value) (m : Mc) (k : Int) (w : World) (hl : RdM w w.heap.size v m) (hf : FitM m) :
    Calls Try.prog 21 #[v, .int .i64 k] w (GivesC w 2 1 (okList (askC m k) (waleL m k)).length (vI (okList (askC m k) (waleL m k))) (askC m k)) := by
  have hdr := hf.dr
  have hl0 := hl
  obtain ⟨f, b, cs, ls, d, rfl, h1, h2, h3, h4, h5, h6⟩ := hl
  obtain ⟨AF, cF, rfl⟩ := RdN.shape h1
  obtain ⟨AG, cG, rfl⟩ := RdN.shape h2
  obtain ⟨AC, cC, rfl⟩ := RdS.lens h3
  obtain ⟨AI, cI, rfl⟩ := RdN.shape h4
  obtain ⟨AD, cD, rfl⟩ := RdI.len h5
  have BW := Lib.hid (show Below w.heap.size w (w.alloc (.cells #[.int .i64 m.wd, .int .i64 m.rk, .slice AF m.fr.length cF, .slice AG m.bk.length cG, .slice AC m.cs.length cC, .slice AI m.ls.length cI, .slice AD m.dr.length cD] 29)) from (Below.refl _ _).alloc (Nat.le_refl _) _)
  have HP := Lib.hid (RdP.box (T := 29) h1 h2 h3 h4 h5 h6)
  have HM := Lib.hid (hl0.up BW.out BW.out.size)
  clear h1 h2 h3 h4 h5 h6 hl0
  by_cases ha : askC m k = 0
  case neg =>
    have HN := Lib.hid (fun w' hb => (show Below w.heap.size w w' → GivesC w 2 1 (okList (askC m k) (waleL m k)).length (vI (okList (askC m k) (waleL m k))) (askC m k) (.returned (.tuple #[.slice none 0 0, .int .i64 (askC m k)])) w' from fun hb => GivesC.nil ha rfl hb) hb)
    have e0 : (askC m k != 0) = true := by simpa using ha
    have HQ := Lib.hid (loopCode_any _ m k _ HM.out)
    generalize askC m k = A at *
    go_enter Try.func21, Try.ntmps21
    go_wp2_with fail
    refine (HQ.out).mono ?_
    rintro e w1 ⟨rfl, hb⟩
    have HB := Lib.hid (BW.out.trans (hb.mono BW.out.size))
    clear hb
    go_wp2
    go_ret2
    exact HN.out _ HB.out
  obtain ⟨hok, hk0, hk1⟩ := ask_zero ha
  have HAA := Lib.hid ha
  have HOK := Lib.hid hok
  have h300 := ls_len hok
  clear ha hok
  go_enter Try.func21, Try.ntmps21
  go_wp2_with fail
  refine (loopCode_any _ m k _ HM.out).mono ?_
  rintro e w1 ⟨rfl, hb⟩
  rw [HAA.out]
  have HB := Lib.hid (BW.out.trans (hb.mono BW.out.size))
  have HP1 := Lib.hid (HP.out.below hb)
  clear hb HM HP
  go_wp2_with fail
  refine (wale_any m _ k _ HP1.out HOK.out hk0 hk1).mono ?_
  rintro e w2 ⟨v, rfl, ho, hb⟩
  have HO := Lib.hid (ho.lo HB.out.size)
  have HB2 := Lib.hid (HB.out.trans (hb.mono HB.out.size))
  clear ho hb
  go_wp2
  go_ret2
  exact GivesC.yes HAA.out rfl HO.out HB2.out
set_option maxHeartbeats 4000000 in
set_option maxRecDepth 100000 in
theorem specWale_any (v : Value) (m : Mc) (k : Int) (w : World) (hl : RdM w w.heap.size v m) (hf : FitM m) :
    Calls Try.prog 30 #[v, .int .i64 k] w (GivesC w 2 1 (okList (askC m k) (waleL m k)).length (vI (okList (askC m k) (waleL m k))) (askC m k)) := by
  have hdr := hf.dr
  have hl0 := hl
  obtain ⟨f, b, cs, ls, d, rfl, h1, h2, h3, h4, h5, h6⟩ := hl
  obtain ⟨AF, cF, rfl⟩ := RdN.shape h1
  obtain ⟨AG, cG, rfl⟩ := RdN.shape h2
  obtain ⟨AC, cC, rfl⟩ := RdS.lens h3
  obtain ⟨AI, cI, rfl⟩ := RdN.shape h4
  obtain ⟨AD, cD, rfl⟩ := RdI.len h5
  have BW := Lib.hid (show Below w.heap.size w (w.alloc (.cells #[.int .i64 m.wd, .int .i64 m.rk, .slice AF m.fr.length cF, .slice AG m.bk.length cG, .slice AC m.cs.length cC, .slice AI m.ls.length cI, .slice AD m.dr.length cD] 29)) from (Below.refl _ _).alloc (Nat.le_refl _) _)
  have HP := Lib.hid (RdP.box (T := 29) h1 h2 h3 h4 h5 h6)
  have HM := Lib.hid (hl0.up BW.out BW.out.size)
  clear h1 h2 h3 h4 h5 h6 hl0
  by_cases ha : askC m k = 0
  case neg =>
    have HN := Lib.hid (fun w' hb => (show Below w.heap.size w w' → GivesC w 2 1 (okList (askC m k) (waleL m k)).length (vI (okList (askC m k) (waleL m k))) (askC m k) (.returned (.tuple #[.slice none 0 0, .int .i64 (askC m k)])) w' from fun hb => GivesC.nil ha rfl hb) hb)
    have e0 : (askC m k != 0) = true := by simpa using ha
    have HQ := Lib.hid (l11Ask_p m _ k _ HP.out hdr)
    generalize askC m k = A at *
    go_enter Try.func30, Try.ntmps30
    go_wp2_with fail
    refine (HQ.out).mono ?_
    rintro e w1 ⟨rfl, hb⟩
    have HB := Lib.hid (BW.out.trans (hb.mono BW.out.size))
    clear hb
    go_wp2
    go_ret2
    exact HN.out _ HB.out
  obtain ⟨hok, hk0, hk1⟩ := ask_zero ha
  have HAA := Lib.hid ha
  have HOK := Lib.hid hok
  have h300 := ls_len hok
  clear ha hok
  go_enter Try.func30, Try.ntmps30
  go_wp2_with fail
  refine (l11Ask_p m _ k _ HP.out hdr).mono ?_
  rintro e w1 ⟨rfl, hb⟩
  rw [HAA.out]
  have HB := Lib.hid (BW.out.trans (hb.mono BW.out.size))
  have HP1 := Lib.hid (HP.out.below hb)
  clear hb HM HP
  go_wp2_with fail
  refine (l11Wale_any m _ k _ HP1.out HOK.out hk0 hk1).mono ?_
  rintro e w2 ⟨v, rfl, ho, hb⟩
  have HO := Lib.hid (ho.lo HB.out.size)
  have HB2 := Lib.hid (HB.out.trans (hb.mono HB.out.size))
  clear ho hb
  go_wp2
  go_ret2
  exact GivesC.yes HAA.out rfl HO.out HB2.out
set_option maxHeartbeats 4000000 in
set_option maxRecDepth 100000 in
theorem specChildren_any (v : Value) (m : Mc) (k : Int) (w : World) (hl : RdM w w.heap.size v m) (hf : FitM m) :
    Calls Try.prog 29 #[v, .int .i64 k] w (GivesC w 2 1 (okList (askC m k) (chL m k)).length (vI (okList (askC m k) (chL m k))) (askC m k)) := by
  have hdr := hf.dr
  have hl0 := hl
  obtain ⟨f, b, cs, ls, d, rfl, h1, h2, h3, h4, h5, h6⟩ := hl
  obtain ⟨AF, cF, rfl⟩ := RdN.shape h1
  obtain ⟨AG, cG, rfl⟩ := RdN.shape h2
  obtain ⟨AC, cC, rfl⟩ := RdS.lens h3
  obtain ⟨AI, cI, rfl⟩ := RdN.shape h4
  obtain ⟨AD, cD, rfl⟩ := RdI.len h5
  have BW := Lib.hid (show Below w.heap.size w (w.alloc (.cells #[.int .i64 m.wd, .int .i64 m.rk, .slice AF m.fr.length cF, .slice AG m.bk.length cG, .slice AC m.cs.length cC, .slice AI m.ls.length cI, .slice AD m.dr.length cD] 29)) from (Below.refl _ _).alloc (Nat.le_refl _) _)
  have HP := Lib.hid (RdP.box (T := 29) h1 h2 h3 h4 h5 h6)
  have HM := Lib.hid (hl0.up BW.out BW.out.size)
  clear h1 h2 h3 h4 h5 h6 hl0
  by_cases ha : askC m k = 0
  case neg =>
    have HN := Lib.hid (fun w' hb => (show Below w.heap.size w w' → GivesC w 2 1 (okList (askC m k) (chL m k)).length (vI (okList (askC m k) (chL m k))) (askC m k) (.returned (.tuple #[.slice none 0 0, .int .i64 (askC m k)])) w' from fun hb => GivesC.nil ha rfl hb) hb)
    have e0 : (askC m k != 0) = true := by simpa using ha
    have HQ := Lib.hid (l11Ask_p m _ k _ HP.out hdr)
    generalize askC m k = A at *
    go_enter Try.func29, Try.ntmps29
    go_wp2_with fail
    refine (HQ.out).mono ?_
    rintro e w1 ⟨rfl, hb⟩
    have HB := Lib.hid (BW.out.trans (hb.mono BW.out.size))
    clear hb
    go_wp2
    go_ret2
    exact HN.out _ HB.out
  obtain ⟨hok, hk0, hk1⟩ := ask_zero ha
  have HAA := Lib.hid ha
  have HOK := Lib.hid hok
  have h300 := ls_len hok
  clear ha hok
  go_enter Try.func29, Try.ntmps29
  go_wp2_with fail
  refine (l11Ask_p m _ k _ HP.out hdr).mono ?_
  rintro e w1 ⟨rfl, hb⟩
  rw [HAA.out]
  have HB := Lib.hid (BW.out.trans (hb.mono BW.out.size))
  have HP1 := Lib.hid (HP.out.below hb)
  clear hb HM HP
  go_wp2_with fail
  refine (l11Children_any m _ k _ HP1.out h300).mono ?_
  rintro e w2 ⟨v, rfl, ho, hb⟩
  have HO := Lib.hid (ho.lo HB.out.size)
  have HB2 := Lib.hid (HB.out.trans (hb.mono HB.out.size))
  clear ho hb
  go_wp2
  go_ret2
  exact GivesC.yes HAA.out rfl HO.out HB2.out

set_option maxHeartbeats 4000000 in
set_option maxRecDepth 100000 in
theorem implChildren_any (v : Value) (m : Mc) (k : Int) (w : World) (hl : RdM w w.heap.size v m) (hf : FitM m) :
    Calls Try.prog 19 #[v, .int .i64 k] w (GivesC w 2 1 (okList (askC m k) (chL m k)).length (vI (okList (askC m k) (chL m k))) (askC m k)) := by
  have hdr := hf.dr
  have hl0 := hl
  obtain ⟨f, b, cs, ls, d, rfl, h1, h2, h3, h4, h5, h6⟩ := hl
  obtain ⟨AF, cF, rfl⟩ := RdN.shape h1
  obtain ⟨AG, cG, rfl⟩ := RdN.shape h2
  obtain ⟨AC, cC, rfl⟩ := RdS.lens h3
  obtain ⟨AI, cI, rfl⟩ := RdN.shape h4
  obtain ⟨AD, cD, rfl⟩ := RdI.len h5
  have BW := Lib.hid (show Below w.heap.size w (w.alloc (.cells #[.int .i64 m.wd, .int .i64 m.rk, .slice AF m.fr.length cF, .slice AG m.bk.length cG, .slice AC m.cs.length cC, .slice AI m.ls.length cI, .slice AD m.dr.length cD] 29)) from (Below.refl _ _).alloc (Nat.le_refl _) _)
  have HP := Lib.hid (RdP.box (T := 29) h1 h2 h3 h4 h5 h6)
  have HM := Lib.hid (hl0.up BW.out BW.out.size)
  clear h1 h2 h3 h4 h5 h6 hl0
  by_cases ha : askC m k = 0
  case neg =>
    have HN := Lib.hid (fun w' hb => (show Below w.heap.size w w' → GivesC w 2 1 (okList (askC m k) (chL m k)).length (vI (okList (askC m k) (chL m k))) (askC m k) (.returned (.tuple #[.slice none 0 0, .int .i64 (askC m k)])) w' from fun hb => GivesC.nil ha rfl hb) hb)
    have e0 : (askC m k != 0) = true := by simpa using ha
    have HQ := Lib.hid (loopCode_any _ m k _ HM.out)
    generalize askC m k = A at *
    go_enter Try.func19, Try.ntmps19
    go_wp2_with fail
    refine (HQ.out).mono ?_
    rintro e w1 ⟨rfl, hb⟩
    have HB := Lib.hid (BW.out.trans (hb.mono BW.out.size))
    clear hb
    go_wp2
    go_ret2
    exact HN.out _ HB.out
  obtain ⟨hok, hk0, hk1⟩ := ask_zero ha
  have HAA := Lib.hid ha
  have HOK := Lib.hid hok
  have h300 := ls_len hok
  clear ha hok
  go_enter Try.func19, Try.ntmps19
  go_wp2_with fail
  refine (loopCode_any _ m k _ HM.out).mono ?_
  rintro e w1 ⟨rfl, hb⟩
  rw [HAA.out]
  have HB := Lib.hid (BW.out.trans (hb.mono BW.out.size))
  have HP1 := Lib.hid (HP.out.below hb)
  clear hb HM HP
  obtain ⟨kn, rfl⟩ := Int.eq_ofNat_of_zero_le hk0
  have hkn : kn < m.ls.length := by omega
  go_wp2_with fail
  refine (children_any m _ _ HP1.out HOK.out).mono ?_
  rintro e w2 ⟨f, rfl, hm, hb⟩
  have hc := hm.row.cell (i := kn) hkn
  have HO := Lib.hid ((OwC.of_own (hm.own kn hkn)).lo (show w.heap.size ≤ w1.heap.size + 1 by have := HB.out.size; omega))
  have HB2 := Lib.hid (HB.out.trans (hb.mono HB.out.size))
  obtain ⟨Ak, ck, hfk, -⟩ := HO.out.cells
  generalize f kn = fk at *
  subst hfk
  clear hm hb
  go_wp2
  go_ret2
  exact GivesC.yes HAA.out rfl HO.out HB2.out

end Go.Proofs.Ytogaellhkjjeaaa

/-
  isLive, states of the program, l11State of the reference; indicesOf.
-/
namespace Go.Proofs.Ytogaellhkjjeaaa
set_option linter.unusedVariables false
set_option linter.unusedSimpArgs false
open Go.RowKit

/-- A row of bools of the call's own, one for each loop. -/
def GivesB (w : World) (n : Nat) (F : Nat → Bool) (e : Ending) (w' : World) : Prop := e = .returned (.slice (some ⟨w.heap.size, 0, none⟩) n n) ∧ w'.rowIs w.heap.size 4 n (fun i => .bool (F i)) ∧ Below w.heap.size w w'
theorem rowIs_congr {w : World} {g t n : Nat} {f f' : Nat → Value} (h : w.rowIs g t n f) (e : ∀ i, i < n → f' i = f i) : w.rowIs g t n f' := by
  obtain ⟨cur, h1, h2, h3⟩ := h
  exact ⟨cur, h1, h2, fun i hi => by rw [e i hi]; exact h3 i hi⟩

set_option maxHeartbeats 8000000 in
set_option maxRecDepth 100000 in
theorem isLive_any (m : Mc) (g : Nat) (w : World) (h : RdP w g m) (ok : okM m = true) :
    Calls Try.prog 73 #[.pointer (some ⟨g, 0, none⟩)] w (GivesB w m.ls.length (fun i => hasB (liveL m) (i : Int))) := by
  have h300 := ls_len ok
  have h240 := liveL_len ok
  have HP := Lib.hid h
  have HOK := Lib.hid ok
  have HRNG := Lib.hid (fun (k : Int) (hk : k ∈ liveL m) => liveL_rng ok hk)
  obtain ⟨F, G, C, L, D, hc, h1, h2, h3, h4, h5, h6⟩ := h
  obtain ⟨AI, cI, rfl⟩ := RdN.shape h4
  obtain ⟨x0, x1, x2, x3, x4, x5, x6⟩ := hc.seven
  generalize hln : m.ls.length = n at *
  have hmk : ∀ W : World, (Instr.makeSlice 94 (.int .i64 (n : Int)) (.int .i64 (n : Int))).run Try.prog W = .ok (.slice (some ⟨W.heap.size, 0, none⟩) n n) (W.alloc (.cells (madeCells #[.bool false] n) 4)) := fun W => run_make_row' (P := Try.prog) 94 4 (.bool false) 1 Try.underlying94 info_bool rfl .i64 .i64 n (by omega) (by omega) W
  have BW := Lib.hid (show Below w.heap.size w (w.alloc (.cells (madeCells #[.bool false] n) 4)) from (Below.refl _ _).alloc (Nat.le_refl _) _)
  have HR0 := Lib.hid (World.rowIs_made w (.bool false) n 4)
  clear h1 h2 h3 h4 h5 h6 hc hln ok
  go_enter Try.func73, Try.ntmps73
  go_wp2_with fail
  clear hmk
  refine (live_any m g _ (HP.out.below BW.out) HOK.out).mono ?_
  rintro e w1 ⟨v, rfl, ho, hb⟩
  obtain ⟨A, cp, rfl, -⟩ := ho.cells
  have hs1 : w.heap.size + 1 ≤ w1.heap.size := by have := hb.size; simp at this; omega
  have HO := Lib.hid (ho.wide (show w.heap.size + 1 ≤ _ by simp) (Nat.le_refl _))
  have HB1 := Lib.hid (BW.out.trans (hb.mono BW.out.size))
  have HR1 := Lib.hid (rowIs_below HR0.out hb)
  generalize hY : liveL m = Y at *
  have HYE := Lib.hid hY
  generalize hyn : Y.length = N at *
  have HYN := Lib.hid hyn
  clear ho hb hY hyn BW HR0 x0 x1 x2 x3 x4 x5 x6
  go_wp2
  go_loopw [15] (fun i wr => ∃ (k : Nat) (f : Nat → Value), k ≤ N ∧ i = .int .i64 k ∧ wr.rowIs w.heap.size 4 n f ∧ Hid (∀ i, i < n → f i = .bool ((Y.take k).contains (i : Int))) ∧ Hid (Same (w.heap.size + 1) w1.heap.size w1 wr) ∧ Hid (Below w.heap.size w wr)) (fun i _ => N - (intOf i).toNat)
  case atStart => exact ⟨0, _, Nat.zero_le _, rfl, HR1.out, fun i hi => by simp, Same.refl _ _ _, HB1.out⟩
  case round =>
    rename_i wr
    obtain ⟨k, f, hk, rfl, hrow, hf, hsame, hbb⟩ := hrel
    by_cases hlt : k < N
    · have hown := HO.out.same hsame.out
      rw [← HYN.out] at hown
      have hrd := RdI.of_own hown
      rw [HYN.out] at hrd
      obtain ⟨b, off, y, rfl, hb1, hyk, hcy⟩ := hrd.at_ hlt
      obtain ⟨y0, y1⟩ := HRNG.out y (List.mem_of_getElem? hyk)
      obtain ⟨yn, rfl⟩ := Int.eq_ofNat_of_zero_le y0
      have hyn : yn < n := by omega
      have cp := hrow.cell (i := yn) hyn
      rw [hf.out yn hyn] at cp
      have fz := fun i => hrow.frozen i
      have HSE := Lib.hid (seen_set (q := yn) hf.out)
      have HTK := Lib.hid (show Y.take (k + 1) = Y.take k ++ [(yn : Int)] by rw [List.take_add_one, hyk]; rfl)
      have HROW := Lib.hid hrow
      have HB2 := Lib.hid (hbb.out.setCell (p := ⟨w.heap.size, yn, none⟩) (Nat.le_refl _) (.bool true))
      have HS2 := Lib.hid (hsame.out.setCell (p := ⟨w.heap.size, yn, none⟩) (.inl (by simp)) (.bool true))
      clear hrow hyk hown hrd y0
      go_wp2
      exact ⟨⟨k + 1, _, by omega, by go_num, HROW.out.set _ _, by rw [HTK.out]; exact HSE.out, HS2.out, HB2.out⟩, by simp [intOf]; omega⟩
    · have HROW := Lib.hid (rowIs_congr (f' := fun i => .bool (hasB Y (i : Int))) hrow (fun i hi => by
        rw [hf.out i hi, List.take_of_length_le (by have := HYN.out; omega)]; rfl))
      clear hrow
      go_wp2
      go_ret
      exact ⟨rfl, by rw [← HYE.out] at HROW; exact HROW.out, hbb.out⟩

def stL (m : Mc) : List Int := (List.range m.ls.length).map fun i : Nat => stM m (i : Int)
set_option maxHeartbeats 8000000 in
set_option maxRecDepth 100000 in
theorem states_any (m : Mc) (g : Nat) (w : World) (h : RdP w g m) (ok : okM m = true) :
    Calls Try.prog 66 #[.pointer (some ⟨g, 0, none⟩)] w (GivesOw w 2 1 m.ls.length (vI (stL m))) := by
  have h300 := ls_len ok
  have hgl := h.lt
  have HP := Lib.hid h
  have HOK := Lib.hid ok
  have HST := Lib.hid (fun i : Nat => show stM m (i : Int) = if hasB (liveL m) (i : Int) = true then 2 else if m.dr.contains (i : Int) = true then 3 else if 0 < (chL m (i : Int)).length then 1 else 4 from rfl)
  obtain ⟨F, G, C, L, D, hc, h1, h2, h3, h4, h5, h6⟩ := h
  obtain ⟨AI, cI, rfl⟩ := RdN.shape h4
  have HC := Lib.hid hc
  have HD := Lib.hid h5
  have HVI := Lib.hid (show vI (stL m) = (List.range m.ls.length).map fun i : Nat => Value.int .i64 (stM m (i : Int)) by simp [vI, stL])
  generalize hst : stM m = S at *
  generalize hln : m.ls.length = n at *
  have HLN := Lib.hid hln
  have hmk : ∀ W : World, (Instr.makeSlice 27 (.int .i64 (n : Int)) (.int .i64 (n : Int))).run Try.prog W = .ok (.slice (some ⟨W.heap.size, 0, none⟩) n n) (W.alloc (.cells (madeCells #[.int .i64 0] n) 2)) := fun W => run_make_row' (P := Try.prog) 27 2 (.int .i64 0) 8 Try.underlying27 info_int rfl .i64 .i64 n (by omega) (by omega) W
  clear h1 h2 h3 h4 h5 h6 hc hln ok hst
  go_enter Try.func66, Try.ntmps66
  go_wp2_with fail
  refine (isLive_any m g _ HP.out HOK.out).mono ?_
  rintro e w1 ⟨rfl, hr1, hb1⟩
  have HP1 := Lib.hid (HP.out.below hb1)
  have HB1 := Lib.hid hb1
  rw [HLN.out] at hr1
  have HR1 := Lib.hid hr1
  have hz1 := hb1.size
  have hwl : w.heap.size < w1.heap.size := rowIs_lt hr1
  clear hr1 hb1
  go_wp2_with fail
  refine (children_any m g _ HP1.out HOK.out).mono ?_
  rintro e w2 ⟨f, rfl, hm, hb2⟩
  rw [HLN.out] at hm
  have HB2 := Lib.hid (HB1.out.trans (hb2.mono hz1))
  have HR2 := Lib.hid (rowIs_below HR1.out hb2)
  have HM2 := Lib.hid hm
  have hwl2 : w1.heap.size < w2.heap.size := rowIs_lt hm.row
  obtain ⟨x0, x1, x2, x3, x4, x5, x6⟩ := (HC.out.below HB2.out hgl).seven
  rw [HLN.out]
  clear hm hb2
  have hg2 : g < w2.heap.size := by omega
  go_wp2
  clear hmk x0 x1 x2 x3 x4 x5 x6
  go_loopw [22] (fun i wr => ∃ (k : Nat) (f3 : Nat → Value), k ≤ n ∧ i = .int .i64 k ∧ wr.rowIs w2.heap.size 2 n f3 ∧ Hid (∀ i, i < k → f3 i = .int .i64 (S (i : Int))) ∧ Hid (Below w2.heap.size w2 wr)) (fun i _ => n - (intOf i).toNat)
  case atStart => exact ⟨0, _, Nat.zero_le _, rfl, World.rowIs_made _ _ _ _, fun i hi => absurd hi (by omega), (Below.refl _ _).alloc (Nat.le_refl _) _⟩
  case round =>
    rename_i wr
    obtain ⟨k, f3, hk, rfl, hrow, hf, hbb⟩ := hrel
    by_cases hlt : k < n
    · have cl := (rowIs_below HR2.out hbb.out).cell (i := k) hlt
      have fz := fun i => hrow.frozen i
      have cp := hrow.cell (i := k) hlt
      have HSK := Lib.hid (HST.out k)
      have HFN := Lib.hid (fun (x : Int) (hx : S (k : Int) = x) => show ∀ i, i < k + 1 → (fun j => if j = k then Value.int .i64 x else f3 j) i = .int .i64 (S (i : Int)) from fun i hi => by
        by_cases e : i = k
        · subst e; simp [hx]
        · simp only [e, if_false]; exact hf.out i (by omega))
      have HROW := Lib.hid hrow
      have HBB := Lib.hid (fun (W : World) (x : Int) (hb : Below wr.heap.size wr W) => show Below w2.heap.size w2 (W.setCell ⟨w2.heap.size, k, none⟩ (.int .i64 x)) from (hbb.out.trans (hb.mono hbb.out.size)).setCell (Nat.le_refl _) _)
      cases hl : hasB (liveL m) (k : Int)
      · have HK1 := Lib.hid hl
        have HDR := Lib.hid ((HD.out.below (HB2.out.trans (hbb.out.mono HB2.out.size))).more (show w.heap.size ≤ wr.heap.size by have := HB2.out.size; have := hbb.out.size; omega))
        have hcx := (HC.out.below (HB2.out.trans (hbb.out.mono HB2.out.size)) hgl).seven
        obtain ⟨x0, x1, x2, x3, x4, x5, x6⟩ := hcx
        rw [hl] at cl
        cases hd : m.dr.contains (k : Int)
        · have HK2 := Lib.hid hd
          have hmat := HM2.out.below hbb.out
          have HMR := Lib.hid hmat
          have cm := hmat.row.cell (i := k) hlt
          have hok := hmat.own k hlt
          obtain ⟨Ak, ck, hfk, -⟩ := (OwC.of_own hok).cells
          have HFK := Lib.hid hfk
          by_cases h0 : 0 < (chL m (k : Int)).length
          · have h0' : (0 : Int) < ((chL m (k : Int)).length : Int) := by omega
            have HK3 := Lib.hid (show S (k : Int) = 1 by rw [HSK.out, HK1.out, HK2.out, if_neg (by decide), if_neg (by decide), if_pos h0])
            generalize (chL m (k : Int)).length = N at *
            rw [hfk] at cm
            clear hl hd hrow hmat hok hfk
            go_wp2_with fail
            refine (containsI_any _ m.dr _ _ HDR.out).mono ?_
            rintro e w3 ⟨rfl, hb3⟩
            rw [HK2.out]
            have cm3 := (HMR.out.below hb3).row.cell (i := k) hlt
            rw [HFK.out] at cm3
            have fz3 := fun i => (rowIs_below HROW.out hb3).frozen i
            have cp3 := (rowIs_below HROW.out hb3).cell (i := k) hlt
            have HR3 := Lib.hid (rowIs_below HROW.out hb3)
            have HB3 := Lib.hid hb3
            clear hb3 fz cp cl x0 x1 x2 x3 x4 x5 x6 cm
            go_wp2
            exact ⟨⟨k + 1, _, by omega, by go_num, HR3.out.set _ _, HFN.out 1 HK3.out, HBB.out _ 1 HB3.out⟩, by simp [intOf]; omega⟩
          · have h0' : ¬ (0 : Int) < ((chL m (k : Int)).length : Int) := by omega
            have HK3 := Lib.hid (show S (k : Int) = 4 by rw [HSK.out, HK1.out, HK2.out, if_neg (by decide), if_neg (by decide), if_neg h0])
            generalize (chL m (k : Int)).length = N at *
            rw [hfk] at cm
            clear hl hd hrow hmat hok hfk
            go_wp2_with fail
            refine (containsI_any _ m.dr _ _ HDR.out).mono ?_
            rintro e w3 ⟨rfl, hb3⟩
            rw [HK2.out]
            have cm3 := (HMR.out.below hb3).row.cell (i := k) hlt
            rw [HFK.out] at cm3
            have fz3 := fun i => (rowIs_below HROW.out hb3).frozen i
            have cp3 := (rowIs_below HROW.out hb3).cell (i := k) hlt
            have HR3 := Lib.hid (rowIs_below HROW.out hb3)
            have HB3 := Lib.hid hb3
            clear hb3 fz cp cl x0 x1 x2 x3 x4 x5 x6 cm
            go_wp2
            exact ⟨⟨k + 1, _, by omega, by go_num, HR3.out.set _ _, HFN.out 4 HK3.out, HBB.out _ 4 HB3.out⟩, by simp [intOf]; omega⟩
        · have HK2 := Lib.hid hd
          have HK3 := Lib.hid (show S (k : Int) = 3 by rw [HSK.out, HK1.out, HK2.out, if_neg (by decide), if_pos rfl])
          clear hl hd hrow
          go_wp2_with fail
          refine (containsI_any _ m.dr _ _ HDR.out).mono ?_
          rintro e w3 ⟨rfl, hb3⟩
          rw [HK2.out]
          have fz3 := fun i => (rowIs_below HROW.out hb3).frozen i
          have cp3 := (rowIs_below HROW.out hb3).cell (i := k) hlt
          have HR3 := Lib.hid (rowIs_below HROW.out hb3)
          have HB3 := Lib.hid hb3
          clear hb3 fz cp cl x0 x1 x2 x3 x4 x5 x6
          go_wp2
          exact ⟨⟨k + 1, _, by omega, by go_num, HR3.out.set _ _, HFN.out 3 HK3.out, HBB.out _ 3 HB3.out⟩, by simp [intOf]; omega⟩
      · have HK3 := Lib.hid (show S (k : Int) = 2 by rw [HSK.out, hl, if_pos rfl])
        rw [hl] at cl
        clear hl hrow
        go_wp2
        exact ⟨⟨k + 1, _, by omega, by go_num, HROW.out.set _ _, HFN.out 2 HK3.out, HBB.out _ 2 (Below.refl _ _)⟩, by simp [intOf]; omega⟩
    · have HROW := Lib.hid (rowIs_congr (f' := fun i => .int .i64 (S (i : Int))) hrow (fun i hi => (hf.out i (by omega)).symm))
      have HBW := Lib.hid (HB2.out.trans (hbb.out.mono HB2.out.size))
      clear hrow
      go_wp2
      go_ret
      refine ⟨_, rfl, ?_, HBW.out⟩
      rw [HVI.out]
      have h := OwC.of_rowF (lo := w.heap.size) (hi := wr.heap.size) (n := n) (sz := 1) (by rw [Nat.mul_one]; exact HROW.out) (by omega) (rowIs_lt HROW.out) (by unfold maxLen; omega)
      rw [Nat.mul_one] at h
      exact h

end Go.Proofs.Ytogaellhkjjeaaa

/-
  What comes undone: undone, indicesOf of the program.
-/
namespace Go.Proofs.Ytogaellhkjjeaaa
set_option linter.unusedVariables false
set_option linter.unusedSimpArgs false
open Go.RowKit

set_option maxHeartbeats 4000000 in
set_option maxRecDepth 100000 in
theorem indicesOf_any (gl : Nat) (l : List Bool) (w : World) (hr : w.rowIs gl 4 l.length (fun i => .bool (l.getD i false))) (h300 : l.length ≤ 300) :
    Calls Try.prog 71 #[.slice (some ⟨gl, 0, none⟩) l.length l.length] w (GivesOw w 2 1 (idxT 0 l).length (vI (idxT 0 l))) := by
  obtain ⟨i0, hi, hz0, hz1, hz2⟩ := info_parts info_int
  have HR := Lib.hid hr
  generalize hY : idxT 0 l = Y at *
  have HY := Lib.hid hY
  generalize hln : l.length = n at *
  have HLN := Lib.hid hln
  clear hr hY hln
  go_enter Try.func71, Try.ntmps71
  go_wp2
  go_loopw [3, 9] (fun t i wr => ∃ (k : Nat) (acc : List Int), k ≤ n ∧ i = .int .i64 k ∧ wr.ownsRow w.heap.size 2 1 t acc.length (vI acc) ∧ acc.length ≤ k ∧ Hid (Y = acc ++ idxT (k : Int) (l.drop k)) ∧ Below w.heap.size w wr) (fun _ i _ => n - (intOf i).toNat)
  case atStart => exact ⟨0, [], Nat.zero_le _, rfl, World.ownsRow_lit _ _ _ (Nat.le_refl _) (by unfold maxLen; omega) rfl, Nat.le_refl _, by unfold Hid; rw [← HY.out]; rfl, (Below.refl _ _).alloc (Nat.le_refl _) _⟩
  case round =>
    rename_i wr
    obtain ⟨k, acc, hk, rfl, hown, hak, hd, hb⟩ := hrel
    by_cases hlt : k < n
    · have cl := (rowIs_below HR.out hb).cell (i := k) hlt
      have hlk : l[k]? = some (l.getD k false) := by rw [List.getD_eq_getElem?_getD, List.getElem?_eq_getElem (by have := HLN.out; omega)]; rfl
      have HB := Lib.hid hb
      have HO := Lib.hid hown
      cases hv : l.getD k false
      · rw [hv] at cl hlk
        have HD := Lib.hid (idxT_no hd.out hlk)
        clear hb hown hd hlk hv
        go_wp2
        exact ⟨⟨k + 1, acc, by omega, by go_num, HO.out, by omega, HD.out, HB.out⟩, by simp [intOf]; omega⟩
      · rw [hv] at cl hlk
        have HD := Lib.hid (idxT_yes hd.out hlk)
        clear hb hown hd hlk hv
        go_wp2_with (at_builtin; refine wpList_append_own _ rfl _ _ 27 rfl w.heap.size 2 i0 _ 1 8 Try.underlying27 hi hz0 hz1 hz2 rfl (by decide) _ _ _ rfl (HO.out.alloc _) ⟨wr.heap.size, 0, none⟩ 1 1 [.int .i64 (k : Int)] rfl rfl ?c1 ?c2 ?c3 ?c4 ?c5 ?_)
        case c1 => exact new_cells' _ _ rfl
        case c2 => exact int_one _
        case c3 => unfold maxLen; omega
        case c4 => omega
        case c5 => have := HB.out.size; simp; omega
        intro v' w2 hown2 hgrow2 _
        have HB1 := Lib.hid (below_append' (HB.out.alloc HB.out.size _) (by have := HB.out.size; simp; omega) HO.out (by simp) hgrow2)
        have HO1 : Hid (w2.ownsRow w.heap.size 2 1 v' (acc ++ [(k : Int)]).length (vI (acc ++ [(k : Int)]))) := by unfold Hid; rw [vI_snoc, List.length_append]; exact hown2
        clear hgrow2 hown2 HB HO
        go_wp2
        exact ⟨⟨k + 1, acc ++ [(k : Int)], by omega, by go_num, HO1.out, by simp; omega, HD.out, HB1.out⟩, by simp [intOf]; omega⟩
    · have HB := Lib.hid hb
      have HO := Lib.hid hown
      have HD := Lib.hid (show Y = acc by rw [hd.out, List.drop_of_length_le (by have := HLN.out; omega)]; simp [idxT])
      clear hb hown hd
      go_wp2
      go_ret
      exact ⟨_, rfl, by rw [HD.out]; exact OwC.of_own HO.out, HB.out⟩

def GivesBR (w : World) (n : Nat) (F : Nat → Bool) (e : Ending) (w' : World) : Prop := ∃ go, e = .returned (.slice (some ⟨go, 0, none⟩) n n) ∧ w.heap.size ≤ go ∧ w'.rowIs go 4 n (fun i => .bool (F i)) ∧ Below w.heap.size w w'
/-- The row that the closure reads: at least from place lo on it holds F. -/
def ClosR (w : World) (b go n : Nat) (F : Nat → Bool) (lo : Nat) : Prop := w.cell? ⟨b, 0, none⟩ = some (.slice (some ⟨go, 0, none⟩) n n) ∧ ∃ f, w.rowIs go 4 n f ∧ ∀ i, lo ≤ i → i < n → f i = .bool (F i)
set_option maxHeartbeats 4000000 in
theorem undClos_any (b go n lo k : Nat) (F : Nat → Bool) (w : World) (hw : ClosR w b go n F lo) (h1 : lo ≤ k) (h2 : k < n) :
    Calls Try.prog 139 #[.int .i64 (k : Int), .pointer (some ⟨b, 0, none⟩)] w fun e w' => e = .returned (.bool (!F k)) ∧ w = w' := by
  obtain ⟨hc, f, hr, hf⟩ := hw
  have cp := hr.cell (i := k) h2
  rw [hf k h1 h2] at cp
  go_enter Try.func139, Try.ntmps139
  go_wp2
  go_ret
  exact ⟨rfl, rfl⟩

set_option maxHeartbeats 4000000 in
theorem undIdx_any (b go n lo : Nat) (F : Nat → Bool) (v : Value) (l : List Int) (w : World) (hl : RdI w w.heap.size v l) (hw : ClosR w b go n F lo) (hin : ∀ k ∈ l, (lo : Int) ≤ k ∧ k < n) :
    Calls Try.prog 195 #[v, .func (.func 139) #[] #[.pointer (some ⟨b, 0, none⟩)]] w fun e w' => e = .returned (.int .i64 (idxOf (fun k : Int => !F k.toNat) l)) ∧ w = w' := by
  obtain ⟨A, N, c, rfl, hln, hl, gl⟩ := hl
  have HW := Lib.hid hw
  have HIN := Lib.hid hin
  clear hw hin
  go_enter Try.func195, Try.ntmps195
  go_wp2
  go_loopw [5, 8] (fun _ i wr => ∃ k : Nat, k ≤ N ∧ i = .int .i64 k ∧ Hid (idxOf (fun k : Int => !F k.toNat) l = idxFrom (fun k : Int => !F k.toNat) k (l.drop k)) ∧ w = wr) (fun _ i _ => N - (intOf i).toNat)
  case atStart => exact ⟨0, Nat.zero_le _, rfl, rfl, rfl⟩
  case round =>
    obtain ⟨k, hk, rfl, hd, rfl⟩ := hrel
    by_cases hlt : k < N
    · obtain ⟨b1, off, x, rfl, hbb, hlk, hc⟩ := gl k hlt
      have Hl := Lib.hid hlk
      obtain ⟨x0, x1⟩ := HIN.out x (List.mem_of_getElem? hlk)
      obtain ⟨xn, rfl⟩ := Int.eq_ofNat_of_zero_le (show 0 ≤ x by omega)
      have HQ := Lib.hid (undClos_any b go n lo xn F w HW.out (by omega) (by omega))
      clear hlk gl
      rcases hp : F xn
      · have HP := Lib.hid hp
        rw [hp] at HQ
        clear hp
        go_wp2_with (refine (HQ.out).mono ?_; rintro e w1 ⟨rfl, rfl⟩)
        go_ret
        exact ⟨ret_int (by rw [hd.out, drop_of_get Hl.out]; simp [idxFrom, HP.out]), by trivial⟩
      · have HP := Lib.hid hp
        rw [hp] at HQ
        clear hp
        go_wp2_with (refine (HQ.out).mono ?_; rintro e w1 ⟨rfl, rfl⟩)
        exact ⟨⟨k + 1, by omega, by go_num, by unfold Hid; rw [hd.out, drop_of_get Hl.out]; simp [idxFrom, HP.out], by trivial⟩, by simp [intOf]; omega⟩
    · have HL := Lib.hid (show idxOf (fun k : Int => !F k.toNat) l = -1 by rw [hd.out, List.drop_of_length_le (by have := hl.out; omega)]; rfl)
      clear gl hl
      go_wp2
      go_ret
      exact ⟨ret_int HL.out.symm, by trivial⟩

set_option maxHeartbeats 4000000 in
theorem undCont_any (b go n lo : Nat) (F : Nat → Bool) (v : Value) (l : List Int) (w : World) (hl : RdI w w.heap.size v l) (hw : ClosR w b go n F lo) (hin : ∀ k ∈ l, (lo : Int) ≤ k ∧ k < n) :
    Calls Try.prog 138 #[v, .func (.func 139) #[] #[.pointer (some ⟨b, 0, none⟩)]] w fun e w' => e = .returned (.bool (l.any (fun k : Int => !F k.toNat))) ∧ w = w' := by
  have hi := idxOf_any (fun k : Int => !F k.toNat) l
  have HQ := Lib.hid (undIdx_any b go n lo F v l w hl hw hin)
  generalize l.any (fun k : Int => !F k.toNat) = A at hi ⊢
  generalize idxOf (fun k : Int => !F k.toNat) l = I at hi HQ
  clear hl hw hin
  cases A
  · have h0 : (decide (0 ≤ I)) = false := by simpa using hi
    have HH := Lib.hid h0
    have h1 : I < 0 := by simpa using h0
    clear h0 hi
    go_enter Try.func138, Try.ntmps138
    go_wp2_with (refine HQ.out.mono ?_; rintro e w1 ⟨rfl, rfl⟩)
    go_ret
    exact ⟨ret_bool (by first | exact HH.out | rfl), by trivial⟩
  · have h0 : (decide (0 ≤ I)) = true := by simpa using hi
    have HH := Lib.hid h0
    have h1 : 0 ≤ I := by simpa using h0
    clear h0 hi
    go_enter Try.func138, Try.ntmps138
    go_wp2_with (refine HQ.out.mono ?_; rintro e w1 ⟨rfl, rfl⟩)
    go_ret
    exact ⟨ret_bool (by first | exact HH.out | rfl), by trivial⟩

/-- What is left of a region's walk, behind a name that is not laid open. -/
structure LaterS (P : Program) (ops : Array Oper) (w : World) (Q : Act → Prop) (l : List Oper) (a : Act) : Prop where
  out : wpStill P ops w Q l a
theorem lstep {P : Program} {ops : Array Oper} {w : World} {Q : Act → Prop} {a : Act} {o : Oper} {rest : List Oper}
    (h : ∀ K : Act → Prop, (∀ a, LaterS P ops w Q rest a → K a) → if Region.wanted o (yielded ops a.tmps) then o.still P a w K else K (a.put o.dst undef)) : LaterS P ops w Q (o :: rest) a :=
  ⟨wpStill_step fun K hK => h K fun a ha => hK a ha.out⟩
theorem lnil {P : Program} {ops : Array Oper} {w : World} {Q : Act → Prop} {a : Act} (h : Q a) : LaterS P ops w Q [] a := ⟨wpStill_nil h⟩

theorem undR_at {m : Mc} {H : Int → Bool} {n j : Nat} (hn : m.ls.length = n) (hj : j < n) : undR m H (n - j) = (!H (j : Int) && (chL m (j : Int)).all (fun k => (undR m H (n - (j + 1))).getD (k.toNat - (j + 1)) false)) :: undR m H (n - (j + 1)) := by
  rw [show n - j = (n - (j + 1)) + 1 by omega, undR]
  have e1 : (m.ls.length : Int) - (((n - (j + 1) : Nat) : Int) + 1) = (j : Int) := by omega
  have e2 : (m.ls.length : Int) - ((n - (j + 1) : Nat) : Int) = (j : Int) + 1 := by omega
  rw [e1, e2]
  congr 2
  refine congrArg (fun f => (chL m (j : Int)).all f) (funext fun k => ?_)
  rw [show (k - ((j : Int) + 1)).toNat = k.toNat - (j + 1) by omega]
theorem und_new {m : Mc} {H : Int → Bool} {n j : Nat} {f3 : Nat → Value} {b : Bool} (hn : m.ls.length = n) (hj : j < n) (hf : ∀ q, j + 1 ≤ q → q < n → f3 q = .bool ((undR m H (n - (j + 1))).getD (q - (j + 1)) false))
    (hb : b = (!H (j : Int) && (chL m (j : Int)).all (fun k => (undR m H (n - (j + 1))).getD (k.toNat - (j + 1)) false))) :
    ∀ q, j ≤ q → q < n → (fun i => if i = j then Value.bool b else f3 i) q = .bool ((undR m H (n - j)).getD (q - j) false) := by
  intro q h1 h2
  rw [undR_at hn hj, ← hb]
  by_cases e : q = j
  · subst e; simp
  · simp only [e, if_false]
    rw [hf q (by omega) h2, show q - j = (q - (j + 1)) + 1 by omega]
    rfl

set_option maxHeartbeats 8000000 in
set_option maxRecDepth 100000 in
theorem undone_any (m : Mc) (g gl : Nat) (H : Int → Bool) (w : World) (h : RdP w g m) (ok : okM m = true) (hr : w.rowIs gl 4 m.ls.length (fun i => .bool (H (i : Int)))) :
    Calls Try.prog 72 #[.pointer (some ⟨g, 0, none⟩), .slice (some ⟨gl, 0, none⟩) m.ls.length m.ls.length] w (GivesBR w m.ls.length (fun i => (undL m H).getD i false)) := by
  have h300 := ls_len ok
  have hgl := h.lt
  have hlr := rowIs_lt hr
  have HP := Lib.hid h
  have HOK := Lib.hid ok
  have HR := Lib.hid hr
  have HCR := Lib.hid (fun (c k : Int) (hk : k ∈ chL m c) => chL_rng ok hk)
  obtain ⟨F, G, C, L, D, hc, h1, h2, h3, h4, h5, h6⟩ := h
  obtain ⟨AI, cI, rfl⟩ := RdN.shape h4
  have HC := Lib.hid hc
  have HU := Lib.hid (show undL m H = undR m H m.ls.length from rfl)
  generalize hln : m.ls.length = n at *
  have HLN := Lib.hid hln
  have hmk : ∀ W : World, (Instr.makeSlice 94 (.int .i64 (n : Int)) (.int .i64 (n : Int))).run Try.prog W = .ok (.slice (some ⟨W.heap.size, 0, none⟩) n n) (W.alloc (.cells (madeCells #[.bool false] n) 4)) := fun W => run_make_row' (P := Try.prog) 94 4 (.bool false) 1 Try.underlying94 info_bool rfl .i64 .i64 n (by omega) (by omega) W
  clear h1 h2 h3 h4 h5 h6 hc hln ok hr
  go_enter Try.func72, Try.ntmps72
  go_wp2_with fail
  refine (children_any m g _ HP.out HOK.out).mono ?_
  rintro e w2 ⟨f, rfl, hm, hb2⟩
  rw [HLN.out] at hm
  rw [HLN.out]
  have HB2 := Lib.hid hb2
  have HM2 := Lib.hid hm
  have hwl2 : w.heap.size < w2.heap.size := rowIs_lt hm.row
  have HR2 := Lib.hid (rowIs_below HR.out hb2)
  obtain ⟨x0, x1, x2, x3, x4, x5, x6⟩ := (HC.out.below HB2.out hgl).seven
  have hg2 : g < w2.heap.size := by omega
  clear hm hb2
  go_wp2
  clear hmk x0 x1 x2 x3 x4 x5 x6
  go_loopw [7] (fun i wr => ∃ (j1 : Nat) (f3 : Nat → Value), j1 ≤ n ∧ i = .int .i64 ((j1 : Int) - 1) ∧ wr.rowIs w2.heap.size 4 n f3 ∧ Hid (∀ q, j1 ≤ q → q < n → f3 q = .bool ((undR m H (n - j1)).getD (q - j1) false)) ∧ Hid (wr.cell? ⟨w2.heap.size + 1, 0, none⟩ = some (.slice (some ⟨w2.heap.size, 0, none⟩) n n)) ∧ Hid (Below w2.heap.size w2 wr)) (fun i _ => (intOf i + 1).toNat)
  case atStart =>
    refine ⟨n, fun _ => .bool false, Nat.le_refl _, rfl, ?_, fun q h1 h2 => absurd h1 (by omega), ?_, ?_⟩
    · exact rowIs_below (World.rowIs_made _ _ _ _) ((Below.refl _ _).alloc (Nat.le_refl _) _)
    · unfold Hid; simp [go_sem]
    · exact ((Below.refl _ _).alloc (Nat.le_refl _) _).alloc (by simp) _
  case round =>
    rename_i wr
    obtain ⟨j1, f3, hj1, h7, hrow, hf, hcb, hbb⟩ := hrel
    by_cases hj0 : j1 = 0
    · subst hj0
      rw [show ((0 : Nat) : Int) - 1 = -1 by omega] at h7
      subst h7
      have cb := hcb.out
      have HROW := Lib.hid (rowIs_congr (f' := fun i => .bool ((undL m H).getD i false)) hrow (fun i hi => by rw [hf.out i (Nat.zero_le _) hi, HU.out]; simp))
      have HBW := Lib.hid (HB2.out.trans (hbb.out.mono HB2.out.size))
      clear hrow
      go_wp2
      go_ret
      exact ⟨_, rfl, by omega, HROW.out, HBW.out⟩
    · obtain ⟨j, rfl⟩ : ∃ j, j1 = j + 1 := ⟨j1 - 1, by omega⟩
      rw [show ((j + 1 : Nat) : Int) - 1 = (j : Int) by omega] at h7
      subst h7
      have hjn : j < n := by omega
      have cl := (rowIs_below (rowIs_below HR2.out (Below.refl _ _)) hbb.out).cell (i := j) hjn
      have cb := hcb.out
      have cp := hrow.cell (i := j) hjn
      have fz := fun i => hrow.frozen i
      have hjn' : (j : Int) < (n : Int) := by omega
      have HROW := Lib.hid hrow
      clear hrow hj0
      cases hH : H (j : Int)
      · rw [hH] at cl
        have hmat := HM2.out.below hbb.out
        have cm := hmat.row.cell (i := j) hjn
        obtain ⟨Ak, ck, hfk, -⟩ := (OwC.of_own (hmat.own j hjn)).cells
        rw [hfk] at cm
        have HRD := Lib.hid (show RdI wr wr.heap.size (.slice Ak (chL m (j : Int)).length ck) (chL m (j : Int)) from by rw [← hfk]; exact RdI.of_own (OwC.of_own (hmat.own j hjn)))
        have HIN := Lib.hid (HCR.out (j : Int))
        have hF : ClosR wr.drew (w2.heap.size + 1) w2.heap.size n (fun q => (undR m H (n - (j + 1))).getD (q - (j + 1)) false) (j + 1) := ⟨cb, f3, HROW.out, hf.out⟩
        have HQ := Lib.hid ((undCont_any (w2.heap.size + 1) w2.heap.size n (j + 1) (fun q => (undR m H (n - (j + 1))).getD (q - (j + 1)) false) _ _ wr.drew HRD.out hF (fun k hk => by have := HIN.out k hk; omega)).mono (fun e w' h => (⟨h.1, h.2.symm⟩ : _ ∧ w' = wr.drew)))
        have HBV := Lib.hid (show (!(chL m (j : Int)).any (fun k : Int => !(undR m H (n - (j + 1))).getD (k.toNat - (j + 1)) false)) = (!H (j : Int) && (chL m (j : Int)).all (fun k => (undR m H (n - (j + 1))).getD (k.toNat - (j + 1)) false)) by rw [hH, List.not_any_eq_all_not]; simp)
        clear hmat hfk hH hF
        generalize (chL m (j : Int)).any (fun k : Int => !(undR m H (n - (j + 1))).getD (k.toNat - (j + 1)) false) = B at HQ HBV
        have HNEW := Lib.hid (und_new HLN.out hjn hf.out HBV.out)
        go_wp2
        refine wp_region_still_tail 17 (by kernel_rfl) (by kernel_rfl) ?_
        simp only [List.take_succ_cons, List.take_zero, List.drop_succ_cons, List.drop_zero]
        refine LaterS.out ?_
        repeat (refine lstep (fun K hK => ?_); go_simp; refine hK _ ?_; clear hK K)
        refine lstep (fun K hK => ?_)
        go_simp
        refine ⟨_, HQ.out, hK _ ?_⟩
        clear hK K
        repeat (refine lstep (fun K hK => ?_); go_simp; refine hK _ ?_; clear hK K)
        refine lnil ?_
        change wpList _ _ _ _ _ wr.drew
        have HRD2 : Hid (wr.drew.rowIs w2.heap.size 4 n f3) := HROW.out
        have HCD2 : Hid (wr.drew.cell? ⟨w2.heap.size + 1, 0, none⟩ = some (.slice (some ⟨w2.heap.size, 0, none⟩) n n)) := cb
        have HBD2 := Lib.hid hbb.out.drew
        clear cl cb cp fz cm
        generalize wr.drew = wd at *
        have cp := HRD2.out.cell (i := j) hjn
        have fz := fun i => HRD2.out.frozen i
        go_wp2
        refine ⟨⟨j, (fun i => if i = j then Value.bool (!B) else f3 i), ?_, ?_, ?_, HNEW.out, ?_, ?_⟩, ?_⟩
        · omega
        · rfl
        · exact HRD2.out.set _ _
        · exact (World.cell?_setCell_other wd _ _ _ (by intro e; injection e with e; omega)).trans HCD2.out
        · exact HBD2.out.setCell (Nat.le_refl _) _
        · simp only [intOf]; omega
      · rw [hH] at cl
        have HBV := Lib.hid (show false = (!H (j : Int) && (chL m (j : Int)).all (fun k => (undR m H (n - (j + 1))).getD (k.toNat - (j + 1)) false)) by rw [hH]; rfl)
        have HNEW := Lib.hid (und_new HLN.out hjn hf.out HBV.out)
        clear hH
        go_wp2
        refine wp_region_still_tail 17 (by kernel_rfl) (by kernel_rfl) ?_
        simp only [List.take_succ_cons, List.take_zero, List.drop_succ_cons, List.drop_zero]
        refine LaterS.out ?_
        repeat (refine lstep (fun K hK => ?_); go_simp; refine hK _ ?_; clear hK K)
        refine lnil ?_
        change wpList _ _ _ _ _ wr.drew
        have HRD2 : Hid (wr.drew.rowIs w2.heap.size 4 n f3) := HROW.out
        have HCD2 : Hid (wr.drew.cell? ⟨w2.heap.size + 1, 0, none⟩ = some (.slice (some ⟨w2.heap.size, 0, none⟩) n n)) := cb
        have HBD2 := Lib.hid hbb.out.drew
        clear cl cb cp fz
        generalize wr.drew = wd at *
        have cp := HRD2.out.cell (i := j) hjn
        have fz := fun i => HRD2.out.frozen i
        go_wp2
        refine ⟨⟨j, (fun i => if i = j then Value.bool false else f3 i), ?_, ?_, ?_, HNEW.out, ?_, ?_⟩, ?_⟩
        · omega
        · rfl
        · exact HRD2.out.set _ _
        · exact (World.cell?_setCell_other wd _ _ _ (by intro e; injection e with e; omega)).trans HCD2.out
        · exact HBD2.out.setCell (Nat.le_refl _) _
        · simp only [intOf]; omega

end Go.Proofs.Ytogaellhkjjeaaa

/-
  l12Undone of the reference; runOf of the program, l12Run of the reference.
-/
namespace Go.Proofs.Ytogaellhkjjeaaa
set_option linter.unusedVariables false
set_option linter.unusedSimpArgs false
open Go.RowKit

theorem rowIs_other {w : World} {g t n : Nat} {f : Nat → Value} (h : w.rowIs g t n f) {p : Addr} (hp : p.block ≠ g) (u : Value) : (w.setCell p u).rowIs g t n f :=
  rowIs_block h (Below.heap_setCell _ _ _ _ (fun e => hp e.symm))

theorem all_nextU {l : List Int} {k : Nat} {c : Int} {G : Int → Bool} {R b : Bool} (h : R = (b && (l.drop k).all G)) (hc : l[k]? = some c) : R = ((b && G c) && (l.drop (k + 1)).all G) := by
  rw [h, drop_of_get hc, List.all_cons, Bool.and_assoc]

set_option maxHeartbeats 8000000 in
set_option maxRecDepth 100000 in
theorem l12Undone_any (m : Mc) (g : Nat) (v : Value) (l : List Int) (w : World) (h : RdP w g m) (ok : okM m = true) (hv : RdI w w.heap.size v l) :
    Calls Try.prog 187 #[.pointer (some ⟨g, 0, none⟩), v] w (GivesOw w 2 1 (idxT 0 (undL m (hasB l))).length (vI (idxT 0 (undL m (hasB l))))) := by
  obtain ⟨i0, hi, hz0, hz1, hz2⟩ := info_parts info_int
  have h300 := ls_len ok
  have hgl := h.lt
  have HP := Lib.hid h
  have HV := Lib.hid hv
  have HCR := Lib.hid (fun (c k : Int) (hk : k ∈ chL m c) => chL_rng ok hk)
  have HCN := Lib.hid (fun (c : Int) => show (chL m c).length ≤ m.ls.length from chGo_len c m.ls 0)
  obtain ⟨F, G, C, L, D, hc, h1, h2, h3, h4, h5, h6⟩ := h
  obtain ⟨AI, cI, rfl⟩ := RdN.shape h4
  obtain ⟨x0, x1, x2, x3, x4, x5, x6⟩ := hc.seven
  have HU := Lib.hid (show undL m (hasB l) = undR m (hasB l) m.ls.length from rfl)
  have HUL := Lib.hid (undR_len m (hasB l) m.ls.length)
  generalize hln : m.ls.length = n at *
  have HLN := Lib.hid hln
  have hmk : ∀ W : World, (Instr.makeSlice 94 (.int .i64 (n : Int)) (.int .i64 (n : Int))).run Try.prog W = .ok (.slice (some ⟨W.heap.size, 0, none⟩) n n) (W.alloc (.cells (madeCells #[.bool false] n) 4)) := fun W => run_make_row' (P := Try.prog) 94 4 (.bool false) 1 Try.underlying94 info_bool rfl .i64 .i64 n (by omega) (by omega) W
  clear h1 h2 h3 h4 h5 h6 hc hln ok hv
  generalize hY : idxT 0 (undL m (hasB l)) = Y
  have HY := Lib.hid hY
  clear hY
  go_enter Try.func187, Try.ntmps187
  go_wp2
  clear hmk x0 x1 x2 x3 x4 x5 x6
  go_loopw [7] (fun i wr => ∃ (j1 : Nat) (f3 : Nat → Value), j1 ≤ n ∧ i = .int .i64 ((j1 : Int) - 1) ∧ wr.rowIs w.heap.size 4 n f3 ∧ Hid (∀ q, j1 ≤ q → q < n → f3 q = .bool ((undR m (hasB l) (n - j1)).getD (q - j1) false)) ∧ Hid (Below w.heap.size w wr)) (fun i _ => (intOf i + 1).toNat)
  case atStart =>
    exact ⟨n, fun _ => .bool false, Nat.le_refl _, rfl, World.rowIs_made _ _ _ _, fun q h1 h2 => absurd h1 (by omega), (Below.refl _ _).alloc (Nat.le_refl _) _⟩
  case round =>
    rename_i wr
    obtain ⟨j1, f3, hj1, h7, hrow, hf, hbb⟩ := hrel
    by_cases hj0 : j1 = 0
    · subst hj0
      rw [show ((0 : Nat) : Int) - 1 = -1 by omega] at h7
      subst h7
      have HROW := Lib.hid (rowIs_congr (f' := fun i => .bool ((undL m (hasB l)).getD i false)) hrow (fun i hi => by rw [hf.out i (Nat.zero_le _) hi, HU.out]; simp))
      have HBW := Lib.hid hbb.out
      have hwz : w.heap.size < wr.heap.size := rowIs_lt hrow
      clear hrow
      go_wp2
      go_loopw [10, 11] (fun t i wz => ∃ (k : Nat) (acc : List Int) (wq : World), wq = wz ∧ k ≤ n ∧ i = .int .i64 k ∧ wq.ownsRow wr.heap.size 2 1 t acc.length (vI acc) ∧ acc.length ≤ k ∧ Hid (Y = acc ++ idxT (k : Int) ((undL m (hasB l)).drop k)) ∧ Below wr.heap.size wr wq) (fun _ i _ => n - (intOf i).toNat)
      case atStart => exact ⟨0, [], _, rfl, Nat.zero_le _, rfl, World.ownsRow_lit _ _ _ (Nat.le_refl _) (by unfold maxLen; omega) rfl, Nat.le_refl _, by unfold Hid; rw [← HY.out]; rfl, (Below.refl _ _).alloc (Nat.le_refl _) _⟩
      case round =>
        obtain ⟨k, acc, wq, hwe, hk, rfl, hown, hak, hd, hb⟩ := hrel
        subst hwe
        by_cases hlt : k < n
        · have cl := (rowIs_below HROW.out hb).cell (i := k) hlt
          have hlk : (undL m (hasB l))[k]? = some ((undL m (hasB l)).getD k false) := by
            rw [List.getD_eq_getElem?_getD, List.getElem?_eq_getElem (by rw [HU.out, HUL.out]; exact hlt)]; rfl
          have HB := Lib.hid hb
          have HO := Lib.hid hown
          cases hv : (undL m (hasB l)).getD k false
          · rw [hv] at cl hlk
            have HD := Lib.hid (idxT_no hd.out hlk)
            clear hb hown hd hlk hv
            go_wp2
            exact ⟨⟨k + 1, acc, _, rfl, by omega, by go_num, HO.out, by omega, HD.out, HB.out⟩, by simp [intOf]; omega⟩
          · rw [hv] at cl hlk
            have HD := Lib.hid (idxT_yes hd.out hlk)
            clear hb hown hd hlk hv
            go_wp2_with (at_builtin; refine wpList_append_own _ rfl _ _ 27 rfl wr.heap.size 2 i0 _ 1 8 Try.underlying27 hi hz0 hz1 hz2 rfl (by decide) _ _ _ rfl (HO.out.alloc _) ⟨wq.heap.size, 0, none⟩ 1 1 [.int .i64 (k : Int)] rfl rfl ?c1 ?c2 ?c3 ?c4 ?c5 ?_)
            case c1 => exact new_cells' _ _ rfl
            case c2 => exact int_one _
            case c3 => unfold maxLen; omega
            case c4 => omega
            case c5 => have := HB.out.size; simp; omega
            intro v' w2 hown2 hgrow2 _
            have HB1 := Lib.hid (below_append' (HB.out.alloc HB.out.size _) (by have := HB.out.size; simp; omega) HO.out (by simp) hgrow2)
            have HO1 : Hid (w2.ownsRow wr.heap.size 2 1 v' (acc ++ [(k : Int)]).length (vI (acc ++ [(k : Int)]))) := by unfold Hid; rw [vI_snoc, List.length_append]; exact hown2
            clear hgrow2 hown2 HB HO
            go_wp2
            exact ⟨⟨k + 1, acc ++ [(k : Int)], _, rfl, by omega, by go_num, HO1.out, by simp; omega, HD.out, HB1.out⟩, by simp [intOf]; omega⟩
        · have HB := Lib.hid (HBW.out.trans (hb.mono HBW.out.size))
          have HO := Lib.hid hown
          have HD := Lib.hid (show Y = acc by rw [hd.out, List.drop_of_length_le (by rw [HU.out, HUL.out]; omega)]; simp [idxT])
          clear hb hown hd
          go_wp2
          go_ret
          exact ⟨_, rfl, by rw [HD.out]; exact (OwC.of_own HO.out).wide (by omega) (Nat.le_refl _), HB.out⟩
    · obtain ⟨j, rfl⟩ : ∃ j, j1 = j + 1 := ⟨j1 - 1, by omega⟩
      rw [show ((j + 1 : Nat) : Int) - 1 = (j : Int) by omega] at h7
      subst h7
      have hjn : j < n := by omega
      have hjn' : (j : Int) < (n : Int) := by omega
      have HROW := Lib.hid hrow
      have hwz : w.heap.size < wr.heap.size := rowIs_lt hrow
      have HVW := Lib.hid ((HV.out.below hbb.out).more hbb.out.size)
      clear hrow hj0
      go_wp2_with fail
      refine (l00Has_any _ l _ _ HVW.out).mono ?_
      rintro e w1 ⟨rfl, hb1⟩
      have hz1 := hb1.size
      have HR1 := Lib.hid (rowIs_below HROW.out hb1)
      have HB1 := Lib.hid (hbb.out.trans (hb1.mono hbb.out.size))
      have cp := HR1.out.cell (i := j) hjn
      have fz := fun i => HR1.out.frozen i
      clear hb1
      have HHB := Lib.hid (show l.contains (j : Int) = hasB l (j : Int) from rfl)
      rw [HHB.out]
      generalize hH : hasB l (j : Int) = bH
      have HH := Lib.hid hH
      clear hH
      have HR2 := Lib.hid (HR1.out.set j (.bool (!bH)))
      have HB2 := Lib.hid (HB1.out.setCell (p := ⟨w.heap.size, j, none⟩) (Nat.le_refl _) (.bool (!bH)))
      go_wp2_with fail
      refine (l11Children_any m g _ _ (HP.out.below HB2.out) (by rw [HLN.out]; exact h300)).mono ?_
      rintro e w5 ⟨v5, rfl, ho5, hb5⟩
      obtain ⟨A5, c5, rfl, -⟩ := ho5.cells
      have hs1 : w1.heap.size ≤ w5.heap.size := by have := hb5.size; simp at this; exact this
      have HO5 := Lib.hid (ho5.wide (show w.heap.size + 1 ≤ _ by simp; omega) (Nat.le_refl _))
      have HR5 := Lib.hid (rowIs_below HR2.out hb5)
      have HB5 := Lib.hid (HB2.out.trans (hb5.mono HB2.out.size))
      have HIN := Lib.hid (HCR.out (j : Int))
      have hcn := HCN.out (j : Int)
      clear ho5 hb5 cp fz
      generalize hX : chL m (j : Int) = X at *
      generalize hxn : X.length = N at *
      have HXN := Lib.hid hxn
      have HUA := Lib.hid (show (!hasB l (j : Int) && (chL m (j : Int)).all (fun k => (undR m (hasB l) (n - (j + 1))).getD (k.toNat - (j + 1)) false)) = (!bH && (X.drop 0).all (fun k => (undR m (hasB l) (n - (j + 1))).getD (k.toNat - (j + 1)) false)) by rw [HH.out, hX]; rfl)
      clear hX hxn
      go_wp2
      go_loopw [9] (fun i wq => ∃ (k : Nat) (f4 : Nat → Value) (b : Bool) (W2 : World), W2 = wq ∧ k ≤ N ∧ i = .int .i64 k ∧ W2.rowIs w.heap.size 4 n f4 ∧ Hid (f4 j = .bool b) ∧ Hid (∀ q, j + 1 ≤ q → q < n → f4 q = f3 q) ∧ Hid ((!hasB l (j : Int) && (chL m (j : Int)).all (fun k => (undR m (hasB l) (n - (j + 1))).getD (k.toNat - (j + 1)) false)) = (b && (X.drop k).all (fun k => (undR m (hasB l) (n - (j + 1))).getD (k.toNat - (j + 1)) false))) ∧ Hid (Same (w.heap.size + 1) w5.heap.size w5 W2) ∧ Hid (Below w.heap.size w W2)) (fun i _ => N - (intOf i).toNat)
      case atStart =>
        refine ⟨0, _, !bH, _, rfl, Nat.zero_le _, rfl, HR5.out, ?_, ?_, HUA.out, Same.refl _ _ _, HB5.out⟩
        · show (if j = j then _ else _) = _; rw [if_pos rfl]
        · intro q h1 h2; show (if q = j then _ else _) = _; rw [if_neg (by omega)]
      case round =>
        obtain ⟨k, f4, b, W2, hwe, hk, rfl, hr4, hfj, hfq, hall, hsm, hb4⟩ := hrel
        subst hwe
        by_cases hlt : k < N
        · have hown := HO5.out.same hsm.out
          rw [← HXN.out] at hown
          have hrd := RdI.of_own hown
          rw [HXN.out] at hrd
          obtain ⟨b5, o5, c, rfl, hbb5, hck, hcc⟩ := hrd.at_ hlt
          have hcr := HIN.out c (List.mem_of_getElem? hck)
          obtain ⟨cn, rfl⟩ := Int.eq_ofNat_of_zero_le (show 0 ≤ c by omega)
          have hcn2 : cn < n := by omega
          have hcn3 : (cn : Int) < (n : Int) := by omega
          have cj := hr4.cell (i := j) hjn
          rw [hfj.out] at cj
          have cc := hr4.cell (i := cn) hcn2
          rw [hfq.out cn (by omega) hcn2, hf.out cn (by omega) hcn2] at cc
          have fz := fun i => hr4.frozen i
          have HNX := Lib.hid (all_nextU hall.out hck)
          have HR4 := Lib.hid hr4
          rw [show (((cn : Nat) : Int)).toNat = cn by omega] at HNX
          generalize hU : (undR m (hasB l) (n - (j + 1))).getD (cn - (j + 1)) false = U at cc HNX
          clear hck hown hrd hr4 hU
          cases b
          · go_wp2
            refine ⟨⟨k + 1, (fun i => if i = j then Value.bool false else f4 i), false, _, rfl, ?_, by go_num, HR4.out.set _ _, ?_, ?_, ?_, hsm.out.setCell (.inl (by simp)) _, hb4.out.setCell (Nat.le_refl _) _⟩, ?_⟩
            · omega
            · unfold Hid; simp
            · intro q h1 h2; show (if q = j then _ else _) = _; rw [if_neg (by omega)]; exact hfq.out q h1 h2
            · unfold Hid; rw [HNX.out]; simp
            · simp only [intOf]; omega
          · go_wp2
            refine ⟨⟨k + 1, (fun i => if i = j then Value.bool U else f4 i), U, _, rfl, ?_, by go_num, HR4.out.set _ _, ?_, ?_, ?_, hsm.out.setCell (.inl (by simp)) _, hb4.out.setCell (Nat.le_refl _) _⟩, ?_⟩
            · omega
            · unfold Hid; simp
            · intro q h1 h2; show (if q = j then _ else _) = _; rw [if_neg (by omega)]; exact hfq.out q h1 h2
            · unfold Hid; rw [HNX.out]; simp
            · simp only [intOf]; omega
        · have HBE := Lib.hid (show b = (!hasB l (j : Int) && (chL m (j : Int)).all (fun k => (undR m (hasB l) (n - (j + 1))).getD (k.toNat - (j + 1)) false)) by rw [hall.out, List.drop_of_length_le (by have := HXN.out; omega)]; simp)
          have HNEW := Lib.hid (und_new HLN.out hjn hf.out HBE.out)
          have HR4 := Lib.hid (rowIs_congr (f' := fun i => if i < j then f4 i else if i = j then Value.bool b else f3 i) hr4 (fun i hi => by
            show (if i < j then _ else if i = j then _ else _) = _
            by_cases e1 : i < j
            · rw [if_pos e1]
            · rw [if_neg e1]
              by_cases e2 : i = j
              · rw [if_pos e2, e2, hfj.out]
              · rw [if_neg e2, hfq.out i (by omega) hi]))
          clear hr4
          go_wp2
          refine ⟨⟨j, (fun i => if i < j then f4 i else if i = j then Value.bool b else f3 i), by omega, rfl, HR4.out, ?_, hb4.out⟩, ?_⟩
          · intro q h1 h2
            show (if q < j then _ else if q = j then _ else _) = _
            rw [if_neg (by omega)]
            exact HNEW.out q h1 h2
          · simp only [intOf]; omega

end Go.Proofs.Ytogaellhkjjeaaa

/-
  LoopState, Undone, IsSecure, of the program and of the reference.
-/
namespace Go.Proofs.Ytogaellhkjjeaaa
set_option linter.unusedVariables false
set_option linter.unusedSimpArgs false
open Go.RowKit

/-- The code of a machine. -/
def okC (m : Mc) : Int := if okM m = true then 0 else 1
theorem okC_no {m : Mc} (h : okM m = false) : okC m = 1 := by simp [okC, h]
theorem okC_yes {m : Mc} (h : okM m = true) : okC m = 0 := by simp [okC, h]


/-- What LoopState answers. -/
def stV (m : Mc) (k : Int) : Int := if askC m k = 0 then stM m k else 0
def stR (m : Mc) (k : Int) (e : Ending) : Prop := e = .returned (.tuple #[.int .i64 (stV m k), .int .i64 (askC m k)])

set_option maxHeartbeats 4000000 in
set_option maxRecDepth 100000 in
theorem implUndone_any (v : Value) (m : Mc) (w : World) (hl : RdM w w.heap.size v m) (hf : FitM m) :
    Calls Try.prog 24 #[v] w (GivesC w 2 1 (okList (okC m) (undone m)).length (vI (okList (okC m) (undone m))) (okC m)) := by
  have hdr := hf.dr
  have hl0 := hl
  obtain ⟨f, b, cs, ls, d, rfl, h1, h2, h3, h4, h5, h6⟩ := hl
  obtain ⟨AF, cF, rfl⟩ := RdN.shape h1
  obtain ⟨AG, cG, rfl⟩ := RdN.shape h2
  obtain ⟨AC, cC, rfl⟩ := RdS.lens h3
  obtain ⟨AI, cI, rfl⟩ := RdN.shape h4
  obtain ⟨AD, cD, rfl⟩ := RdI.len h5
  have BW := Lib.hid (show Below w.heap.size w (w.alloc (.cells #[.int .i64 m.wd, .int .i64 m.rk, .slice AF m.fr.length cF, .slice AG m.bk.length cG, .slice AC m.cs.length cC, .slice AI m.ls.length cI, .slice AD m.dr.length cD] 29)) from (Below.refl _ _).alloc (Nat.le_refl _) _)
  have HP := Lib.hid (RdP.box (T := 29) h1 h2 h3 h4 h5 h6)
  have HM := Lib.hid (hl0.up BW.out BW.out.size)
  clear h1 h2 h3 h4 h5 h6 hl0
  have HQ := Lib.hid (validMachine_any _ m _ HM.out)
  cases hok : okM m
  · have HN := Lib.hid (fun w' hb => (show Below w.heap.size w w' → GivesC w 2 1 (okList (okC m) (undone m)).length (vI (okList (okC m) (undone m))) (okC m) (.returned (.tuple #[.slice none 0 0, .int .i64 1])) w' from fun hb => by rw [okC_no hok]; exact GivesC.nil (by decide) rfl hb) hb)
    have HK := Lib.hid hok
    clear hok
    go_enter Try.func24, Try.ntmps24
    go_wp2_with fail
    refine HQ.out.mono ?_
    rintro e w1 ⟨rfl, hb⟩
    rw [HK.out]
    have HB := Lib.hid (BW.out.trans (hb.mono BW.out.size))
    clear hb
    go_wp2
    go_ret2
    exact HN.out _ HB.out
  have HOK := Lib.hid hok
  have h300 := ls_len hok
  clear hok
  go_enter Try.func24, Try.ntmps24
  go_wp2_with fail
  refine HQ.out.mono ?_
  rintro e w1 ⟨rfl, hb⟩
  rw [HOK.out]
  have HB := Lib.hid (BW.out.trans (hb.mono BW.out.size))
  have HP1 := Lib.hid (HP.out.below hb)
  clear hb HM HP HQ
  go_wp2_with fail
  refine (isLive_any m _ _ HP1.out HOK.out).mono ?_
  rintro e w2 ⟨rfl, hr, hb⟩
  have HR := Lib.hid hr
  have HP2 := Lib.hid (HP1.out.below hb)
  have HB2 := Lib.hid (HB.out.trans (hb.mono HB.out.size))
  clear hr hb
  go_wp2_with fail
  refine (undone_any m _ _ (hasB (liveL m)) _ HP2.out HOK.out HR.out).mono ?_
  rintro e w3 ⟨go, rfl, hgo, hr, hb⟩
  have hl : (undL m (hasB (liveL m))).length = m.ls.length := undR_len _ _ _
  rw [← hl] at hr
  have HR3 := Lib.hid hr
  have HQ3 := Lib.hid (indicesOf_any go (undL m (hasB (liveL m))) _ hr (by omega))
  rw [hl] at HQ3
  have HB3 := Lib.hid (HB2.out.trans (hb.mono HB2.out.size))
  clear hr hb hl
  go_wp2_with fail
  refine HQ3.out.mono ?_
  rintro e w4 ⟨v4, rfl, ho, hb⟩
  have HO := Lib.hid (ho.lo HB3.out.size)
  have HB4 := Lib.hid (HB3.out.trans (hb.mono HB3.out.size))
  clear ho hb
  go_wp2
  go_ret2
  exact GivesC.yes (okC_yes HOK.out) rfl HO.out HB4.out

/-- Is a machine secure? -/
def secB (m : Mc) : Bool := okM m && decide ((undone m).length = 0)
set_option maxHeartbeats 4000000 in
set_option maxRecDepth 100000 in
theorem implSecure_any (v : Value) (m : Mc) (w : World) (hl : RdM w w.heap.size v m) (hf : FitM m) :
    Calls Try.prog 25 #[v] w fun e w' => e = .returned (.bool (secB m)) ∧ Below w.heap.size w w' := by
  have hdr := hf.dr
  have hl0 := hl
  obtain ⟨f, b, cs, ls, d, rfl, h1, h2, h3, h4, h5, h6⟩ := hl
  obtain ⟨AF, cF, rfl⟩ := RdN.shape h1
  obtain ⟨AG, cG, rfl⟩ := RdN.shape h2
  obtain ⟨AC, cC, rfl⟩ := RdS.lens h3
  obtain ⟨AI, cI, rfl⟩ := RdN.shape h4
  obtain ⟨AD, cD, rfl⟩ := RdI.len h5
  have BW := Lib.hid (show Below w.heap.size w (w.alloc (.cells #[.int .i64 m.wd, .int .i64 m.rk, .slice AF m.fr.length cF, .slice AG m.bk.length cG, .slice AC m.cs.length cC, .slice AI m.ls.length cI, .slice AD m.dr.length cD] 29)) from (Below.refl _ _).alloc (Nat.le_refl _) _)
  have HP := Lib.hid (RdP.box (T := 29) h1 h2 h3 h4 h5 h6)
  have HM := Lib.hid (hl0.up BW.out BW.out.size)
  clear h1 h2 h3 h4 h5 h6 hl0
  have HQ := Lib.hid (implUndone_any _ m _ HM.out hf)
  cases hok : okM m
  · have HS := Lib.hid (show secB m = false by simp [secB, hok])
    have HE := Lib.hid (okC_no hok)
    rw [HE.out] at HQ
    clear hok
    go_enter Try.func25, Try.ntmps25
    go_wp2_with fail
    refine HQ.out.mono ?_
    rintro e w1 ⟨v1, rfl, ho, hb⟩
    have HB := Lib.hid (BW.out.trans (hb.mono BW.out.size))
    clear hb ho
    go_wp2
    go_ret
    exact ⟨ret_bool HS.out.symm, HB.out⟩
  · have HS := Lib.hid (show secB m = decide ((undone m).length = 0) by simp [secB, hok])
    have HE := Lib.hid (okC_yes hok)
    rw [HE.out, okList_yes rfl] at HQ
    clear hok
    generalize undone m = U at *
    go_enter Try.func25, Try.ntmps25
    go_wp2_with fail
    refine HQ.out.mono ?_
    rintro e w1 ⟨v1, rfl, ho, hb⟩
    obtain ⟨A3, c3, rfl, -⟩ := ho.cells
    have HB := Lib.hid (BW.out.trans (hb.mono BW.out.size))
    clear hb ho
    generalize U.length = N at *
    go_wp2
    go_ret
    exact ⟨ret_bool (by rw [HS.out, Bool.eq_iff_iff]; simp; try omega), HB.out⟩

end Go.Proofs.Ytogaellhkjjeaaa

/-
  FabricCounts, of the program and of the reference.
-/
namespace Go.Proofs.Ytogaellhkjjeaaa
set_option linter.unusedVariables false
set_option linter.unusedSimpArgs false
open Go.RowKit

theorem ok_kind {m : Mc} {j : Nat} {x : Inf} (h : okM m = true) (hx : m.ls[j]? = some x) : x.k = 1 ∨ x.k = 2 ∨ x.k = 5 := by
  unfold okM at h
  simp at h
  have h1 := infs_at h.2.2.2.2.1 hx
  unfold okInf at h1
  simp at h1
  exact kindM_cases h1.1
theorem fc_next {m : Mc} {k : Nat} {x : Inf} (hx : m.ls[k]? = some x) (j : Int) : fcF m (k + 1) j = fcF m k j + (if kindJ x.k = j then 1 else 0) + (if 2 + stM m (k : Int) = j then 1 else 0) := by
  rw [fcF, hx]; rfl
theorem fc_new {FC : Nat → Int → Int} {f : Nat → Value} {k q : Nat} {sk xk : Int} (hf : ∀ j : Nat, j < 7 → f j = .int .i64 (FC k (j : Int))) (hn : ∀ j : Int, FC (k + 1) j = FC k j + (if kindJ xk = j then 1 else 0) + (if 2 + sk = j then 1 else 0))
    (hq : kindJ xk = (q : Int)) (hqs : (2 + sk).toNat ≠ q) (h0 : 0 ≤ 2 + sk) : ∀ j : Nat, j < 7 → (fun i => if i = (2 + sk).toNat then Value.int .i64 (FC k (2 + sk) + 1) else if i = q then Value.int .i64 (FC k (q : Int) + 1) else f i) j = .int .i64 (FC (k + 1) (j : Int)) := by
  intro j hj
  show (if j = (2 + sk).toNat then _ else if j = q then _ else _) = _
  rw [hn, hq]
  by_cases e : j = (2 + sk).toNat
  · have e1 : (j : Int) = 2 + sk := by omega
    rw [if_pos e, if_neg (show ¬ (q : Int) = (j : Int) by omega), if_pos e1.symm, e1]
    simp
  · rw [if_neg e, if_neg (show ¬ 2 + sk = (j : Int) by omega)]
    by_cases e2 : j = q
    · subst e2
      rw [if_pos rfl, if_pos rfl]
      simp
    · rw [if_neg e2, if_neg (show ¬ (q : Int) = (j : Int) by omega), hf j hj]
      simp
theorem fcL_len (m : Mc) : (fcL m).length = 7 := by simp [fcL]
theorem fcL_vI (m : Mc) : vI (fcL m) = (List.range 7).map fun j : Nat => Value.int .i64 (fcF m m.ls.length (j : Int)) := by simp [vI, fcL]
theorem okC_list {m : Mc} {n : Nat} (h : okM m = true) : okList (okC m) (fcL m) = fcL m := okList_yes (okC_yes h)

set_option maxHeartbeats 8000000 in
set_option maxRecDepth 100000 in
theorem implCounts_any (v : Value) (m : Mc) (w : World) (hl : RdM w w.heap.size v m) (hf : FitM m) :
    Calls Try.prog 17 #[v] w (GivesC w 2 1 (okList (okC m) (fcL m)).length (vI (okList (okC m) (fcL m))) (okC m)) := by
  have hmk : ∀ W : World, (Instr.makeSlice 27 (.int .i64 7) (.int .i64 7)).run Try.prog W = .ok (.slice (some ⟨W.heap.size, 0, none⟩) 7 7) (W.alloc (.cells (madeCells #[.int .i64 0] 7) 2)) := fun W => run_make_row' (P := Try.prog) 27 2 (.int .i64 0) 8 Try.underlying27 info_int rfl .i64 .i64 7 (by omega) (by omega) W
  have hdr := hf.dr
  have hl0 := hl
  obtain ⟨f, b, cs, ls, d, rfl, h1, h2, h3, h4, h5, h6⟩ := hl
  obtain ⟨AF, cF, rfl⟩ := RdN.shape h1
  obtain ⟨AG, cG, rfl⟩ := RdN.shape h2
  obtain ⟨AC, cC, rfl⟩ := RdS.lens h3
  obtain ⟨AI, cI, rfl⟩ := RdN.shape h4
  obtain ⟨AD, cD, rfl⟩ := RdI.len h5
  have BW := Lib.hid (show Below w.heap.size w (w.alloc (.cells #[.int .i64 m.wd, .int .i64 m.rk, .slice AF m.fr.length cF, .slice AG m.bk.length cG, .slice AC m.cs.length cC, .slice AI m.ls.length cI, .slice AD m.dr.length cD] 29)) from (Below.refl _ _).alloc (Nat.le_refl _) _)
  have HP := Lib.hid (RdP.box (T := 29) h1 h2 h3 h4 h5 h6)
  have HM := Lib.hid (hl0.up BW.out BW.out.size)
  clear h1 h2 h3 h4 h5 h6 hl0
  have HQ := Lib.hid (validMachine_any _ m _ HM.out)
  cases hok : okM m
  · have HN := Lib.hid (fun w' hb => (show Below w.heap.size w w' → GivesC w 2 1 (okList (okC m) (fcL m)).length (vI (okList (okC m) (fcL m))) (okC m) (.returned (.tuple #[.slice none 0 0, .int .i64 1])) w' from fun hb => by rw [okC_no hok]; exact GivesC.nil (by decide) rfl hb) hb)
    have HK := Lib.hid hok
    clear hok
    go_enter Try.func17, Try.ntmps17
    go_wp2_with fail
    refine HQ.out.mono ?_
    rintro e w1 ⟨rfl, hb⟩
    rw [HK.out]
    have HB := Lib.hid (BW.out.trans (hb.mono BW.out.size))
    clear hb
    go_wp2
    go_ret2
    exact HN.out _ HB.out
  have HOK := Lib.hid hok
  have h300 := ls_len hok
  clear hok
  go_enter Try.func17, Try.ntmps17
  go_wp2_with fail
  refine HQ.out.mono ?_
  rintro e w1 ⟨rfl, hb⟩
  rw [HOK.out]
  have HB := Lib.hid (BW.out.trans (hb.mono BW.out.size))
  have HP1 := Lib.hid (HP.out.below hb)
  clear hb HM HP HQ
  have hp1 := HP1.out
  obtain ⟨F, G, C, L, D, hc, h1, h2, h3, h4, h5, h6⟩ := hp1
  obtain ⟨AI', cI', rfl⟩ := RdN.shape h4
  have HI := Lib.hid h4
  have HC := Lib.hid hc
  have hgl : w.heap.size < w1.heap.size := block_lt_of_cell hc.seven.1
  have BA := Lib.hid (show Below w1.heap.size w1 (w1.alloc (.cells (madeCells #[.int .i64 0] 7) 2)) from (Below.refl _ _).alloc (Nat.le_refl _) _)
  have HR0 := Lib.hid (World.rowIs_made w1 (.int .i64 0) 7 2)
  have HVI := Lib.hid (fcL_vI m)
  have HOL := Lib.hid (okC_list (n := 0) HOK.out)
  have HOC := Lib.hid (okC_yes HOK.out)
  have HFN := Lib.hid (fun (k : Nat) (x : Inf) (hx : m.ls[k]? = some x) (j : Int) => fc_next hx j)
  have HST := Lib.hid (fun k : Int => stM_rng m k)
  have HFR := Lib.hid (fun (k : Nat) (j : Int) => fcF_rng m k j)
  have HF0 := Lib.hid (fun j : Int => show fcF m 0 j = 0 from rfl)
  clear h1 h2 h3 h4 h5 h6 hc
  go_wp2_with fail
  refine (states_any m _ _ (HP1.out.below BA.out) HOK.out).mono ?_
  rintro e w2 ⟨v2, rfl, ho, hb⟩
  obtain ⟨A2, c2, rfl, -⟩ := ho.cells
  have hs1 : w1.heap.size + 1 ≤ w2.heap.size := by have := hb.size; simp at this; omega
  have HO := Lib.hid (ho.wide (show w1.heap.size + 1 ≤ _ by simp) (Nat.le_refl _))
  have HR1 := Lib.hid (rowIs_below HR0.out hb)
  have HB2 := Lib.hid (BA.out.trans (hb.mono BA.out.size))
  clear ho hb HR0 hmk
  have hs2 : w.heap.size < w2.heap.size := by omega
  obtain ⟨x0, x1, x2, x3, x4, x5, x6⟩ := (HC.out.below HB2.out hgl).seven
  generalize hS : stM m = S at *
  generalize hFC : fcF m = FC at *
  generalize hln : m.ls.length = n at *
  have HLN := Lib.hid hln
  have HSL := Lib.hid (show stL m = (List.range n).map fun i : Nat => S (i : Int) by unfold stL; rw [hS, hln])
  clear hS hFC hln
  go_wp2
  clear x0 x1 x2 x3 x4 x5 x6
  go_loopw [16] (fun i wr => ∃ (k : Nat) (f : Nat → Value), k ≤ n ∧ i = .int .i64 k ∧ wr.rowIs w1.heap.size 2 7 f ∧ Hid (∀ j : Nat, j < 7 → f j = .int .i64 (FC k (j : Int))) ∧ Hid (Same (w1.heap.size + 1) w2.heap.size w2 wr) ∧ Hid (Below w1.heap.size w1 wr) ∧ w2.heap.size ≤ wr.heap.size) (fun i _ => n - (intOf i).toNat)
  case atStart => exact ⟨0, _, Nat.zero_le _, rfl, HR1.out, fun j hj => by rw [HF0.out], Same.refl _ _ _, HB2.out, Nat.le_refl _⟩
  case round =>
    rename_i wr
    obtain ⟨k, f, hk, rfl, hrow, hfj, hsame, hbb, hsz⟩ := hrel
    by_cases hlt : k < n
    · obtain ⟨b, off, x, s, rfl, hb1, hlk, hcc, hs⟩ := (RdIs.below HI.out hbb.out).at_ hlt
      obtain ⟨A1, c1, rfl⟩ := hs.len
      obtain ⟨q0, q1, q2, q3, q4, q5⟩ := hcc.six
      have hkind := ok_kind HOK.out hlk
      have HNX := Lib.hid (HFN.out k x hlk)
      have hown := HO.out.same hsame.out
      obtain ⟨A2', c2', e2, -, hcell⟩ := hown.cells
      injection e2 with e3 e4 e5
      subst e3 e5
      obtain ⟨gS, rfl, hg0, hg1, -, hcx⟩ := hcell k hlt
      have hgS : gS < wr.heap.size := by omega
      have hw1r : w1.heap.size < wr.heap.size := rowIs_lt hrow
      have cs := hcx k (.int .i64 (S (k : Int))) (by omega) (by rw [HSL.out]; simp [vI, hlt])
      obtain ⟨s1, s2⟩ := HST.out (k : Int)
      generalize hsk : S (k : Int) = sk at *
      have hsj : (2 + sk).toNat < 7 := by omega
      have fz := fun i => hrow.frozen i
      have ck := hrow.cell (i := (2 + sk).toNat) hsj
      rw [hfj.out _ hsj, show (((2 + sk).toNat : Nat) : Int) = 2 + sk by omega] at ck
      have c0 := hrow.cell (i := 0) (by omega)
      rw [hfj.out 0 (by omega)] at c0
      have c1' := hrow.cell (i := 1) (by omega)
      rw [hfj.out 1 (by omega)] at c1'
      have c2'' := hrow.cell (i := 2) (by omega)
      rw [hfj.out 2 (by omega)] at c2''
      have r0 := HFR.out k 0
      have r1 := HFR.out k 1
      have r2 := HFR.out k 2
      have rk := HFR.out k (2 + sk)
      have HROW := Lib.hid hrow
      have HBB := Lib.hid hbb.out
      have HSS := Lib.hid hsame.out
      have HFJ := Lib.hid hfj.out
      have hne0 : (2 + sk).toNat ≠ 0 := by omega
      have hne1 : (2 + sk).toNat ≠ 1 := by omega
      have hne2 : (2 + sk).toNat ≠ 2 := by omega
      have hi0 : (0 : Int) ≤ 2 + sk := by omega
      have hi1 : 2 + sk < (7 : Int) := by omega
      clear hrow hcc hs hlk hown hcell hcx hbb hsame hfj
      generalize hxk : x.k = xk at *
      rcases hkind with rfl | rfl | rfl
      · have HNEW := Lib.hid (fc_new (q := 0) HFJ.out HNX.out (by rfl) hne0 hi0)
        go_wp2
        refine ⟨⟨k + 1, (fun i => if i = (2 + sk).toNat then Value.int .i64 (FC k (2 + sk) + 1) else if i = 0 then Value.int .i64 (FC k ((0 : Nat) : Int) + 1) else f i), ?_, by go_num, ?_, HNEW.out, ?_, ?_, ?_⟩, ?_⟩
        · omega
        · exact rowIs_below ((HROW.out.set 0 _).set (2 + sk).toNat _) ((Below.refl _ _).alloc (Nat.le_refl _) _)
        · exact ((HSS.out.setCell (.inl (by simp)) _).setCell (.inl (by simp)) _).alloc (by simpa [World.setCell] using hsz) _
        · exact ((HBB.out.setCell (p := ⟨w1.heap.size, 0, none⟩) (Nat.le_refl _) _).setCell (p := ⟨w1.heap.size, (2 + sk).toNat, none⟩) (Nat.le_refl _) _).alloc (by simp [World.setCell]; omega) _
        · simp [World.setCell]; omega
        · simp only [intOf]; omega
      · have HNEW := Lib.hid (fc_new (q := 1) HFJ.out HNX.out (by rfl) hne1 hi0)
        go_wp2
        refine ⟨⟨k + 1, (fun i => if i = (2 + sk).toNat then Value.int .i64 (FC k (2 + sk) + 1) else if i = 1 then Value.int .i64 (FC k ((1 : Nat) : Int) + 1) else f i), ?_, by go_num, ?_, HNEW.out, ?_, ?_, ?_⟩, ?_⟩
        · omega
        · exact rowIs_below ((HROW.out.set 1 _).set (2 + sk).toNat _) ((Below.refl _ _).alloc (Nat.le_refl _) _)
        · exact ((HSS.out.setCell (.inl (by simp)) _).setCell (.inl (by simp)) _).alloc (by simpa [World.setCell] using hsz) _
        · exact ((HBB.out.setCell (p := ⟨w1.heap.size, 1, none⟩) (Nat.le_refl _) _).setCell (p := ⟨w1.heap.size, (2 + sk).toNat, none⟩) (Nat.le_refl _) _).alloc (by simp [World.setCell]; omega) _
        · simp [World.setCell]; omega
        · simp only [intOf]; omega
      · have HNEW := Lib.hid (fc_new (q := 2) HFJ.out HNX.out (by rfl) hne2 hi0)
        go_wp2
        refine ⟨⟨k + 1, (fun i => if i = (2 + sk).toNat then Value.int .i64 (FC k (2 + sk) + 1) else if i = 2 then Value.int .i64 (FC k ((2 : Nat) : Int) + 1) else f i), ?_, by go_num, ?_, HNEW.out, ?_, ?_, ?_⟩, ?_⟩
        · omega
        · exact rowIs_below ((HROW.out.set 2 _).set (2 + sk).toNat _) ((Below.refl _ _).alloc (Nat.le_refl _) _)
        · exact ((HSS.out.setCell (.inl (by simp)) _).setCell (.inl (by simp)) _).alloc (by simpa [World.setCell] using hsz) _
        · exact ((HBB.out.setCell (p := ⟨w1.heap.size, 2, none⟩) (Nat.le_refl _) _).setCell (p := ⟨w1.heap.size, (2 + sk).toNat, none⟩) (Nat.le_refl _) _).alloc (by simp [World.setCell]; omega) _
        · simp [World.setCell]; omega
        · simp only [intOf]; omega
    · have hkn : k = n := by omega
      have HOW := Lib.hid (OwC.of_rowF (lo := w.heap.size) (hi := wr.heap.size) (n := 7) (sz := 1) (rowIs_congr (f' := fun j => .int .i64 (FC n (j : Int))) hrow (fun j hj => by rw [hfj.out j hj, hkn])) (by omega) (rowIs_lt hrow) (by unfold maxLen; omega))
      have HBW := Lib.hid (HB.out.trans (hbb.out.mono HB.out.size))
      clear hrow hfj hkn
      go_wp2
      go_ret2
      exact GivesC.yes HOC.out rfl (by rw [fcL_len, HVI.out]; exact HOW.out) HBW.out


end Go.Proofs.Ytogaellhkjjeaaa

/-
  CourseOf of the program and of the reference.
-/
namespace Go.Proofs.Ytogaellhkjjeaaa
set_option linter.unusedVariables false
set_option linter.unusedSimpArgs false
open Go.RowKit


def coR (m : Mc) (k : Int) : Int := if askC m k = 0 then (cgo [] m.ls).getD k.toNat 0 else 0
def couR (m : Mc) (k : Int) (e : Ending) : Prop := e = .returned (.tuple #[.int .i64 (coR m k), .int .i64 (askC m k)])
theorem ask_zero' {m : Mc} {k : Int} (h : askC m k = 0) : okM m = true ∧ 0 ≤ k ∧ k < m.ls.length := by
  unfold askC at h
  cases ho : okM m
  · simp [ho] at h
  · cases hi : inB 0 k ((m.ls.length : Int) - 1)
    · simp [ho, hi] at h
    · have := inB_iff.1 hi
      exact ⟨rfl, by omega, by omega⟩

end Go.Proofs.Ytogaellhkjjeaaa

/-
  CourseOf of the program.
-/
namespace Go.Proofs.Ytogaellhkjjeaaa
set_option linter.unusedVariables false
set_option linter.unusedSimpArgs false
open Go.RowKit

set_option maxHeartbeats 8000000 in
set_option maxRecDepth 100000 in
theorem implCourse_any (v : Value) (m : Mc) (k : Int) (w : World) (hl : RdM w w.heap.size v m) (hf : FitM m) :
    Calls Try.prog 20 #[v, .int .i64 k] w fun e w' => couR m k e ∧ Below w.heap.size w w' := by
  have hl0 := hl
  obtain ⟨f, b, cs, ls, d, rfl, h1, h2, h3, h4, h5, h6⟩ := hl
  obtain ⟨AF, cF, rfl⟩ := RdN.shape h1
  obtain ⟨AG, cG, rfl⟩ := RdN.shape h2
  obtain ⟨AC, cC, rfl⟩ := RdS.lens h3
  obtain ⟨AI, cI, rfl⟩ := RdN.shape h4
  obtain ⟨AD, cD, rfl⟩ := RdI.len h5
  have BW := Lib.hid (show Below w.heap.size w (w.alloc (.cells #[.int .i64 m.wd, .int .i64 m.rk, .slice AF m.fr.length cF, .slice AG m.bk.length cG, .slice AC m.cs.length cC, .slice AI m.ls.length cI, .slice AD m.dr.length cD] 29)) from (Below.refl _ _).alloc (Nat.le_refl _) _)
  have hcl : ∀ w1, Below (w.alloc (.cells #[.int .i64 m.wd, .int .i64 m.rk, .slice AF m.fr.length cF, .slice AG m.bk.length cG, .slice AC m.cs.length cC, .slice AI m.ls.length cI, .slice AD m.dr.length cD] 29)).heap.size (w.alloc (.cells #[.int .i64 m.wd, .int .i64 m.rk, .slice AF m.fr.length cF, .slice AG m.bk.length cG, .slice AC m.cs.length cC, .slice AI m.ls.length cI, .slice AD m.dr.length cD] 29)) w1 →
      CellsAt w1 w.heap.size 0 [.int .i64 m.wd, .int .i64 m.rk, .slice AF m.fr.length cF, .slice AG m.bk.length cG, .slice AC m.cs.length cC, .slice AI m.ls.length cI, .slice AD m.dr.length cD] := fun w1 hb => CellsAt.below CellsAt.of_alloc hb (by simp)
  have HA := Lib.hid (loopCode_any _ m k _ (hl0.up BW.out BW.out.size))
  have HI := Lib.hid h4
  have HCL := Lib.hid hcl
  clear h1 h2 h3 h4 h5 h6 hcl hl0
  by_cases ha : askC m k = 0
  case neg =>
    have HN := Lib.hid (show couR m k (.returned (.tuple #[.int .i64 0, .int .i64 (askC m k)])) by simp [couR, coR, ha])
    have e0 : (askC m k != 0) = true := by simpa using ha
    generalize askC m k = A at *
    go_enter Try.func20, Try.ntmps20
    go_wp2_with fail
    refine HA.out.mono ?_
    rintro e w1 ⟨rfl, hb⟩
    have HB := Lib.hid (BW.out.trans (hb.mono BW.out.size))
    clear hb
    go_wp2
    go_ret2
    exact ⟨HN.out, HB.out⟩
  obtain ⟨hok, hk0, hk1⟩ := ask_zero' ha
  have h300 := ls_len hok
  obtain ⟨kn, rfl⟩ := Int.eq_ofNat_of_zero_le hk0
  have hkn : kn < m.ls.length := by omega
  have HAA := Lib.hid ha
  have HOK := Lib.hid hok
  clear ha hok hk0 hk1
  have hmk : ∀ W : World, (Instr.makeSlice 27 (.int .i64 ((kn : Int) + 1)) (.int .i64 ((kn : Int) + 1))).run Try.prog W = .ok (.slice (some ⟨W.heap.size, 0, none⟩) (kn + 1) (kn + 1)) (W.alloc (.cells (madeCells #[.int .i64 0] (kn + 1)) 2)) := fun W => by
    have h := run_make_row' (P := Try.prog) 27 2 (.int .i64 0) 8 Try.underlying27 info_int rfl .i64 .i64 (kn + 1) (by omega) (by omega) W
    rw [show ((kn + 1 : Nat) : Int) = (kn : Int) + 1 by omega] at h
    exact h
  go_enter Try.func20, Try.ntmps20
  go_wp2_with fail
  refine HA.out.mono ?_
  rintro e w1 ⟨rfl, hb⟩
  rw [HAA.out]
  have HB1 := Lib.hid hb
  have hs1 := hb.size
  have HW1 := Lib.hid (BW.out.trans (hb.mono BW.out.size))
  clear hb HA
  go_wp2
  clear hmk
  go_loopw [22] (fun i wr => ∃ (q : Nat) (acc : List Int) (f : Nat → Value), q ≤ kn + 1 ∧ i = .int .i64 q ∧ wr.rowIs w1.heap.size 2 (kn + 1) f ∧ acc.length ≤ q ∧ q ≤ acc.length ∧ Hid (Small acc) ∧ Hid (∀ (j : Nat) (z : Int), acc[j]? = some z → f j = .int .i64 z) ∧ Hid (∀ j, q ≤ j → j < kn + 1 → f j = .int .i64 0) ∧
    Hid (cgo [] m.ls = cgo acc (m.ls.drop q)) ∧ Hid (Below w1.heap.size w1 wr)) (fun i _ => kn + 1 - (intOf i).toNat)
  case atStart => exact ⟨0, [], _, Nat.zero_le _, rfl, World.rowIs_made _ _ _ _, Nat.le_refl _, Nat.le_refl _, fun j z h => by simp at h, fun j z h => by simp at h, fun j _ _ => rfl, rfl, (Below.refl _ _).alloc (Nat.le_refl _) _⟩
  case round =>
    rename_i wr
    obtain ⟨q, acc, f, hq, rfl, hrow, ha1, ha2, hsm, hfa, hf0, hd, hbb⟩ := hrel
    have hbw := HW1.out.trans (hbb.out.mono HW1.out.size)
    obtain ⟨x0, x1, x2, x3, x4, x5, x6⟩ := (HCL.out _ (HB1.out.trans (hbb.out.mono hs1))).seven
    by_cases hlt : q < kn + 1
    · obtain ⟨b, off, x, s, rfl, hb1, hlk, hcc, hs⟩ := (RdIs.below HI.out hbw).at_ (show q < m.ls.length by omega)
      obtain ⟨A1, c1, rfl⟩ := hs.len
      obtain ⟨hps, hp4⟩ := ok_loop HOK.out hlk
      obtain ⟨q0, q1, q2, q3, q4, q5⟩ := hcc.six
      have HPS := Lib.hid hps
      have HS := Lib.hid hs
      have HD := Lib.hid (cgo_next hd.out hlk)
      have HSM := Lib.hid (small_next hsm.out (x := x) (by intro p hp; have := hps p hp; omega))
      have HROW := Lib.hid hrow
      have HF0 := Lib.hid (hf0.out q (Nat.le_refl _) hlt)
      clear hrow hlk hs hcc hps hd
      go_wp2
      go_loopw [32] (fun i wq => ∃ (j : Nat) (z : Int) (f2 : Nat → Value) (W2 : World), W2 = wq ∧ j ≤ x.ps.length ∧ i = .int .i64 j ∧ W2.rowIs w1.heap.size 2 (kn + 1) f2 ∧ Hid (f2 q = .int .i64 z) ∧ Hid (∀ r, r ≠ q → f2 r = f r) ∧ 0 ≤ z ∧ z ≤ q ∧ Hid (cst acc x = (x.ps.drop j).foldl (cmx acc) z) ∧ Hid (Below w1.heap.size w1 W2)) (fun i _ => x.ps.length - (intOf i).toNat)
      case atStart => exact ⟨0, 0, f, _, rfl, Nat.zero_le _, rfl, HROW.out, HF0.out, fun r _ => rfl, by omega, by omega, rfl, hbb.out⟩
      case round =>
        obtain ⟨j, z, f2, W2, hwe, hj, rfl, hrow2, hfq, hfr, z0, z1, hf, hb2⟩ := hrel
        subst hwe
        have hbw2 := HW1.out.trans (hb2.out.mono HW1.out.size)
        by_cases hlt2 : j < x.ps.length
        · obtain ⟨b2, o2, p, rfl, hbb2, hpk, hpc⟩ := (HS.out.keep (fun p hp => (hbw2.cell hp).trans (hbw.cell hp).symm)).at_ hlt2
          obtain ⟨p0, p1⟩ := HPS.out p (List.mem_of_getElem? hpk)
          obtain ⟨pn, rfl⟩ := Int.eq_ofNat_of_zero_le p0
          have hpn : pn < acc.length := by omega
          obtain ⟨y, hyk⟩ : ∃ y, acc[pn]? = some y := ⟨_, List.getElem?_eq_getElem hpn⟩
          obtain ⟨y0, y1⟩ := hsm.out pn y hyk
          have cq := hrow2.cell (i := q) hlt
          rw [hfq.out] at cq
          have cp := hrow2.cell (i := pn) (by omega)
          rw [hfr.out pn (by omega), hfa.out pn y hyk] at cp
          have fz := fun i => hrow2.frozen i
          have HF := Lib.hid (show cst acc x = (x.ps.drop (j + 1)).foldl (cmx acc) (max z (y + 1)) by
            rw [hf.out, drop_of_get hpk, List.foldl_cons]
            congr 1
            unfold cmx
            rw [show ((pn : Int)).toNat = pn by omega, List.getD_eq_getElem?_getD, hyk]
            rfl)
          have HR2 := Lib.hid (show (W2.drew).rowIs w1.heap.size 2 (kn + 1) f2 from hrow2)
          have HBD := Lib.hid hb2.out.drew
          obtain ⟨y0', y1', y2', y3', y4', y5', y6'⟩ := (HCL.out _ (HB1.out.trans (hb2.out.mono hs1))).seven
          clear hpk hf hrow2 x0 x1 x2 x3 x4 x5 x6
          go_wp2
          go_region
          all_goals
            go_wp2
            exact ⟨⟨j + 1, max z (y + 1), _, _, rfl, by omega, by go_num, HR2.out.set _ _, by unfold Hid; simp; omega, fun r hr => by simp [hr, hfr.out r hr], by omega, by omega, HF.out, HBD.out.setCell (Nat.le_refl _) _⟩, by simp [intOf]; omega⟩
        · have HZ := Lib.hid (show cst acc x = z by rw [hf.out, List.drop_of_length_le (by omega)]; rfl)
          have HR2 := Lib.hid hrow2
          clear hf hrow2
          go_wp2
          refine ⟨⟨q + 1, acc ++ [cst acc x], f2, by omega, by go_num, HR2.out, by simp; omega, by simp; omega, HSM.out, fun j' z' h => ?_, fun j' h h' => ?_, HD.out, hb2.out⟩, by simp [intOf]; omega⟩
          · by_cases hj' : j' < acc.length
            · rw [List.getElem?_append_left hj'] at h
              rw [hfr.out j' (by omega)]
              exact hfa.out j' z' h
            · rw [List.getElem?_append_right (by omega)] at h
              have hj2 : j' = q := by
                have := (List.getElem?_eq_some_iff.1 h).1
                simp at this
                omega
              subst hj2
              rw [show j' - acc.length = 0 by omega] at h
              simp at h
              rw [hfq.out, ← h, HZ.out]
          · rw [hfr.out j' (by omega)]
            exact hf0.out j' (by omega) h'
    · obtain ⟨y, hyk⟩ : ∃ y, acc[kn]? = some y := ⟨_, List.getElem?_eq_getElem (by omega)⟩
      have cq := hrow.cell (i := kn) (by omega)
      rw [hfa.out kn y hyk] at cq
      have HR := Lib.hid (show couR m (kn : Int) (.returned (.tuple #[.int .i64 y, .int .i64 0])) by
        unfold couR coR
        rw [if_pos HAA.out, HAA.out, show ((kn : Int)).toNat = kn by omega, hd.out, cgo_at (by omega), List.getD_eq_getElem?_getD, hyk]
        rfl)
      have HBW := Lib.hid hbw
      clear hyk hrow hd hbw x0 x1 x2 x3 x4 x5 x6
      go_wp2
      go_ret2
      exact ⟨HR.out, HBW.out⟩

end Go.Proofs.Ytogaellhkjjeaaa

/-
  What would come undone without a loop: runOf of the program, l12Run of the reference; their codes.
-/
namespace Go.Proofs.Ytogaellhkjjeaaa
set_option linter.unusedVariables false
set_option linter.unusedSimpArgs false
open Go.RowKit

theorem filt_yes {p : Int → Bool} {L acc l : List Int} {k : Nat} {x : Int} (h : L = acc ++ (l.drop k).filter p) (hx : l[k]? = some x) (hp : p x = true) : L = (acc ++ [x]) ++ (l.drop (k + 1)).filter p := by
  rw [h, drop_of_get hx, List.filter_cons_of_pos hp, List.append_assoc]
  rfl
theorem filt_no {p : Int → Bool} {L acc l : List Int} {k : Nat} {x : Int} (h : L = acc ++ (l.drop k).filter p) (hx : l[k]? = some x) (hp : p x = false) : L = acc ++ (l.drop (k + 1)).filter p := by
  rw [h, drop_of_get hx, List.filter_cons_of_neg (by rw [hp]; decide)]

set_option maxHeartbeats 8000000 in
set_option maxRecDepth 100000 in
theorem runOf_any (m : Mc) (g : Nat) (k0 : Int) (w : World) (h : RdP w g m) (ok : okM m = true) (hk0 : 0 ≤ k0) (hk1 : k0 < m.ls.length) :
    Calls Try.prog 75 #[.pointer (some ⟨g, 0, none⟩), .int .i64 k0] w (GivesOw w 2 1 (runL m k0).length (vI (runL m k0))) := by
  have h300 := ls_len ok
  have HP := Lib.hid h
  have HOK := Lib.hid ok
  obtain ⟨kn, rfl⟩ := Int.eq_ofNat_of_zero_le hk0
  have hkn : kn < m.ls.length := by omega
  have HUN := Lib.hid (fun H : Int → Bool => show (undL m H).length = m.ls.length from undR_len m H _)
  have HRB := Lib.hid (show (runB m (kn : Int)).length = m.ls.length by unfold runB; simp [undL, undR_len])
  have HRG := Lib.hid (fun i : Nat => show (runB m (kn : Int)).getD i false = ((undL m (thenB m (kn : Int))).getD i false && !(undL m (hasB (liveL m))).getD i false) by
    unfold runB
    rw [List.getD_eq_getElem?_getD, List.getElem?_zipWith, List.getD_eq_getElem?_getD, List.getD_eq_getElem?_getD]
    have e1 : (undL m (thenB m (kn : Int))).length = (undL m (hasB (liveL m))).length := by simp [undL, undR_len]
    by_cases hi : i < (undL m (thenB m (kn : Int))).length
    · rw [List.getElem?_eq_getElem hi, List.getElem?_eq_getElem (by omega)]; rfl
    · rw [List.getElem?_eq_none (by omega), List.getElem?_eq_none (by omega)]; rfl)
  have HRL := Lib.hid (show runL m (kn : Int) = idxT 0 (runB m (kn : Int)) from rfl)
  generalize runL m (kn : Int) = RL at *
  clear h ok hk0 hk1
  go_enter Try.func75, Try.ntmps75
  go_wp2_with fail
  refine (isLive_any m g _ HP.out HOK.out).mono ?_
  rintro e w1 ⟨rfl, hr1, hb1⟩
  have HR1 := Lib.hid hr1
  have HB1 := Lib.hid hb1
  have HP1 := Lib.hid (HP.out.below hb1)
  have hz1 : w.heap.size < w1.heap.size := rowIs_lt hr1
  clear hr1 hb1
  go_wp2_with fail
  refine (undone_any m g _ (hasB (liveL m)) _ HP1.out HOK.out HR1.out).mono ?_
  rintro e w2 ⟨go1, rfl, hgo1, hr2, hb2⟩
  have HN2 := Lib.hid hr2
  have HR2 := Lib.hid (rowIs_below HR1.out hb2)
  have HB2 := Lib.hid (HB1.out.trans (hb2.mono HB1.out.size))
  have HP2 := Lib.hid (HP1.out.below hb2)
  have hz2 : go1 < w2.heap.size := rowIs_lt hr2
  have cp := HR2.out.cell (i := kn) hkn
  have fz := fun i => HR2.out.frozen i
  have hkn' : (kn : Int) < (m.ls.length : Int) := by omega
  clear hr2 hb2
  have hgm : g ≠ w.heap.size := by have := HP.out.lt; omega
  have HR3 := Lib.hid (rowIs_congr (f' := fun i => .bool (thenB m (kn : Int) (i : Int))) (HR2.out.set kn (.bool false)) (fun i hi => by
    show _ = if i = kn then _ else _
    unfold thenB
    by_cases e : i = kn
    · rw [if_pos e, e]; simp
    · rw [if_neg e]
      have : (((i : Nat) : Int) == (kn : Int)) = false := by simp; omega
      rw [this]; simp))
  have HB3 := Lib.hid (HB2.out.setCell (p := ⟨w.heap.size, kn, none⟩) (Nat.le_refl _) (.bool false))
  have HP3 := Lib.hid (HP.out.below HB3.out)
  have HN3 := Lib.hid (rowIs_other HN2.out (p := ⟨w.heap.size, kn, none⟩) (by simp; omega) (.bool false))
  have hz3 : (w2.setCell ⟨w.heap.size, kn, none⟩ (.bool false)).heap.size = w2.heap.size := by simp [World.setCell]
  have HZ3 := Lib.hid hz3
  clear hz3
  go_wp2_with fail
  refine (undone_any m g _ (thenB m (kn : Int)) _ HP3.out HOK.out HR3.out).mono ?_
  rintro e w4 ⟨go2, rfl, hgo2, hr4, hb4⟩
  rw [HZ3.out] at hgo2
  have HT4 := Lib.hid hr4
  have HN4 := Lib.hid (rowIs_below HN3.out hb4)
  have HB4 := Lib.hid (HB3.out.trans (hb4.mono HB3.out.size))
  clear hr4 hb4 cp fz HR3 HN3 HP3
  generalize hUN : undL m (hasB (liveL m)) = UN at *
  generalize hUT : undL m (thenB m (kn : Int)) = UT at *
  generalize hRB : runB m (kn : Int) = RB at *
  generalize hln : m.ls.length = n at *
  clear hUN hUT hRB
  go_wp2
  go_loopw [23] (fun i wr => ∃ (k : Nat) (f : Nat → Value), k ≤ n ∧ i = .int .i64 k ∧ wr.rowIs go2 4 n f ∧ Hid (∀ i, i < n → f i = .bool (if i < k then RB.getD i false else UT.getD i false)) ∧ Hid (wr.rowIs go1 4 n (fun i => .bool (UN.getD i false))) ∧ Hid (Below w.heap.size w wr)) (fun i _ => n - (intOf i).toNat)
  case atStart => exact ⟨0, _, Nat.zero_le _, rfl, HT4.out, fun i hi => by simp, HN4.out, HB4.out⟩
  case round =>
    rename_i wr
    obtain ⟨k, f, hk, rfl, hrow, hf, hnow, hbb⟩ := hrel
    by_cases hlt : k < n
    · have c1 := hnow.out.cell (i := k) hlt
      have c2 := hrow.cell (i := k) hlt
      rw [hf.out k hlt, if_neg (Nat.lt_irrefl k)] at c2
      have fz := fun i => hrow.frozen i
      have HROW := Lib.hid hrow
      have HGK := Lib.hid (HRG.out k)
      have HNW := Lib.hid (fun u : Value => rowIs_other hnow.out (p := ⟨go2, k, none⟩) (by simp; omega) u)
      have HBW := Lib.hid (fun u : Value => hbb.out.setCell (p := ⟨go2, k, none⟩) (by show w.heap.size ≤ go2; omega) u)
      have HFN := Lib.hid (fun (b : Bool) (hb : RB.getD k false = b) => show ∀ i, i < n → (fun i => if i = k then Value.bool b else f i) i = .bool (if i < k + 1 then RB.getD i false else UT.getD i false) from fun i hi => by
        by_cases e : i = k
        · subst e
          show (if i = i then _ else _) = _
          rw [if_pos rfl, if_pos (by omega), hb]
        · show (if i = k then _ else _) = _
          rw [if_neg e, hf.out i hi]
          by_cases e2 : i < k
          · rw [if_pos e2, if_pos (by omega)]
          · rw [if_neg e2, if_neg (by omega)])
      generalize UN.getD k false = bN at c1 HGK
      generalize UT.getD k false = bT at c2 HGK
      clear hrow hnow hbb hf
      cases bT
      · go_wp2
        refine ⟨⟨k + 1, (fun i => if i = k then Value.bool false else f i), by omega, by go_num, HROW.out.set _ _, HFN.out false HGK.out, HNW.out _, HBW.out _⟩, ?_⟩
        simp only [intOf]; omega
      · go_wp2
        refine ⟨⟨k + 1, (fun i => if i = k then Value.bool (!bN) else f i), by omega, by go_num, HROW.out.set _ _, HFN.out (!bN) (by rw [HGK.out]; simp), HNW.out _, HBW.out _⟩, ?_⟩
        simp only [intOf]; omega
    · have hrf := rowIs_congr (f' := fun i => .bool (RB.getD i false)) hrow (fun i hi => by rw [hf.out i hi, if_pos (by omega)])
      rw [← HRB.out] at hrf
      have HQ := Lib.hid (indicesOf_any go2 RB _ hrf (by rw [HRB.out]; exact h300))
      rw [HRB.out] at HQ
      have HBW := Lib.hid hbb.out
      clear hrow hf hnow hrf
      go_wp2_with fail
      refine HQ.out.mono ?_
      rintro e w5 ⟨v5, rfl, ho, hb5⟩
      have HO := Lib.hid (ho.lo HBW.out.size)
      have HB5 := Lib.hid (HBW.out.trans (hb5.mono HBW.out.size))
      clear ho hb5
      go_wp2
      go_ret
      exact ⟨_, rfl, by rw [HRL.out]; exact HO.out, HB5.out⟩

theorem run_rest {m : Mc} (k : Int) : undL m (hasB ((liveL m).filter fun y => y != k)) = undL m (thenB m k) := by
  refine undR_ext (Nat.le_refl _) fun i h0 h1 => ?_
  unfold hasB thenB hasB
  rw [Bool.eq_iff_iff]
  simp [List.mem_filter]
set_option maxHeartbeats 8000000 in
set_option maxRecDepth 100000 in
theorem l12Run_any (m : Mc) (g : Nat) (k0 : Int) (w : World) (h : RdP w g m) (ok : okM m = true) :
    Calls Try.prog 124 #[.pointer (some ⟨g, 0, none⟩), .int .i64 k0] w (GivesOw w 2 1 (runL m k0).length (vI (runL m k0))) := by
  obtain ⟨i0, hi, hz0, hz1, hz2'⟩ := info_parts info_int
  have h300 := ls_len ok
  have h240 := liveL_len ok
  have HP := Lib.hid h
  have HOK := Lib.hid ok
  have HRR := Lib.hid (run_rest (m := m) k0)
  have HRF := Lib.hid (run_filter m k0)
  have HAL := Lib.hid (show (idxT 0 (undL m (thenB m k0))).length ≤ m.ls.length from by have h1 := idxT_len (undL m (thenB m k0)) 0; have h2 := undR_len m (thenB m k0) m.ls.length; unfold undL at *; omega)
  generalize runL m k0 = RL at *
  clear h ok
  go_enter Try.func124, Try.ntmps124
  go_wp2_with fail
  refine (l07Live_any m g _ HP.out HOK.out).mono ?_
  rintro e w1 ⟨v1, rfl, ho, hb1⟩
  obtain ⟨A1, c1, rfl, -⟩ := ho.cells
  have HL1 := Lib.hid (RdI.of_own ho)
  have HB1 := Lib.hid hb1
  have hz1' := hb1.size
  clear ho hb1
  generalize hfl : (liveL m).filter (fun y => y != k0) = RS at *
  have HFL := Lib.hid (show RS = [] ++ ((liveL m).drop 0).filter (fun y => y != k0) by rw [← hfl]; rfl)
  generalize hN : (liveL m).length = N at *
  have HN := Lib.hid hN
  clear hfl hN
  go_wp2
  go_loopw [6, 7] (fun t i wr => ∃ (k : Nat) (acc : List Int), k ≤ N ∧ i = .int .i64 k ∧ wr.ownsRow w1.heap.size 2 1 t acc.length (vI acc) ∧ acc.length ≤ k ∧ Hid (RS = acc ++ ((liveL m).drop k).filter (fun y => y != k0)) ∧ Below w1.heap.size w1 wr) (fun _ i _ => N - (intOf i).toNat)
  case atStart => exact ⟨0, [], Nat.zero_le _, rfl, World.ownsRow_lit _ _ _ (Nat.le_refl _) (by unfold maxLen; omega) rfl, Nat.le_refl _, HFL.out, (Below.refl _ _).alloc (Nat.le_refl _) _⟩
  case round =>
    rename_i wr
    obtain ⟨k, acc, hk, rfl, hown, hak, hd, hb⟩ := hrel
    by_cases hlt : k < N
    · obtain ⟨b, off, y, rfl, hbb, hlk, hcc⟩ := (HL1.out.below hb).at_ hlt
      have HB := Lib.hid hb
      have HO := Lib.hid hown
      by_cases hy : y = k0
      · have e0 : (y != k0) = false := by simpa using hy
        have HD := Lib.hid (filt_no hd.out hlk e0)
        clear hb hown hd hlk hy
        go_wp2
        exact ⟨⟨k + 1, acc, by omega, by go_num, HO.out, by omega, HD.out, HB.out⟩, by simp [intOf]; omega⟩
      · have e0 : (y != k0) = true := by simpa using hy
        have HD := Lib.hid (filt_yes hd.out hlk e0)
        clear hb hown hd hlk hy
        go_wp2_with (at_builtin; refine wpList_append_own _ rfl _ _ 27 rfl w1.heap.size 2 i0 _ 1 8 Try.underlying27 hi hz0 hz1 hz2' rfl (by decide) _ _ _ rfl (HO.out.alloc _) ⟨wr.heap.size, 0, none⟩ 1 1 [.int .i64 y] rfl rfl ?c1 ?c2 ?c3 ?c4 ?c5 ?_)
        case c1 => exact new_cells' _ _ rfl
        case c2 => exact int_one _
        case c3 => unfold maxLen; omega
        case c4 => omega
        case c5 => have := HB.out.size; simp; omega
        intro v' w2 hown2 hgrow2 _
        have HB2 := Lib.hid (below_append' (HB.out.alloc HB.out.size _) (by have := HB.out.size; simp; omega) HO.out (by simp) hgrow2)
        have HO2 : Hid (w2.ownsRow w1.heap.size 2 1 v' (acc ++ [y]).length (vI (acc ++ [y]))) := by unfold Hid; rw [vI_snoc, List.length_append]; exact hown2
        clear hgrow2 hown2
        go_wp2
        exact ⟨⟨k + 1, acc ++ [y], by omega, by go_num, HO2.out, by simp; omega, HD.out, HB2.out⟩, by simp [intOf]; omega⟩
    · have HD := Lib.hid (show RS = acc by rw [hd.out, List.drop_of_length_le (by have := HN.out; omega)]; simp)
      have hrs := RdI.of_own (OwC.of_own hown)
      rw [← HD.out] at hrs
      have HRS := Lib.hid hrs
      have HBr := Lib.hid (HB1.out.trans (hb.mono hz1'))
      have HLr := Lib.hid ((HL1.out.below hb).more hb.size)
      have HPr := Lib.hid (HP.out.below HBr.out)
      clear hb hown hd hrs
      go_wp2_with fail
      refine (l12Undone_any m g _ _ _ HPr.out HOK.out HLr.out).mono ?_
      rintro e w3 ⟨v3, rfl, ho3, hb3⟩
      have HBF := Lib.hid (RdI.of_own ho3)
      have HB3 := Lib.hid (HBr.out.trans (hb3.mono HBr.out.size))
      have HP3 := Lib.hid (HPr.out.below hb3)
      have HRS3 := Lib.hid ((HRS.out.below hb3).more hb3.size)
      clear ho3 hb3
      go_wp2_with fail
      refine (l12Undone_any m g _ _ _ HP3.out HOK.out HRS3.out).mono ?_
      rintro e w4 ⟨v4, rfl, ho4, hb4⟩
      rw [HRR.out] at ho4
      obtain ⟨A4, c4, rfl, -⟩ := ho4.cells
      have HAF := Lib.hid (RdI.of_own ho4)
      have HB4 := Lib.hid (HB3.out.trans (hb4.mono HB3.out.size))
      have HBF4 := Lib.hid ((HBF.out.below hb4).more hb4.size)
      clear ho4 hb4
      generalize hAf : idxT 0 (undL m (thenB m k0)) = AF at *
      have HAf := Lib.hid (show RL = [] ++ (AF.drop 0).filter (fun i => !(undone m).contains i) by rw [← HRF.out]; rfl)
      generalize hNA : AF.length = NA at *
      have HNA := Lib.hid hNA
      have hud : idxT 0 (undL m (hasB (liveL m))) = undone m := rfl
      have HUD := Lib.hid hud
      clear hAf hNA hud
      rw [HUD.out] at HBF4
      have hz4 := HAL.out
      go_wp2
      go_loopw [10, 11] (fun t i wz => ∃ (k : Nat) (acc : List Int) (wq : World), wq = wz ∧ k ≤ NA ∧ i = .int .i64 k ∧ wq.ownsRow w4.heap.size 2 1 t acc.length (vI acc) ∧ acc.length ≤ k ∧ Hid (RL = acc ++ (AF.drop k).filter (fun i => !(undone m).contains i)) ∧ Below w4.heap.size w4 wq) (fun _ i _ => NA - (intOf i).toNat)
      case atStart => exact ⟨0, [], _, rfl, Nat.zero_le _, rfl, World.ownsRow_lit _ _ _ (Nat.le_refl _) (by unfold maxLen; omega) rfl, Nat.le_refl _, HAf.out, (Below.refl _ _).alloc (Nat.le_refl _) _⟩
      case round =>
        obtain ⟨k, acc, wq, hwe, hk, rfl, hown, hak, hd, hb⟩ := hrel
        subst hwe
        by_cases hlt : k < NA
        · obtain ⟨b, off, y, rfl, hbb, hlk, hcc⟩ := (HAF.out.below hb).at_ hlt
          have HB := Lib.hid hb
          have HO := Lib.hid hown
          have HQ := Lib.hid (l00Has_any _ (undone m) y _ ((HBF4.out.below hb).more hb.size))
          cases hy : (undone m).contains y
          · have e0 : (fun i => !(undone m).contains i) y = true := by simp only [hy]; rfl
            have HD := Lib.hid (filt_yes hd.out hlk e0)
            rw [hy] at HQ
            clear hb hown hd hlk hy e0
            go_wp2_with fail
            refine HQ.out.mono ?_
            rintro e w5 ⟨rfl, hb5⟩
            have HB5 := Lib.hid (HB.out.trans (hb5.mono HB.out.size))
            have HO5 := Lib.hid (own_below HO.out hb5)
            have hcc5 := (hb5.cell (p := ⟨b, off + k, none⟩) (block_lt_of_cell hcc)).trans hcc
            clear hb5 hcc
            go_wp2_with (at_builtin; refine wpList_append_own _ rfl _ _ 27 rfl w4.heap.size 2 i0 _ 1 8 Try.underlying27 hi hz0 hz1 hz2' rfl (by decide) _ _ _ rfl (HO5.out.alloc _) ⟨w5.heap.size, 0, none⟩ 1 1 [.int .i64 y] rfl rfl ?d1 ?d2 ?d3 ?d4 ?d5 ?_)
            case d1 => exact new_cells' _ _ rfl
            case d2 => exact int_one _
            case d3 => unfold maxLen; omega
            case d4 => omega
            case d5 => have := HB5.out.size; simp; omega
            intro v' w6 hown2 hgrow2 _
            have HB2 := Lib.hid (below_append' (HB5.out.alloc HB5.out.size _) (by have := HB5.out.size; simp; omega) HO5.out (by simp) hgrow2)
            have HO2 : Hid (w6.ownsRow w4.heap.size 2 1 v' (acc ++ [y]).length (vI (acc ++ [y]))) := by unfold Hid; rw [vI_snoc, List.length_append]; exact hown2
            clear hgrow2 hown2
            go_wp2
            exact ⟨⟨k + 1, acc ++ [y], _, rfl, by omega, by go_num, HO2.out, by simp; omega, HD.out, HB2.out⟩, by simp [intOf]; omega⟩
          · have e0 : (fun i => !(undone m).contains i) y = false := by simp only [hy]; rfl
            have HD := Lib.hid (filt_no hd.out hlk e0)
            rw [hy] at HQ
            clear hb hown hd hlk hy e0
            go_wp2_with fail
            refine HQ.out.mono ?_
            rintro e w5 ⟨rfl, hb5⟩
            have HB5 := Lib.hid (HB.out.trans (hb5.mono HB.out.size))
            have HO5 := Lib.hid (own_below HO.out hb5)
            clear hb5 hcc
            go_wp2
            exact ⟨⟨k + 1, acc, _, rfl, by omega, by go_num, HO5.out, by omega, HD.out, HB5.out⟩, by simp [intOf]; omega⟩
        · have HB := Lib.hid (HB4.out.trans (hb.mono HB4.out.size))
          have HO := Lib.hid ((OwC.of_own hown).lo HB4.out.size)
          have HD := Lib.hid (show RL = acc by rw [hd.out, List.drop_of_length_le (by have := HNA.out; omega)]; simp)
          clear hb hown hd
          go_wp2
          go_ret
          exact ⟨_, rfl, by rw [HD.out]; exact HO.out, HB.out⟩

end Go.Proofs.Ytogaellhkjjeaaa

/-
  RunOf, LadderOf, of the program and of the reference.
-/
namespace Go.Proofs.Ytogaellhkjjeaaa
set_option linter.unusedVariables false
set_option linter.unusedSimpArgs false
open Go.RowKit

/-- The code of a machine and a loop on a needle. -/
def liveC (m : Mc) (k : Int) : Int := if askC m k = 0 then (if hasB (liveL m) k = true then 0 else 6) else askC m k
theorem live_ask {m : Mc} {k : Int} (h : askC m k ≠ 0) : liveC m k = askC m k := by unfold liveC; rw [if_neg h]
theorem live_yes {m : Mc} {k : Int} (h : askC m k = 0) (h1 : hasB (liveL m) k = true) : liveC m k = 0 := by unfold liveC; rw [if_pos h, if_pos h1]
theorem live_no {m : Mc} {k : Int} (h : askC m k = 0) (h1 : hasB (liveL m) k = false) : liveC m k = 6 := by unfold liveC; rw [if_pos h, if_neg (by rw [h1]; decide)]
theorem live_zero {m : Mc} {k : Int} (h : liveC m k = 0) : okM m = true ∧ 0 ≤ k ∧ k < m.ls.length := by
  unfold liveC at h
  split at h
  · rename_i h1; exact ask_zero h1
  · rename_i h1; exact absurd h h1

set_option maxHeartbeats 4000000 in
set_option maxRecDepth 100000 in
theorem liveCode_any (v : Value) (m : Mc) (k : Int) (w : World) (hl : RdM w w.heap.size v m) :
    Calls Try.prog 74 #[v, .int .i64 k] w fun e w' => e = .returned (.int .i64 (liveC m k)) ∧ Below w.heap.size w w' := by
  have hl0 := hl
  obtain ⟨f, b, cs, ls, d, rfl, h1, h2, h3, h4, h5, h6⟩ := hl
  obtain ⟨AF, cF, rfl⟩ := RdN.shape h1
  obtain ⟨AG, cG, rfl⟩ := RdN.shape h2
  obtain ⟨AC, cC, rfl⟩ := RdS.lens h3
  obtain ⟨AI, cI, rfl⟩ := RdN.shape h4
  obtain ⟨AD, cD, rfl⟩ := RdI.len h5
  have BW := Lib.hid (show Below w.heap.size w (w.alloc (.cells #[.int .i64 m.wd, .int .i64 m.rk, .slice AF m.fr.length cF, .slice AG m.bk.length cG, .slice AC m.cs.length cC, .slice AI m.ls.length cI, .slice AD m.dr.length cD] 29)) from (Below.refl _ _).alloc (Nat.le_refl _) _)
  have HP := Lib.hid (RdP.box (T := 29) h1 h2 h3 h4 h5 h6)
  have HM := Lib.hid (hl0.up BW.out BW.out.size)
  clear h1 h2 h3 h4 h5 h6 hl0
  have HQ := Lib.hid (loopCode_any _ m k _ HM.out)
  by_cases ha : askC m k = 0
  case neg =>
    have HN := Lib.hid (live_ask ha)
    have e0 : (askC m k != 0) = true := by simpa using ha
    rw [HN.out]
    generalize askC m k = A at *
    go_enter Try.func74, Try.ntmps74
    go_wp2_with fail
    refine (HQ.out).mono ?_
    rintro e w1 ⟨rfl, hb⟩
    have HB := Lib.hid (BW.out.trans (hb.mono BW.out.size))
    clear hb
    go_wp2
    go_ret
    exact ⟨rfl, HB.out⟩
  obtain ⟨hok, hk0, hk1⟩ := ask_zero ha
  have HOK := Lib.hid hok
  have HAA := Lib.hid ha
  obtain ⟨kn, rfl⟩ := Int.eq_ofNat_of_zero_le hk0
  have hkn : kn < m.ls.length := by omega
  cases hl2 : hasB (liveL m) (kn : Int)
  all_goals
    first
      | have HN := Lib.hid (live_no ha hl2)
      | have HN := Lib.hid (live_yes ha hl2)
    rw [HN.out]
    have HL2 := Lib.hid hl2
    clear ha hok hl2
    go_enter Try.func74, Try.ntmps74
    go_wp2_with fail
    refine (HQ.out).mono ?_
    rintro e w1 ⟨rfl, hb⟩
    rw [HAA.out]
    have HB := Lib.hid (BW.out.trans (hb.mono BW.out.size))
    have HP1 := Lib.hid (HP.out.below hb)
    clear hb
    go_wp2_with fail
    refine (isLive_any m _ _ HP1.out HOK.out).mono ?_
    rintro e w2 ⟨rfl, hr, hb⟩
    have hc : w2.cell? ⟨w1.heap.size, kn, none⟩ = some (.bool (hasB (liveL m) (kn : Int))) := hr.cell (i := kn) hkn
    rw [HL2.out] at hc
    have HB2 := Lib.hid (HB.out.trans (hb.mono HB.out.size))
    clear hr hb
    go_wp2
    go_ret
    exact ⟨rfl, HB2.out⟩


set_option maxHeartbeats 4000000 in
set_option maxRecDepth 100000 in
theorem implRun_any (v : Value) (m : Mc) (k : Int) (w : World) (hl : RdM w w.heap.size v m) (hf : FitM m) :
    Calls Try.prog 26 #[v, .int .i64 k] w (GivesC w 2 1 (okList (liveC m k) (runL m k)).length (vI (okList (liveC m k) (runL m k))) (liveC m k)) := by
  have hdr := hf.dr
  have hl0 := hl
  obtain ⟨f, b, cs, ls, d, rfl, h1, h2, h3, h4, h5, h6⟩ := hl
  obtain ⟨AF, cF, rfl⟩ := RdN.shape h1
  obtain ⟨AG, cG, rfl⟩ := RdN.shape h2
  obtain ⟨AC, cC, rfl⟩ := RdS.lens h3
  obtain ⟨AI, cI, rfl⟩ := RdN.shape h4
  obtain ⟨AD, cD, rfl⟩ := RdI.len h5
  have BW := Lib.hid (show Below w.heap.size w (w.alloc (.cells #[.int .i64 m.wd, .int .i64 m.rk, .slice AF m.fr.length cF, .slice AG m.bk.length cG, .slice AC m.cs.length cC, .slice AI m.ls.length cI, .slice AD m.dr.length cD] 29)) from (Below.refl _ _).alloc (Nat.le_refl _) _)
  have HP := Lib.hid (RdP.box (T := 29) h1 h2 h3 h4 h5 h6)
  have HM := Lib.hid (hl0.up BW.out BW.out.size)
  clear h1 h2 h3 h4 h5 h6 hl0
  by_cases ha : liveC m k = 0
  case neg =>
    have HN := Lib.hid (fun w' hb => (show Below w.heap.size w w' → GivesC w 2 1 (okList (liveC m k) (runL m k)).length (vI (okList (liveC m k) (runL m k))) (liveC m k) (.returned (.tuple #[.slice none 0 0, .int .i64 (liveC m k)])) w' from fun hb => GivesC.nil ha rfl hb) hb)
    have e0 : (liveC m k != 0) = true := by simpa using ha
    have HQ := Lib.hid (liveCode_any _ m k _ HM.out)
    generalize liveC m k = A at *
    go_enter Try.func26, Try.ntmps26
    go_wp2_with fail
    refine (HQ.out).mono ?_
    rintro e w1 ⟨rfl, hb⟩
    have HB := Lib.hid (BW.out.trans (hb.mono BW.out.size))
    clear hb
    go_wp2
    go_ret2
    exact HN.out _ HB.out
  obtain ⟨hok, hk0, hk1⟩ := live_zero ha
  have HAA := Lib.hid ha
  have HOK := Lib.hid hok
  have h300 := ls_len hok
  clear ha hok
  go_enter Try.func26, Try.ntmps26
  go_wp2_with fail
  refine (liveCode_any _ m k _ HM.out).mono ?_
  rintro e w1 ⟨rfl, hb⟩
  rw [HAA.out]
  have HB := Lib.hid (BW.out.trans (hb.mono BW.out.size))
  have HP1 := Lib.hid (HP.out.below hb)
  clear hb HM HP
  go_wp2_with fail
  refine (runOf_any m _ k _ HP1.out HOK.out hk0 hk1).mono ?_
  rintro e w2 ⟨v, rfl, ho, hb⟩
  have HO := Lib.hid (ho.lo HB.out.size)
  have HB2 := Lib.hid (HB.out.trans (hb.mono HB.out.size))
  clear ho hb
  go_wp2
  go_ret2
  exact GivesC.yes HAA.out rfl HO.out HB2.out

/-- What LadderOf answers. -/
def ladV (m : Mc) (k : Int) : Int := if liveC m k = 0 then (ladN (runL m k) (waleL m k) : Int) else 0
def ladR (m : Mc) (k : Int) (e : Ending) : Prop := e = .returned (.tuple #[.int .i64 (ladV m k), .int .i64 (liveC m k)])
theorem ladN_le (r : List Int) : ∀ l : List Int, ladN r l ≤ l.length
  | [] => Nat.le_refl _
  | x :: t => by
    have := ladN_le r t
    rw [ladN]
    split <;> simp <;> omega
theorem lad_yes {r l : List Int} {N k : Nat} {x : Int} (h : N = k + ladN r (l.drop k)) (hx : l[k]? = some x) (hc : r.contains x = true) : N = (k + 1) + ladN r (l.drop (k + 1)) := by
  rw [h, drop_of_get hx, ladN, if_pos hc]; omega
theorem lad_no {r l : List Int} {N k : Nat} {x : Int} (h : N = k + ladN r (l.drop k)) (hx : l[k]? = some x) (hc : r.contains x = false) : N = k := by
  rw [h, drop_of_get hx, ladN, if_neg (by rw [hc]; decide)]; rfl
theorem lad_end {r l : List Int} {N k : Nat} (h : N = k + ladN r (l.drop k)) (hl : l.length ≤ k) : N = k := by
  rw [h, List.drop_of_length_le hl]; rfl

set_option maxHeartbeats 8000000 in
set_option maxRecDepth 100000 in
theorem implLadder_any (v : Value) (m : Mc) (k : Int) (w : World) (hl : RdM w w.heap.size v m) (hf : FitM m) :
    Calls Try.prog 27 #[v, .int .i64 k] w fun e w' => ladR m k e ∧ Below w.heap.size w w' := by
  have hdr := hf.dr
  have hl0 := hl
  obtain ⟨f, b, cs, ls, d, rfl, h1, h2, h3, h4, h5, h6⟩ := hl
  obtain ⟨AF, cF, rfl⟩ := RdN.shape h1
  obtain ⟨AG, cG, rfl⟩ := RdN.shape h2
  obtain ⟨AC, cC, rfl⟩ := RdS.lens h3
  obtain ⟨AI, cI, rfl⟩ := RdN.shape h4
  obtain ⟨AD, cD, rfl⟩ := RdI.len h5
  have BW := Lib.hid (show Below w.heap.size w (w.alloc (.cells #[.int .i64 m.wd, .int .i64 m.rk, .slice AF m.fr.length cF, .slice AG m.bk.length cG, .slice AC m.cs.length cC, .slice AI m.ls.length cI, .slice AD m.dr.length cD] 29)) from (Below.refl _ _).alloc (Nat.le_refl _) _)
  have HP := Lib.hid (RdP.box (T := 29) h1 h2 h3 h4 h5 h6)
  have HM := Lib.hid (hl0.up BW.out BW.out.size)
  clear h1 h2 h3 h4 h5 h6 hl0
  by_cases ha : liveC m k = 0
  case neg =>
    have HN := Lib.hid (fun w' hb => (show Below w.heap.size w w' → ladR m k (.returned (.tuple #[.int .i64 0, .int .i64 (liveC m k)])) ∧ Below w.heap.size w w' from fun hb => ⟨by unfold ladR ladV; rw [if_neg ha], hb⟩) hb)
    have e0 : (liveC m k != 0) = true := by simpa using ha
    have HQ := Lib.hid (liveCode_any _ m k _ HM.out)
    generalize liveC m k = A at *
    go_enter Try.func27, Try.ntmps27
    go_wp2_with fail
    refine (HQ.out).mono ?_
    rintro e w1 ⟨rfl, hb⟩
    have HB := Lib.hid (BW.out.trans (hb.mono BW.out.size))
    clear hb
    go_wp2
    go_ret2
    exact HN.out _ HB.out
  obtain ⟨hok, hk0, hk1⟩ := live_zero ha
  have HAA := Lib.hid ha
  have HOK := Lib.hid hok
  have h300 := ls_len hok
  clear ha hok
  go_enter Try.func27, Try.ntmps27
  go_wp2_with fail
  refine (liveCode_any _ m k _ HM.out).mono ?_
  rintro e w1 ⟨rfl, hb⟩
  rw [HAA.out]
  have HB := Lib.hid (BW.out.trans (hb.mono BW.out.size))
  have HP1 := Lib.hid (HP.out.below hb)
  clear hb HM HP
  go_wp2_with fail
  refine (runOf_any m _ k _ HP1.out HOK.out hk0 hk1).mono ?_
  rintro e w2 ⟨v2, rfl, ho, hb⟩
  have HR2 := Lib.hid (RdI.of_own ho)
  have HB2 := Lib.hid (HB.out.trans (hb.mono HB.out.size))
  have HP2 := Lib.hid (HP1.out.below hb)
  clear ho hb
  go_wp2_with fail
  refine (wale_any m _ k _ HP2.out HOK.out hk0 hk1).mono ?_
  rintro e w3 ⟨v3, rfl, ho, hb⟩
  obtain ⟨A3, c3, rfl, -⟩ := ho.cells
  have HW3 := Lib.hid (RdI.of_own ho)
  have HR3 := Lib.hid ((HR2.out.below hb).more hb.size)
  have HB3 := Lib.hid (HB2.out.trans (hb.mono HB2.out.size))
  clear ho hb
  have HAN := Lib.hid (show ladR m k = fun e => e = .returned (.tuple #[.int .i64 (ladN (runL m k) (waleL m k) : Int), .int .i64 0]) by funext e; unfold ladR ladV; rw [HAA.out]; rfl)
  have hwl : (waleL m k).length ≤ 302 := by have := waleT_len m (k.toNat + 1) k; simp only [waleL, List.length_cons]; omega
  generalize hr : runL m k = R at *
  generalize hw : waleL m k = W at *
  have HL0 := Lib.hid (show ladN R W = 0 + ladN R (W.drop 0) by simp)
  generalize hL : ladN R W = L at *
  generalize hN : W.length = N at *
  have HN := Lib.hid hN
  have HRES := Lib.hid (fun (q : Nat) (h : L = q) => show ladR m k (.returned (.tuple #[.int .i64 (q : Int), .int .i64 0])) from by subst h; exact (congrFun HAN.out _).mpr rfl)
  clear hL hN hr hw
  go_wp2
  go_loopw [8, 22] (fun t i wr => ∃ q : Nat, q ≤ N ∧ t = .int .i64 q ∧ i = .int .i64 q ∧ Hid (L = q + ladN R (W.drop q)) ∧ Below w3.heap.size w3 wr) (fun _ i _ => N - (intOf i).toNat)
  case atStart => exact ⟨0, Nat.zero_le _, rfl, rfl, HL0.out, Below.refl _ _⟩
  case round =>
    rename_i wr
    obtain ⟨q, hq, rfl, rfl, hd, hb⟩ := hrel
    by_cases hlt : q < N
    · obtain ⟨b, off, y, rfl, hbb, hlk, hcc⟩ := (HW3.out.below hb).at_ hlt
      have HB := Lib.hid hb
      have HQ := Lib.hid (containsI_any _ R y _ ((HR3.out.below hb).more hb.size))
      cases hy : R.contains y
      · have HD := Lib.hid (lad_no hd.out hlk hy)
        rw [hy] at HQ
        clear hb hd hlk hy
        go_wp2_with fail
        refine HQ.out.mono ?_
        rintro e w4 ⟨rfl, hb4⟩
        have HB4 := Lib.hid (HB3.out.trans ((HB.out.trans (hb4.mono HB.out.size)).mono HB3.out.size))
        clear hb4
        go_wp2
        go_ret2
        exact ⟨HRES.out _ HD.out, HB4.out⟩
      · have HD := Lib.hid (lad_yes hd.out hlk hy)
        rw [hy] at HQ
        clear hb hd hlk hy
        go_wp2_with fail
        refine HQ.out.mono ?_
        rintro e w4 ⟨rfl, hb4⟩
        have HB4 := Lib.hid (HB.out.trans (hb4.mono HB.out.size))
        clear hb4
        go_wp2
        exact ⟨⟨q + 1, by omega, by go_num, by go_num, HD.out, HB4.out⟩, by simp [intOf]; omega⟩
    · have HD := Lib.hid (lad_end hd.out (by have := HN.out; omega))
      have HB4 := Lib.hid (HB3.out.trans (hb.mono HB3.out.size))
      clear hb hd
      go_wp2
      go_ret2
      exact ⟨HRES.out _ HD.out, HB4.out⟩


end Go.Proofs.Ytogaellhkjjeaaa
