/-
  WeakLoops, the plain law: the loops of most, in the needles' order and in the loops' order.
-/
import Derived.Test.YtogaellhkjjeaaaMcFab
namespace Go.Proofs.Ytogaellhkjjeaaa
set_option linter.unusedVariables false
set_option linter.unusedSimpArgs false
open Go.RowKit

def wkGo (key : Int → Nat) : Nat → List Int → List Int → List Int
  | _, out, [] => out
  | best, out, k :: t => if best < key k then wkGo key (key k) [k] t else if key k = best then wkGo key best (out ++ [k]) t else wkGo key best out t
def mxL (key : Int → Nat) : Nat → List Int → Nat
  | best, [] => best
  | best, k :: t => mxL key (max best (key k)) t
theorem mxL_le (key : Int → Nat) : ∀ (l : List Int) (best : Nat), best ≤ mxL key best l
  | [], best => Nat.le_refl _
  | k :: t, best => by
    have := mxL_le key t (max best (key k))
    rw [mxL]
    omega
theorem wkGo_eq (key : Int → Nat) : ∀ (l : List Int) (best : Nat) (out : List Int), wkGo key best out l = (if mxL key best l = best then out else []) ++ l.filter fun k => key k == mxL key best l
  | [], best, out => by simp [wkGo, mxL]
  | k :: t, best, out => by
    rw [wkGo, mxL]
    by_cases h1 : best < key k
    · rw [if_pos h1, wkGo_eq key t, show max best (key k) = key k by omega]
      have h2 := mxL_le key t (key k)
      rw [if_neg (show ¬ mxL key (key k) t = best by omega), List.filter_cons]
      by_cases h3 : mxL key (key k) t = key k
      · rw [if_pos h3, if_pos (by simp [h3])]
        rfl
      · rw [if_neg h3, if_neg (by simpa using fun e => h3 e.symm)]
    · rw [if_neg h1, show max best (key k) = best by omega]
      have h2 := mxL_le key t best
      by_cases h3 : key k = best
      · rw [if_pos h3, wkGo_eq key t, List.filter_cons, h3]
        by_cases h4 : mxL key best t = best
        · rw [if_pos h4, if_pos h4, h4]
          simp
        · rw [if_neg h4, if_neg h4, if_neg (by simpa using fun e => h4 e.symm)]
      · rw [if_neg h3, wkGo_eq key t, List.filter_cons, if_neg (show ¬ (key k == mxL key best t) = true by rw [beq_iff_eq]; omega)]
theorem mxL_perm (key : Int → Nat) {l l' : List Int} (h : l.Perm l') : ∀ best, mxL key best l = mxL key best l' := by
  induction h with
  | nil => intro b; rfl
  | cons x _ ih => intro b; rw [mxL, mxL]; exact ih _
  | swap x y l => intro b; simp only [mxL]; rw [show max (max b (key y)) (key x) = max (max b (key x)) (key y) by omega]
  | trans _ _ ih1 ih2 => intro b; exact (ih1 b).trans (ih2 b)
theorem wk_sort (key : Int → Nat) {l l' : List Int} (h : l.Perm l') (hs : l'.Pairwise (· < ·)) : (wkGo key 0 [] l).mergeSort (fun x y => decide (x ≤ y)) = wkGo key 0 [] l' := by
  have e1 : wkGo key 0 [] l = l.filter fun k => key k == mxL key 0 l := by rw [wkGo_eq]; split <;> rfl
  have e2 : wkGo key 0 [] l' = l'.filter fun k => key k == mxL key 0 l' := by rw [wkGo_eq]; split <;> rfl
  rw [e1, e2, mxL_perm key h]
  have hp := h.filter fun k => key k == mxL key 0 l'
  have h1 := List.pairwise_mergeSort (le := fun x y : Int => decide (x ≤ y)) (fun a b c h h' => by simp at *; omega) (fun a b => by simp; omega) (l.filter fun k => key k == mxL key 0 l')
  have h2 : (l'.filter fun k => key k == mxL key 0 l').Pairwise (fun a b => (decide (a ≤ b)) = true) := (hs.filter _).imp (fun h => by simp; omega)
  exact List.Perm.eq_of_pairwise (fun a b _ _ h h' => by simp at h h'; omega) h1 h2 ((List.mergeSort_perm _ _).trans hp)

theorem parsB_nodup {n : Int} : ∀ (l pre : List Int), parsB n pre l = true → l.Nodup ∧ ∀ x ∈ l, ¬ x ∈ pre
  | [], pre, h => ⟨List.nodup_nil, fun x hx => by simp at hx⟩
  | y :: t, pre, h => by
    rw [parsB] at h
    simp only [Bool.and_eq_true, Bool.not_eq_true', List.contains_eq_mem, decide_eq_false_iff_not] at h
    obtain ⟨_, h1, h2⟩ := h
    obtain ⟨h3, h4⟩ := parsB_nodup t _ h2
    refine ⟨List.nodup_cons.2 ⟨fun hy => h4 y hy (by simp), h3⟩, fun x hx => ?_⟩
    rcases List.mem_cons.1 hx with rfl | hx
    · exact h1
    · exact fun hp => h4 x hx (by simp [hp])
def plN (m : Mc) (n : Int × Int) : Int := if n.1 = 2 then n.2 + m.rk else n.2
theorem ndX_pl {m : Mc} {x : Int} {n : Int × Int} (h : n ∈ ndX m x) : plN m n = x := by
  unfold ndX at h
  unfold plN
  rcases List.mem_append.1 h with h | h
  · split at h
    · simp at h; subst h; simp
    · simp at h
  · split at h
    · simp at h; subst h; simp
    · simp at h
theorem ndX_nodup (m : Mc) (x : Int) : (ndX m x).Nodup := by
  unfold ndX
  split <;> split <;> simp
theorem ndGo_pl {m : Mc} : ∀ (f : Nat) (x : Int) (n : Int × Int), n ∈ ndGo m f x → x ≤ plN m n
  | 0, x, n, h => by simp [ndGo] at h
  | f + 1, x, n, h => by
    rw [ndGo] at h
    rcases List.mem_append.1 h with h | h
    · rw [ndX_pl h]
      omega
    · have := ndGo_pl f (x + 1) n h
      omega
theorem ndGo_nodup (m : Mc) : ∀ (f : Nat) (x : Int), (ndGo m f x).Nodup
  | 0, x => List.nodup_nil
  | f + 1, x => by
    rw [ndGo]
    refine List.nodup_append.2 ⟨ndX_nodup m x, ndGo_nodup m f (x + 1), fun a ha b hb e => ?_⟩
    subst e
    have h1 := ndX_pl ha
    have h2 := ndGo_pl f (x + 1) a hb
    omega
theorem getD_mem {L : List (List Int)} {k : Nat} {x : Int} (h : x ∈ L.getD k []) : ∃ hk : k < L.length, x ∈ L[k] := by
  by_cases hk : k < L.length
  · refine ⟨hk, ?_⟩
    rw [List.getD_eq_getElem?_getD, List.getElem?_eq_getElem hk] at h
    exact h
  · rw [List.getD_eq_getElem?_getD, List.getElem?_eq_none (by omega)] at h
    simp at h
theorem flat_apart {L : List (List Int)} (h : L.flatten.Nodup) {i j : Nat} {x : Int} (hi : x ∈ L.getD i []) (hj : x ∈ L.getD j []) : i = j := by
  obtain ⟨hi1, hi2⟩ := getD_mem hi
  obtain ⟨hj1, hj2⟩ := getD_mem hj
  have hp := (List.pairwise_flatten.1 h).2
  rw [List.pairwise_iff_getElem] at hp
  rcases Nat.lt_trichotomy i j with hl | hl | hl
  · exact absurd rfl (hp i j hi1 hj1 hl x hi2 x hj2)
  · exact hl
  · exact absurd rfl (hp j i hj1 hi1 hl x hj2 x hi2)
theorem flat_one {L : List (List Int)} (h : L.flatten.Nodup) (i : Nat) : (L.getD i []).Nodup := by
  by_cases hk : i < L.length
  · rw [List.getD_eq_getElem?_getD, List.getElem?_eq_getElem hk]
    exact (List.pairwise_flatten.1 h).1 _ (List.getElem_mem hk)
  · rw [List.getD_eq_getElem?_getD, List.getElem?_eq_none (by omega)]
    exact List.nodup_nil
/-- No loop is twice on the needles. -/
theorem liveL_nodup {m : Mc} (h : okM m = true) : (liveL m).Nodup := by
  unfold okM at h
  simp only [Bool.and_eq_true] at h
  have hn := (parsB_nodup _ _ h.2.2.2.2.2.2).1
  obtain ⟨h1, h23, h4⟩ := List.nodup_append.1 hn
  obtain ⟨h2, h3, h5⟩ := List.nodup_append.1 h23
  unfold liveL
  refine List.pairwise_flatMap.2 ⟨fun n hn => ?_, ?_⟩
  · unfold onL
    split
    · exact flat_one h2 _
    · exact flat_one h1 _
  · refine List.Pairwise.imp_of_mem ?_ (ndGo_nodup m _ _)
    intro a b ha hb hab x hx y hy e
    subst e
    obtain ⟨a1, a2, a3⟩ := ndGo_ok ha
    obtain ⟨b1, b2, b3⟩ := ndGo_ok hb
    have mf : ∀ {L : List (List Int)} {i : Nat}, x ∈ L.getD i [] → x ∈ L.flatten := fun {L i} h => by
      obtain ⟨hk, hm⟩ := getD_mem h
      exact List.mem_flatten.2 ⟨_, List.getElem_mem hk, hm⟩
    unfold onL at hx hy
    by_cases ea : a.1 = 2 <;> by_cases eb : b.1 = 2
    · rw [if_pos ea] at hx
      rw [if_pos eb] at hy
      have := flat_apart h2 hx hy
      exact hab (Prod.ext (by omega) (by omega))
    · rw [if_pos ea] at hx
      rw [if_neg eb] at hy
      exact h4 x (mf hy) x (List.mem_append_left _ (mf hx)) rfl
    · rw [if_neg ea] at hx
      rw [if_pos eb] at hy
      exact h4 x (mf hx) x (List.mem_append_left _ (mf hy)) rfl
    · rw [if_neg ea] at hx
      rw [if_neg eb] at hy
      have := flat_apart h1 hx hy
      exact hab (Prod.ext (by omega) (by omega))

/-- The loops on needles in their own order. -/
def refL (m : Mc) : List Int := ((List.range m.ls.length).map fun i : Nat => (i : Int)).filter (hasB (liveL m))
theorem refL_sorted (m : Mc) : (refL m).Pairwise (· < ·) := by
  unfold refL
  refine List.Pairwise.filter _ ?_
  rw [List.pairwise_map]
  exact List.pairwise_lt_range.imp (fun h => by omega)
theorem refL_perm {m : Mc} (h : okM m = true) : (liveL m).Perm (refL m) := by
  refine (List.perm_ext_iff_of_nodup (liveL_nodup h) ((refL_sorted m).imp (fun h e => by omega))).2 (fun k => ?_)
  unfold refL hasB
  rw [List.mem_filter]
  simp only [List.contains_eq_mem, decide_eq_true_eq]
  refine ⟨fun hk => ⟨?_, hk⟩, fun hk => hk.2⟩
  obtain ⟨h0, h1⟩ := liveL_rng h hk
  exact List.mem_map.2 ⟨k.toNat, by rw [List.mem_range]; omega, by omega⟩
def weakK (m : Mc) (k : Int) : Nat := (runL m k).length
def weakL (m : Mc) : List Int := wkGo (weakK m) 0 [] (refL m)
theorem weakL_len {m : Mc} {n : Nat} (h : m.ls.length ≤ n) : (weakL m).length ≤ n := by
  unfold weakL
  rw [wkGo_eq, show (if mxL (weakK m) 0 (refL m) = 0 then ([] : List Int) else []) = [] by split <;> rfl, List.nil_append]
  refine Nat.le_trans (List.length_filter_le _ _) ?_
  unfold refL
  refine Nat.le_trans (List.length_filter_le _ _) ?_
  simpa using h
theorem weak_sort {m : Mc} (h : okM m = true) : (wkGo (weakK m) 0 [] (liveL m)).mergeSort (fun x y => decide (x ≤ y)) = weakL m := wk_sort _ (refL_perm h) (refL_sorted m)

end Go.Proofs.Ytogaellhkjjeaaa
