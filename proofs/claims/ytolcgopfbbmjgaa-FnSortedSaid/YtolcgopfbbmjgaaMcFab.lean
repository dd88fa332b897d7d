/-
  Machines behind a pointer; what the program and the reference tell of loops, as plain data.
-/
import Derived.Test.YtolcgopfbbmjgaaMcAsk0
import Derived.Test.YtolcgopfbbmjgaaMcYarn
namespace Go.Proofs.Ytolcgopfbbmjgaa
set_option linter.unusedVariables false
set_option linter.unusedSimpArgs false
open Go.RowKit

/-- A machine behind a pointer. -/
def RdP (w : World) (g : Nat) (m : Mc) : Prop :=
  ∃ F G C L D, CellsAt w g 0 [.int .i64 m.wd, .int .i64 m.rk, F, G, C, L, D] ∧ RdLL w w.heap.size F m.fr ∧ RdLL w w.heap.size G m.bk ∧ RdCs w w.heap.size C m.cs ∧ RdIs w w.heap.size L m.ls ∧ RdI w w.heap.size D m.dr ∧ CapOk D
theorem RdP.lt {w : World} {g : Nat} {m : Mc} (h : RdP w g m) : g < w.heap.size := by
  obtain ⟨F, G, C, L, D, hc, _⟩ := h
  exact block_lt_of_cell hc.seven.1
theorem RdP.below {w w' : World} {g : Nat} {m : Mc} (h : RdP w g m) (hb : Below w.heap.size w w') : RdP w' g m := by
  have hg := h.lt
  obtain ⟨F, G, C, L, D, hc, h1, h2, h3, h4, h5, h6⟩ := h
  exact ⟨F, G, C, L, D, hc.below hb hg, RdLL.more (RdLL.below h1 hb) hb.size, RdLL.more (RdLL.below h2 hb) hb.size, (RdS.below h3 hb).more hb.size, RdIs.more (RdIs.below h4 hb) hb.size, (h5.below hb).more hb.size, h6⟩
theorem RdP.box {w : World} {m : Mc} {F G C L D : Value} {T : TypeId} (h1 : RdLL w w.heap.size F m.fr) (h2 : RdLL w w.heap.size G m.bk) (h3 : RdCs w w.heap.size C m.cs) (h4 : RdIs w w.heap.size L m.ls) (h5 : RdI w w.heap.size D m.dr) (h6 : CapOk D) :
    RdP (w.alloc (.cells #[.int .i64 m.wd, .int .i64 m.rk, F, G, C, L, D] T)) w.heap.size m := by
  have hb : Below w.heap.size w (w.alloc (.cells #[.int .i64 m.wd, .int .i64 m.rk, F, G, C, L, D] T)) := (Below.refl _ _).alloc (Nat.le_refl _) _
  refine ⟨F, G, C, L, D, fun j u hu => ?_, RdLL.more (RdLL.below h1 hb) hb.size, RdLL.more (RdLL.below h2 hb) hb.size, (RdS.below h3 hb).more hb.size, RdIs.more (RdIs.below h4 hb) hb.size, (h5.below hb).more hb.size, h6⟩
  rcases j with _ | _ | _ | _ | _ | _ | _ | j <;> simp at hu <;> subst hu <;> simp [go_sem]

/-! ### A window of the heap that stays as it is while a row of the call's own grows elsewhere -/
def Same (lo hi : Nat) (w w' : World) : Prop := ∀ g, lo ≤ g → g < hi → w'.heap[g]? = w.heap[g]?
def Outs (lo hi : Nat) (v : Value) : Prop := ∀ g, v.ownBlock = some g → g < lo ∨ hi ≤ g
theorem Same.refl (lo hi : Nat) (w : World) : Same lo hi w w := fun _ _ _ => rfl
theorem Same.trans {lo hi : Nat} {a b c : World} (h : Same lo hi a b) (k : Same lo hi b c) : Same lo hi a c := fun g h1 h2 => (k g h1 h2).trans (h g h1 h2)
theorem Same.sub {lo hi lo' hi' : Nat} {a b : World} (h : Same lo hi a b) (h1 : lo ≤ lo') (h2 : hi' ≤ hi) : Same lo' hi' a b := fun g h3 h4 => h g (by omega) (by omega)
theorem Same.of_below {lo hi B : Nat} {b c : World} (hb : Below B b c) (hB : hi ≤ B) : Same lo hi b c := fun g _ h2 => hb.block g (by omega)
theorem Same.below {lo hi B : Nat} {a b c : World} (h : Same lo hi a b) (hb : Below B b c) (hB : hi ≤ B) : Same lo hi a c := h.trans (Same.of_below hb hB)
theorem Same.alloc {lo hi : Nat} {a b : World} (h : Same lo hi a b) (hs : hi ≤ b.heap.size) (o : Obj) : Same lo hi a (b.alloc o) := h.below ((Below.refl _ _).alloc (Nat.le_refl _) o) hs
theorem Same.grown {lo hi : Nat} {a b c : World} {v : Value} (h : Same lo hi a b) (hg : b.grownBy c v.ownBlock) (ho : Outs lo hi v) (hs : hi ≤ b.heap.size) : Same lo hi a c :=
  h.trans fun g h1 h2 => hg.block g (by omega) (fun e => by have := ho g e.symm; omega)
theorem Same.setCell {lo hi : Nat} {a b : World} (h : Same lo hi a b) {p : Addr} (hp : p.block < lo ∨ hi ≤ p.block) (u : Value) : Same lo hi a (b.setCell p u) := h.trans fun g h1 h2 => Below.heap_setCell _ _ _ _ (by omega)
theorem Outs.grown {lo hi : Nat} {v v' : Value} {n : Nat} (h : Outs lo hi v) (ha : v'.ownBlock = v.ownBlock ∨ v'.ownBlock = some n) (hs : hi ≤ n) : Outs lo hi v' := fun g hg => by
  rcases ha with ha | ha
  · exact h g (ha ▸ hg)
  · rw [ha] at hg; injection hg with hg; omega
theorem OwC.same {w w' : World} {lo hi E sz n : Nat} {v : Value} {xs : List Value} (h : OwC w lo hi E sz v n xs) (s : Same lo hi w w') : OwC w' lo hi E sz v n xs := h.keep s

/-! ### Needles and the loops on them -/
def ndX (m : Mc) (x : Int) : List (Int × Int) := (if inB 0 x (m.wd - 1) = true then [(1, x)] else []) ++ (if inB 0 (x - m.rk) (m.wd - 1) = true then [(2, x - m.rk)] else [])
def ndGo (m : Mc) : Nat → Int → List (Int × Int)
  | 0, _ => []
  | f + 1, x => ndX m x ++ ndGo m f (x + 1)
def ndL (m : Mc) : List (Int × Int) := ndGo m (m.wd.toNat + 6) (-3)
def onL (m : Mc) (n : Int × Int) : List Int := if n.1 = 2 then m.bk.getD n.2.toNat [] else m.fr.getD n.2.toNat []
def liveL (m : Mc) : List Int := (ndL m).flatMap (onL m)
def ndOk (m : Mc) (n : Int × Int) : Prop := (n.1 = 1 ∨ n.1 = 2) ∧ 0 ≤ n.2 ∧ n.2 < m.wd
theorem ndX_ok {m : Mc} {x : Int} {n : Int × Int} (h : n ∈ ndX m x) : ndOk m n := by
  unfold ndX at h
  rcases List.mem_append.1 h with h | h
  · split at h
    · rename_i hi
      simp at h
      subst h
      have := inB_iff.1 hi
      exact ⟨.inl rfl, by simp; omega, by simp; omega⟩
    · simp at h
  · split at h
    · rename_i hi
      simp at h
      subst h
      have := inB_iff.1 hi
      exact ⟨.inr rfl, by simp; omega, by simp; omega⟩
    · simp at h
theorem ndGo_ok {m : Mc} : ∀ {f : Nat} {x : Int} {n : Int × Int}, n ∈ ndGo m f x → ndOk m n
  | 0, x, n, h => by simp [ndGo] at h
  | f + 1, x, n, h => by
    rw [ndGo] at h
    rcases List.mem_append.1 h with h | h
    · exact ndX_ok h
    · exact ndGo_ok h
theorem ndL_ok {m : Mc} {n : Int × Int} (h : n ∈ ndL m) : ndOk m n := ndGo_ok h
theorem ndX_len (m : Mc) (x : Int) : (ndX m x).length ≤ 2 := by
  unfold ndX
  rw [List.length_append]
  split <;> split <;> simp
theorem ndGo_len (m : Mc) : ∀ (f : Nat) (x : Int), (ndGo m f x).length ≤ 2 * f
  | 0, x => by simp [ndGo]
  | f + 1, x => by
    have h1 := ndX_len m x
    have h2 := ndGo_len m f (x + 1)
    rw [ndGo, List.length_append]
    omega
theorem ok_head {m : Mc} (h : okM m = true) : headM m = true := by
  unfold okM at h
  simp at h
  exact h.1
theorem ok_lens {m : Mc} (h : okM m = true) : lens4 m.fr = true ∧ lens4 m.bk = true := by
  unfold okM at h
  simp at h
  exact ⟨h.2.1, h.2.2.1⟩
theorem ok_wd {m : Mc} (h : okM m = true) : 1 ≤ m.wd ∧ m.wd ≤ 24 ∧ -3 ≤ m.rk ∧ m.rk ≤ 3 ∧ (m.fr.length : Int) = m.wd ∧ (m.bk.length : Int) = m.wd ∧ m.cs.length = 4 := by
  have hh := headM_yes (ok_head h)
  have h1 := inB_iff.1 hh.1
  have h2 := inB_iff.1 hh.2.1
  have h3 := hh.2.2.1
  have h4 := hh.2.2.2.1
  simp at h3 h4
  exact ⟨h1.1, h1.2, h2.1, h2.2, h3, h4, hh.2.2.2.2.2.2.2.2.2.2⟩
theorem onL_len {m : Mc} (h : okM m = true) (n : Int × Int) : (onL m n).length ≤ 4 := by
  obtain ⟨h1, h2⟩ := ok_lens h
  unfold lens4 at h1 h2
  simp at h1 h2
  unfold onL
  split
  · rw [List.getD_eq_getElem?_getD]
    cases hx : m.bk[n.2.toNat]? with
    | none => simp
    | some x => exact h2 x (List.mem_of_getElem? hx)
  · rw [List.getD_eq_getElem?_getD]
    cases hx : m.fr[n.2.toNat]? with
    | none => simp
    | some x => exact h1 x (List.mem_of_getElem? hx)
theorem flatMap_len {α : Type} (f : α → List Int) (b : Nat) (hf : ∀ x, (f x).length ≤ b) : ∀ (l : List α), (l.flatMap f).length ≤ b * l.length
  | [] => by simp
  | x :: t => by
    have h1 := hf x
    have h2 := flatMap_len f b hf t
    rw [List.flatMap_cons, List.length_append, List.length_cons, Nat.mul_succ]
    omega
theorem ndL_len {m : Mc} (h : okM m = true) : (ndL m).length ≤ 60 := by
  have h1 := ndGo_len m (m.wd.toNat + 6) (-3)
  have h2 := ok_wd h
  unfold ndL
  omega
theorem liveL_len {m : Mc} (h : okM m = true) : (liveL m).length ≤ 240 := by
  have h1 := flatMap_len (onL m) 4 (onL_len h) (ndL m)
  have h2 := ndL_len h
  unfold liveL
  omega
theorem pars_flat {m : Mc} (h : okM m = true) : parsB m.ls.length [] (m.fr.flatten ++ (m.bk.flatten ++ m.dr)) = true := by
  unfold okM at h
  simp at h
  exact h.2.2.2.2.2.2
theorem onL_rng {m : Mc} (h : okM m = true) {n : Int × Int} {k : Int} (hk : k ∈ onL m n) : 0 ≤ k ∧ k < m.ls.length := by
  have hp := pars_flat h
  have hm : k ∈ m.fr.flatten ++ (m.bk.flatten ++ m.dr) := by
    unfold onL at hk
    split at hk
    · rw [List.getD_eq_getElem?_getD] at hk
      cases hx : m.bk[n.2.toNat]? with
      | none => rw [hx] at hk; simp at hk
      | some x => rw [hx] at hk; exact List.mem_append_right _ (List.mem_append_left _ (List.mem_flatten.2 ⟨x, List.mem_of_getElem? hx, hk⟩))
    · rw [List.getD_eq_getElem?_getD] at hk
      cases hx : m.fr[n.2.toNat]? with
      | none => rw [hx] at hk; simp at hk
      | some x => rw [hx] at hk; exact List.mem_append_left _ (List.mem_flatten.2 ⟨x, List.mem_of_getElem? hx, hk⟩)
  have := pars_mem hp hm
  omega
theorem liveL_rng {m : Mc} (h : okM m = true) {k : Int} (hk : k ∈ liveL m) : 0 ≤ k ∧ k < m.ls.length := by
  obtain ⟨n, _, hn⟩ := List.mem_flatMap.1 hk
  exact onL_rng h hn

/-! ### Children -/
def chGo (k : Int) : Int → List Inf → List Int
  | _, [] => []
  | i, x :: t => if x.ps.contains k = true then i :: chGo k (i + 1) t else chGo k (i + 1) t
def chL (m : Mc) (k : Int) : List Int := chGo k 0 m.ls
theorem ch_yes {c : Int} {L acc : List Int} {l : List Inf} {k : Nat} {x : Inf} (h : L = acc ++ chGo c (k : Int) (l.drop k)) (hx : l[k]? = some x) (hc : x.ps.contains c = true) : L = (acc ++ [(k : Int)]) ++ chGo c ((k + 1 : Nat) : Int) (l.drop (k + 1)) := by
  rw [h, drop_of_get hx, chGo, if_pos hc, List.append_assoc]
  rfl
theorem ch_no {c : Int} {L acc : List Int} {l : List Inf} {k : Nat} {x : Inf} (h : L = acc ++ chGo c (k : Int) (l.drop k)) (hx : l[k]? = some x) (hc : x.ps.contains c = false) : L = acc ++ chGo c ((k + 1 : Nat) : Int) (l.drop (k + 1)) := by
  rw [h, drop_of_get hx, chGo, if_neg (by rw [hc]; decide)]
  rfl
theorem chGo_len (c : Int) : ∀ (l : List Inf) (i : Int), (chGo c i l).length ≤ l.length
  | [], i => by simp [chGo]
  | x :: t, i => by
    have := chGo_len c t (i + 1)
    rw [chGo]
    split <;> simp <;> omega
theorem chGo_app (c : Int) : ∀ (l t : List Inf) (i : Int), chGo c i (l ++ t) = chGo c i l ++ chGo c (i + l.length) t
  | [], t, i => by simp [chGo]
  | x :: l, t, i => by
    have ih := chGo_app c l t (i + 1)
    simp only [List.cons_append, chGo, ih, List.length_cons]
    have e : i + 1 + (l.length : Int) = i + ((l.length + 1 : Nat) : Int) := by omega
    rw [e]
    split <;> rfl
theorem chGo_take {l : List Inf} {k : Nat} {x : Inf} (hx : l[k]? = some x) (c : Int) : chGo c 0 (l.take (k + 1)) = chGo c 0 (l.take k) ++ (if x.ps.contains c = true then [(k : Int)] else []) := by
  have hk : k < l.length := (List.getElem?_eq_some_iff.1 hx).1
  rw [List.take_add_one, hx]
  show chGo c 0 (l.take k ++ [x]) = _
  rw [chGo_app]
  simp only [chGo]
  rw [List.length_take, Nat.min_eq_left (by omega)]
  simp
/-- A child is after its parent. -/
theorem chGo_mem {c : Int} : ∀ {l : List Inf} {i k : Int}, k ∈ chGo c i l → ∃ (j : Nat) (x : Inf), k = i + j ∧ l[j]? = some x ∧ x.ps.contains c = true
  | [], i, k, h => by simp [chGo] at h
  | x :: t, i, k, h => by
    rw [chGo] at h
    have go : k ∈ chGo c (i + 1) t → ∃ (j : Nat) (y : Inf), k = i + j ∧ (x :: t)[j]? = some y ∧ y.ps.contains c = true := fun h => by
      obtain ⟨j, y, h1, h2, h3⟩ := chGo_mem h
      exact ⟨j + 1, y, by omega, by simpa using h2, h3⟩
    split at h
    · rename_i hc
      rcases List.mem_cons.1 h with rfl | h
      · exact ⟨0, x, by simp, rfl, hc⟩
      · exact go h
    · exact go h
theorem chL_rng {m : Mc} (h : okM m = true) {c k : Int} (hk : k ∈ chL m c) : c < k ∧ k < m.ls.length := by
  obtain ⟨j, x, h1, h2, h3⟩ := chGo_mem hk
  have h4 := (ok_loop h h2).1 c (by simpa using h3)
  have h5 := (List.getElem?_eq_some_iff.1 h2).1
  omega

theorem yarnGo_len (c : Int) : ∀ (l : List Inf) (i : Int), (yarnGo c i l).length ≤ l.length
  | [], i => by simp [yarnGo]
  | x :: t, i => by
    have := yarnGo_len c t (i + 1)
    rw [yarnGo]
    split <;> simp <;> omega

/-! ### States -/
def stM (m : Mc) (k : Int) : Int := if (liveL m).contains k = true then 2 else if m.dr.contains k = true then 3 else if 0 < (chL m k).length then 1 else 4

/-! ### What comes undone -/
def undR (m : Mc) (H : Int → Bool) : Nat → List Bool
  | 0 => []
  | d + 1 => (!H ((m.ls.length : Int) - ((d : Int) + 1)) && (chL m ((m.ls.length : Int) - ((d : Int) + 1))).all fun k => (undR m H d).getD (k - ((m.ls.length : Int) - (d : Int))).toNat false) :: undR m H d
theorem undR_len (m : Mc) (H : Int → Bool) : ∀ d, (undR m H d).length = d
  | 0 => rfl
  | d + 1 => by rw [undR, List.length_cons, undR_len m H d]
def undL (m : Mc) (H : Int → Bool) : List Bool := undR m H m.ls.length
def idxT : Int → List Bool → List Int
  | _, [] => []
  | i, b :: t => if b = true then i :: idxT (i + 1) t else idxT (i + 1) t
theorem idxT_yes {L acc : List Int} {l : List Bool} {k : Nat} (h : L = acc ++ idxT (k : Int) (l.drop k)) (hx : l[k]? = some true) : L = (acc ++ [(k : Int)]) ++ idxT ((k + 1 : Nat) : Int) (l.drop (k + 1)) := by
  rw [h, drop_of_get hx, idxT, if_pos rfl, List.append_assoc]
  rfl
theorem idxT_no {L acc : List Int} {l : List Bool} {k : Nat} (h : L = acc ++ idxT (k : Int) (l.drop k)) (hx : l[k]? = some false) : L = acc ++ idxT ((k + 1 : Nat) : Int) (l.drop (k + 1)) := by
  rw [h, drop_of_get hx, idxT, if_neg (by decide)]
  rfl
theorem idxT_len : ∀ (l : List Bool) (i : Int), (idxT i l).length ≤ l.length
  | [], i => by simp [idxT]
  | b :: t, i => by
    have := idxT_len t (i + 1)
    rw [idxT]
    split <;> simp <;> omega
theorem idxT_mem : ∀ {l : List Bool} {i k : Int}, k ∈ idxT i l ↔ i ≤ k ∧ l[(k - i).toNat]? = some true
  | [], i, k => by simp [idxT]
  | b :: t, i, k => by
    have ih := idxT_mem (l := t) (i := i + 1) (k := k)
    have key : k ∈ idxT (i + 1) t ↔ i < k ∧ (b :: t)[(k - i).toNat]? = some true := by
      rw [ih]
      constructor
      · rintro ⟨h1, h2⟩
        refine ⟨by omega, ?_⟩
        rw [show (k - i).toNat = (k - (i + 1)).toNat + 1 by omega]
        simpa using h2
      · rintro ⟨h1, h2⟩
        refine ⟨by omega, ?_⟩
        rw [show (k - i).toNat = (k - (i + 1)).toNat + 1 by omega] at h2
        simpa using h2
    rw [idxT]
    split
    · rename_i hb
      subst hb
      rw [List.mem_cons, key]
      constructor
      · rintro (rfl | ⟨h1, h2⟩)
        · exact ⟨Int.le_refl _, by simp⟩
        · exact ⟨by omega, h2⟩
      · rintro ⟨h1, h2⟩
        by_cases e : k = i
        · exact .inl e
        · exact .inr ⟨by omega, h2⟩
    · rename_i hb
      rw [key]
      constructor
      · rintro ⟨h1, h2⟩
        exact ⟨by omega, h2⟩
      · rintro ⟨h1, h2⟩
        refine ⟨?_, h2⟩
        by_cases e : k = i
        · subst e
          simp at h2
          exact absurd h2 hb
        · omega
def hasB (l : List Int) (k : Int) : Bool := l.contains k
def undone (m : Mc) : List Int := idxT 0 (undL m (hasB (liveL m)))
def thenB (m : Mc) (k : Int) (i : Int) : Bool := hasB (liveL m) i && !(i == k)
def runB (m : Mc) (k : Int) : List Bool := List.zipWith (fun t n => t && !n) (undL m (thenB m k)) (undL m (hasB (liveL m)))
def runL (m : Mc) (k : Int) : List Int := idxT 0 (runB m k)
theorem undR_ext {m : Mc} {H H' : Int → Bool} : ∀ {d : Nat}, d ≤ m.ls.length → (∀ i : Int, 0 ≤ i → i < m.ls.length → H i = H' i) → undR m H d = undR m H' d
  | 0, _, _ => rfl
  | d + 1, hd, h => by rw [undR, undR, undR_ext (by omega) h, h _ (by omega) (by omega)]
theorem idxT_filter : ∀ (a b : List Bool) (i : Int), a.length = b.length → (idxT i a).filter (fun k => !(decide (i ≤ k) && (b[(k - i).toNat]? == some true))) = idxT i (List.zipWith (fun t n => t && !n) a b)
  | [], b, i, h => by simp [idxT]
  | x :: a, [], i, h => by simp at h
  | x :: a, y :: b, i, h => by
    have ih := idxT_filter a b (i + 1) (by simpa using h)
    have hcong : (idxT (i + 1) a).filter (fun k => !(decide (i ≤ k) && ((y :: b)[(k - i).toNat]? == some true))) = (idxT (i + 1) a).filter (fun k => !(decide (i + 1 ≤ k) && (b[(k - (i + 1)).toNat]? == some true))) := by
      refine List.filter_congr fun k hk => ?_
      have hk1 := (idxT_mem.1 hk).1
      rw [show (k - i).toNat = (k - (i + 1)).toNat + 1 by omega]
      have e1 : decide (i ≤ k) = true := by simp; omega
      have e2 : decide (i + 1 ≤ k) = true := by simpa using hk1
      rw [e1, e2]
      simp
    cases x
    · simp only [idxT, List.zipWith_cons_cons, Bool.false_and]
      rw [if_neg (by decide), if_neg (by decide), hcong, ih]
    · cases y
      · simp only [idxT, List.zipWith_cons_cons]
        simp only [Bool.not_false, Bool.and_true, if_true]
        rw [List.filter_cons_of_pos (by simp), hcong, ih]
      · simp only [idxT, List.zipWith_cons_cons]
        simp only [Bool.not_true, Bool.and_false, if_true]
        rw [List.filter_cons_of_neg (by simp), hcong, ih]
        simp
/-- What the reference strikes: the loops that come undone anyway. -/
theorem run_filter (m : Mc) (k : Int) : (idxT 0 (undL m (thenB m k))).filter (fun i => !(undone m).contains i) = runL m k := by
  unfold runL runB
  rw [← idxT_filter _ _ 0 (by simp [undL, undR_len])]
  refine List.filter_congr fun i hi => ?_
  congr 1
  rw [Bool.eq_iff_iff]
  simp only [List.contains_iff_mem, Bool.and_eq_true, decide_eq_true_eq, beq_iff_eq]
  exact idxT_mem

/-! ### Wales -/
def waleT (m : Mc) : Nat → Int → List Int
  | 0, _ => []
  | f + 1, k => match m.ls[k.toNat]? with
    | none => []
    | some x => match x.ps with
      | [] => []
      | p :: _ => p :: waleT m f p
def waleL (m : Mc) (k : Int) : List Int := k :: waleT m (k.toNat + 1) k
theorem wale_end {m : Mc} {f : Nat} {k : Int} {x : Inf} (hx : m.ls[k.toNat]? = some x) (hp : x.ps = []) : waleT m (f + 1) k = [] := by
  rw [waleT, hx]; simp [hp]
theorem wale_next {m : Mc} {f : Nat} {k p : Int} {t : List Int} {x : Inf} (hx : m.ls[k.toNat]? = some x) (hp : x.ps = p :: t) : waleT m (f + 1) k = p :: waleT m f p := by
  rw [waleT, hx]; simp [hp]
theorem waleT_len (m : Mc) : ∀ (f : Nat) (k : Int), (waleT m f k).length ≤ f
  | 0, k => by simp [waleT]
  | f + 1, k => by
    rw [waleT]
    split
    · simp
    · split
      · simp
      · rename_i p _ _
        have := waleT_len m f p
        simp
        omega
/-- The first parents of all loops. -/
def fpL (l : List Inf) : List Int := l.filterMap fun x => x.ps.head?
def walesGo (m : Mc) : List Bool → Int → List (List Int)
  | [], _ => []
  | b :: t, i => if b = true then walesGo m t (i + 1) else waleL m i :: walesGo m t (i + 1)
/-- How many of a list's first ones are in another list. -/
def ladN (run : List Int) : List Int → Nat
  | [] => 0
  | k :: t => if run.contains k = true then ladN run t + 1 else 0

/-! ### Counts -/
def kindJ (k : Int) : Int := if k = 1 then 0 else if k = 2 then 1 else 2
def fcF (m : Mc) : Nat → Int → Int
  | 0, _ => 0
  | i + 1, j => fcF m i j + (if kindJ ((m.ls[i]?).elim 0 Inf.k) = j then 1 else 0) + (if 2 + stM m i = j then 1 else 0)
def fcL (m : Mc) : List Int := (List.range 7).map fun j : Nat => fcF m m.ls.length (j : Int)
theorem stM_rng (m : Mc) (k : Int) : 1 ≤ stM m k ∧ stM m k ≤ 4 := by
  unfold stM
  split
  · omega
  · split
    · omega
    · split <;> omega
theorem fcF_rng (m : Mc) : ∀ (i : Nat) (j : Int), 0 ≤ fcF m i j ∧ fcF m i j ≤ 2 * (i : Int)
  | 0, j => by simp [fcF]
  | i + 1, j => by
    have := fcF_rng m i j
    rw [fcF]
    split <;> split <;> omega

end Go.Proofs.Ytolcgopfbbmjgaa
