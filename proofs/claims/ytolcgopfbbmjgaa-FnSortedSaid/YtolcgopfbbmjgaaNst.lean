/-
  Nested data: words for rows of rows that are a call's own; windows; sizes.
-/
import Derived.Test.YtolcgopfbbmjgaaNest
import Derived.Test.YtolcgopfbbmjgaaMark
import Derived.Test.YtolcgopfbbmjgaaBx0
namespace Go.Proofs.Ytolcgopfbbmjgaa
set_option linter.unusedVariables false
set_option linter.unusedSimpArgs false
open Go.RowKit

/-- No more elements than there is room for. -/
def CapOk (s : Value) : Prop := ∃ A n c, s = .slice A n c ∧ n ≤ c
theorem RdI.up' {w w' : World} {B : Nat} {v : Value} {l : List Int} (h : RdI w B v l) (hb : Below B w w') (hB : B ≤ w'.heap.size) : RdI w' w'.heap.size v l := (h.below hb).more hB

theorem RdN.le {α : Type} {R : World → Nat → List Value → α → Prop} {sz : Nat} {w : World} {B : Nat} {v : Value} {l : List α} (h : RdN R sz w B v l) : l.length ≤ 9223372036854775807 := by
  obtain ⟨A, n, c, rfl, hn, hl, _⟩ := h
  rw [hl.out]; exact hn
theorem RdI.shape' {w : World} {B : Nat} {v : Value} {l : List Int} (h : RdI w B v l) : ∃ A n c, v = .slice A n c := by
  obtain ⟨A, n, c, rfl, _⟩ := h
  exact ⟨A, n, c, rfl⟩
theorem CellsAt.seven {w : World} {b o : Nat} {u0 u1 u2 u3 u4 u5 u6 : Value} (h : CellsAt w b o [u0, u1, u2, u3, u4, u5, u6]) : w.cell? ⟨b, o, none⟩ = some u0 ∧ w.cell? ⟨b, o + 1, none⟩ = some u1 ∧ w.cell? ⟨b, o + 2, none⟩ = some u2 ∧
    w.cell? ⟨b, o + 3, none⟩ = some u3 ∧ w.cell? ⟨b, o + 4, none⟩ = some u4 ∧ w.cell? ⟨b, o + 5, none⟩ = some u5 ∧ w.cell? ⟨b, o + 6, none⟩ = some u6 :=
  ⟨h 0 _ rfl, h 1 _ rfl, h 2 _ rfl, h 3 _ rfl, h 4 _ rfl, h 5 _ rfl, h 6 _ rfl⟩

def szOfM (left : Int) (n : Nat) : Int := if (n : Int) ≤ left then left - n else -1
def szGo {α : Type} (f : α → Nat) : Int → List α → Int
  | z, [] => z
  | z, x :: xs => if (f x : Int) ≤ z then szGo f (z - f x) xs else -1
theorem szGo_pos {α : Type} (f : α → Nat) : ∀ (l : List α) (z : Int), 0 ≤ szGo f z l → szGo f z l ≤ z ∧ ∀ x ∈ l, (f x : Int) ≤ z
  | [], z, h => ⟨Int.le_refl _, by simp⟩
  | x :: xs, z, h => by
    rw [szGo] at h ⊢
    split at h
    · rename_i hx
      rw [if_pos hx]
      obtain ⟨h1, h2⟩ := szGo_pos f xs _ h
      refine ⟨by omega, fun y hy => ?_⟩
      rcases List.mem_cons.1 hy with rfl | hy
      · exact hx
      · have := h2 y hy; omega
    · omega
theorem szOfM_pos {left : Int} {n : Nat} (h : ¬ szOfM left n < 0) : szOfM left n ≤ left ∧ (n : Int) ≤ left := by
  unfold szOfM at h ⊢
  split at h
  · rename_i hl
    rw [if_pos hl]
    omega
  · omega
/-- A slice of the call's own, whose elements' own rows lie in windows apart from one another and from the slice's row. -/
def OwN {α : Type} (R : World → Nat → Nat → List Value → α → Prop) (E : TypeId) (sz : Nat) (w : World) (lo hi : Nat) (v : Value) (l : List α) : Prop :=
  ∃ (o0 o1 : Nat) (a b : Nat → Nat) (f : Nat → Value), lo ≤ o0 ∧ o1 ≤ hi ∧ (∀ k, k < l.length → lo ≤ a k ∧ b k ≤ hi ∧ (b k ≤ o0 ∨ o1 ≤ a k)) ∧ (∀ i j, i < l.length → j < l.length → i ≠ j → b i ≤ a j ∨ b j ≤ a i) ∧
    OwC w o0 o1 E sz v l.length ((List.range (l.length * sz)).map f) ∧ ∀ k x, l[k]? = some x → R w (a k) (b k) ((List.range sz).map fun j => f (k * sz + j)) x
theorem OwC.cap {w : World} {lo hi E sz n : Nat} {v : Value} {xs : List Value} (h : OwC w lo hi E sz v n xs) : CapOk v := by
  rcases h.2 with ⟨rfl, A, c, rfl⟩ | ⟨g, cap, cur, rfl, _, _, _, h1, _⟩
  · exact ⟨A, 0, c, rfl, Nat.zero_le _⟩
  · exact ⟨_, n, cap, rfl, h1⟩
theorem RdN.of_own {α : Type} {R : World → Nat → Nat → List Value → α → Prop} {R' : World → Nat → List Value → α → Prop} {E : TypeId} {sz : Nat} {w : World} {lo hi : Nat} {v : Value} {l : List α}
    (hR : ∀ lo hi us x, R w lo hi us x → R' w hi us x) (hm : ∀ B B' us x, B ≤ B' → R' w B us x → R' w B' us x) (hz : 0 < sz) (h : OwN R E sz w lo hi v l) : RdN R' sz w hi v l := by
  obtain ⟨o0, o1, a, b, f, h1, h2, h3, h4, h5, h6⟩ := h
  obtain ⟨A, c, rfl, hn, hc⟩ := h5.cells
  refine ⟨A, l.length, c, rfl, hn, rfl, fun k hk => ?_⟩
  obtain ⟨g, rfl, hg0, hg1, hfr, hcell⟩ := hc k hk
  have hx : l[k]? = some l[k] := List.getElem?_eq_getElem hk
  refine ⟨g, 0, l[k], (List.range sz).map fun j => f (k * sz + j), rfl, by omega, hx, by simp, fun j u hu => ?_, ?_⟩
  · have hj : j < sz := by
      have := (List.getElem?_eq_some_iff.1 hu).1
      simpa using this
    rw [List.getElem?_map, List.getElem?_range hj] at hu
    simp at hu
    have hlt : k * sz + j < l.length * sz := by
      have : (k + 1) * sz ≤ l.length * sz := Nat.mul_le_mul_right _ hk
      rw [Nat.add_mul] at this
      omega
    rw [Nat.zero_add]
    refine hcell (k * sz + j) u hlt ?_
    rw [List.getElem?_map, List.getElem?_range hlt]
    simp [hu]
  · exact hm _ _ _ _ (h3 k hk).2.1 (hR _ _ _ _ (h6 k _ hx))

theorem OwN.keep {α : Type} {R : World → Nat → Nat → List Value → α → Prop} {E : TypeId} {sz : Nat} {w w' : World} {lo hi : Nat} {v : Value} {l : List α}
    (hk : ∀ g, lo ≤ g → g < hi → w'.heap[g]? = w.heap[g]?) (hR : ∀ a b us x, lo ≤ a → b ≤ hi → R w a b us x → R w' a b us x) (h : OwN R E sz w lo hi v l) : OwN R E sz w' lo hi v l := by
  obtain ⟨o0, o1, a, b, f, h1, h2, h3, h4, h5, h6⟩ := h
  refine ⟨o0, o1, a, b, f, h1, h2, h3, h4, h5.keep fun g hg0 hg1 => hk g (by omega) (by omega), fun k x hx => ?_⟩
  have hkl : k < l.length := (List.getElem?_eq_some_iff.1 hx).1
  exact hR _ _ _ _ (h3 k hkl).1 (h3 k hkl).2.1 (h6 k x hx)
theorem OwN.wide {α : Type} {R : World → Nat → Nat → List Value → α → Prop} {E : TypeId} {sz : Nat} {w : World} {lo hi lo' hi' : Nat} {v : Value} {l : List α}
    (h : OwN R E sz w lo hi v l) (h1 : lo' ≤ lo) (h2 : hi ≤ hi') : OwN R E sz w lo' hi' v l := by
  obtain ⟨o0, o1, a, b, f, g1, g2, g3, g4, g5, g6⟩ := h
  exact ⟨o0, o1, a, b, f, by omega, by omega, fun k hk => by have := g3 k hk; omega, g4, g5, g6⟩
theorem OwN.shape {α : Type} {R : World → Nat → Nat → List Value → α → Prop} {E : TypeId} {sz : Nat} {w : World} {lo hi : Nat} {v : Value} {l : List α} (h : OwN R E sz w lo hi v l) : ∃ A c, v = .slice A l.length c := by
  obtain ⟨o0, o1, a, b, f, h1, h2, h3, h4, h5, h6⟩ := h
  obtain ⟨A, c, hv, _⟩ := h5.cells
  exact ⟨A, c, hv⟩

theorem CellsAt.set {w : World} {b o : Nat} {us : List Value} (h : CellsAt w b o us) (j : Nat) (u : Value) : CellsAt (w.setCell ⟨b, o + j, none⟩ u) b o (us.set j u) := by
  intro i x hi
  by_cases hij : j = i
  · subst hij
    have hl : j < us.length := by
      have := (List.getElem?_eq_some_iff.1 hi).1
      simpa using this
    rw [List.getElem?_set_self hl] at hi
    injection hi with hi
    subst hi
    exact World.cell?_setCell_same _ _ _ (h j _ (List.getElem?_eq_getElem hl))
  · rw [List.getElem?_set_ne hij] at hi
    rw [World.cell?_setCell_other _ _ _ _ (by intro e; injection e with _ e2 _; omega)]
    exact h i x hi

theorem OwC.of_rowF {w : World} {lo hi g E n sz : Nat} {f : Nat → Value} (h : w.rowIs g E (n * sz) f) (h1 : lo ≤ g) (h2 : g < hi) (hn : n ≤ maxLen) : OwC w lo hi E sz (.slice (some ⟨g, 0, none⟩) n n) n ((List.range (n * sz)).map f) := by
  refine ⟨by simp, .inr ?_⟩
  obtain ⟨cur, g1, g2, g3⟩ := h
  refine ⟨g, n, cur, rfl, h1, h2, g1, Nat.le_refl _, hn, g2, ?_⟩
  rw [List.take_of_length_le (by simp; omega)]
  apply List.ext_getElem? ; intro j
  by_cases hj : j < n * sz
  · rw [Array.getElem?_toList, g3 j hj]
    simp [hj]
  · rw [List.getElem?_eq_none (by simp; omega), List.getElem?_eq_none (by simp; omega)]

def GivesN {α : Type} (R : World → Nat → Nat → List Value → α → Prop) (E : TypeId) (sz : Nat) (w : World) (l : List α) (e : Ending) (w' : World) : Prop := ∃ v, e = .returned v ∧ OwN R E sz w' w.heap.size w'.heap.size v l ∧ Below w.heap.size w w'

/-- The windows in which a loop laid its rows, one behind the other. -/
structure Wins (g k : Nat) (c : Nat → Nat) (top : Nat) : Prop where
  zero : c 0 = g + 1
  mono : ∀ i j, i ≤ j → j ≤ k → c i ≤ c j
  top : c k ≤ top
theorem Wins.next {g k : Nat} {c : Nat → Nat} {t t' : Nat} (h : Wins g k c t) (ht : t ≤ t') : Wins g (k + 1) (fun i => if i ≤ k then c i else t') t' := by
  refine ⟨by simp [h.zero], fun i j hij hj => ?_, by show (if k + 1 ≤ k then c (k + 1) else t') ≤ t'; rw [if_neg (by omega)]; exact Nat.le_refl _⟩
  have h2 := h.top
  by_cases hi : i ≤ k <;> by_cases hjk : j ≤ k
  · simp only [hi, hjk, if_true]; exact h.mono i j hij hjk
  · simp only [hi, hjk, if_true, if_false]; have := h.mono i k hi (Nat.le_refl _); omega
  · omega
  · simp only [hi, hjk, if_false]; exact Nat.le_refl _
theorem OwN.of_wins {α : Type} {R : World → Nat → Nat → List Value → α → Prop} {E : TypeId} {sz g : Nat} {w : World} {l : List α} {n : Nat} {c f : Nat → _} (hl : l.length = n) (hc : Wins g n c w.heap.size) (hr : w.rowIs g E (n * sz) f) (hn : n ≤ maxLen)
    (hR : ∀ k x, k < n → l[k]? = some x → R w (c k) (c (k + 1)) ((List.range sz).map fun j => f (k * sz + j)) x) : OwN R E sz w g w.heap.size (.slice (some ⟨g, 0, none⟩) n n) l := by
  subst hl
  have h0 := hc.zero
  have hm := hc.mono
  have ht := hc.top
  refine ⟨g, g + 1, c, fun k => c (k + 1), f, Nat.le_refl _, by have := hm 0 l.length (by omega) (Nat.le_refl _); omega, fun k hk => ?_, fun i j hi hj hij => ?_, OwC.of_rowF hr (Nat.le_refl _) (by omega) hn, fun k x hx => hR k x (List.getElem?_eq_some_iff.1 hx).1 hx⟩
  · have h1 := hm 0 k (by omega) (by omega)
    have h2 := hm (k + 1) l.length (by omega) (Nat.le_refl _)
    show g ≤ c k ∧ c (k + 1) ≤ w.heap.size ∧ (c (k + 1) ≤ g ∨ g + 1 ≤ c k)
    omega
  · show c (i + 1) ≤ c j ∨ c (j + 1) ≤ c i
    rcases Nat.lt_or_gt_of_ne hij with h | h
    · exact .inl (hm _ _ (by omega) (by omega))
    · exact .inr (hm _ _ (by omega) (by omega))

theorem szOfM_yes {left : Int} {n : Nat} (h : (n : Int) ≤ left) : szOfM left n = left - n := by simp [szOfM, h]
theorem szOfM_no {left : Int} {n : Nat} (h : ¬ (n : Int) ≤ left) : szOfM left n = -1 := by simp [szOfM, h]
theorem szGo_yes {α : Type} {f : α → Nat} {l : List α} {k : Nat} {x : α} {z R : Int} (h : R = szGo f z (l.drop k)) (hx : l[k]? = some x) (hf : (f x : Int) ≤ z) : R = szGo f (z - f x) (l.drop (k + 1)) := by rw [h, drop_of_get hx, szGo, if_pos hf]
theorem szGo_no {α : Type} {f : α → Nat} {l : List α} {k : Nat} {x : α} {z R : Int} (h : R = szGo f z (l.drop k)) (hx : l[k]? = some x) (hf : ¬ (f x : Int) ≤ z) : R = -1 := by rw [h, drop_of_get hx, szGo, if_neg hf]

theorem szOfM_lo {left : Int} {n : Nat} (h : 0 ≤ left) (h1 : left ≤ 1048576) : -1 ≤ szOfM left n ∧ szOfM left n ≤ 1048576 := by
  unfold szOfM; split <;> omega
theorem szGo_lo {α : Type} (f : α → Nat) : ∀ (l : List α) (z : Int), 0 ≤ z → z ≤ 1048576 → -1 ≤ szGo f z l ∧ szGo f z l ≤ 1048576
  | [], z, h, h1 => by rw [szGo]; omega
  | x :: xs, z, h, h1 => by
    rw [szGo]
    split
    · exact szGo_lo f xs _ (by omega) (by omega)
    · omega

theorem RdS.at_ {α : Type} {cs : α → List Value} {sz : Nat} {w : World} {B : Nat} {A : Option Addr} {n c : Nat} {l : List α} (h : RdS cs sz w B (.slice A n c) l) {k : Nat} (hk : k < n) :
    ∃ b off x, A = some ⟨b, off, none⟩ ∧ b < B ∧ l[k]? = some x ∧ CellsAt w b (off + k * sz) (cs x) := by
  obtain ⟨A', n', c', e, hn, hl, h⟩ := h
  injection e with e1 e2 e3
  subst e1 e2 e3
  exact h k hk

end Go.Proofs.Ytolcgopfbbmjgaa
