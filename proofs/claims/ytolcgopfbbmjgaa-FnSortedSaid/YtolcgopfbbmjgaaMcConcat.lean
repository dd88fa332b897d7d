/-
  slices.Grow and slices.Concat at slices of slices: what Concat gives reads as the lists one behind the other.
-/
import Derived.Test.YtolcgopfbbmjgaaMcTo
import Derived.Test.YtolcgopfbbmjgaaAppend
import Derived.Test.YtolcgopfbbmjgaaOwn
import Derived.Lib.AppendZeros
namespace Go.Proofs.Ytolcgopfbbmjgaa
set_option linter.unusedVariables false
set_option linter.unusedSimpArgs false
open Go.RowKit

/-- The headers hs read as the lists of l. -/
def HdrR (w : World) (B : Nat) (hs : List Value) (l : List (List Int)) : Prop := hs.length = l.length ∧ ∀ (k : Nat) (x : List Int), l[k]? = some x → ∃ s, hs[k]? = some s ∧ RdI w B s x ∧ CapOk s
theorem HdrR.nil {w : World} {B : Nat} : HdrR w B [] [] := ⟨rfl, fun k x h => by simp at h⟩
theorem HdrR.append {w : World} {B : Nat} {hs hs' : List Value} {l l' : List (List Int)} (h : HdrR w B hs l) (h' : HdrR w B hs' l') : HdrR w B (hs ++ hs') (l ++ l') := by
  refine ⟨by rw [List.length_append, List.length_append, h.1, h'.1], fun k x hx => ?_⟩
  by_cases hk : k < l.length
  · rw [List.getElem?_append_left hk] at hx
    obtain ⟨s, h1, h2⟩ := h.2 k x hx
    exact ⟨s, by rw [List.getElem?_append_left (by rw [h.1]; exact hk)]; exact h1, h2⟩
  · rw [List.getElem?_append_right (by omega)] at hx
    obtain ⟨s, h1, h2⟩ := h'.2 _ x hx
    exact ⟨s, by rw [List.getElem?_append_right (by rw [h.1]; omega), h.1]; exact h1, h2⟩
theorem HdrR.below {w w' : World} {B : Nat} {hs : List Value} {l : List (List Int)} (h : HdrR w B hs l) (hb : Below B w w') : HdrR w' B hs l :=
  ⟨h.1, fun k x hx => by
    obtain ⟨s, h1, h2, h3⟩ := h.2 k x hx
    exact ⟨s, h1, h2.below hb, h3⟩⟩
theorem RdI.keep {w w' : World} {B : Nat} {v : Value} {l : List Int} (h : RdI w B v l) (hk : ∀ p : Addr, p.block < B → w'.cell? p = w.cell? p) : RdI w' B v l := by
  obtain ⟨A, n, c, rfl, hn, hl, h⟩ := h
  refine ⟨A, n, c, rfl, hn, hl, fun k hkn => ?_⟩
  obtain ⟨b, off, x, h1, h2, h3, h4⟩ := h k hkn
  exact ⟨b, off, x, h1, h2, h3, (hk ⟨b, off + k, none⟩ h2).trans h4⟩
theorem HdrR.keep {w w' : World} {B : Nat} {hs : List Value} {l : List (List Int)} (h : HdrR w B hs l) (hk : ∀ p : Addr, p.block < B → w'.cell? p = w.cell? p) : HdrR w' B hs l :=
  ⟨h.1, fun k x hx => by
    obtain ⟨s, h1, h2, h3⟩ := h.2 k x hx
    exact ⟨s, h1, h2.keep hk, h3⟩⟩
theorem own_lo {w : World} {lo lo' e sz n : Nat} {v : Value} {xs : List Value} (h : w.ownsRow lo e sz v n xs) (hl : lo' ≤ lo) : w.ownsRow lo' e sz v n xs := by
  refine ⟨h.1, ?_⟩
  rcases h.2 with h2 | ⟨g, cap, cur, hv, hg, h3⟩
  · exact .inl h2
  · exact .inr ⟨g, cap, cur, hv, by omega, h3⟩
theorem RdLL.hdr {w : World} {B : Nat} {A : Option Addr} {n c : Nat} {l : List (List Int)} (h : RdLL w B (.slice A n c) l) : ∃ hs, Reads w B 1 A n hs ∧ HdrR w B hs l ∧ ∀ u ∈ hs, u.oneCell' = true := by
  obtain ⟨A', n', c', e, hn, hl, h⟩ := h
  injection e with e1 e2 e3
  subst e1 e2 e3
  have hE : ∀ k, k < n → ∃ s : Value, ∃ b off x, A = some ⟨b, off, none⟩ ∧ b < B ∧ l[k]? = some x ∧ w.cell? ⟨b, off + k, none⟩ = some s ∧ RdI w B s x ∧ CapOk s := by
    intro k hk
    obtain ⟨b, off, x, us, h1, h2, h3, h4, h5, s, rfl, h6, h7⟩ := h k hk
    have := h5 0 s rfl
    exact ⟨s, b, off, x, h1, h2, h3, by simpa using this, h6, h7⟩
  obtain ⟨hs, hlen, hall⟩ := build_list hE
  refine ⟨hs, ⟨by rw [hlen, Nat.mul_one], fun h0 => ?_⟩, ⟨by rw [hlen, hl.out], fun k x hx => ?_⟩, fun u hu => ?_⟩
  · obtain ⟨s, h1, b, off, x, rfl, hb, _⟩ := hall 0 h0
    refine ⟨_, rfl, hb, fun j u hu => ?_⟩
    have hj : j < n := by rw [← hlen]; exact (List.getElem?_eq_some_iff.1 hu).1
    obtain ⟨s', h1', b', off', x', e', hb', _, hc', _⟩ := hall j hj
    injection e' with e'
    injection e' with e1 e2
    subst e1 e2
    rw [hu] at h1'
    injection h1' with h1'
    subst h1'
    have ea : (⟨b, off, none⟩ : Addr).add j = ⟨b, off + j, none⟩ := by unfold Addr.add; split <;> simp_all
    rw [ea]
    exact hc'
  · have hk : k < n := by rw [← hl.out]; exact (List.getElem?_eq_some_iff.1 hx).1
    obtain ⟨s, h1, b, off, x', _, _, hx', _, h6, h7⟩ := hall k hk
    rw [hx] at hx'
    injection hx' with hx'
    subst hx'
    exact ⟨s, h1, h6, h7⟩
  · obtain ⟨k, hk, rfl⟩ := List.mem_iff_getElem.1 hu
    obtain ⟨s, h1, b, off, x', _, _, _, _, _, A1, n1, c1, rfl, _⟩ := hall k (by omega)
    rw [List.getElem?_eq_getElem hk] at h1
    injection h1 with h1
    rw [h1]; rfl
theorem RdLL.of_hdr {w : World} {lo hi B : Nat} {v : Value} {n : Nat} {hs : List Value} {l : List (List Int)} {E : TypeId} (h : OwC w lo hi E 1 v n hs) (hr : HdrR w B hs l) (hB : B ≤ hi) : RdLL w hi v l := by
  obtain ⟨A, c, rfl, hn, hc⟩ := h.cells
  have hl : hs.length = n := by have := h.1; omega
  refine ⟨A, n, c, rfl, hn, by rw [← hr.1]; exact hl, fun k hk => ?_⟩
  obtain ⟨g, rfl, h1, h2, h3, h4⟩ := hc k hk
  have hx : l[k]? = some (l[k]'(by rw [← hr.1]; omega)) := List.getElem?_eq_getElem _
  obtain ⟨s, g1, g2, g3⟩ := hr.2 k _ hx
  refine ⟨g, 0, _, [s], rfl, h2, hx, rfl, fun j u hu => ?_, s, rfl, g2.more hB, g3⟩
  rcases j with _ | j
  · simp at hu
    subst hu
    have := h4 k s (by omega) g1
    simpa using this
  · simp at hu


theorem take_flat (Ls : List (List (List Int))) (k : Nat) {L : List (List Int)} (h : Ls[k]? = some L) : (Ls.take (k + 1)).flatten = (Ls.take k).flatten ++ L := by
  rw [List.take_add_one, h]; simp
theorem take_flat_le (Ls : List (List (List Int))) (k : Nat) : (Ls.take k).flatten.length ≤ Ls.flatten.length := by
  have : Ls.flatten = (Ls.take k).flatten ++ (Ls.drop k).flatten := by rw [← List.flatten_append, List.take_append_drop]
  rw [this, List.length_append]; omega



end Go.Proofs.Ytolcgopfbbmjgaa
