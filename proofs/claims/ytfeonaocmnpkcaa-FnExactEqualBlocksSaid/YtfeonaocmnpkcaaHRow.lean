/-
  Rows of headers of the call's own; what the headers lead to lies in other blocks.
-/
import Derived.Test.YtfeonaocmnpkcaaAppend
import Derived.Test.YtfeonaocmnpkcaaOwn
import Derived.Test.YtfeonaocmnpkcaaNst
import Derived.Test.YtfeonaocmnpkcaaGarL
namespace Go.Proofs.Ytfeonaocmnpkcaa
set_option linter.unusedVariables false
set_option linter.unusedSimpArgs false
open Go.RowKit

/-- A slice value that reads as the integers l, in blocks of which P holds. -/
def RdA (w : World) (P : Nat → Prop) (v : Value) (l : List Int) : Prop :=
  ∃ A n c, v = .slice A n c ∧ n ≤ 9223372036854775807 ∧ Hid (l.length = n) ∧
    ∀ k, k < n → ∃ b off x, A = some ⟨b, off, none⟩ ∧ P b ∧ l[k]? = some x ∧ w.cell? ⟨b, off + k, none⟩ = some (.int .i64 x)
theorem RdA.keep {w w' : World} {P Q : Nat → Prop} {v : Value} {l : List Int} (h : RdA w P v l) (hP : ∀ b, P b → Q b) (hk : ∀ b o, P b → w'.cell? ⟨b, o, none⟩ = w.cell? ⟨b, o, none⟩) : RdA w' Q v l := by
  obtain ⟨A, n, c, rfl, hn, hl, h⟩ := h
  refine ⟨A, n, c, rfl, hn, hl, fun k hk' => ?_⟩
  obtain ⟨b, off, x, h1, h2, h3, h4⟩ := h k hk'
  exact ⟨b, off, x, h1, hP b h2, h3, (hk b _ h2).trans h4⟩
theorem RdA.rd {w : World} {P : Nat → Prop} {B : Nat} {v : Value} {l : List Int} (h : RdA w P v l) (hP : ∀ b, P b → b < B) : RdI w B v l := by
  obtain ⟨A, n, c, rfl, hn, hl, h⟩ := h
  refine ⟨A, n, c, rfl, hn, hl, fun k hk' => ?_⟩
  obtain ⟨b, off, x, h1, h2, h3, h4⟩ := h k hk'
  exact ⟨b, off, x, h1, hP b h2, h3, h4⟩
theorem RdI.rdA {w : World} {P : Nat → Prop} {B : Nat} {v : Value} {l : List Int} (h : RdI w B v l) (hP : ∀ b, b < B → P b) : RdA w P v l := by
  obtain ⟨A, n, c, rfl, hn, hl, h⟩ := h
  refine ⟨A, n, c, rfl, hn, hl, fun k hk' => ?_⟩
  obtain ⟨b, off, x, h1, h2, h3, h4⟩ := h k hk'
  exact ⟨b, off, x, h1, hP b h2, h3, h4⟩
theorem OwC.rdA {w : World} {lo hi E : Nat} {v : Value} {l : List Int} (h : OwC w lo hi E 1 v l.length (vI l)) : RdA w (fun b => lo ≤ b ∧ b < hi) v l := by
  obtain ⟨A, c, rfl, hm, hc⟩ := h.cells
  refine ⟨A, _, c, rfl, hm, rfl, fun k hk => ?_⟩
  obtain ⟨g, rfl, h0, h1, _, hx⟩ := hc k hk
  obtain ⟨x, hlx⟩ : ∃ x, l[k]? = some x := ⟨_, List.getElem?_eq_getElem hk⟩
  exact ⟨g, 0, x, rfl, ⟨h0, h1⟩, hlx, by rw [Nat.zero_add]; exact hx k _ (by omega) (by simp [vI, hlx])⟩
theorem RdA.len {w : World} {P : Nat → Prop} {v : Value} {l : List Int} (h : RdA w P v l) : ∃ A c, v = .slice A l.length c := by
  obtain ⟨A, n, c, rfl, _, hl, _⟩ := h
  exact ⟨A, c, by rw [hl.out]⟩

/-- What a header leads to lies in old blocks other than g. -/
abbrev HOk (w : World) (g : Option Nat) (s : Value) (x : List Int) : Prop := RdA w (fun b => b < w.heap.size ∧ g ≠ some b) s x
def r2 (w : World) (B : Nat) (us : List Value) (x : List Int) : Prop := ∃ s, us = [s] ∧ RdI w B s x
abbrev RdL2 := RdN r2 1
theorem RdL2.below {w w' : World} {B : Nat} {v : Value} {l : List (List Int)} (h : RdL2 w B v l) (hb : Below B w w') : RdL2 w' B v l :=
  RdN.below (fun us x hx => by obtain ⟨s, h1, h2⟩ := hx; exact ⟨s, h1, h2.below hb⟩) h hb
theorem RdL2.more {w : World} {B B' : Nat} {v : Value} {l : List (List Int)} (h : RdL2 w B v l) (hB : B ≤ B') : RdL2 w B' v l :=
  RdN.more (fun us x hx => by obtain ⟨s, h1, h2⟩ := hx; exact ⟨s, h1, h2.more hB⟩) h hB
theorem RdL2.at_ {w : World} {B : Nat} {A : Option Addr} {n c : Nat} {l : List (List Int)} (h : RdL2 w B (.slice A n c) l) {k : Nat} (hk : k < n) :
    ∃ b off x s, A = some ⟨b, off, none⟩ ∧ b < B ∧ l[k]? = some x ∧ w.cell? ⟨b, off + k, none⟩ = some s ∧ RdI w B s x := by
  obtain ⟨A', n', c', e, hn, hl, h⟩ := h
  injection e with e1 e2 e3
  subst e1 e2 e3
  obtain ⟨b, off, x, us, h1, h2, h3, h4, h5, s, rfl, h6⟩ := h k hk
  exact ⟨b, off, x, s, h1, h2, h3, by simpa using h5 0 s rfl, h6⟩
/-- The headers of what is read. -/
theorem RdL2.heads {w : World} {B n c : Nat} {A : Option Addr} {l : List (List Int)} (h : RdL2 w B (.slice A n c) l) :
    ∃ hs : List Value, hs.length = n ∧ l.length = n ∧ Reads w B 1 A n hs ∧ (∀ u ∈ hs, u.oneCell' = true) ∧ ∀ (k : Nat) (s : Value) (x : List Int), hs[k]? = some s → l[k]? = some x → RdI w B s x := by
  have hl : l.length = n := by obtain ⟨A', n', c', e, _, hl, _⟩ := h; injection e with _ e _; rw [e]; exact hl.out
  rcases Nat.eq_zero_or_pos n with h0 | hp
  · subst h0
    exact ⟨[], rfl, hl, ⟨by simp, fun h => absurd h (by omega)⟩, by simp, fun k s x hs => by simp at hs⟩
  · obtain ⟨b, off, _, _, rfl, hb, _, _, _⟩ := h.at_ hp
    have hall : ∀ k, k < n → ∃ s, w.cell? ⟨b, off + k, none⟩ = some s ∧ ∃ x, l[k]? = some x ∧ RdI w B s x := by
      intro k hk
      obtain ⟨b', off', x, s, e, _, h1, h2, h3⟩ := h.at_ hk
      injection e with e
      injection e with e1 e2
      subst e1 e2
      exact ⟨s, h2, x, h1, h3⟩
    refine ⟨(List.range n).map fun k => (w.cell? ⟨b, off + k, none⟩).getD undef, by simp, hl, ⟨by simp, fun _ => ⟨⟨b, off, none⟩, rfl, hb, fun j u hu => ?_⟩⟩, fun u hu => ?_, fun k s x hs hx => ?_⟩
    · have hj : j < n := by have := (List.getElem?_eq_some_iff.1 hu).1; simpa using this
      obtain ⟨s, h1, _⟩ := hall j hj
      have e4 : (⟨b, off, none⟩ : Addr).add j = ⟨b, off + j, none⟩ := by unfold Addr.add; split <;> simp_all
      rw [e4, h1]
      simp [hj, h1] at hu
      rw [hu]
    · simp at hu
      obtain ⟨k, hk, rfl⟩ := hu
      obtain ⟨s, h1, x, _, h2⟩ := hall k hk
      rw [h1]
      obtain ⟨A, n', c', rfl, _⟩ := h2
      rfl
    · have hk : k < n := by have := (List.getElem?_eq_some_iff.1 hs).1; simpa using this
      obtain ⟨s', h1, x', h2, h3⟩ := hall k hk
      simp [hk, h1] at hs
      rw [h2] at hx
      injection hx with hx
      rw [← hs, ← hx]
      exact h3

structure HRow (w : World) (lo : Nat) (v : Value) (L : List (List Int)) (hs : List Value) : Prop where
  own : w.ownsRow lo 22 1 v L.length hs
  rd : ∀ (k : Nat) (s : Value) (x : List Int), hs[k]? = some s → L[k]? = some x → HOk w v.ownBlock s x
theorem HRow.hlen {w : World} {lo : Nat} {v : Value} {L : List (List Int)} {hs : List Value} (h : HRow w lo v L hs) : hs.length = L.length := by rw [h.own.1, Nat.mul_one]
theorem HRow.below {w w' : World} {lo : Nat} {v : Value} {L : List (List Int)} {hs : List Value} (h : HRow w lo v L hs) (hb : Below w.heap.size w w') : HRow w' lo v L hs :=
  ⟨own_below h.own hb, fun k s x h1 h2 => (h.rd k s x h1 h2).keep (fun b hb' => ⟨Nat.lt_of_lt_of_le hb'.1 hb.size, hb'.2⟩) (fun b o hb' => hb.cell (p := ⟨b, o, none⟩) hb'.1)⟩
theorem HRow.one {w : World} {lo : Nat} {v : Value} {L : List (List Int)} {hs : List Value} (h : HRow w lo v L hs) : ∀ u ∈ hs, u.oneCell' = true := fun u hu => by
  obtain ⟨k, hk⟩ := List.mem_iff_getElem?.1 hu
  obtain ⟨x, hx⟩ : ∃ x, L[k]? = some x := ⟨_, List.getElem?_eq_getElem (by rw [← h.hlen]; exact (List.getElem?_eq_some_iff.1 hk).1)⟩
  obtain ⟨A, n, c, rfl, _⟩ := h.rd k u x hk hx
  rfl
theorem HRow.nil {w : World} {lo : Nat} {v : Value} (h : w.ownsRow lo 22 1 v 0 []) : HRow w lo v [] [] := ⟨h, fun k s x h1 => by simp at h1⟩
/-- One header more. -/
theorem HRow.push {w w1 w2 : World} {lo : Nat} {v v' s : Value} {L : List (List Int)} {hs : List Value} {x : List Int} {o : Obj} (h : HRow w lo v L hs) (hb : Below w.heap.size w w1) (hs1 : HOk w1 v.ownBlock s x)
    (hown : w2.ownsRow lo 22 1 v' (L.length + 1) (hs ++ [s])) (hg : (w1.alloc o).grownBy w2 v.ownBlock) (hat : v'.ownBlock = v.ownBlock ∨ v'.ownBlock = some (w1.heap.size + 1)) : HRow w2 lo v' (L ++ [x]) (hs ++ [s]) := by
  have z2 := hg.size
  have ha1 : (w1.alloc o).heap.size = w1.heap.size + 1 := by simp
  rw [ha1] at z2
  have hkeep : ∀ b, b < w1.heap.size → v.ownBlock ≠ some b → w2.heap[b]? = w1.heap[b]? := fun b hb1 hne => by
    rw [hg.block b (by omega) (fun e => hne e.symm)]
    exact ((Below.refl w1.heap.size w1).alloc (Nat.le_refl _) o).block b hb1
  have key : ∀ s y, HOk w1 v.ownBlock s y → HOk w2 v'.ownBlock s y := fun s y hy => hy.keep (fun b hb' => ⟨by omega, by
    rcases hat with e | e
    · rw [e]; exact hb'.2
    · rw [e]; intro e2; injection e2 with e2; omega⟩) (fun b o hb' => World.cell?_of_block (a := ⟨b, o, none⟩) (hkeep b hb'.1 hb'.2))
  refine ⟨by rw [List.length_append]; exact hown, fun k s' y h1 h2 => key _ _ ?_⟩
  have hl := h.hlen
  by_cases hk : k < L.length
  · rw [List.getElem?_append_left (by omega)] at h1
    rw [List.getElem?_append_left hk] at h2
    exact (h.below hb).rd k s' y h1 h2
  · have hk2 : k = L.length := by
      have := (List.getElem?_eq_some_iff.1 h2).1
      simp at this
      omega
    subst hk2
    rw [List.getElem?_append_right (by omega), hl] at h1
    rw [List.getElem?_append_right (Nat.le_refl _)] at h2
    simp at h1 h2
    subst h1 h2
    exact hs1
/-- A header replaced. -/
theorem HRow.set {w : World} {lo g n cap i : Nat} {s : Value} {L : List (List Int)} {hs : List Value} {x : List Int} (h : HRow w lo (.slice (some ⟨g, 0, none⟩) n cap) L hs) (hi : i < L.length) (hs1 : HOk w (some g) s x) :
    HRow (w.setCell ⟨g, i, none⟩ s) lo (.slice (some ⟨g, 0, none⟩) n cap) (L.set i x) (hs.set i s) := by
  have hl := h.hlen
  refine ⟨?_, fun k s' y h1 h2 => ?_⟩
  · refine ⟨by rw [List.length_set, hl, List.length_set, Nat.mul_one], .inr ?_⟩
    rcases h.own.2 with ⟨e, _⟩ | ⟨g', cap', cur, e, hlo, hg, hnc, hcap, hsz, hx⟩
    · cases e
    · injection e with e1 e2 e3
      injection e1 with e1
      injection e1 with e1
      subst e1 e2 e3
      obtain ⟨cur', h1, h2, h3⟩ := (show w.rowIs g 22 (cap * 1) (fun i => cur.getD i undef) from ⟨cur, hg, hsz, fun i hi => row_getD (by omega)⟩).set i s
      refine ⟨g, cap, cur', by rw [List.length_set], hlo, h1, by rw [List.length_set]; exact hnc, hcap, h2, ?_⟩
      have hx' : ∀ j, j < L.length → hs[j]? = some (cur.getD j undef) := fun j hj => by
        rw [← hx, List.getElem?_take, if_pos (by omega), Array.getElem?_toList]
        exact row_getD (by omega)
      apply List.ext_getElem?
      intro j
      rw [List.length_set]
      by_cases hj : j < L.length
      · rw [List.getElem?_take, if_pos (by omega), Array.getElem?_toList, h3 j (by omega)]
        by_cases hij : j = i
        · subst hij
          rw [List.getElem?_set_self (by omega)]
          simp
        · rw [List.getElem?_set_ne (by omega), hx' j hj]
          simp [hij]
      · rw [List.getElem?_eq_none (by simp; omega), List.getElem?_eq_none (by simp; omega)]
  · have hkeep : ∀ s' y, HOk w (some g) s' y → HOk (w.setCell ⟨g, i, none⟩ s) (some g) s' y := fun s' y hy => hy.keep (fun b hb' => ⟨by simpa using hb'.1, hb'.2⟩) (fun b o hb' => World.cell?_setCell_other _ _ _ _ (by intro e; injection e with e _ _; exact hb'.2 (by rw [e])))
    refine hkeep _ _ ?_
    by_cases hik : i = k
    · subst hik
      rw [List.getElem?_set_self (by omega)] at h1
      rw [List.getElem?_set_self hi] at h2
      injection h1 with h1
      injection h2 with h2
      subst h1 h2
      exact hs1
    · rw [List.getElem?_set_ne hik] at h1 h2
      exact h.rd k s' y h1 h2
theorem HRow.read {w : World} {lo : Nat} {v : Value} {L : List (List Int)} {hs : List Value} (h : HRow w lo v L hs) : RdL2 w w.heap.size v L := by
  have hl := h.hlen
  have ho : OwC w lo w.heap.size 22 1 v L.length hs := OwC.of_own h.own
  obtain ⟨A, c, rfl, hm, hc⟩ := ho.cells
  refine ⟨A, _, c, rfl, hm, rfl, fun k hk => ?_⟩
  obtain ⟨g, rfl, h0, h1, _, hx⟩ := hc k hk
  obtain ⟨x, hlx⟩ : ∃ x, L[k]? = some x := ⟨_, List.getElem?_eq_getElem hk⟩
  obtain ⟨s, hls⟩ : ∃ s, hs[k]? = some s := ⟨_, List.getElem?_eq_getElem (by omega)⟩
  refine ⟨g, 0, x, [s], rfl, h1, hlx, rfl, fun j u hu => ?_, s, rfl, (h.rd k s x hls hlx).rd fun b hb => hb.1⟩
  rcases j with _ | j
  · simp at hu
    subst hu
    rw [Nat.mul_one, Nat.zero_add, Nat.add_zero]
    exact hx k s (by omega) hls
  · simp at hu
/-- The cells of the headers. -/
theorem HRow.cell {w : World} {lo g n cap k : Nat} {s : Value} {L : List (List Int)} {hs : List Value} (h : HRow w lo (.slice (some ⟨g, 0, none⟩) n cap) L hs) (hk : hs[k]? = some s) : w.cell? ⟨g, k, none⟩ = some s ∧ ∀ i, w.frozen? ⟨g, i, none⟩ = false := by
  have hl := h.hlen
  obtain ⟨A, c, e, hm, hc⟩ := (OwC.of_own h.own : OwC w lo w.heap.size 22 1 _ L.length hs).cells
  injection e with e1 e2 e3
  have hkl : k < L.length := by rw [← hl]; exact (List.getElem?_eq_some_iff.1 hk).1
  obtain ⟨g', e', h0, h1, h2, hx⟩ := hc k hkl
  rw [← e1] at e'
  injection e' with e'
  injection e' with e'
  subst e'
  exact ⟨hx k s (by omega) hk, h2⟩
theorem HRow.shape {w : World} {lo : Nat} {v : Value} {L : List (List Int)} {hs : List Value} (h : HRow w lo v L hs) (hp : 0 < L.length) : ∃ g cap, v = .slice (some ⟨g, 0, none⟩) L.length cap ∧ lo ≤ g ∧ g < w.heap.size := by
  obtain ⟨g, cap, e, h1, h2⟩ := h.own.form hp
  exact ⟨g, cap, e, h1, h2⟩
theorem HRow.shape' {w : World} {lo : Nat} {v : Value} {L : List (List Int)} {hs : List Value} (h : HRow w lo v L hs) : ∃ A c, v = .slice A L.length c := by
  obtain ⟨A, c, e, _⟩ := (OwC.of_own h.own : OwC w lo w.heap.size 22 1 _ L.length hs).cells
  exact ⟨A, c, e⟩

theorem RdA.and {w : World} {P Q : Nat → Prop} {v : Value} {l : List Int} (h : RdA w P v l) (k : RdA w Q v l) : RdA w (fun b => P b ∧ Q b) v l := by
  obtain ⟨A, n, c, rfl, hn, hl, h⟩ := h
  obtain ⟨A', n', c', e, hn', hl', k⟩ := k
  injection e with e1 e2 e3
  subst e1 e2 e3
  refine ⟨A, n, c, rfl, hn, hl, fun j hj => ?_⟩
  obtain ⟨b, off, x, rfl, h2, h3, h4⟩ := h j hj
  obtain ⟨b', off', x', e', k2, k3, k4⟩ := k j hj
  injection e' with e'
  injection e' with e1 e2
  subst e1 e2
  exact ⟨b, off, x, rfl, ⟨h2, k2⟩, h3, h4⟩
/-- What the headers lead to lies from block lb on. -/
def HLow (w : World) (lb : Nat) (L : List (List Int)) (hs : List Value) : Prop := ∀ (k : Nat) (s : Value) (x : List Int), hs[k]? = some s → L[k]? = some x → RdA w (fun b => lb ≤ b) s x
theorem HLow.nil {w : World} {lb : Nat} : HLow w lb [] [] := fun k s x h => by simp at h
theorem HLow.of {w : World} {lb lb' : Nat} {L : List (List Int)} {hs : List Value} (h : HLow w lb L hs) (hb : lb' ≤ lb) : HLow w lb' L hs := fun k s x h1 h2 => (h k s x h1 h2).keep (fun b hb' => Nat.le_trans hb hb') (fun _ _ _ => rfl)
theorem HLow.below {w w' : World} {lo lb : Nat} {v : Value} {L : List (List Int)} {hs : List Value} (h : HLow w lb L hs) (hr : HRow w lo v L hs) (hb : Below w.heap.size w w') : HLow w' lb L hs :=
  fun k s x h1 h2 => ((h k s x h1 h2).and (hr.rd k s x h1 h2)).keep (fun b hb' => hb'.1) (fun b o hb' => hb.cell (p := ⟨b, o, none⟩) hb'.2.1)
theorem HLow.push {w w1 w2 : World} {lo lb : Nat} {v s : Value} {L : List (List Int)} {hs : List Value} {x : List Int} {o : Obj} (h : HLow w lb L hs) (hr : HRow w lo v L hs) (hb : Below w.heap.size w w1) (hs1 : HOk w1 v.ownBlock s x) (hs2 : RdA w1 (fun b => lb ≤ b) s x)
    (hg : (w1.alloc o).grownBy w2 v.ownBlock) : HLow w2 lb (L ++ [x]) (hs ++ [s]) := by
  have hkeep : ∀ b, b < w1.heap.size → v.ownBlock ≠ some b → w2.heap[b]? = w1.heap[b]? := fun b hb1 hne => by
    have z2 := hg.size
    rw [hg.block b (by simp; omega) (fun e => hne e.symm)]
    exact ((Below.refl w1.heap.size w1).alloc (Nat.le_refl _) o).block b hb1
  have key : ∀ s y, HOk w1 v.ownBlock s y → RdA w1 (fun b => lb ≤ b) s y → RdA w2 (fun b => lb ≤ b) s y := fun s y h1 h2 => (h1.and h2).keep (fun b hb' => hb'.2) (fun b o hb' => World.cell?_of_block (a := ⟨b, o, none⟩) (hkeep b hb'.1.1 hb'.1.2))
  intro k s' y h1 h2
  have hl := hr.hlen
  by_cases hk : k < L.length
  · rw [List.getElem?_append_left (by omega)] at h1
    rw [List.getElem?_append_left hk] at h2
    exact key _ _ ((hr.below hb).rd k s' y h1 h2) (h.below hr hb k s' y h1 h2)
  · have hk2 : k = L.length := by
      have := (List.getElem?_eq_some_iff.1 h2).1
      simp at this
      omega
    subst hk2
    rw [List.getElem?_append_right (by omega), hl] at h1
    rw [List.getElem?_append_right (Nat.le_refl _)] at h2
    simp at h1 h2
    subst h1 h2
    exact key _ _ hs1 hs2
/-- A store into a block that is none of these. -/
theorem HRow.far {w : World} {lo lb : Nat} {v : Value} {L : List (List Int)} {hs : List Value} (h : HRow w lo v L hs) (hl : HLow w lb L hs) {p : Addr} (h1 : p.block < lo) (h2 : p.block < lb) (u : Value) : HRow (w.setCell p u) lo v L hs ∧ HLow (w.setCell p u) lb L hs := by
  refine ⟨⟨?_, fun k s x g1 g2 => ((h.rd k s x g1 g2).and (hl k s x g1 g2)).keep (fun b hb => ⟨by simpa using hb.1.1, hb.1.2⟩) (fun b o hb => World.cell?_setCell_other _ _ _ _ (by intro e; subst e; exact absurd h2 (by simpa using hb.2)))⟩,
    fun k s x g1 g2 => (hl k s x g1 g2).keep (fun b hb => hb) (fun b o hb => World.cell?_setCell_other _ _ _ _ (by intro e; subst e; exact absurd h2 (by simpa using hb)))⟩
  refine ⟨h.own.1, ?_⟩
  rcases h.own.2 with h3 | ⟨g, cap, cur, rfl, hlo, hg, h3⟩
  · exact .inl h3
  · refine .inr ⟨g, cap, cur, rfl, hlo, ?_, h3⟩
    have hne : g ≠ p.block := by omega
    exact (((Below.refl g.succ w |> fun _ => (Only.refl p.block (p.block + 1) w).setCell (p := p) (Nat.le_refl _) (Nat.lt_succ_self _) u).block g (Array.getElem?_eq_some_iff.1 hg).1 (by omega))).trans hg
theorem HRow.lo {w : World} {lo lo' : Nat} {v : Value} {L : List (List Int)} {hs : List Value} (h : HRow w lo v L hs) (hl : lo' ≤ lo) : HRow w lo' v L hs := by
  refine ⟨⟨h.own.1, ?_⟩, h.rd⟩
  rcases h.own.2 with h3 | ⟨g, cap, cur, rfl, hlo, h3⟩
  · exact .inl h3
  · exact .inr ⟨g, cap, cur, rfl, by omega, h3⟩

end Go.Proofs.Ytfeonaocmnpkcaa
