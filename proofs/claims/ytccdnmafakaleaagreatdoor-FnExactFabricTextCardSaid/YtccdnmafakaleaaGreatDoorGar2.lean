/-
  Normal forms of words of letters, as plain data: what the reference's way and the program's way both come to, and when two words have the same.
-/
import Derived.Test.YtccdnmafakaleaaGreatDoorGar
namespace Go.Proofs.YtccdnmafakaleaaGreatDoor
set_option linter.unusedVariables false
set_option linter.unusedSimpArgs false

namespace Pm
theorem sw_lt {k a b : Nat} (h : a < b) (hne : ¬ (a + 1 = k ∧ b = k)) : sw k a < sw k b := by
  unfold sw
  split <;> (try split) <;> (try split) <;> (try split) <;> omega
theorem sw_bd {k n i : Nat} (hk : 1 ≤ k) (hn : k < n) (hi : i < n) : sw k i < n := by unfold sw; split <;> (try split) <;> omega
end Pm
open Pm

theorem mv_two {n : Nat} {x y : Pm} {L : List Pm} (h : Mv n [x, y] L) : ∃ k, ∃ hk : 1 ≤ k, k < n ∧ y.start k ∧ ¬ x.fin k ∧ L = [x.behind k hk, y.before k hk] := by
  cases h with
  | here k hk hn hs hf => exact ⟨k, hk, hn, hs, hf, rfl⟩
  | cons h =>
    cases h with
    | cons h => cases h
/-- What holds of two factors and is kept by moves holds at the end. -/
theorem rch_two {n : Nat} {x y : Pm} (P : Pm → Pm → Prop) (hP : ∀ x y k (hk : 1 ≤ k), k < n → y.start k → ¬ x.fin k → P x y → P (x.behind k hk) (y.before k hk)) (h0 : P x y) (h : AllOn n [x, y]) :
    ∃ x' y', Rch n [x, y] [x', y'] ∧ (∀ k, 1 ≤ k → k < n → y'.start k → x'.fin k) ∧ P x' y' ∧ (∀ i, y'.f (x'.f i) = y.f (x.f i)) ∧ x'.On n ∧ y'.On n := by
  obtain ⟨N, h1, h2⟩ := sett_ex (n := n) (mes n [x, y]) [x, y] (Nat.le_refl _) h
  have key : ∀ L N, Rch n L N → ∀ x1 y1, L = [x1, y1] → P x1 y1 → ∃ x' y', N = [x', y'] ∧ P x' y' ∧ ∀ i, y'.f (x'.f i) = y1.f (x1.f i) := by
    intro L N h
    induction h with
    | refl => intro x1 y1 e hp; exact ⟨x1, y1, e, hp, fun _ => rfl⟩
    | head hm _ ih =>
      intro x1 y1 e hp
      subst e
      obtain ⟨k, hk, hn, hs, hf, rfl⟩ := mv_two hm
      obtain ⟨x', y', e, hp', hc⟩ := ih _ _ rfl (hP _ _ k hk hn hs hf hp)
      refine ⟨x', y', e, hp', fun i => (hc i).trans ?_⟩
      show y1.f (sw k (sw k (x1.f i))) = _
      rw [sw_sw hk]
  obtain ⟨x', y', rfl, hp, hc⟩ := key _ _ h1 x y rfl h0
  have ha := h.rch h1
  exact ⟨x', y', h1, (sett_cons.1 h2).1, hp, hc, ha x' (by simp), ha y' (by simp)⟩
/-- The factors together have as many crossings as each alone. -/
def Red (x y : Pm) : Prop := ∀ a b, a < b → ¬ (y.f b < y.f a ∧ x.g b < x.g a)
theorem rch_red {n : Nat} {x y z : Pm} (h : AllOn n [x, y]) (hr : Red x y) (hz : ∀ i, z.f i = y.f (x.f i)) : Rch n [x, y] [z, one] := by
  obtain ⟨x', y', h1, h2, h3, h4, h5, h6⟩ := rch_two (n := n) Red (fun x y k hk hn hs hf hr a b hab => by
    rintro ⟨h1, h2⟩
    have h1' : y.f (sw k b) < y.f (sw k a) := h1
    have h2' : x.g (sw k b) < x.g (sw k a) := h2
    by_cases hc : a + 1 = k ∧ b = k
    · obtain ⟨ha, hb⟩ := hc
      subst hb
      obtain rfl : a = b - 1 := by omega
      rw [sw_r, sw_l hk] at h1'
      unfold Pm.start at hs
      omega
    · exact hr _ _ (sw_lt hab hc) ⟨h1', h2'⟩) hr h
  have e1 : y' = one := one_of h6 fun k hk hn hs => h3 (k - 1) k (by omega) ⟨hs, h2 k hk hn hs⟩
  subst e1
  have e2 : x' = z := ext' fun i => by rw [hz, ← h4]; rfl
  rw [← e2]
  exact h1
theorem red_one (y : Pm) : Red one y := fun a b hab h => by have : b < a := h.2; omega
theorem rch_one {n : Nat} {y : Pm} (h : y.On n) : Rch n [one, y] [y, one] :=
  rch_red (by intro p hp; simp at hp; rcases hp with rfl | rfl; exact on_one n; exact h) (red_one y) fun _ => rfl
theorem rch_half {n : Nat} {x : Pm} (h : x.On n) : Rch n [x, half n] [half n, flip n x] := by
  obtain ⟨x', y', h1, h2, h3, h4, h5, h6⟩ := rch_two (n := n) (x := x) (y := half n) (fun x y => ∀ a b, a < b → b < n → x.g a < x.g b → y.f b < y.f a) (fun x y k hk hn hs hf hr a b hab hb hg => by
    have hg' : x.g (sw k a) < x.g (sw k b) := hg
    show y.f (sw k b) < y.f (sw k a)
    by_cases hc : a + 1 = k ∧ b = k
    · obtain ⟨ha, hb⟩ := hc
      subst hb
      obtain rfl : a = b - 1 := by omega
      rw [sw_r, sw_l hk] at hg'
      unfold Pm.fin at hf
      omega
    · exact hr _ _ (sw_lt hab hc) (sw_bd hk hn hb) hg') (fun a b hab hb _ => by
    show dl n b < dl n a
    rw [dl_lt hb, dl_lt (by omega)]; omega) (by intro p hp; simp at hp; rcases hp with rfl | rfl; exact h; exact on_half n)
  have e1 : x' = half n := half_of h5 fun k hk hn => Classical.byContradiction fun hf => hf (h2 k hk hn (h3 (k - 1) k (by omega) hn (by
    unfold Pm.fin at hf
    rcases Nat.lt_or_ge (x'.g (k - 1)) (x'.g k) with h | h
    · exact h
    · have e : x'.g k = x'.g (k - 1) := by omega
      have := x'.g_inj e
      omega)))
  subst e1
  have e2 : y' = flip n x := ext' fun i => by
    have h7 := h4 (dl n i)
    have h8 : y'.f (dl n (dl n i)) = dl n (x.f (dl n i)) := h7
    rw [dl_dl] at h8
    exact h8
  rw [← e2]
  exact h1

/-! ### All flipped -/
theorem dl_sw {n k : Nat} (hk : 1 ≤ k) (hn : k < n) (x : Nat) : dl n (sw k x) = sw (n - k) (dl n x) := by
  unfold dl sw
  split <;> (try split) <;> (try split) <;> (try split) <;> (try split) <;> (try split) <;> omega
theorem flip_behind {n k : Nat} (p : Pm) (hk : 1 ≤ k) (hn : k < n) : flip n (p.behind k hk) = (flip n p).behind (n - k) (by omega) := ext' fun i => by
  show dl n (sw k (p.f (dl n i))) = sw (n - k) (dl n (p.f (dl n i)))
  exact dl_sw hk hn _
theorem flip_before {n k : Nat} (p : Pm) (hk : 1 ≤ k) (hn : k < n) : flip n (p.before k hk) = (flip n p).before (n - k) (by omega) := ext' fun i => by
  show dl n (p.f (sw k (dl n i))) = dl n (p.f (dl n (sw (n - k) i)))
  have h := dl_sw (n := n) (k := n - k) (by omega) (by omega) i
  rw [show n - (n - k) = k by omega] at h
  rw [h]
theorem flip_start {n k : Nat} {q : Pm} (h : q.On n) (hk : 1 ≤ k) (hn : k < n) (hs : q.start k) : (flip n q).start (n - k) := by
  show dl n (q.f (dl n (n - k))) < dl n (q.f (dl n (n - k - 1)))
  rw [dl_lt (show n - k < n by omega), dl_lt (show n - k - 1 < n by omega), show n - 1 - (n - k) = k - 1 by omega, show n - 1 - (n - k - 1) = k by omega]
  have h1 := h.lt (show k < n from hn)
  have h2 := h.lt (show k - 1 < n by omega)
  unfold Pm.start at hs
  rw [dl_lt h1, dl_lt h2]
  omega
theorem flip_fin {n k : Nat} {p : Pm} (h : p.On n) (hk : 1 ≤ k) (hn : k < n) (hf : ¬ p.fin k) : ¬ (flip n p).fin (n - k) := by
  show ¬ (dl n (p.g (dl n (n - k))) < dl n (p.g (dl n (n - k - 1))))
  rw [dl_lt (show n - k < n by omega), dl_lt (show n - k - 1 < n by omega), show n - 1 - (n - k) = k - 1 by omega, show n - 1 - (n - k - 1) = k by omega]
  have h1 := h.glt (show k < n from hn)
  have h2 := h.glt (show k - 1 < n by omega)
  unfold Pm.fin at hf
  rw [dl_lt h1, dl_lt h2]
  omega
def flipL (n : Nat) (L : List Pm) : List Pm := L.map (flip n)
theorem flipL_flipL (n : Nat) (L : List Pm) : flipL n (flipL n L) = L := by
  unfold flipL
  rw [List.map_map]
  conv => rhs; rw [← List.map_id L]
  exact List.map_congr_left fun p _ => flip_flip n p
theorem flipL_append (n : Nat) (A B : List Pm) : flipL n (A ++ B) = flipL n A ++ flipL n B := List.map_append
theorem AllOn.flipL {n : Nat} {L : List Pm} (h : AllOn n L) : AllOn n (flipL n L) := by
  intro p hp
  obtain ⟨q, hq, rfl⟩ := List.mem_map.1 hp
  exact (h q hq).flip
theorem AllOn.append {n : Nat} {A B : List Pm} (h : AllOn n A) (k : AllOn n B) : AllOn n (A ++ B) := fun p hp => (List.mem_append.1 hp).elim (h p) (k p)
theorem AllOn.left {n : Nat} {A B : List Pm} (h : AllOn n (A ++ B)) : AllOn n A := fun p hp => h p (List.mem_append_left _ hp)
theorem AllOn.right {n : Nat} {A B : List Pm} (h : AllOn n (A ++ B)) : AllOn n B := fun p hp => h p (List.mem_append_right _ hp)
theorem AllOn.one {n : Nat} {p : Pm} (h : p.On n) : AllOn n [p] := fun q hq => by simp at hq; subst hq; exact h
theorem Mv.flip {n : Nat} {L L' : List Pm} (h : AllOn n L) (hm : Mv n L L') : Mv n (flipL n L) (flipL n L') := by
  induction hm with
  | here k hk hn hs hf =>
    rename_i p q L
    show Mv n (Pm.flip n p :: Pm.flip n q :: flipL n L) (Pm.flip n (p.behind k hk) :: Pm.flip n (q.before k hk) :: flipL n L)
    rw [flip_behind p hk hn, flip_before q hk hn]
    exact .here (n - k) (by omega) (by omega) (flip_start (h q (by simp)) hk hn hs) (flip_fin (h p (by simp)) hk hn hf)
  | cons hm ih => exact .cons (ih fun q hq => h q (List.mem_cons_of_mem _ hq))
theorem Rch.flip {n : Nat} {L L' : List Pm} (h : AllOn n L) (hm : Rch n L L') : Rch n (flipL n L) (flipL n L') := by
  induction hm with
  | refl => exact .refl
  | head hm _ ih => exact .head (hm.flip h) (ih (h.mv hm))
theorem Sett.flip {n : Nat} {L : List Pm} (h : AllOn n L) (hs : Sett n L) : Sett n (flipL n L) := fun L' hm => by
  have := hm.flip h.flipL
  rw [flipL_flipL] at this
  exact hs _ this
theorem flip_one (n : Nat) : Pm.flip n one = one := ext' fun i => by show dl n (dl n i) = i; exact dl_dl n i
theorem flip_half (n : Nat) : Pm.flip n (half n) = half n := ext' fun i => by show dl n (dl n (dl n i)) = dl n i; rw [dl_dl]

/-! ### The form of what is settled -/
def Good (n : Nat) (F : List Pm) : Prop := ∀ p ∈ F, p ≠ one ∧ p ≠ half n
def nfm (n a : Nat) (F : List Pm) (b : Nat) : List Pm := List.replicate a (half n) ++ (F ++ List.replicate b one)
theorem half_ne {n : Nat} (hn : 2 ≤ n) : half n ≠ one := fun e => by
  have h1 := congrArg (fun p : Pm => p.f 0) e
  have h2 : dl n 0 = 0 := h1
  rw [dl_lt (by omega)] at h2
  omega
theorem ones_of {n : Nat} : ∀ {L : List Pm}, AllOn n L → Sett n (one :: L) → L = List.replicate L.length one
  | [], _, _ => rfl
  | p :: L, h, hs => by
    obtain ⟨h1, h2⟩ := sett_cons.1 hs
    have e : p = one := one_of (h p (by simp)) fun k hk hn hs => one_fin k hk (h1 k hk hn hs)
    subst e
    rw [List.length_cons, List.replicate_succ, ← ones_of (fun q hq => h q (List.mem_cons_of_mem _ hq)) h2]
theorem sett_tail {n : Nat} {p : Pm} {L : List Pm} (h : Sett n (p :: L)) : Sett n L := fun L' hm => h _ (.cons hm)
theorem shape_ex {n : Nat} : ∀ (L : List Pm), AllOn n L → Sett n L → ∃ a F b, L = nfm n a F b ∧ Good n F
  | [], _, _ => ⟨0, [], 0, rfl, fun p hp => by simp at hp⟩
  | p :: L, h, hs => by
    have hL : AllOn n L := fun q hq => h q (List.mem_cons_of_mem _ hq)
    by_cases h1 : p = one
    · subst h1
      refine ⟨0, [], L.length + 1, ?_, fun p hp => by simp at hp⟩
      show one :: L = List.replicate (L.length + 1) one
      rw [List.replicate_succ, ← ones_of hL hs]
    · obtain ⟨a, F, b, rfl, hF⟩ := shape_ex L hL (sett_tail hs)
      by_cases h2 : p = half n
      · subst h2
        exact ⟨a + 1, F, b, by unfold nfm; rw [List.replicate_succ]; rfl, hF⟩
      · refine ⟨0, p :: F, b, ?_, fun q hq => ?_⟩
        · cases a with
          | zero => rfl
          | succ a =>
            exfalso
            unfold nfm at hs
            rw [List.replicate_succ] at hs
            obtain ⟨h3, _⟩ := sett_cons.1 hs
            exact h2 (half_of (h p (by simp)) fun k hk hn => h3 k hk hn (half_start hk hn))
        · rcases List.mem_cons.1 hq with rfl | hq
          · exact ⟨h1, h2⟩
          · exact hF q hq
theorem shape_uniq {n : Nat} (hn : 2 ≤ n) : ∀ {a a' : Nat} {F F' : List Pm} {b b' : Nat}, Good n F → Good n F' → nfm n a F b = nfm n a' F' b' → a = a' ∧ F = F'
  | 0, 0, [], [], b, b', _, _, _ => ⟨rfl, rfl⟩
  | 0, 0, [], q :: F', b, b', _, h2, e => by
    exfalso
    cases b with
    | zero => cases e
    | succ b =>
      unfold nfm at e
      rw [List.replicate_succ] at e
      injection e with e _
      exact (h2 q (by simp)).1 e.symm
  | 0, 0, p :: F, [], b, b', h1, _, e => by
    exfalso
    cases b' with
    | zero => cases e
    | succ b =>
      unfold nfm at e
      rw [List.replicate_succ] at e
      injection e with e _
      exact (h1 p (by simp)).1 e
  | 0, 0, p :: F, q :: F', b, b', h1, h2, e => by
    unfold nfm at e
    injection e with e1 e2
    obtain ⟨_, h⟩ := shape_uniq hn (a := 0) (a' := 0) (F := F) (F' := F') (b := b) (b' := b') (fun r hr => h1 r (List.mem_cons_of_mem _ hr)) (fun r hr => h2 r (List.mem_cons_of_mem _ hr)) e2
    exact ⟨rfl, by rw [e1, h]⟩
  | a + 1, 0, F, F', b, b', h1, h2, e => by
    exfalso
    unfold nfm at e
    rw [List.replicate_succ] at e
    cases F' with
    | nil =>
      cases b' with
      | zero => cases e
      | succ b' =>
        rw [List.replicate_succ] at e
        injection e with e _
        exact half_ne hn e
    | cons q F' =>
      injection e with e _
      exact (h2 q (by simp)).2 e.symm
  | 0, a + 1, F, F', b, b', h1, h2, e => by
    exfalso
    unfold nfm at e
    rw [List.replicate_succ] at e
    cases F with
    | nil =>
      cases b with
      | zero => cases e
      | succ b =>
        rw [List.replicate_succ] at e
        injection e with e _
        exact half_ne hn e.symm
    | cons q F =>
      injection e with e _
      exact (h1 q (by simp)).2 e
  | a + 1, a' + 1, F, F', b, b', h1, h2, e => by
    unfold nfm at e
    rw [List.replicate_succ, List.replicate_succ] at e
    injection e with _ e
    obtain ⟨h3, h4⟩ := shape_uniq hn (a := a) (a' := a') h1 h2 e
    exact ⟨by rw [h3], h4⟩
theorem sett_halves {n : Nat} {L : List Pm} (h : Sett n L) : ∀ a, Sett n (List.replicate a (half n) ++ L)
  | 0 => h
  | a + 1 => by
    rw [List.replicate_succ, List.cons_append]
    have ih := sett_halves h a
    generalize List.replicate a (half n) ++ L = M at ih
    cases M with
    | nil => exact sett_single n _
    | cons q M => exact sett_cons.2 ⟨fun k hk hn _ => half_fin hk hn, ih⟩
theorem sett_ones {n : Nat} (b : Nat) : ∀ {L : List Pm}, Sett n L → Sett n (L ++ List.replicate b one)
  | [], _ => by
    show Sett n (List.replicate b one)
    induction b with
    | zero => exact sett_nil n
    | succ b ih =>
      rw [List.replicate_succ]
      cases b with
      | zero => exact sett_single n _
      | succ b =>
        rw [List.replicate_succ] at ih ⊢
        exact sett_cons.2 ⟨fun k hk _ hs => absurd hs (one_start k hk), ih⟩
  | [p], _ => by
    rw [List.singleton_append]
    cases b with
    | zero => exact sett_single n _
    | succ b =>
      have h := sett_ones (b + 1) (sett_nil n)
      rw [List.nil_append, List.replicate_succ] at h
      rw [List.replicate_succ]
      exact sett_cons.2 ⟨fun k hk _ hs => absurd hs (one_start k hk), h⟩
  | p :: q :: L, h => by
    obtain ⟨h1, h2⟩ := sett_cons.1 h
    have h3 := sett_ones b h2
    rw [List.cons_append, List.cons_append] at *
    exact sett_cons.2 ⟨h1, h3⟩
theorem sett_drop {n : Nat} : ∀ (A : List Pm) {B : List Pm}, Sett n (A ++ B) → Sett n B
  | [], _, h => h
  | a :: A, _, h => sett_drop A (sett_tail h)
theorem sett_left {n : Nat} {A B : List Pm} (h : Sett n (A ++ B)) : Sett n A := fun L' hm => h _ (hm.appR B)
theorem rch_ones {n : Nat} {y : Pm} (h : y.On n) : ∀ b, Rch n (List.replicate b one ++ [y]) (y :: List.replicate b one)
  | 0 => .refl
  | b + 1 => by
    rw [List.replicate_succ, List.cons_append]
    exact ((rch_ones h b).cons one).trans ((rch_one h).appR (List.replicate b one))
theorem rch_pushhalf {n : Nat} : ∀ {L : List Pm}, AllOn n L → Rch n (L ++ [half n]) (half n :: flipL n L)
  | [], _ => .refl
  | p :: L, h => by
    have h1 := (rch_pushhalf (fun q hq => h q (List.mem_cons_of_mem _ hq)) : Rch n (L ++ [half n]) (half n :: flipL n L)).cons p
    exact h1.trans ((rch_half (h p (by simp))).appR (flipL n L))

/-! ### Words -/
/-- The factor of a letter. -/
def lets (n : Nat) (k : Int) : Pm := if h : 1 ≤ k.natAbs then (if 0 < k then one.behind k.natAbs h else (half n).behind k.natAbs h) else one
theorem lets_pos {n : Nat} {k : Int} (h : 0 < k) : lets n k = one.behind k.natAbs (by omega) := by unfold lets; rw [dif_pos (by omega), if_pos h]
theorem lets_neg {n : Nat} {k : Int} (h : k < 0) : lets n k = (half n).behind k.natAbs (by omega) := by unfold lets; rw [dif_pos (by omega), if_neg (by omega)]
def Ltr (n : Nat) (k : Int) : Prop := k ≠ 0 ∧ k.natAbs < n
theorem lets_on {n : Nat} {k : Int} (h : Ltr n k) : (lets n k).On n := by
  obtain ⟨h1, h2⟩ := h
  rcases Int.lt_trichotomy k 0 with hk | hk | hk
  · rw [lets_neg hk]; exact (on_half n).behind _ h2
  · exact absurd hk h1
  · rw [lets_pos hk]; exact (on_one n).behind _ h2
def flipK (n : Nat) (k : Int) (L : List Pm) : List Pm := if 0 < k then L else flipL n L
def stepP (p : Int) (k : Int) : Int := if 0 < k then p else p - 1
def raw (n : Nat) (w : List Int) : List Pm := w.foldl (fun L k => flipK n k L ++ [lets n k]) []
def pow0 (w : List Int) : Int := w.foldl stepP 0
theorem raw_snoc (n : Nat) (w : List Int) (k : Int) : raw n (w ++ [k]) = flipK n k (raw n w) ++ [lets n k] := by unfold raw; rw [List.foldl_append]; rfl
theorem pow0_snoc (w : List Int) (k : Int) : pow0 (w ++ [k]) = stepP (pow0 w) k := by unfold pow0; rw [List.foldl_append]; rfl
theorem AllOn.flipK {n : Nat} {k : Int} {L : List Pm} (h : AllOn n L) : AllOn n (flipK n k L) := by
  unfold Go.Proofs.YtccdnmafakaleaaGreatDoor.flipK
  split
  · exact h
  · exact h.flipL
theorem raw_on {n : Nat} : ∀ (w : List Int), (∀ k ∈ w, Ltr n k) → AllOn n (raw n w) := by
  have : ∀ (w : List Int) (L : List Pm), (∀ k ∈ w, Ltr n k) → AllOn n L → AllOn n (w.foldl (fun L k => Go.Proofs.YtccdnmafakaleaaGreatDoor.flipK n k L ++ [lets n k]) L) := by
    intro w
    induction w with
    | nil => intro L _ h; exact h
    | cons k w ih => intro L hw h; exact ih _ (fun x hx => hw x (List.mem_cons_of_mem _ hx)) (h.flipK.append (AllOn.one (lets_on (hw k (by simp)))))
  intro w hw
  exact this w [] hw (fun p hp => by simp at hp)
/-- The normal form of a list of factors. -/
structure Nrm (n : Nat) (L : List Pm) (a : Nat) (F : List Pm) : Prop where
  good : Good n F
  ex : ∃ b, Rch n L (nfm n a F b) ∧ Sett n (nfm n a F b)
theorem Nrm.uniq {n : Nat} (hn : 2 ≤ n) {L : List Pm} (hL : AllOn n L) {a a' : Nat} {F F' : List Pm} (h : Nrm n L a F) (h' : Nrm n L a' F') : a = a' ∧ F = F' := by
  obtain ⟨b, r, s⟩ := h.ex
  obtain ⟨b', r', s'⟩ := h'.ex
  exact shape_uniq hn h.good h'.good (sett_uniq hL r r' s s')
theorem Nrm.exists_ {n : Nat} {L : List Pm} (hL : AllOn n L) : ∃ a F, Nrm n L a F := by
  obtain ⟨N, r, s⟩ := sett_ex (n := n) (mes n L) L (Nat.le_refl _) hL
  obtain ⟨a, F, b, rfl, hg⟩ := shape_ex N (hL.rch r) s
  exact ⟨a, F, hg, b, r, s⟩
theorem nfm_flip (n a : Nat) (F : List Pm) (b : Nat) : flipL n (nfm n a F b) = nfm n a (flipL n F) b := by
  unfold nfm
  rw [flipL_append, flipL_append]
  unfold flipL
  rw [List.map_replicate, List.map_replicate, flip_half, flip_one]
theorem Good.flip {n : Nat} {F : List Pm} (h : Good n F) : Good n (flipL n F) := by
  intro p hp
  obtain ⟨q, hq, rfl⟩ := List.mem_map.1 hp
  obtain ⟨h1, h2⟩ := h q hq
  refine ⟨fun e => h1 ?_, fun e => h2 ?_⟩
  · rw [← flip_flip n q, e, flip_one]
  · rw [← flip_flip n q, e, flip_half]
theorem Nrm.flip {n : Nat} {L : List Pm} {a : Nat} {F : List Pm} (hL : AllOn n L) (h : Nrm n L a F) : Nrm n (flipL n L) a (flipL n F) := by
  obtain ⟨b, r, s⟩ := h.ex
  refine ⟨h.good.flip, b, ?_, ?_⟩
  · rw [← nfm_flip]; exact r.flip hL
  · rw [← nfm_flip]; exact s.flip (hL.rch r)
theorem Nrm.flipK {n : Nat} {L : List Pm} {a : Nat} {F : List Pm} (hL : AllOn n L) (k : Int) (h : Nrm n L a F) : Nrm n (flipK n k L) a (flipK n k F) := by
  unfold Go.Proofs.YtccdnmafakaleaaGreatDoor.flipK
  split
  · exact h
  · exact h.flip hL
theorem Nrm.on {n : Nat} {L : List Pm} {a : Nat} {F : List Pm} (hL : AllOn n L) (h : Nrm n L a F) : AllOn n F := by
  obtain ⟨b, r, _⟩ := h.ex
  exact (hL.rch r).right.left
theorem Nrm.sett {n : Nat} {L : List Pm} {a : Nat} {F : List Pm} (h : Nrm n L a F) : Sett n F := by
  obtain ⟨b, _, s⟩ := h.ex
  exact sett_left (sett_drop _ s)
/-- One factor more behind what is normal. -/
theorem Nrm.snoc {n : Nat} {L : List Pm} {a a1 : Nat} {F F1 : List Pm} {y : Pm} (hy : y.On n) (h : Nrm n L a F) (h1 : Nrm n (F ++ [y]) a1 F1) : Nrm n (L ++ [y]) (a + a1) F1 := by
  obtain ⟨b, r, s⟩ := h.ex
  obtain ⟨b1, r1, s1⟩ := h1.ex
  have e : nfm n (a + a1) F1 (b1 + b) = List.replicate a (half n) ++ (nfm n a1 F1 b1 ++ List.replicate b one) := by
    unfold nfm
    rw [← List.replicate_append_replicate, ← List.replicate_append_replicate]
    simp only [List.append_assoc]
  refine ⟨h1.good, b1 + b, ?_, ?_⟩
  · rw [e]
    refine (r.appR [y]).trans ?_
    unfold nfm
    rw [List.append_assoc, List.append_assoc]
    refine Rch.appL _ ?_
    refine (Rch.appL F (rch_ones hy b)).trans ?_
    have h2 := r1.appR (List.replicate b one)
    rw [List.append_assoc, List.singleton_append] at h2
    exact h2
  · rw [e]
    exact sett_halves (sett_ones b s1) a

/-! ### States and letters -/
structure St where
  p : Int
  F : List Pm
/-- A state in normal form. -/
structure Val (n : Nat) (s : St) : Prop where
  on : AllOn n s.F
  sett : Sett n s.F
  good : Good n s.F
/-- One letter more. -/
def Act (n : Nat) (s : St) (k : Int) (t : St) : Prop := ∃ a, Nrm n (flipK n k s.F ++ [lets n k]) a t.F ∧ t.p = stepP s.p k + a
theorem Act.val {n : Nat} {s t : St} {k : Int} (hk : Ltr n k) (hs : AllOn n s.F) (h : Act n s k t) : Val n t := by
  obtain ⟨a, h1, _⟩ := h
  exact ⟨h1.on (hs.flipK.append (AllOn.one (lets_on hk))), h1.sett, h1.good⟩
theorem Act.ex {n : Nat} {s : St} {k : Int} (hk : Ltr n k) (hs : AllOn n s.F) : ∃ t, Act n s k t := by
  obtain ⟨a, F, h⟩ := Nrm.exists_ (hs.flipK.append (AllOn.one (lets_on hk)) : AllOn n (flipK n k s.F ++ [lets n k]))
  exact ⟨⟨stepP s.p k + a, F⟩, a, h, rfl⟩
theorem Act.uniq {n : Nat} {s t t' : St} {k : Int} (hk : Ltr n k) (hs : AllOn n s.F) (h : Act n s k t) (h' : Act n s k t') : t = t' := by
  obtain ⟨a, h1, e1⟩ := h
  obtain ⟨a', h2, e2⟩ := h'
  obtain ⟨rfl, h3⟩ := h1.uniq (by have := hk.1; have := hk.2; omega) (hs.flipK.append (AllOn.one (lets_on hk))) h2
  obtain ⟨p, F⟩ := t
  obtain ⟨p', F'⟩ := t'
  simp only at e1 e2 h3
  rw [e1, e2, h3]
theorem red_neg {n k : Nat} (hk : 1 ≤ k) (hn : k < n) : Red ((half n).behind k hk) (one.behind k hk) := by
  rintro a b hab ⟨h1, h2⟩
  have h1' : sw k b < sw k a := h1
  by_cases hc : a + 1 = k ∧ b = k
  · obtain ⟨ha, hb⟩ := hc
    subst hb
    obtain rfl : a = b - 1 := by omega
    have h2' : dl n (sw b b) < dl n (sw b (b - 1)) := h2
    rw [sw_r, sw_l hk, dl_lt (by omega), dl_lt hn] at h2'
    omega
  · have := sw_lt hab hc
    omega
theorem red_pos {n k : Nat} (hk : 1 ≤ k) (hn : k < n) : Red (Pm.flip n (one.behind k hk)) ((half n).behind k hk) := by
  rw [flip_behind _ hk hn, flip_one]
  rintro a b hab ⟨h1, h2⟩
  have h2' : sw (n - k) b < sw (n - k) a := h2
  by_cases hc : a + 1 = n - k ∧ b = n - k
  · obtain ⟨ha, hb⟩ := hc
    have h1' : sw k (dl n b) < sw k (dl n a) := h1
    rw [dl_lt (show b < n by omega), dl_lt (show a < n by omega), show n - 1 - b = k - 1 by omega, show n - 1 - a = k by omega, sw_r, sw_l hk] at h1'
    omega
  · have := sw_lt hab hc
    omega
/-- A letter and its inverse. -/
theorem Act.cancel {n : Nat} {s t u : St} {k : Int} (hk : Ltr n k) (hs : Val n s) (h : Act n s k t) (h' : Act n t (-k) u) : u = s := by
  have hk' : Ltr n (-k) := ⟨by have := hk.1; omega, by have := hk.2; omega⟩
  obtain ⟨k0, k1⟩ := hk
  have hn : 2 ≤ n := by omega
  obtain ⟨a, h1, e1⟩ := h
  obtain ⟨a', h2, e2⟩ := h'
  have hon : AllOn n (flipK n k s.F ++ [lets n k]) := hs.on.flipK.append (AllOn.one (lets_on ⟨k0, k1⟩))
  -- both letters at once: a half twist and nothing else
  have h3 := (h1.flipK hon (-k)).snoc (lets_on hk') h2
  have e3 : flipK n (-k) (flipK n k s.F ++ [lets n k]) ++ [lets n (-k)] = flipL n s.F ++ [if 0 < k then Pm.flip n (lets n k) else lets n k, lets n (-k)] := by
    unfold flipK
    rcases Int.lt_trichotomy k 0 with h | h | h
    · have h1 : ¬ 0 < k := by omega
      have h2 : 0 < -k := by omega
      rw [if_pos h2, if_neg h1, if_neg h1]; simp
    · exact absurd h k0
    · have h2 : ¬ 0 < -k := by omega
      rw [if_neg h2, if_pos h, if_pos h, flipL_append]; simp [flipL]
  rw [e3] at h3
  have hz : Rch n [if 0 < k then Pm.flip n (lets n k) else lets n k, lets n (-k)] [half n, one] := by
    rcases Int.lt_trichotomy k 0 with h | h | h
    · rw [if_neg (by omega), lets_neg h, lets_pos (by omega)]
      have ek : (-k).natAbs = k.natAbs := by omega
      refine rch_red ?_ ?_ ?_
      · intro p hp
        simp at hp
        rcases hp with rfl | rfl
        · exact (on_half n).behind _ k1
        · exact (on_one n).behind _ (by omega)
      · have := red_neg (n := n) (k := k.natAbs) (by omega) k1
        simp only [ek]
        exact this
      · intro i
        show dl n i = sw (-k).natAbs (sw k.natAbs (dl n i))
        rw [ek, sw_sw (by omega)]
    · exact absurd h k0
    · rw [if_pos h, lets_pos h, lets_neg (by omega)]
      have ek : (-k).natAbs = k.natAbs := by omega
      refine rch_red ?_ ?_ ?_
      · intro p hp
        simp at hp
        rcases hp with rfl | rfl
        · exact ((on_one n).behind _ k1).flip
        · exact (on_half n).behind _ (by omega)
      · have := red_pos (n := n) (k := k.natAbs) (by omega) k1
        simp only [ek]
        exact this
      · intro i
        show dl n i = sw (-k).natAbs (dl n (dl n (sw k.natAbs (dl n i))))
        rw [dl_dl, ek, sw_sw (by omega)]
  have hF : AllOn n (flipL n s.F ++ [if 0 < k then Pm.flip n (lets n k) else lets n k, lets n (-k)]) := by
    refine hs.on.flipL.append ?_
    intro p hp
    simp at hp
    rcases hp with rfl | rfl
    · split
      · exact (lets_on ⟨k0, k1⟩).flip
      · exact lets_on ⟨k0, k1⟩
    · exact lets_on hk'
  have h4 : Nrm n (flipL n s.F ++ [if 0 < k then Pm.flip n (lets n k) else lets n k, lets n (-k)]) 1 s.F := by
    refine ⟨hs.good, 1, ?_, ?_⟩
    · refine (Rch.appL _ hz).trans ?_
      have h5 := (rch_pushhalf hs.on.flipL).appR [one]
      rw [flipL_flipL] at h5
      rw [List.append_assoc] at h5
      exact h5
    · exact sett_halves (sett_ones 1 hs.sett) 1
  obtain ⟨h5, h6⟩ := h3.uniq hn hF h4
  obtain ⟨p, F⟩ := s
  obtain ⟨q, G⟩ := u
  simp only at *
  subst h6
  congr 1
  rw [e2, e1]
  unfold stepP
  rcases Int.lt_trichotomy k 0 with h | h | h
  · have h1 : ¬ 0 < k := by omega
    have h2 : 0 < -k := by omega
    rw [if_pos h2, if_neg h1]; omega
  · exact absurd h k0
  · have h2 : ¬ 0 < -k := by omega
    rw [if_neg h2, if_pos h]; omega
/-- Letters one after the other. -/
def ActW (n : Nat) : St → List Int → St → Prop
  | s, [], t => s = t
  | s, k :: w, t => ∃ u, Act n s k u ∧ ActW n u w t
def LetsN (n : Nat) (w : List Int) : Prop := ∀ k ∈ w, Ltr n k
def invW (w : List Int) : List Int := (w.map fun k => -k).reverse
theorem LetsN.inv {n : Nat} {w : List Int} (h : LetsN n w) : LetsN n (invW w) := by
  intro k hk
  unfold invW at hk
  rw [List.mem_reverse, List.mem_map] at hk
  obtain ⟨j, hj, rfl⟩ := hk
  obtain ⟨h1, h2⟩ := h j hj
  exact ⟨by omega, by omega⟩
theorem invW_invW (w : List Int) : invW (invW w) = w := by
  unfold invW
  rw [List.map_reverse, List.reverse_reverse, List.map_map]
  conv => rhs; rw [← List.map_id w]
  exact List.map_congr_left fun k _ => by simp
theorem ActW.append {n : Nat} : ∀ {a : List Int} {b : List Int} {s t : St}, ActW n s (a ++ b) t → ∃ u, ActW n s a u ∧ ActW n u b t
  | [], _, s, _, h => ⟨s, rfl, h⟩
  | k :: a, _, _, _, h => by
    obtain ⟨u, h1, h2⟩ := h
    obtain ⟨v, h3, h4⟩ := ActW.append h2
    exact ⟨v, ⟨u, h1, h3⟩, h4⟩
theorem ActW.val {n : Nat} : ∀ {w : List Int} {s t : St}, LetsN n w → Val n s → ActW n s w t → Val n t
  | [], _, _, _, hs, h => by cases h; exact hs
  | k :: w, _, _, hw, hs, h => by
    obtain ⟨u, h1, h2⟩ := h
    exact ActW.val (fun x hx => hw x (List.mem_cons_of_mem _ hx)) (h1.val (hw k (by simp)) hs.on) h2
theorem ActW.ex {n : Nat} : ∀ (w : List Int) {s : St}, LetsN n w → Val n s → ∃ t, ActW n s w t
  | [], s, _, _ => ⟨s, rfl⟩
  | k :: w, s, hw, hs => by
    obtain ⟨u, h1⟩ := Act.ex (hw k (by simp)) hs.on
    obtain ⟨t, h2⟩ := ActW.ex w (fun x hx => hw x (List.mem_cons_of_mem _ hx)) (h1.val (hw k (by simp)) hs.on)
    exact ⟨t, u, h1, h2⟩
theorem ActW.cancel {n : Nat} : ∀ {w : List Int} {s t u : St}, LetsN n w → Val n s → ActW n s w t → ActW n t (invW w) u → u = s
  | [], _, _, _, _, _, h, h' => by cases h; exact h'.symm
  | k :: w, s, t, u, hw, hs, h, h' => by
    obtain ⟨v, h1, h2⟩ := h
    have e : invW (k :: w) = invW w ++ [-k] := by simp [invW]
    rw [e] at h'
    obtain ⟨x, h3, y, h4, h5⟩ := h'.append
    have hkl := hw k (by simp)
    have h6 := ActW.cancel (fun x hx => hw x (List.mem_cons_of_mem _ hx)) (h1.val hkl hs.on) h2 h3
    subst h6
    have h7 : y = u := h5
    subst h7
    exact h1.cancel hkl hs h4
/-- The normal form of a word. -/
structure IsNF (n : Nat) (w : List Int) (s : St) : Prop where
  ex : ∃ a, Nrm n (raw n w) a s.F ∧ s.p = pow0 w + a
theorem isNF_nil (n : Nat) : IsNF n [] ⟨0, []⟩ := ⟨0, ⟨fun p hp => by simp at hp, 0, .refl, sett_nil n⟩, rfl⟩
theorem val_nil (n : Nat) : Val n ⟨0, []⟩ := ⟨fun p hp => by simp at hp, sett_nil n, fun p hp => by simp at hp⟩
theorem IsNF.val {n : Nat} {w : List Int} {s : St} (hw : LetsN n w) (h : IsNF n w s) : Val n s := by
  obtain ⟨a, h1, _⟩ := h.ex
  exact ⟨h1.on (raw_on w hw), h1.sett, h1.good⟩
theorem IsNF.act {n : Nat} {w : List Int} {s t : St} {k : Int} (hw : LetsN n w) (hk : Ltr n k) (h : IsNF n w s) (ha : Act n s k t) : IsNF n (w ++ [k]) t := by
  obtain ⟨a, h1, e1⟩ := h.ex
  obtain ⟨b, h2, e2⟩ := ha
  refine ⟨a + b, ?_, ?_⟩
  · rw [raw_snoc]
    exact (h1.flipK (raw_on w hw) k).snoc (lets_on hk) h2
  · rw [pow0_snoc, e2, e1]
    unfold stepP
    split <;> omega
theorem IsNF.actW {n : Nat} : ∀ {v w : List Int} {s t : St}, LetsN n w → LetsN n v → IsNF n w s → ActW n s v t → IsNF n (w ++ v) t
  | [], w, s, t, _, _, h, ha => by cases ha; rw [List.append_nil]; exact h
  | k :: v, w, s, t, hw, hv, h, ha => by
    obtain ⟨u, h1, h2⟩ := ha
    have hk := hv k (by simp)
    have h3 := IsNF.actW (w := w ++ [k]) (fun x hx => (List.mem_append.1 hx).elim (hw x) (fun h => by simp at h; subst h; exact hk)) (fun x hx => hv x (List.mem_cons_of_mem _ hx)) (h.act hw hk h1) h2
    rw [List.append_assoc] at h3
    exact h3
theorem IsNF.uniq {n : Nat} {w : List Int} {s t : St} (hw : LetsN n w) (h : IsNF n w s) (h' : IsNF n w t) : s = t := by
  obtain ⟨a, h1, e1⟩ := h.ex
  obtain ⟨b, h2, e2⟩ := h'.ex
  cases w with
  | nil =>
    have key : ∀ a F, Nrm n (raw n []) a F → a = 0 ∧ F = [] := by
      intro a F h
      obtain ⟨b, r, s⟩ := h.ex
      have e : ([] : List Pm) = nfm n a F b := sett_rch (sett_nil n) r
      unfold nfm at e
      have h0 := congrArg List.length e
      simp at h0
      exact ⟨by omega, List.eq_nil_of_length_eq_zero (by omega)⟩
    obtain ⟨ha, hF⟩ := key _ _ h1
    obtain ⟨hb, hG⟩ := key _ _ h2
    obtain ⟨p, F⟩ := s
    obtain ⟨q, G⟩ := t
    simp only at *
    rw [e1, e2, ha, hb, hF, hG]
  | cons k w =>
    have hk := hw k (by simp)
    obtain ⟨ha, hF⟩ := h1.uniq (by have := hk.1; have := hk.2; omega) (raw_on _ hw) h2
    obtain ⟨p, F⟩ := s
    obtain ⟨q, G⟩ := t
    simp only at *
    rw [e1, e2, ha, hF]
theorem IsNF.from_nil {n : Nat} {w : List Int} {s : St} (hw : LetsN n w) (h : IsNF n w s) : ActW n ⟨0, []⟩ w s := by
  obtain ⟨t, ht⟩ := ActW.ex w hw (val_nil n)
  have h1 := IsNF.actW (w := []) (fun k hk => by simp at hk) hw (isNF_nil n) ht
  rw [List.nil_append] at h1
  rw [h.uniq hw h1]
  exact ht
/-- Two words are equal as braids: asked by their normal forms, and asked by the word of one and the other's inverse. -/
theorem nf_equal {n : Nat} {a b : List Int} {s t u : St} (ha : LetsN n a) (hb : LetsN n b) (hs : IsNF n a s) (ht : IsNF n b t) (hu : IsNF n (a ++ invW b) u) : u = ⟨0, []⟩ ↔ s = t := by
  obtain ⟨v, hv⟩ := ActW.ex (invW b) hb.inv (hs.val ha)
  have huv : u = v := hu.uniq (fun x hx => (List.mem_append.1 hx).elim (ha x) (hb.inv x)) (hs.actW ha hb.inv hv)
  subst huv
  constructor
  · rintro rfl
    have h1 := ht.from_nil hb
    have h2 : ActW n ⟨0, []⟩ (invW (invW b)) t := by rw [invW_invW]; exact h1
    exact (ActW.cancel hb.inv (hs.val ha) hv h2).symm
  · rintro rfl
    exact ActW.cancel hb (val_nil n) (ht.from_nil hb) hv

end Go.Proofs.YtccdnmafakaleaaGreatDoor
