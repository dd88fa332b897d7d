/-
  Permutation braids as plain data: lists of permutations, letters that move to the left, and why the end of all moves is one.
-/
import Derived.Lib.Hide
namespace Go.Proofs.YtccdnmafakaleaaGreatDoor
set_option linter.unusedVariables false
set_option linter.unusedSimpArgs false

/-- A permutation and its inverse, by functions. -/
structure Pm where
  f : Nat → Nat
  g : Nat → Nat
  fg : ∀ i, f (g i) = i
  gf : ∀ i, g (f i) = i
namespace Pm
theorem ext' {p q : Pm} (h : ∀ i, p.f i = q.f i) : p = q := by
  have hf : p.f = q.f := funext h
  have hg : p.g = q.g := funext fun i => by
    have h1 : p.f (p.g i) = p.f (q.g i) := by rw [p.fg, h, q.fg]
    have h2 := congrArg p.g h1
    rwa [p.gf, p.gf] at h2
  obtain ⟨f, g, a, b⟩ := p
  obtain ⟨f', g', a', b'⟩ := q
  simp only at hf hg
  subst hf hg
  rfl
theorem f_inj (p : Pm) {i j : Nat} (h : p.f i = p.f j) : i = j := by have := congrArg p.g h; rwa [p.gf, p.gf] at this
theorem g_inj (p : Pm) {i j : Nat} (h : p.g i = p.g j) : i = j := by have := congrArg p.f h; rwa [p.fg, p.fg] at this
/-- The exchange of k - 1 and k. -/
def sw (k i : Nat) : Nat := if i = k then k - 1 else if i + 1 = k then k else i
theorem sw_sw {k : Nat} (hk : 1 ≤ k) (i : Nat) : sw k (sw k i) = i := by unfold sw; split <;> (try split) <;> (try split) <;> (try split) <;> omega
theorem sw_l {k : Nat} (hk : 1 ≤ k) : sw k (k - 1) = k := by unfold sw; rw [if_neg (by omega), if_pos (by omega)]
theorem sw_r (k : Nat) : sw k k = k - 1 := by simp [sw]
theorem sw_o {k i : Nat} (h1 : i ≠ k) (h2 : i + 1 ≠ k) : sw k i = i := by unfold sw; rw [if_neg h1, if_neg h2]
/-- A letter in front, and behind. -/
def before (k : Nat) (p : Pm) (hk : 1 ≤ k) : Pm := ⟨fun i => p.f (sw k i), fun i => sw k (p.g i), fun i => by simp only [sw_sw hk, p.fg], fun i => by simp only [p.gf, sw_sw hk]⟩
def behind (p : Pm) (k : Nat) (hk : 1 ≤ k) : Pm := ⟨fun i => sw k (p.f i), fun i => p.g (sw k i), fun i => by simp only [p.fg, sw_sw hk], fun i => by simp only [sw_sw hk, p.gf]⟩
def one : Pm := ⟨id, id, fun _ => rfl, fun _ => rfl⟩
/-- k is a letter with which q can begin; with which p can end. -/
def start (k : Nat) (q : Pm) : Prop := q.f k < q.f (k - 1)
def fin (k : Nat) (p : Pm) : Prop := p.g k < p.g (k - 1)
instance (k : Nat) (p : Pm) : Decidable (start k p) := by unfold start; infer_instance
instance (k : Nat) (p : Pm) : Decidable (fin k p) := by unfold fin; infer_instance
/-- It moves nothing from n on. -/
def On (n : Nat) (p : Pm) : Prop := ∀ i, n ≤ i → p.f i = i
theorem On.g {n : Nat} {p : Pm} (h : On n p) {i : Nat} (hi : n ≤ i) : p.g i = i := by
  have h1 := congrArg p.g (h i hi)
  rw [p.gf] at h1
  exact h1.symm
theorem On.lt {n : Nat} {p : Pm} (h : On n p) {i : Nat} (hi : i < n) : p.f i < n := by
  rcases Nat.lt_or_ge (p.f i) n with h1 | h1
  · exact h1
  · have h2 := p.f_inj (h _ h1)
    omega
theorem On.glt {n : Nat} {p : Pm} (h : On n p) {i : Nat} (hi : i < n) : p.g i < n := by
  rcases Nat.lt_or_ge (p.g i) n with h1 | h1
  · exact h1
  · have h2 := h _ h1
    rw [p.fg] at h2
    omega
theorem on_one (n : Nat) : On n one := fun _ _ => rfl
theorem On.before {n k : Nat} {p : Pm} (h : On n p) (hk : 1 ≤ k) (hn : k < n) : On n (p.before k hk) := fun i hi => by
  show p.f (sw k i) = i
  rw [sw_o (by omega) (by omega)]
  exact h i hi
theorem On.behind {n k : Nat} {p : Pm} (h : On n p) (hk : 1 ≤ k) (hn : k < n) : On n (p.behind k hk) := fun i hi => by
  show sw k (p.f i) = i
  rw [h i hi, sw_o (by omega) (by omega)]
/-- Without a letter to begin with it is the identity. -/
theorem one_of {n : Nat} {p : Pm} (h : On n p) (hs : ∀ k, 1 ≤ k → k < n → ¬ start k p) : p = one := by
  have hm : ∀ i, i + 1 < n → p.f i < p.f (i + 1) := fun i hi => by
    have h1 := hs (i + 1) (by omega) hi
    unfold start at h1
    rw [Nat.add_sub_cancel] at h1
    rcases Nat.lt_or_ge (p.f i) (p.f (i + 1)) with h2 | h2
    · exact h2
    · have h3 : p.f (i + 1) = p.f i := by omega
      have := p.f_inj h3
      omega
  have hge : ∀ i, i < n → i ≤ p.f i := by
    intro i
    induction i with
    | zero => intro _; omega
    | succ i ih => intro hi; have := ih (by omega); have := hm i hi; omega
  have hle : ∀ d i, i + d + 1 = n → p.f i ≤ i := by
    intro d
    induction d with
    | zero => intro i hi; have := h.lt (show i < n by omega); omega
    | succ d ih => intro i hi; have := ih (i + 1) (by omega); have := hm i (by omega); omega
  refine ext' fun i => ?_
  show p.f i = i
  rcases Nat.lt_or_ge i n with hi | hi
  · have := hge i hi; have := hle (n - i - 1) i (by omega); omega
  · exact h i hi
/-- The half twist. -/
def dl (n i : Nat) : Nat := if i < n then n - 1 - i else i
theorem dl_dl (n i : Nat) : dl n (dl n i) = i := by unfold dl; split <;> (try split) <;> omega
def half (n : Nat) : Pm := ⟨dl n, dl n, dl_dl n, dl_dl n⟩
def flip (n : Nat) (p : Pm) : Pm := ⟨fun i => dl n (p.f (dl n i)), fun i => dl n (p.g (dl n i)), fun i => by simp only [dl_dl, p.fg], fun i => by simp only [dl_dl, p.gf]⟩
theorem flip_flip (n : Nat) (p : Pm) : flip n (flip n p) = p := ext' fun i => by show dl n (dl n (p.f (dl n (dl n i)))) = p.f i; rw [dl_dl, dl_dl]
theorem on_half (n : Nat) : On n (half n) := fun i hi => by show dl n i = i; unfold dl; rw [if_neg (by omega)]
theorem On.flip {n : Nat} {p : Pm} (h : On n p) : On n (flip n p) := fun i hi => by
  show dl n (p.f (dl n i)) = i
  rw [on_half n i hi |> (fun e : dl n i = i => e), h i hi]
  exact on_half n i hi
theorem dl_lt {n i : Nat} (h : i < n) : dl n i = n - 1 - i := by unfold dl; rw [if_pos h]
theorem half_start {n k : Nat} (hk : 1 ≤ k) (hn : k < n) : start k (half n) := by
  show dl n k < dl n (k - 1)
  rw [dl_lt hn, dl_lt (by omega)]; omega
theorem half_fin {n k : Nat} (hk : 1 ≤ k) (hn : k < n) : fin k (half n) := half_start hk hn
theorem one_start (k : Nat) (hk : 1 ≤ k) : ¬ start k one := by show ¬ (k < k - 1); omega
theorem one_fin (k : Nat) (hk : 1 ≤ k) : ¬ fin k one := one_start k hk
/-- What ends with every letter is the half twist. -/
theorem half_of {n : Nat} {p : Pm} (h : On n p) (hs : ∀ k, 1 ≤ k → k < n → fin k p) : p = half n := by
  -- p.g read backwards is the identity
  have h1 : (⟨fun i => p.g (dl n i), fun i => dl n (p.f i), fun i => by simp only [dl_dl, p.gf], fun i => by simp only [p.fg, dl_dl]⟩ : Pm) = one := by
    refine one_of (n := n) (fun i hi => ?_) (fun k hk hn => ?_)
    · show p.g (dl n i) = i
      have e : dl n i = i := on_half n i hi
      rw [e, h.g hi]
    · show ¬ (p.g (dl n k) < p.g (dl n (k - 1)))
      have h2 := hs (n - k) (by omega) (by omega)
      unfold fin at h2
      rw [dl_lt hn, dl_lt (by omega)]
      have e1 : n - 1 - k = n - k - 1 := by omega
      have e2 : n - 1 - (k - 1) = n - k := by omega
      rw [e1, e2]
      omega
  refine ext' fun i => ?_
  have h2 := congrArg Pm.g h1
  have h3 := congrFun h2 i
  have h4 : dl n (p.f i) = i := h3
  have h5 := congrArg (dl n) h4
  rw [dl_dl] at h5
  exact h5

/-! ### Letters and moves -/
theorem fin_before {k l : Nat} {q : Pm} (hk : 1 ≤ k) (hl : 1 ≤ l) (hs : start k q) (hf : fin l (q.before k hk)) : fin l q := by
  unfold fin at hf ⊢
  have hf' : sw k (q.g l) < sw k (q.g (l - 1)) := hf
  unfold start at hs
  by_cases h1 : q.g (l - 1) = k - 1 ∧ q.g l = k
  · obtain ⟨a, b⟩ := h1
    have ea : q.f (k - 1) = l - 1 := by rw [← a, q.fg]
    have eb : q.f k = l := by rw [← b, q.fg]
    omega
  · have hne : q.g l ≠ q.g (l - 1) := fun e => by have := q.g_inj e; omega
    unfold sw at hf'
    split at hf' <;> (try split at hf') <;> (try split at hf') <;> (try split at hf') <;> omega
theorem start_behind {k l : Nat} {q : Pm} (hk : 1 ≤ k) (hl : 1 ≤ l) (hs : start k q) (hf : ¬ fin l q) : start k (q.behind l hl) := by
  unfold start at hs ⊢
  show sw l (q.f k) < sw l (q.f (k - 1))
  unfold fin at hf
  by_cases h1 : q.f k = l - 1 ∧ q.f (k - 1) = l
  · obtain ⟨a, b⟩ := h1
    have ea : q.g (l - 1) = k := by rw [← a, q.gf]
    have eb : q.g l = k - 1 := by rw [← b, q.gf]
    omega
  · unfold sw
    split <;> (try split) <;> (try split) <;> (try split) <;> omega
end Pm

/-- One letter moves from a factor to the one before it. -/
inductive Mv (n : Nat) : List Pm → List Pm → Prop
  | here {p q : Pm} {L : List Pm} (k : Nat) (hk : 1 ≤ k) (hn : k < n) (hs : q.start k) (hf : ¬ p.fin k) : Mv n (p :: q :: L) (p.behind k hk :: q.before k hk :: L)
  | cons {p : Pm} {L L' : List Pm} (h : Mv n L L') : Mv n (p :: L) (p :: L')
inductive Rch (n : Nat) : List Pm → List Pm → Prop
  | refl {L : List Pm} : Rch n L L
  | head {L L1 L2 : List Pm} (h : Mv n L L1) (h2 : Rch n L1 L2) : Rch n L L2
namespace Rch
variable {n : Nat} {L L1 L2 L3 : List Pm}
theorem one (h : Mv n L L1) : Rch n L L1 := .head h .refl
theorem trans (h : Rch n L1 L2) (k : Rch n L2 L3) : Rch n L1 L3 := by
  induction h with
  | refl => exact k
  | head h _ ih => exact .head h (ih k)
theorem cons (p : Pm) (h : Rch n L1 L2) : Rch n (p :: L1) (p :: L2) := by
  induction h with
  | refl => exact .refl
  | head h _ ih => exact .head (.cons h) ih
theorem appL (A : List Pm) (h : Rch n L1 L2) : Rch n (A ++ L1) (A ++ L2) := by
  induction A with
  | nil => exact h
  | cons a A ih => exact ih.cons a
theorem _root_.Go.Proofs.YtccdnmafakaleaaGreatDoor.Mv.appR (h : Mv n L1 L2) (B : List Pm) : Mv n (L1 ++ B) (L2 ++ B) := by
  induction h with
  | here k hk hn hs hf => exact .here k hk hn hs hf
  | cons _ ih => exact .cons ih
theorem appR (h : Rch n L1 L2) (B : List Pm) : Rch n (L1 ++ B) (L2 ++ B) := by
  induction h with
  | refl => exact .refl
  | head h _ ih => exact .head (h.appR B) ih
end Rch
/-- No letter can move. -/
def Sett (n : Nat) (L : List Pm) : Prop := ∀ L', ¬ Mv n L L'
theorem sett_nil (n : Nat) : Sett n [] := fun L' h => by cases h
theorem sett_single (n : Nat) (p : Pm) : Sett n [p] := fun L' h => by
  cases h with
  | cons h => cases h
theorem sett_cons {n : Nat} {p q : Pm} {L : List Pm} : Sett n (p :: q :: L) ↔ (∀ k, 1 ≤ k → k < n → q.start k → p.fin k) ∧ Sett n (q :: L) := by
  constructor
  · intro h
    exact ⟨fun k hk hn hs => Classical.byContradiction fun hf => h _ (.here k hk hn hs hf), fun L' hm => h _ (.cons hm)⟩
  · rintro ⟨h1, h2⟩ L' hm
    cases hm with
    | here k hk hn hs hf => exact hf (h1 k hk hn hs)
    | cons hm => exact h2 _ hm
def AllOn (n : Nat) (L : List Pm) : Prop := ∀ p ∈ L, p.On n
theorem AllOn.mv {n : Nat} {L L' : List Pm} (h : AllOn n L) (hm : Mv n L L') : AllOn n L' := by
  induction hm with
  | here k hk hn hs hf =>
    intro p hp
    rcases List.mem_cons.1 hp with rfl | hp
    · exact (h _ List.mem_cons_self).behind hk hn
    · rcases List.mem_cons.1 hp with rfl | hp
      · exact (h _ (by simp)).before hk hn
      · exact h p (by simp [hp])
  | cons hm ih =>
    intro p hp
    rcases List.mem_cons.1 hp with rfl | hp
    · exact h _ List.mem_cons_self
    · exact ih (fun q hq => h q (List.mem_cons_of_mem _ hq)) p hp
theorem AllOn.rch {n : Nat} {L L' : List Pm} (h : AllOn n L) (hm : Rch n L L') : AllOn n L' := by
  induction hm with
  | refl => exact h
  | head hm _ ih => exact ih (h.mv hm)

/-! ### A measure -/
def phi (n : Nat) (p : Pm) : Nat := ((List.range n).map fun i => i * p.f i).sum
theorem sum_range_succ (F : Nat → Nat) (n : Nat) : ((List.range (n + 1)).map F).sum = ((List.range n).map F).sum + F n := by
  rw [List.range_succ, List.map_append, List.sum_append]; simp
theorem sum_same {F G : Nat → Nat} : ∀ n, (∀ i, i < n → F i = G i) → ((List.range n).map F).sum = ((List.range n).map G).sum
  | 0, _ => rfl
  | n + 1, h => by rw [sum_range_succ, sum_range_succ, sum_same n (fun i hi => h i (by omega)), h n (by omega)]
theorem sum_two {F G : Nat → Nat} {k : Nat} (hk : 1 ≤ k) : ∀ n, k < n → (∀ i, i ≠ k → i + 1 ≠ k → F i = G i) →
    ((List.range n).map F).sum + G (k - 1) + G k = ((List.range n).map G).sum + F (k - 1) + F k
  | 0, h, _ => by omega
  | n + 1, h, hFG => by
    rw [sum_range_succ, sum_range_succ]
    by_cases hkn : k = n
    · subst hkn
      obtain ⟨j, rfl⟩ : ∃ j, k = j + 1 := ⟨k - 1, by omega⟩
      rw [sum_range_succ, sum_range_succ, sum_same j (fun i hi => hFG i (by omega) (by omega))]
      simp only [Nat.add_sub_cancel]
      omega
    · have ih := sum_two hk n (by omega) hFG
      have := hFG n (by omega) (by omega)
      omega
theorem phi_before {n k : Nat} {q : Pm} (hk : 1 ≤ k) (hn : k < n) (hs : q.start k) : phi n q < phi n (q.before k hk) := by
  have h := sum_two (F := fun i => i * (q.before k hk).f i) (G := fun i => i * q.f i) hk n hn (fun i h1 h2 => by
    show i * q.f (Pm.sw k i) = i * q.f i
    rw [Pm.sw_o h1 h2])
  have e1 : (q.before k hk).f (k - 1) = q.f k := by show q.f (Pm.sw k (k - 1)) = q.f k; rw [Pm.sw_l hk]
  have e2 : (q.before k hk).f k = q.f (k - 1) := by show q.f (Pm.sw k k) = q.f (k - 1); rw [Pm.sw_r]
  simp only [e1, e2] at h
  unfold Pm.start at hs
  unfold phi
  obtain ⟨j, rfl⟩ : ∃ j, k = j + 1 := ⟨k - 1, by omega⟩
  simp only [Nat.add_sub_cancel, Nat.add_mul, Nat.one_mul] at h hs ⊢
  have : j * q.f (j + 1) + (j + 1) * q.f j ≤ j * q.f (j + 1) + (j + 1) * q.f j := Nat.le_refl _
  omega
def big (n : Nat) : Nat := n * (n * n) + 1
theorem phi_lt {n : Nat} {p : Pm} (h : p.On n) : phi n p < big n := by
  have : ∀ m, m ≤ n → ((List.range m).map fun i => i * p.f i).sum ≤ m * (n * n) := by
    intro m
    induction m with
    | zero => intro _; simp
    | succ m ih =>
      intro hm
      rw [sum_range_succ, Nat.succ_mul]
      have h1 := ih (by omega)
      have h2 : m * p.f m ≤ n * n := Nat.mul_le_mul (by omega) (by have := h.lt (show m < n by omega); omega)
      omega
  have h1 := this n (Nat.le_refl _)
  unfold phi big
  omega
def mes (n : Nat) : List Pm → Nat
  | [] => 0
  | p :: L => (big n - phi n p) + (big n + 1) * mes n L
theorem mes_mv {n : Nat} {L L' : List Pm} (h : AllOn n L) (hm : Mv n L L') : mes n L' < mes n L := by
  induction hm with
  | here k hk hn hs hf =>
    rename_i p q L
    have h1 := phi_before hk hn hs
    have h2 := phi_lt ((h q (by simp)).before hk hn)
    simp only [mes]
    have h3 : big n - phi n (q.before k hk) + 1 ≤ big n - phi n q := by omega
    have h4 : (big n + 1) * ((big n - phi n (q.before k hk)) + (big n + 1) * mes n L) + (big n + 1) ≤ (big n + 1) * ((big n - phi n q) + (big n + 1) * mes n L) := by
      have : (big n + 1) * (((big n - phi n (q.before k hk)) + (big n + 1) * mes n L) + 1) ≤ (big n + 1) * ((big n - phi n q) + (big n + 1) * mes n L) := Nat.mul_le_mul_left _ (by omega)
      rw [Nat.mul_add _ _ 1, Nat.mul_one] at this
      exact this
    omega
  | cons hm ih =>
    rename_i p L L'
    have h1 := ih (fun q hq => h q (List.mem_cons_of_mem _ hq))
    simp only [mes]
    have : (big n + 1) * mes n L' < (big n + 1) * mes n L := Nat.mul_lt_mul_of_pos_left h1 (by unfold big; omega)
    omega
/-- All moves end. -/
theorem sett_ex {n : Nat} : ∀ (m : Nat) (L : List Pm), mes n L ≤ m → AllOn n L → ∃ N, Rch n L N ∧ Sett n N := by
  intro m
  induction m with
  | zero =>
    intro L hm h
    refine ⟨L, .refl, fun L' h' => ?_⟩
    have := mes_mv h h'
    omega
  | succ m ih =>
    intro L hm h
    by_cases hs : Sett n L
    · exact ⟨L, .refl, hs⟩
    · obtain ⟨L', h'⟩ : ∃ L', Mv n L L' := Classical.byContradiction fun hn => hs fun L' h' => hn ⟨L', h'⟩
      obtain ⟨N, h1, h2⟩ := ih L' (by have := mes_mv h h'; omega) (h.mv h')
      exact ⟨N, .head h' h1, h2⟩

/-! ### Two moves meet again -/
open Pm in
theorem join_same {n k l : Nat} {p q : Pm} {L : List Pm} (hk : 1 ≤ k) (hkn : k < n) (hks : q.start k) (hkf : ¬ p.fin k) (hl : 1 ≤ l) (hln : l < n) (hls : q.start l) (hlf : ¬ p.fin l) (hkl : k < l) :
    ∃ J, Rch n (p.behind k hk :: q.before k hk :: L) J ∧ Rch n (p.behind l hl :: q.before l hl :: L) J := by
  unfold Pm.start at hks hls
  unfold Pm.fin at hkf hlf
  have hpk : p.g (k - 1) < p.g k := by
    rcases Nat.lt_or_ge (p.g (k - 1)) (p.g k) with h | h
    · exact h
    · have : p.g k = p.g (k - 1) := by omega
      have := p.g_inj this
      omega
  have hpl : p.g (l - 1) < p.g l := by
    rcases Nat.lt_or_ge (p.g (l - 1)) (p.g l) with h | h
    · exact h
    · have : p.g l = p.g (l - 1) := by omega
      have := p.g_inj this
      omega
  by_cases h2 : k + 1 < l
  · -- the letters lie apart
    refine ⟨(p.behind k hk).behind l hl :: (q.before k hk).before l hl :: L, .one (.here l hl hln ?_ ?_), ?_⟩
    · show q.f (sw k l) < q.f (sw k (l - 1))
      rw [sw_o (by omega) (by omega), sw_o (by omega) (by omega)]
      exact hls
    · show ¬ (p.g (sw k l) < p.g (sw k (l - 1)))
      rw [sw_o (by omega) (by omega), sw_o (by omega) (by omega)]
      omega
    · have e1 : (p.behind k hk).behind l hl = (p.behind l hl).behind k hk := ext' fun i => by
        show sw l (sw k (p.f i)) = sw k (sw l (p.f i))
        unfold sw
        split <;> (try split) <;> (try split) <;> (try split) <;> (try split) <;> (try split) <;> omega
      have e2 : (q.before k hk).before l hl = (q.before l hl).before k hk := ext' fun i => by
        show q.f (sw k (sw l i)) = q.f (sw l (sw k i))
        congr 1
        unfold sw
        split <;> (try split) <;> (try split) <;> (try split) <;> (try split) <;> (try split) <;> omega
      rw [e1, e2]
      refine .one (.here k hk hkn ?_ ?_)
      · show q.f (sw l k) < q.f (sw l (k - 1))
        rw [sw_o (by omega) (by omega), sw_o (by omega) (by omega)]
        exact hks
      · show ¬ (p.g (sw l k) < p.g (sw l (k - 1)))
        rw [sw_o (by omega) (by omega), sw_o (by omega) (by omega)]
        omega
  · -- neighbours
    obtain rfl : l = k + 1 := by omega
    simp only [Nat.add_sub_cancel] at hls hpl
    have a1 : sw k (k + 1) = k + 1 := sw_o (by omega) (by omega)
    have a2 : sw k k = k - 1 := sw_r k
    have a3 : sw k (k - 1) = k := sw_l hk
    have b1 : sw (k + 1) (k + 1) = k := sw_r (k + 1)
    have b2 : sw (k + 1) k = k + 1 := sw_l hl
    have b3 : sw (k + 1) (k - 1) = k - 1 := sw_o (by omega) (by omega)
    refine ⟨((p.behind k hk).behind (k + 1) hl).behind k hk :: ((q.before k hk).before (k + 1) hl).before k hk :: L, ?_, ?_⟩
    · refine .head (.here (k + 1) hl hln ?_ ?_) (.one (.here k hk hkn ?_ ?_))
      · show q.f (sw k (k + 1)) < q.f (sw k (k + 1 - 1))
        rw [Nat.add_sub_cancel, a1, a2]; omega
      · show ¬ (p.g (sw k (k + 1)) < p.g (sw k (k + 1 - 1)))
        rw [Nat.add_sub_cancel, a1, a2]; omega
      · show q.f (sw k (sw (k + 1) k)) < q.f (sw k (sw (k + 1) (k - 1)))
        rw [b2, b3, a1, a3]; omega
      · show ¬ (p.g (sw k (sw (k + 1) k)) < p.g (sw k (sw (k + 1) (k - 1))))
        rw [b2, b3, a1, a3]; omega
    · have e1 : ((p.behind k hk).behind (k + 1) hl).behind k hk = ((p.behind (k + 1) hl).behind k hk).behind (k + 1) hl := ext' fun i => by
        show sw k (sw (k + 1) (sw k (p.f i))) = sw (k + 1) (sw k (sw (k + 1) (p.f i)))
        generalize p.f i = x
        rcases Nat.lt_trichotomy x (k - 1) with h | h | h
        · rw [sw_o (k := k) (i := x) (by omega) (by omega), sw_o (k := k + 1) (i := x) (by omega) (by omega), sw_o (k := k) (i := x) (by omega) (by omega), sw_o (k := k + 1) (i := x) (by omega) (by omega)]
        · subst h; rw [a3, b2, a1, b3, a3, b2]
        · by_cases h3 : x = k
          · subst h3; rw [a2, b3, a3, b2, a1, b1]
          · by_cases h4 : x = k + 1
            · subst h4; rw [a1, b1, a2, b3]
            · rw [sw_o (k := k) (i := x) (by omega) (by omega), sw_o (k := k + 1) (i := x) (by omega) (by omega), sw_o (k := k) (i := x) (by omega) (by omega), sw_o (k := k + 1) (i := x) (by omega) (by omega)]
      have e2 : ((q.before k hk).before (k + 1) hl).before k hk = ((q.before (k + 1) hl).before k hk).before (k + 1) hl := ext' fun i => by
        show q.f (sw k (sw (k + 1) (sw k i))) = q.f (sw (k + 1) (sw k (sw (k + 1) i)))
        congr 1
        generalize i = x
        rcases Nat.lt_trichotomy x (k - 1) with h | h | h
        · rw [sw_o (k := k) (i := x) (by omega) (by omega), sw_o (k := k + 1) (i := x) (by omega) (by omega), sw_o (k := k) (i := x) (by omega) (by omega), sw_o (k := k + 1) (i := x) (by omega) (by omega)]
        · subst h; rw [a3, b2, a1, b3, a3, b2]
        · by_cases h3 : x = k
          · subst h3; rw [a2, b3, a3, b2, a1, b1]
          · by_cases h4 : x = k + 1
            · subst h4; rw [a1, b1, a2, b3]
            · rw [sw_o (k := k) (i := x) (by omega) (by omega), sw_o (k := k + 1) (i := x) (by omega) (by omega), sw_o (k := k) (i := x) (by omega) (by omega), sw_o (k := k + 1) (i := x) (by omega) (by omega)]
      rw [e1, e2]
      refine .head (.here k hk hkn ?_ ?_) (.one (.here (k + 1) hl hln ?_ ?_))
      · show q.f (sw (k + 1) k) < q.f (sw (k + 1) (k - 1))
        rw [b2, b3]; omega
      · show ¬ (p.g (sw (k + 1) k) < p.g (sw (k + 1) (k - 1)))
        rw [b2, b3]; omega
      · show q.f (sw (k + 1) (sw k (k + 1))) < q.f (sw (k + 1) (sw k (k + 1 - 1)))
        rw [Nat.add_sub_cancel, a1, a2, b1, b3]; omega
      · show ¬ (p.g (sw (k + 1) (sw k (k + 1))) < p.g (sw (k + 1) (sw k (k + 1 - 1))))
        rw [Nat.add_sub_cancel, a1, a2, b1, b3]; omega
open Pm in
theorem behind_before {k l : Nat} (q : Pm) (hk : 1 ≤ k) (hl : 1 ≤ l) : (q.before k hk).behind l hl = (q.behind l hl).before k hk := rfl
open Pm in
theorem join_next {n k : Nat} {p q : Pm} {L L' : List Pm} (hk : 1 ≤ k) (hkn : k < n) (hks : q.start k) (hkf : ¬ p.fin k) (hm : Mv n (q :: L) L') :
    ∃ J, Rch n (p.behind k hk :: q.before k hk :: L) J ∧ Rch n (p :: L') J := by
  cases hm with
  | here l hl hln hls hlf =>
    rename_i r M
    refine ⟨p.behind k hk :: (q.behind l hl).before k hk :: r.before l hl :: M, ?_, .one (.here k hk hkn (start_behind hk hl hks hlf) hkf)⟩
    exact .one (.cons (.here l hl hln hls (fun h => hlf (fin_before hk hl hks h))))
  | cons hm =>
    rename_i M
    exact ⟨p.behind k hk :: q.before k hk :: M, .one (.cons (.cons hm)), .one (.here k hk hkn hks hkf)⟩
theorem join {n : Nat} {L L1 L2 : List Pm} (h1 : Mv n L L1) : Mv n L L2 → ∃ J, Rch n L1 J ∧ Rch n L2 J := by
  intro h2
  induction h1 generalizing L2 with
  | here k hk hn hs hf =>
    cases h2 with
    | here l hl hln hls hlf =>
      rcases Nat.lt_trichotomy k l with h | h | h
      · exact join_same hk hn hs hf hl hln hls hlf h
      · subst h; exact ⟨_, .refl, .refl⟩
      · obtain ⟨J, a, b⟩ := join_same hl hln hls hlf hk hn hs hf h
        exact ⟨J, b, a⟩
    | cons hm => exact join_next hk hn hs hf hm
  | cons hm ih =>
    cases h2 with
    | here l hl hln hls hlf =>
      obtain ⟨J, a, b⟩ := join_next hl hln hls hlf hm
      exact ⟨J, b, a⟩
    | cons hm2 =>
      obtain ⟨J, a, b⟩ := ih hm2
      exact ⟨_, a.cons _, b.cons _⟩
theorem sett_rch {n : Nat} {L N : List Pm} (hs : Sett n L) (h : Rch n L N) : L = N := by
  cases h with
  | refl => rfl
  | head hm _ => exact absurd hm (hs _)
/-- The end of all moves is one. -/
theorem sett_one {n : Nat} : ∀ (m : Nat) (L N1 N2 : List Pm), mes n L ≤ m → AllOn n L → Rch n L N1 → Rch n L N2 → Sett n N1 → Sett n N2 → N1 = N2 := by
  intro m
  induction m with
  | zero =>
    intro L N1 N2 hm h h1 h2 s1 s2
    have hs : Sett n L := fun L' h' => by have := mes_mv h h'; omega
    exact (sett_rch hs h1).symm.trans (sett_rch hs h2)
  | succ m ih =>
    intro L N1 N2 hm h h1 h2 s1 s2
    cases h1 with
    | refl => exact sett_rch s1 h2
    | head m1 r1 =>
      cases h2 with
      | refl => exact (sett_rch s2 (.head m1 r1)).symm
      | head m2 r2 =>
        obtain ⟨J, j1, j2⟩ := join m1 m2
        have hJ := (h.mv m1).rch j1
        obtain ⟨N, n1, n2⟩ := sett_ex (n := n) (mes n J) J (Nat.le_refl _) hJ
        have e1 := ih _ N1 N (by have := mes_mv h m1; omega) (h.mv m1) r1 (j1.trans n1) s1 n2
        have e2 := ih _ N2 N (by have := mes_mv h m2; omega) (h.mv m2) r2 (j2.trans n1) s2 n2
        rw [e1, e2]
theorem sett_uniq {n : Nat} {L N1 N2 : List Pm} (h : AllOn n L) (h1 : Rch n L N1) (h2 : Rch n L N2) (s1 : Sett n N1) (s2 : Sett n N2) : N1 = N2 := sett_one (mes n L) L N1 N2 (Nat.le_refl _) h h1 h2 s1 s2

end Go.Proofs.YtccdnmafakaleaaGreatDoor
