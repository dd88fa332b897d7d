/-
  Reading an event back: what both sides build of the words (plain).
-/
import Derived.Test.YtgkapjjolhnliaaGreatDoorRdN
import Derived.Test.YtgkapjjolhnliaaGreatDoorEvtD
namespace Go.Proofs.YtgkapjjolhnliaaGreatDoor
set_option linter.unusedVariables false
set_option linter.unusedSimpArgs false

def zE : Ev := ⟨0, 0, 0, 0, 0, 0⟩
/-- What reading a text answers. -/
def RdRes (s : List UInt8) (v : Value) : Prop :=
  (∃ e : Ev, valE 12 e = true ∧ evT e = s ∧ (∀ x, valE 12 x = true → evT x = s → x = e) ∧ v = .tuple #[e.v, .bool true]) ∨ ((∀ x, valE 12 x = true → evT x ≠ s) ∧ v = .tuple #[zE.v, .bool false])
theorem RdRes.uniq {s : List UInt8} {v u : Value} (h : RdRes s v) (h2 : RdRes s u) : v = u := by
  rcases h with ⟨e, a1, a2, a3, rfl⟩ | ⟨a1, rfl⟩ <;> rcases h2 with ⟨f, b1, b2, b3, rfl⟩ | ⟨b1, rfl⟩
  · rw [a3 f b1 b2]
  · exact absurd a2 (b1 e a1)
  · exact absurd b2 (a1 f b1)
  · rfl
theorem rd_none {s : List UInt8} (h : ∀ x, valE 12 x = true → evT x = s → False) : RdRes s (.tuple #[zE.v, .bool false]) := .inr ⟨fun x a b => h x a b, rfl⟩
theorem rd_yes {s : List UInt8} {e : Ev} (h : ∀ x, valE 12 x = true → evT x = s → x = e) (hv : valE 12 e = true) (ht : evT e = s) : RdRes s (.tuple #[e.v, .bool true]) := .inl ⟨e, hv, ht, h, rfl⟩
theorem rd_no {s : List UInt8} {e : Ev} (h : ∀ x, valE 12 x = true → evT x = s → x = e) (hn : ¬ (valE 12 e = true ∧ evT e = s)) : RdRes s (.tuple #[zE.v, .bool false]) :=
  .inr ⟨fun x a b => hn (h x a b ▸ ⟨a, b⟩), rfl⟩
theorem evT_ne (e : Ev) : evT e ≠ [] := by unfold evT wordK; repeat' split; all_goals simp
theorem tx_iff {s : List UInt8} {e : Ev} (hs : s ≠ []) : txE e = s ↔ (valE 12 e = true ∧ evT e = s) := by
  unfold txE
  split
  · rename_i h; simp [h]
  · rename_i h
    constructor
    · intro h2; exact absurd h2.symm hs
    · rintro ⟨a, b⟩; exact absurd a h
/-- The kind of a word. -/
def kwS (l : List UInt8) : Int := if l = wordK 5 then 5 else if l = wordK 4 then 4 else if l = wordK 3 then 3 else if l = wordK 2 then 2 else if l = wordK 1 then 1 else 0
theorem kwS_word {k : Int} (h1 : 1 ≤ k) (h5 : k ≤ 5) : kwS (wordK k) = k := by
  have : k = 1 ∨ k = 2 ∨ k = 3 ∨ k = 4 ∨ k = 5 := by omega
  rcases this with rfl | rfl | rfl | rfl | rfl <;> rfl
/-- What is read of a yarn's word. -/
def YarnR (l : List UInt8) (e : Ev) : Prop := (e.b = if l.getD 0 0 = 98 then 2 else 1) ∧ (e.d = if l.getD 1 0 = 45 then -1 else 1) ∧ NumR (l.drop 2) e.y
def Bare (e : Ev) : Prop := e.b = 0 ∧ e.d = 0 ∧ e.y = 0
theorem val_more {e : Ev} (h : valE 12 e = true) : (1 ≤ e.k ∧ e.k ≤ 5) ∧ (0 ≤ e.p ∧ e.p ≤ 1000) ∧ (-1000 ≤ e.c ∧ e.c ≤ 1000) ∧ (e.k = 3 → e.c = 0) ∧ ((e.k = 1 ∨ e.k = 4) → e.b = 0 ∧ e.y = 0 ∧ e.d = 0) ∧
    ((e.k = 2 ∨ e.k = 3 ∨ e.k = 5) → (e.b = 1 ∨ e.b = 2) ∧ (1 ≤ e.y ∧ e.y ≤ 4) ∧ (e.d = 1 ∨ e.d = -1)) := by
  obtain ⟨k, p, c, b, y, d⟩ := e
  unfold valE at h
  simp only [Bool.and_eq_true, decide_eq_true_eq] at h
  obtain ⟨h0, h⟩ := h
  by_cases k1 : k = 1
  · simp [k1] at h ⊢
    omega
  by_cases k2 : k = 2
  · simp [k2, stitB, stit3, bedB, yarnB, dirB] at h ⊢
    omega
  by_cases k3 : k = 3
  · simp [k3, stitB, stit3, bedB, yarnB, dirB] at h ⊢
    omega
  by_cases k4 : k = 4
  · simp [k4] at h ⊢
    omega
  by_cases k5 : k = 5
  · simp [k5, stitB, stit3, bedB, yarnB, dirB] at h ⊢
    obtain ⟨h1, h2, h3⟩ := h
    by_cases hb : b = 1
    · rw [if_pos hb] at h3
      omega
    · rw [if_neg hb] at h3
      omega
  simp [k1, k2, k3, k4, k5] at h
theorem yarn_back {x : Ev} {e : Ev} (h : YarnR (yarnT x) e) (hb : x.b = 1 ∨ x.b = 2) (hy : 1 ≤ x.y ∧ x.y ≤ 4) (hd : x.d = 1 ∨ x.d = -1) : e.b = x.b ∧ e.d = x.d ∧ e.y = x.y := by
  obtain ⟨h1, h2, h3⟩ := h
  have h4 := h3.eq x.y (by omega) (by omega) (by simp [yarnT])
  refine ⟨?_, ?_, h4⟩
  · rw [h1]
    rcases hb with q | q <;> simp [yarnT, q]
  · rw [h2]
    rcases hd with q | q <;> simp [yarnT, q]
theorem yarn_long (x : Ev) : 3 ≤ (yarnT x).length := by
  have : 1 ≤ (Lib.itoa x.y).length := by
    unfold Lib.itoa
    split
    · simp
    · rw [Lib.decDigits]; split <;> simp
  unfold yarnT
  simp
  omega
/-- The words of a valid event. -/
theorem evW_cases {x : Ev} (h : valE 12 x = true) : ((x.k = 1 ∨ x.k = 4) ∧ evW x = [wordK x.k, Lib.itoa x.p, Lib.itoa x.c]) ∨ (x.k = 3 ∧ evW x = [wordK x.k, Lib.itoa x.p, yarnT x]) ∨ ((x.k = 2 ∨ x.k = 5) ∧ evW x = [wordK x.k, Lib.itoa x.p, Lib.itoa x.c, yarnT x]) := by
  obtain ⟨hk, -, -, -, h1, h2⟩ := val_more h
  unfold evW
  by_cases a : x.k = 1 ∨ x.k = 4
  · obtain ⟨-, hy, -⟩ := h1 a
    refine .inl ⟨a, ?_⟩
    rw [if_neg (by omega), if_pos hy]
    rfl
  · obtain ⟨-, hy, -⟩ := h2 (by omega)
    by_cases b : x.k = 3
    · refine .inr (.inl ⟨b, ?_⟩)
      rw [if_pos b, if_neg (by omega)]
      rfl
    · refine .inr (.inr ⟨by omega, ?_⟩)
      rw [if_neg b, if_neg (by omega)]
      rfl
theorem ev_ext {x e : Ev} (h1 : e.k = x.k) (h2 : e.p = x.p) (h3 : e.c = x.c) (h4 : e.b = x.b) (h5 : e.y = x.y) (h6 : e.d = x.d) : x = e := by
  cases x; cases e; simp_all
/-- What the reference builds of the words. -/
structure BuiltS (ws : List (List UInt8)) (e : Ev) : Prop where
  k : e.k = kwS (ws.getD 0 [])
  p : NumR (ws.getD 1 []) e.p
  c : (e.k ≠ 3 ∧ NumR (ws.getD 2 []) e.c) ∨ (e.k = 3 ∧ e.c = 0)
  y : ((e.k ≠ 1 ∧ e.k ≠ 4 ∧ 2 < (ws.getD (ws.length - 1) []).length) ∧ YarnR (ws.getD (ws.length - 1) []) e) ∨ (¬ (e.k ≠ 1 ∧ e.k ≠ 4 ∧ 2 < (ws.getD (ws.length - 1) []).length) ∧ Bare e)
theorem built_spec {x e : Ev} (hv : valE 12 x = true) (h : BuiltS (evW x) e) : x = e := by
  obtain ⟨hk, hp, hc, hc3, hb, hy⟩ := val_more hv
  obtain ⟨a1, a2, a3, a4⟩ := h
  have hl := yarn_long x
  rcases evW_cases hv with ⟨q, r⟩ | ⟨q, r⟩ | ⟨q, r⟩
  all_goals
    rw [r] at a1 a2 a3 a4
    simp only [List.getD_cons_zero, List.getD_cons_succ, List.length_cons, List.length_nil, Nat.zero_add, Nat.reduceAdd, Nat.reduceSub] at a1 a2 a3 a4
    rw [kwS_word hk.1 hk.2] at a1
    have a2 := a2.eq x.p (by omega) (by omega) rfl
  · obtain ⟨b1, b2, b3⟩ := hb q
    rcases a3 with ⟨_, a3⟩ | ⟨c3, _⟩
    · have a3 := a3.eq x.c (by omega) (by omega) rfl
      rcases a4 with ⟨⟨c1, c2, _⟩, _⟩ | ⟨_, d1, d2, d3⟩
      · omega
      · exact ev_ext a1 a2 a3 (by omega) (by omega) (by omega)
    · omega
  · obtain ⟨b1, b2, b3⟩ := hy (by omega)
    rcases a3 with ⟨c3, _⟩ | ⟨_, a3⟩
    · omega
    · rcases a4 with ⟨_, a4⟩ | ⟨c4, _⟩
      · obtain ⟨d1, d2, d3⟩ := yarn_back a4 b1 b2 b3
        exact ev_ext a1 a2 (by rw [a3, hc3 q]) d1 d3 d2
      · exact absurd ⟨by omega, by omega, by omega⟩ c4
  · obtain ⟨b1, b2, b3⟩ := hy (by omega)
    rcases a3 with ⟨_, a3⟩ | ⟨c3, _⟩
    · have a3 := a3.eq x.c (by omega) (by omega) rfl
      rcases a4 with ⟨_, a4⟩ | ⟨c4, _⟩
      · obtain ⟨d1, d2, d3⟩ := yarn_back a4 b1 b2 b3
        exact ev_ext a1 a2 a3 d1 d3 d2
      · exact absurd ⟨by omega, by omega, by omega⟩ c4
    · omega
/-- What the program builds of the words. -/
structure BuiltI (ws : List (List UInt8)) (e : Ev) : Prop where
  k : e.k = kwS (ws.getD 0 [])
  p : NumR (ws.getD 1 []) e.p
  c : ((e.k ≠ 3 ∧ 2 < ws.length) ∧ NumR (ws.getD 2 []) e.c ∧ ((3 < ws.length ∧ 3 ≤ (ws.getD 3 []).length ∧ YarnR (ws.getD 3 []) e) ∨ (¬ (3 < ws.length ∧ 3 ≤ (ws.getD 3 []).length) ∧ Bare e))) ∨
    (¬ (e.k ≠ 3 ∧ 2 < ws.length) ∧ e.c = 0 ∧ ((2 < ws.length ∧ 3 ≤ (ws.getD 2 []).length ∧ YarnR (ws.getD 2 []) e) ∨ (¬ (2 < ws.length ∧ 3 ≤ (ws.getD 2 []).length) ∧ Bare e)))
theorem built_impl {x e : Ev} (hv : valE 12 x = true) (h : BuiltI (evW x) e) : x = e := by
  obtain ⟨hk, hp, hc, hc3, hb, hy⟩ := val_more hv
  obtain ⟨a1, a2, a3⟩ := h
  have hl := yarn_long x
  rcases evW_cases hv with ⟨q, r⟩ | ⟨q, r⟩ | ⟨q, r⟩
  all_goals
    rw [r] at a1 a2 a3
    simp only [List.getD_cons_zero, List.getD_cons_succ, List.length_cons, List.length_nil, Nat.zero_add, Nat.reduceAdd, Nat.reduceSub] at a1 a2 a3
    rw [kwS_word hk.1 hk.2] at a1
    have a2 := a2.eq x.p (by omega) (by omega) rfl
  · obtain ⟨b1, b2, b3⟩ := hb q
    rcases a3 with ⟨_, a3, a4⟩ | ⟨c3, _⟩
    · have a3 := a3.eq x.c (by omega) (by omega) rfl
      rcases a4 with ⟨c1, _⟩ | ⟨_, d1, d2, d3⟩
      · omega
      · exact ev_ext a1 a2 a3 (by omega) (by omega) (by omega)
    · exact absurd ⟨by omega, by omega⟩ c3
  · obtain ⟨b1, b2, b3⟩ := hy (by omega)
    rcases a3 with ⟨⟨c3, _⟩, _⟩ | ⟨_, a3, a4⟩
    · omega
    · rcases a4 with ⟨_, _, a4⟩ | ⟨c4, _⟩
      · obtain ⟨d1, d2, d3⟩ := yarn_back a4 b1 b2 b3
        exact ev_ext a1 a2 (by rw [a3, hc3 q]) d1 d3 d2
      · exact absurd ⟨by omega, by omega⟩ c4
  · obtain ⟨b1, b2, b3⟩ := hy (by omega)
    rcases a3 with ⟨_, a3, a4⟩ | ⟨c3, _⟩
    · have a3 := a3.eq x.c (by omega) (by omega) rfl
      rcases a4 with ⟨_, _, a4⟩ | ⟨c4, _⟩
      · obtain ⟨d1, d2, d3⟩ := yarn_back a4 b1 b2 b3
        exact ev_ext a1 a2 a3 d1 d3 d2
      · exact absurd ⟨by omega, by omega⟩ c4
    · exact absurd ⟨by omega, by omega⟩ c3
theorem evW_ne {x : Ev} (h : valE 12 x = true) : ∀ l ∈ evW x, l ≠ [] := by
  have h1 : ∀ k, wordK k ≠ [] := by intro k; unfold wordK; split; simp; split; simp; split; simp; split <;> simp
  have h2 : ∀ n, Lib.itoa n ≠ [] := by
    intro n
    unfold Lib.itoa
    split
    · simp
    · rw [Lib.decDigits]; split <;> simp
  have h3 : yarnT x ≠ [] := by simp [yarnT]
  intro l hl
  rcases evW_cases h with ⟨_, r⟩ | ⟨_, r⟩ | ⟨_, r⟩
  all_goals
    rw [r] at hl
    simp only [List.mem_cons, List.not_mem_nil, or_false] at hl
  · rcases hl with rfl | rfl | rfl <;> simp_all
  · rcases hl with rfl | rfl | rfl <;> simp_all
  · rcases hl with rfl | rfl | rfl | rfl <;> simp_all
/-- The program's words: without those that are empty. -/
def fW (s : List UInt8) : List (List UInt8) := (splA 32 [] s).filter (fun l => !l.isEmpty)
theorem fW_evT {x : Ev} (h : valE 12 x = true) : fW (evT x) = evW x := by
  unfold fW
  rw [spl_evT, List.filter_eq_self]
  intro l hl
  have := evW_ne h l hl
  cases l with
  | nil => exact absurd rfl this
  | cons a b => rfl

end Go.Proofs.YtgkapjjolhnliaaGreatDoor
