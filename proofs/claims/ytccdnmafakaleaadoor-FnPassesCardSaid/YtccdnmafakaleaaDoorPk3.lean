/-
  Texts joined: PsI, PsT, PsU.
-/
import Derived.Test.YtccdnmafakaleaaDoorPk2
import Derived.Test.YtccdnmafakaleaaDoorBx0
import Derived.Deep.CutRange
import Derived.Deep.DeepCutAuto
import Derived.Test.YtccdnmafakaleaaDoorDecI
import Derived.Test.YtccdnmafakaleaaDoorJoin
import Derived.BigQuiet
import Derived.BigCall
/-
  The passes of operations: what FnPasses asks of them (plain).
-/
namespace Go.Proofs.YtccdnmafakaleaaDoor
set_option linter.unusedVariables false
set_option linter.unusedSimpArgs false

/-- What is known of a valid operation. -/
structure OpG (o : Opr) : Prop where
  r : -3 ≤ o.r ∧ o.r ≤ 3
  y : psK o.k = 1 → (o.d = 1 ∨ o.d = -1) ∧ 1 ≤ o.c ∧ o.c ≤ 4
  z : psK o.k = 2 ∨ psK o.k = 3 → o.d = 0 ∧ o.c = 0
  g : psK o.k = 0 → o.k = 7 ∨ o.k = 8 ∨ o.k = 9
/-- A gap: operations that belong to no pass. -/
def Gap (l : List Opr) (a b : Nat) : Prop := ∀ k, a ≤ k → k < b → ∃ o, l[k]? = some o ∧ psK o.k = 0
/-- A pass and its operations. -/
structure Body (l : List Opr) (p : Pas) (f n : Nat) : Prop where
  pf : p.f = (f : Int)
  pn : p.n = (n : Int)
  n1 : 1 ≤ n
  le : f + n ≤ l.length
  rk : -3 ≤ p.r ∧ p.r ≤ 3
  kd : p.k = 1 ∨ p.k = 2 ∨ p.k = 3
  y : p.k = 1 → (p.d = 1 ∨ p.d = -1) ∧ 1 ≤ p.c ∧ p.c ≤ 4
  z : p.k ≠ 1 → p.d = 0 ∧ p.c = 0
  mono : p.k = 1 → ∀ j a b, j + 1 < n → l[f + j]? = some a → l[f + j + 1]? = some b → 0 < (plc b.fb b.fa p.r - plc a.fb a.fa p.r) * p.d
inductive Lay (l : List Opr) : List Pas → Nat → Prop
  | nil : Lay l [] 0
  | snoc {acc : List Pas} {e f n : Nat} {p : Pas} : Lay l acc e → e ≤ f → Gap l e f → Body l p f n → (∀ q, acc.getLast? = some q → e = f → q.k = p.k → p.k = 1) → Lay l (acc ++ [p]) (f + n)
theorem Lay.inv {l : List Opr} {acc : List Pas} {p : Pas} {e : Nat} (h : Lay l (acc ++ [p]) e) : ∃ a f n, e = f + n ∧ Lay l acc a ∧ a ≤ f ∧ Gap l a f ∧ Body l p f n ∧ (∀ q, acc.getLast? = some q → a = f → q.k = p.k → p.k = 1) := by
  generalize hx : acc ++ [p] = xs at h
  cases h with
  | nil => simp at hx
  | snoc h1 h2 h3 h4 h5 =>
    obtain ⟨rfl, h⟩ := List.append_inj' hx rfl
    simp at h
    subst h
    exact ⟨_, _, _, rfl, h1, h2, h3, h4, h5⟩
theorem Gap.snoc {l : List Opr} {a b : Nat} {o : Opr} (h : Gap l a b) (ho : l[b]? = some o) (hz : psK o.k = 0) : Gap l a (b + 1) := by
  intro k h1 h2
  by_cases e : k = b
  · subst e; exact ⟨o, ho, hz⟩
  · exact h k h1 (by omega)
theorem Gap.none {l : List Opr} {a : Nat} : Gap l a a := fun k h1 h2 => by omega
/-- The state of the passes at operation k. -/
def PsSt (l : List Opr) (k : Nat) (r : Int) (lt : Option Int) (acc : List Pas) : Prop :=
  -3 ≤ r ∧ r ≤ 3 ∧ ∃ e, e ≤ k ∧ Lay l acc e ∧ Gap l e k ∧
    (lt = none → acc = [] ∨ e < k) ∧
    (∀ q, lt = some q → e = k ∧ ∃ ys p o, acc = ys ++ [p] ∧ p.r = r ∧ 0 < k ∧ l[k - 1]? = some o ∧ q = plc o.fb o.fa r)
theorem body_one {l : List Opr} {k : Nat} {o : Opr} {r : Int} (ho : l[k]? = some o) (hg : OpG o) (hr : -3 ≤ r ∧ r ≤ 3) (hz : psK o.k ≠ 0) : Body l ⟨psK o.k, o.d, o.c, r, (k : Int), 1⟩ k 1 := by
  have hk := psK_cases o.k
  have hlt : k < l.length := by
    rcases Nat.lt_or_ge k l.length with h | h
    · exact h
    · rw [List.getElem?_eq_none h] at ho; cases ho
  exact ⟨rfl, rfl, Nat.le_refl _, hlt, hr, (by show psK o.k = 1 ∨ psK o.k = 2 ∨ psK o.k = 3; omega), fun h => hg.y h, fun h => hg.z (by have h9 : psK o.k ≠ 1 := h; rcases hk with hk | hk | hk | hk <;> omega), fun _ j a b hj => by omega⟩
theorem PsSt.push {l : List Opr} {k e : Nat} {r : Int} {acc : List Pas} {o : Opr} (ho : l[k]? = some o) (hg : OpG o) (hr : -3 ≤ r ∧ r ≤ 3) (hz : psK o.k ≠ 0) (hek : e ≤ k) (hl : Lay l acc e) (hgap : Gap l e k) (hc : ∀ q, acc.getLast? = some q → e = k → q.k = psK o.k → psK o.k = 1) :
    PsSt l (k + 1) r (some (plc o.fb o.fa r)) (psPush k r acc o) :=
  ⟨hr.1, hr.2, k + 1, Nat.le_refl _, Lay.snoc hl hek hgap (body_one ho hg hr hz) hc, Gap.none, fun h => (by cases h), fun q hq => ⟨rfl, acc, _, o, rfl, rfl, Nat.succ_pos _, ho, (by cases hq; rfl)⟩⟩
theorem PsSt.step {l : List Opr} {k : Nat} {r : Int} {lt : Option Int} {acc : List Pas} {o : Opr} (h : PsSt l k r lt acc) (ho : l[k]? = some o) (hg : OpG o) (hz : psK o.k ≠ 0) : PsSt l (k + 1) r (some (plc o.fb o.fa r)) (psAcc k r acc o lt) := by
  obtain ⟨h1, h2, e, hek, hl, hgap, hn, hs⟩ := h
  cases lt with
  | none =>
    refine PsSt.push ho hg ⟨h1, h2⟩ hz hek hl hgap (fun q hq he => ?_)
    rcases hn rfl with h | h
    · subst h; simp at hq
    · omega
  | some q =>
    obtain ⟨rfl, ys, p, o1, rfl, hpr, hk0, ho1, rfl⟩ := hs q rfl
    have hlast : (ys ++ [p]).getLast? = some p := List.getLast?_concat ..
    show PsSt l (e + 1) r _ (psOne e r _ (ys ++ [p]) o (ys ++ [p]).getLast?)
    rw [hlast]
    unfold psOne
    simp only
    by_cases hf : psFit p o (psK o.k) (plc o.fb o.fa r) (plc o1.fb o1.fa r) = true
    · rw [if_pos hf, List.dropLast_concat]
      unfold psFit at hf
      simp only [Bool.and_eq_true, decide_eq_true_eq, Bool.or_eq_true] at hf
      obtain ⟨f1, f2, f3, f4⟩ := hf
      obtain ⟨a, f, n, he, b1, b2, b3, b4, b5⟩ := hl.inv
      have hlt : e < l.length := by
        rcases Nat.lt_or_ge e l.length with h | h
        · exact h
        · rw [List.getElem?_eq_none h] at ho; cases ho
      refine ⟨h1, h2, e + 1, Nat.le_refl _, ?_, Gap.none, fun h => (by cases h), fun q hq => ⟨rfl, ys, bump p, o, rfl, hpr, Nat.succ_pos _, ho, (by cases hq; rfl)⟩⟩
      rw [show e + 1 = f + (n + 1) by omega]
      refine Lay.snoc b1 b2 b3 ⟨b4.pf, ?_, by omega, by omega, b4.rk, b4.kd, b4.y, b4.z, ?_⟩ b5
      · show p.n + 1 = ((n + 1 : Nat) : Int)
        rw [b4.pn]; omega
      · intro hk j x y hj hx hy
        by_cases hjn : j + 1 < n
        · exact b4.mono hk j x y hjn hx hy
        · have hjn : j + 1 = n := by omega
          have e1 : f + j = e - 1 := by omega
          have e2 : f + j + 1 = e := by omega
          rw [e1, ho1] at hx
          rw [e2, ho] at hy
          cases hx
          cases hy
          show 0 < (plc o.fb o.fa p.r - plc o1.fb o1.fa p.r) * p.d
          have hk1 : p.k = 1 := hk
          rw [hpr, f2]
          rcases f4 with f4 | f4
          · exact absurd hk1 (by omega)
          · exact f4
    · rw [if_neg hf]
      refine PsSt.push ho hg ⟨h1, h2⟩ hz (Nat.le_refl _) hl hgap (fun q hq _ hqk => ?_)
      rw [hlast] at hq
      cases hq
      obtain ⟨a, f, n, he, b1, b2, b3, b4, b5⟩ := hl.inv
      rcases Int.decEq (psK o.k) 1 with hne | heq
      · exfalso
        have hk := psK_cases o.k
        have hz2 := hg.z (by omega)
        have hz3 := b4.z (by rw [hqk]; exact hne)
        apply hf
        unfold psFit
        simp [hqk, hz2.1, hz2.2, hz3.1, hz3.2, hne]
      · exact heq
theorem psGo_st {l : List Opr} (H : ∀ o ∈ l, OpG o) : ∀ (t : List Opr) (k : Nat) (r : Int) (lt : Option Int) (acc : List Pas), t = l.drop k → k ≤ l.length → PsSt l k r lt acc → ∃ e, e ≤ l.length ∧ Lay l (psGo k r lt acc t) e ∧ Gap l e l.length
  | [], k, r, lt, acc, ht, hk, h => by
    have : l.length ≤ k := by simpa using ht.symm
    obtain ⟨_, _, e, h1, h2, h3, _⟩ := h
    have e1 : k = l.length := by omega
    subst e1
    exact ⟨e, h1, by rw [psGo]; exact h2, h3⟩
  | o :: t, k, r, lt, acc, ht, hk, h => by
    have hlt : k < l.length := by
      rcases Nat.lt_or_ge k l.length with h | h
      · exact h
      · rw [List.drop_of_length_le h] at ht; cases ht
    have hget : l[k]? = some l[k] := List.getElem?_eq_getElem hlt
    rw [drop_of_get hget] at ht
    injection ht with ho ht
    subst ho
    have hg := H _ (List.mem_of_getElem? hget)
    rw [psGo]
    split
    · rename_i hz
      obtain ⟨h1, h2, e, hek, hl, hgap, hn, hs⟩ := h
      refine psGo_st H t (k + 1) _ none acc ht hlt ⟨?_, ?_, e, by omega, hl, hgap.snoc hget hz, fun _ => .inr (by omega), fun q hq => (by cases hq)⟩
      · split
        · exact hg.r.1
        · exact h1
      · split
        · exact hg.r.2
        · exact h2
    · rename_i hz
      exact psGo_st H t (k + 1) r _ _ ht hlt (h.step hget hg hz)
/-- The passes of valid operations lie in order; what is between them belongs to none. -/
theorem psL_lay {l : List Opr} (H : ∀ o ∈ l, OpG o) : ∃ e, e ≤ l.length ∧ Lay l (psL l) e ∧ Gap l e l.length :=
  psGo_st H l 0 0 none [] (by simp) (Nat.zero_le _) ⟨by omega, by omega, 0, Nat.le_refl _, Lay.nil, Gap.none, fun _ => .inl rfl, fun q hq => (by cases hq)⟩
/-- The end of the first i passes. -/
def endP (L : List Pas) (i : Nat) : Int := match i with
  | 0 => 0
  | i + 1 => match L[i]? with
    | some p => p.f + p.n
    | none => 0
theorem Lay.take {l : List Opr} : ∀ {L : List Pas} {e : Nat}, Lay l L e → ∀ i, i ≤ L.length → ∃ a : Nat, Lay l (L.take i) a ∧ a ≤ e ∧ endP L i = (a : Int) := by
  intro L e h
  induction h with
  | nil => intro i hi; exact ⟨0, by simpa using Lay.nil, Nat.le_refl _, by cases i <;> simp at hi ⊢; rfl⟩
  | @snoc acc e f n p h1 h2 h3 h4 h5 ih =>
    intro i hi
    by_cases hi2 : i ≤ acc.length
    · obtain ⟨a, ha, hae, hend⟩ := ih i hi2
      refine ⟨a, by rw [List.take_append_of_le_length hi2]; exact ha, by omega, ?_⟩
      rw [← hend]
      cases i with
      | zero => rfl
      | succ i => unfold endP; simp only; rw [List.getElem?_append_left (by omega)]
    · have : i = acc.length + 1 := by simp at hi; omega
      subst this
      refine ⟨f + n, by rw [List.take_of_length_le (by simp)]; exact Lay.snoc h1 h2 h3 h4 h5, Nat.le_refl _, ?_⟩
      unfold endP
      simp only
      rw [List.getElem?_append_right (Nat.le_refl _)]
      simp only [Nat.sub_self, List.getElem?_cons_zero]
      rw [h4.pf, h4.pn]; omega
/-- What FnPasses sees of pass i. -/
theorem Lay.at {l : List Opr} {L : List Pas} {e : Nat} (h : Lay l L e) {i : Nat} {p : Pas} (hp : L[i]? = some p) :
    ∃ a f n : Nat, endP L i = (a : Int) ∧ endP L (i + 1) = ((f + n : Nat) : Int) ∧ a ≤ f ∧ Gap l a f ∧ Body l p f n ∧ (∀ j q, i = j + 1 → L[j]? = some q → a = f → q.k = p.k → p.k = 1) := by
  have hlt : i < L.length := by
    rcases Nat.lt_or_ge i L.length with h | h
    · exact h
    · rw [List.getElem?_eq_none h] at hp; cases hp
  obtain ⟨a, ha, _, hend⟩ := h.take i (by omega)
  obtain ⟨b, hb, _, hend2⟩ := h.take (i + 1) hlt
  rw [List.take_add_one, hp] at hb
  obtain ⟨a2, f, n, rfl, h1, h2, h3, h4, h5⟩ := Lay.inv (show Lay l (L.take i ++ [p]) b from hb)
  have haa : a2 = a := by
    have key : ∀ {M : List Pas} {x y : Nat}, Lay l M x → Lay l M y → x = y := by
      intro M x y hx hy
      cases hx with
      | nil =>
        generalize hM : ([] : List Pas) = M at hy
        cases hy with
        | nil => rfl
        | snoc _ _ _ _ _ => simp at hM
      | snoc g1 g2 g3 g4 g5 =>
        obtain ⟨_, f', n', rfl, _, _, _, k4, _⟩ := hy.inv
        have := g4.pf; have := g4.pn; have := k4.pf; have := k4.pn
        omega
    exact key h1 ha
  subst haa
  refine ⟨a2, f, n, hend, hend2, h2, h3, h4, fun j q hj hq => ?_⟩
  subst hj
  refine h5 q ?_
  rw [List.getLast?_eq_getElem?, List.length_take, show min (j + 1) L.length - 1 = j by omega, List.getElem?_take_of_lt (by omega)]
  exact hq
theorem Lay.ends {l : List Opr} {L : List Pas} {e : Nat} (h : Lay l L e) : endP L L.length = (e : Int) := by
  cases h with
  | nil => rfl
  | snoc h1 h2 h3 h4 h5 =>
    rw [List.length_append]
    unfold endP
    simp only [List.length_cons, List.length_nil]
    rw [List.getElem?_append_right (Nat.le_refl _)]
    simp only [Nat.sub_self, List.getElem?_cons_zero]
    rw [h4.pf, h4.pn]; omega
/-- The pass of an operation. -/
def psOf (l : List Opr) (k : Int) : Option Pas := (psL l).find? (fun p => decide (p.f ≤ k) && decide (k ≤ p.f + p.n - 1))
theorem endP_mono {l : List Opr} {L : List Pas} {e : Nat} (h : Lay l L e) {j i : Nat} (hji : j ≤ i) (hi : i ≤ L.length) : endP L j ≤ endP L i := by
  induction i with
  | zero => have : j = 0 := by omega
            subst this; exact Int.le_refl _
  | succ i ih =>
    by_cases e : j = i + 1
    · subst e; exact Int.le_refl _
    · have h1 := ih (by omega) (by omega)
      obtain ⟨p, hp⟩ : ∃ p, L[i]? = some p := ⟨_, List.getElem?_eq_getElem (by omega)⟩
      obtain ⟨a, f, n, e1, e2, e3, _⟩ := h.at hp
      omega
theorem psOf_at {l : List Opr} {e : Nat} (h : Lay l (psL l) e) {i : Nat} {p : Pas} (hp : (psL l)[i]? = some p) {k : Int} (h1 : p.f ≤ k) (h2 : k ≤ p.f + p.n - 1) : psOf l k = some p := by
  unfold psOf
  generalize psL l = L at *
  have hlt : i < L.length := by
    rcases Nat.lt_or_ge i L.length with h | h
    · exact h
    · rw [List.getElem?_eq_none h] at hp; cases hp
  rw [List.find?_eq_some_iff_append]
  refine ⟨by simp; omega, L.take i, L.drop (i + 1), ?_, fun q hq => ?_⟩
  · rw [← drop_of_get hp, List.take_append_drop]
  · obtain ⟨j, hj, hjq⟩ := List.getElem_of_mem hq
    have hji : j < i := by rw [List.length_take] at hj; omega
    have hLj : L[j]? = some q := by
      rw [← hjq, List.getElem_take]
      exact List.getElem?_eq_getElem (by omega)
    obtain ⟨a, f, n, _, e2, _, _, b, _⟩ := h.at hLj
    obtain ⟨a', f', n', e1', _, e3', _, b', _⟩ := h.at hp
    have hm := endP_mono h (show j + 1 ≤ i by omega) (by omega)
    have := b.pf; have := b.pn; have := b'.pf
    simp
    omega

/-! ### The span -/
theorem mn_le (z x : Int) : mn z x ≤ z ∧ mn z x ≤ x := by unfold mn; split <;> omega
theorem mx_le (z x : Int) : z ≤ mx z x ∧ x ≤ mx z x := by unfold mx; split <;> omega
theorem low_le (r : Int) : ∀ (l : List Opr) (z : Int), lowG r z l ≤ z ∧ ∀ o ∈ l, lowG r z l ≤ plc o.fb o.fa r
  | [], z => ⟨Int.le_refl _, fun o ho => by simp at ho⟩
  | o :: t, z => by
    have h := low_le r t (mn z (plc o.fb o.fa r))
    have h2 := mn_le z (plc o.fb o.fa r)
    have e : lowG r z (o :: t) = lowG r (mn z (plc o.fb o.fa r)) t := rfl
    rw [e]
    refine ⟨by omega, fun x hx => ?_⟩
    rcases List.mem_cons.1 hx with rfl | hx
    · omega
    · exact h.2 x hx
theorem high_le (r : Int) : ∀ (l : List Opr) (z : Int), z ≤ highG r z l ∧ ∀ o ∈ l, plc o.fb o.fa r ≤ highG r z l
  | [], z => ⟨Int.le_refl _, fun o ho => by simp at ho⟩
  | o :: t, z => by
    have h := high_le r t (mx z (plc o.fb o.fa r))
    have h2 := mx_le z (plc o.fb o.fa r)
    have e : highG r z (o :: t) = highG r (mx z (plc o.fb o.fa r)) t := rfl
    rw [e]
    refine ⟨by omega, fun x hx => ?_⟩
    rcases List.mem_cons.1 hx with rfl | hx
    · omega
    · exact h.2 x hx
theorem Body.far {l : List Opr} {p : Pas} {f n : Nat} (h : Body l p f n) (hk : p.k = 1) {a : Opr} (ha : l[f]? = some a) : ∀ (j : Nat) (b : Opr), j < n → l[f + j]? = some b → (j : Int) ≤ (plc b.fb b.fa p.r - plc a.fb a.fa p.r) * p.d
  | 0, b, hj, hb => by
    rw [Nat.add_zero, ha] at hb
    cases hb
    simp
  | j + 1, b, hj, hb => by
    have hlt : f + j < l.length := by have := h.le; omega
    have hc : l[f + j]? = some l[f + j] := List.getElem?_eq_getElem hlt
    have h1 := h.far hk ha j _ (by omega) hc
    have h2 := h.mono hk j _ b hj hc hb
    have hd := (h.y hk).1
    rcases hd with hd | hd <;> rw [hd] at h1 h2 ⊢ <;> omega
/-- The span of a pass: not empty, and wide enough. -/
theorem span_ok {l : List Opr} {p : Pas} {f n : Nat} (h : Body l p f n) : lowG p.r (spnZ l p) (spnS l p) ≤ highG p.r (spnZ l p) (spnS l p) ∧ (p.k = 1 → p.n ≤ highG p.r (spnZ l p) (spnS l p) - lowG p.r (spnZ l p) (spnS l p) + 1) := by
  have hl := low_le p.r (spnS l p) (spnZ l p)
  have hh := high_le p.r (spnS l p) (spnZ l p)
  refine ⟨by omega, fun hk => ?_⟩
  have hn := h.n1
  have hle := h.le
  have ha : l[f]? = some l[f] := List.getElem?_eq_getElem (by omega)
  have hb : l[f + (n - 1)]? = some l[f + (n - 1)] := List.getElem?_eq_getElem (by omega)
  have hfar := h.far hk ha (n - 1) _ (by omega) hb
  have hbS : l[f + (n - 1)] ∈ spnS l p := List.mem_of_getElem? ((spnS_at h.pf h.pn (by omega)).trans hb)
  have h1 := hl.2 _ hbS
  have h2 := hh.2 _ hbS
  have hz : spnZ l p = plc l[f].fb l[f].fa p.r := by
    unfold spnZ
    rw [h.pf, Int.toNat_natCast, ha]
  have h3 := hl.1
  have h4 := hh.1
  have hd := (h.y hk).1
  have hpn := h.pn
  rcases hd with hd | hd <;> rw [hd] at hfar <;> omega

/-! ### Returns -/
def retS (s : Int × Int) (p : Pas) : Int × Int := if p.k ≠ 1 then s else (if p.d = s.2 then s.1 + 1 else s.1, p.d)
def retG (s : Int × Int) (L : List Pas) : Int × Int := L.foldl retS s
def retN (l : List Opr) : Int := (retG (0, 0) (psL l)).1
theorem ret_next {R s : Int × Int} {L : List Pas} {k : Nat} {p : Pas} (h : R = retG s (L.drop k)) (hp : L[k]? = some p) : R = retG (retS s p) (L.drop (k + 1)) := by
  rw [h, drop_of_get hp]; rfl
theorem ret_inv : ∀ (L : List Pas) (k : Nat) (s : Int × Int), (∀ p ∈ L, p.k = 1 → p.d ≠ 0) → 0 ≤ s.1 → (s.1 = 0 ∧ (k = 0 → s.2 = 0) ∨ s.1 < k) → 0 ≤ (retG s L).1 ∧ ((retG s L).1 = 0 ∨ (retG s L).1 < (k : Int) + L.length)
  | [], k, s, hd, h0, h => by
    show 0 ≤ s.1 ∧ (s.1 = 0 ∨ s.1 < (k : Int) + ((0 : Nat) : Int))
    omega
  | p :: t, k, s, hd, h0, h => by
    have e : retG s (p :: t) = retG (retS s p) t := rfl
    rw [e, show (k : Int) + ((p :: t).length : Int) = ((k + 1 : Nat) : Int) + (t.length : Int) by simp; omega]
    refine ret_inv t (k + 1) (retS s p) (fun q hq => hd q (List.mem_cons_of_mem _ hq)) ?_ ?_
    · unfold retS
      split
      · exact h0
      · simp only; split <;> omega
    · unfold retS
      split
      · rcases h with h | h
        · exact .inl ⟨h.1, fun hk => by omega⟩
        · exact .inr (by omega)
      · rename_i hk
        simp only
        split
        · rename_i hpd
          have hdd := hd p List.mem_cons_self (by simpa using hk)
          rcases h with h | h
          · have hk0 : k ≠ 0 := fun hk => hdd (by rw [hpd]; exact h.2 hk)
            exact .inr (by omega)
          · exact .inr (by omega)
        · rcases h with h | h
          · exact .inl ⟨h.1, fun hk => by omega⟩
          · exact .inr (by omega)
theorem ret_ok {l : List Opr} (hd : ∀ p ∈ psL l, p.k = 1 → p.d ≠ 0) : 0 ≤ retN l ∧ (retN l = 0 ∨ retN l < ((psL l).length : Int)) := by
  have := ret_inv (psL l) 0 (0, 0) hd (Int.le_refl _) (.inl ⟨rfl, fun _ => rfl⟩)
  unfold retN
  simpa using this
theorem lay_dir {l : List Opr} {e : Nat} (h : Lay l (psL l) e) : ∀ p ∈ psL l, p.k = 1 → p.d ≠ 0 := by
  intro p hp hk
  obtain ⟨i, hi, e⟩ := List.getElem_of_mem hp
  obtain ⟨a, f, n, _, _, _, _, b, _⟩ := h.at (show (psL l)[i]? = some p by rw [List.getElem?_eq_getElem hi, e])
  have := (b.y hk).1
  omega
/-! ### A valid operation -/
theorem okOp_g {o : Opr} (h : okOp o = true) : OpG o := by
  have hr := okOp_rng h
  refine ⟨⟨hr.1, hr.2.1⟩, fun hk => ⟨hr.2.2.2.1 hk, ?_⟩, hr.2.2.2.2, fun hk => ?_⟩
  · obtain ⟨k, d, fb, fa, tb, ta, c, r⟩ := o
    have hk2 : k = 1 ∨ k = 2 ∨ k = 3 ∨ k = 5 := by
      unfold psK at hk
      simp only at hk
      split at hk
      · assumption
      · split at hk
        · omega
        · split at hk <;> omega
    unfold okOp at h
    simp only at h ⊢
    split at h
    · simp only [Bool.and_eq_true, decide_eq_true_eq] at h
      exact inB_iff.1 h.2.2.1
    · rw [if_neg (by omega), if_pos (by omega)] at h
      simp only [Bool.and_eq_true, decide_eq_true_eq] at h
      exact inB_iff.1 h.2.2.1
  · obtain ⟨k, d, fb, fa, tb, ta, c, r⟩ := o
    have hn : k ≠ 1 ∧ k ≠ 2 ∧ k ≠ 3 ∧ k ≠ 4 ∧ k ≠ 5 ∧ k ≠ 6 := by
      refine ⟨?_, ?_, ?_, ?_, ?_, ?_⟩ <;> (rintro rfl; simp [psK] at hk)
    unfold okOp at h
    simp only at h hn ⊢
    rw [if_neg (by omega), if_neg (by omega), if_neg (by omega), if_neg (by omega)] at h
    split at h
    · omega
    split at h
    · omega
    split at h
    · omega
    · cases h
theorem ops_g {n : Int} {l : List Opr} (h : opsB n l = true) : ∀ o ∈ l, OpG o := fun o ho => by
  obtain ⟨k, hk, e⟩ := List.getElem_of_mem ho
  exact okOp_g (ops_at h (k := k) (by rw [List.getElem?_eq_getElem hk, e]))

end Go.Proofs.YtccdnmafakaleaaDoor

/-
  Passes: the program's small functions over them (CountPasses, ReturnsOf, PassOf, ValidPass).
-/
namespace Go.Proofs.YtccdnmafakaleaaDoor
set_option linter.unusedVariables false
set_option linter.unusedSimpArgs false
open Go.RowKit

def cntP (l : List Opr) : Int := if opsB 24 l = true then ((psL l).length : Int) else -1
theorem psL_len {l : List Opr} (h : opsB 24 l = true) : (psL l).length ≤ 1500 := by
  have := ops_len h
  have h2 := psGo_len l 0 0 none []
  unfold psL
  simp at h2
  omega
set_option maxHeartbeats 4000000 in
set_option maxRecDepth 100000 in
theorem implCount_any (v : Value) (l : List Opr) (w : World) (hl : RdO w w.heap.size v l) :
    Calls Tryd.prog 13 #[v] w fun e w' => e = .returned (.int .i64 (cntP l)) ∧ Below w.heap.size w w' := by
  have HL := Lib.hid hl
  have HV := Lib.hid (areOps_any v l w hl)
  obtain ⟨A, N, c, rfl, hln, hl', gl⟩ := hl
  clear hl' gl
  cases ho : opsB 24 l
  · have HC := Lib.hid (show cntP l = -1 by simp [cntP, ho])
    rw [ho] at HV
    clear ho
    go_enter Tryd.func13, Tryd.ntmps13
    go_wp2_with fail
    refine HV.out.mono ?_
    rintro e w1 ⟨rfl, hb⟩
    have HB := Lib.hid hb
    clear hb
    go_wp2
    go_ret
    exact ⟨ret_int HC.out.symm, HB.out⟩
  · have HC := Lib.hid (show cntP l = ((psL l).length : Int) by simp [cntP, ho])
    rw [ho] at HV
    have HQ := Lib.hid (fun w1 (hb : Below w.heap.size w w1) => passes_any 24 _ l w1 ((HL.out.below hb).more hb.size) ho)
    clear ho
    go_enter Tryd.func13, Tryd.ntmps13
    go_wp2_with fail
    refine HV.out.mono ?_
    rintro e w1 ⟨rfl, hb⟩
    have HB := Lib.hid hb
    clear hb
    go_wp2_with fail
    refine (HQ.out _ HB.out).mono ?_
    rintro e w2 ⟨v2, rfl, hw, hb⟩
    obtain ⟨A2, c2, rfl, -⟩ := hw.cells
    have HB2 := Lib.hid (HB.out.trans (hb.mono HB.out.size))
    clear hb hw
    go_wp2
    go_ret
    exact ⟨ret_int HC.out.symm, HB2.out⟩
set_option maxHeartbeats 4000000 in
set_option maxRecDepth 100000 in
theorem implReturns_any (v : Value) (l : List Opr) (w : World) (hl : RdO w w.heap.size v l) (ho : opsB 24 l = true) :
    Calls Tryd.prog 18 #[v] w fun e w' => e = .returned (.tuple #[.int .i64 (retN l), .int .i64 0]) ∧ Below w.heap.size w w' := by
  have HL := Lib.hid hl
  have HV := Lib.hid (areOps_any v l w hl)
  have hpl := psL_len ho
  obtain ⟨A, N, c, rfl, hln, hl', gl⟩ := hl
  clear hl' gl
  rw [ho] at HV
  have HQ := Lib.hid (fun w1 (hb : Below w.heap.size w w1) => passes_any 24 _ l w1 ((HL.out.below hb).more hb.size) ho)
  have HR := Lib.hid (show retN l = (retG (0, 0) ((psL l).drop 0)).1 from rfl)
  generalize hP : psL l = L at *
  clear ho hP
  go_enter Tryd.func18, Tryd.ntmps18
  go_wp2_with fail
  refine HV.out.mono ?_
  rintro e w1 ⟨rfl, hb⟩
  have HB := Lib.hid hb
  clear hb
  go_wp2_with fail
  refine (HQ.out _ HB.out).mono ?_
  rintro e w2 ⟨v2, rfl, hw, hb⟩
  have HW := Lib.hid (RdS.of_own Pas.len hw)
  obtain ⟨A2, c2, rfl, -⟩ := hw.cells
  have HB2 := Lib.hid (HB.out.trans (hb.mono HB.out.size))
  generalize hn : L.length = n at *
  have HN := Lib.hid hn
  clear hb hw hn
  go_wp2
  go_loopw [4, 5, 14] (fun v4 v5 v14 wr => ∃ (k : Nat) (s : Int × Int) (wq : World), wq = wr ∧ v14 = .int .i64 (k : Int) ∧ k ≤ n ∧ v4 = .int .i64 s.1 ∧ v5 = .int .i64 s.2 ∧ 0 ≤ s.1 ∧ s.1 ≤ k ∧ Hid (retN l = (retG s (L.drop k)).1) ∧ Hid (Below w2.heap.size w2 wq)) (fun _ _ v14 _ => n - (intOf v14).toNat)
  case atStart => exact ⟨0, (0, 0), _, rfl, rfl, Nat.zero_le _, rfl, rfl, Int.le_refl _, Int.le_refl _, HR.out, Below.refl _ _⟩
  case round =>
    obtain ⟨k, ⟨s1, s2⟩, wq, hwq, rfl, hk, rfl, rfl, hs0, hsk, hd, hb⟩ := hrel
    subst hwq
    simp only at hs0 hsk hd
    by_cases hlt : k < n
    · obtain ⟨b, off, x, rfl, hbb, hlk, hc⟩ := (HW.out.below hb.out).at_ (k := k) (by omega)
      obtain ⟨c0, c1, c2, c3, c4, c5⟩ := hc.six
      obtain ⟨xk, xd, xc, xr, xf, xn⟩ := x
      simp only at c0 c1 c2 c3 c4 c5
      have HNX := Lib.hid (show (retG (s1, s2) (L.drop k)) = retG (retS (s1, s2) ⟨xk, xd, xc, xr, xf, xn⟩) (L.drop (k + 1)) from ret_next rfl hlk)
      have HB3 := Lib.hid (hb.out.alloc hb.out.size (.cells #[.int .i64 xk, .int .i64 xd, .int .i64 xc, .int .i64 xr, .int .i64 xf, .int .i64 xn] 46))
      clear hlk hc
      by_cases h1 : xk = 1
      · have e1 : (xk != 1) = false := by simp [h1]
        have HK := Lib.hid h1
        clear h1
        by_cases h2 : xd = s2
        · have e2 : (xd == s2) = true := by simp [h2]
          have H2 := Lib.hid h2
          clear h2
          go_wp2
          exact ⟨⟨k + 1, (s1 + 1, xd), _, rfl, by go_num, by omega, by go_num, rfl, by show 0 ≤ s1 + 1; omega, by show s1 + 1 ≤ ((k + 1 : Nat) : Int); omega, by
            unfold Hid; rw [hd.out, HNX.out]; unfold retS; rw [if_neg (by simp [HK.out])]; simp [H2.out], HB3.out⟩, by simp [intOf]; omega⟩
        · have e2 : (xd == s2) = false := by simpa using h2
          have H2 := Lib.hid h2
          clear h2
          go_wp2
          exact ⟨⟨k + 1, (s1, xd), _, rfl, by go_num, by omega, rfl, rfl, hs0, by show s1 ≤ ((k + 1 : Nat) : Int); omega, by
            unfold Hid; rw [hd.out, HNX.out]; unfold retS; rw [if_neg (by simp [HK.out])]; simp [H2.out], HB3.out⟩, by simp [intOf]; omega⟩
      · have e1 : (xk != 1) = true := by simpa using h1
        have HK := Lib.hid h1
        clear h1
        go_wp2
        exact ⟨⟨k + 1, (s1, s2), _, rfl, by go_num, by omega, rfl, rfl, hs0, by show s1 ≤ ((k + 1 : Nat) : Int); omega, by
          unfold Hid; rw [hd.out, HNX.out]; unfold retS; rw [if_pos (by simpa using HK.out)], HB3.out⟩, by simp [intOf]; omega⟩
    · have HE := Lib.hid (show retN l = s1 by rw [hd.out, List.drop_of_length_le (by have := HN.out; omega)]; rfl)
      go_wp2
      go_ret2
      exact ⟨by rw [HE.out]; rfl, HB2.out.trans (hb.out.mono HB2.out.size)⟩
theorem find_step {L : List Pas} {i : Nat} {x : Pas} {q : Pas → Bool} (h : L[i]? = some x) : (L.drop i).find? q = if q x = true then some x else (L.drop (i + 1)).find? q := by
  rw [drop_of_get h, List.find?_cons]
  cases q x <;> rfl
set_option maxHeartbeats 4000000 in
set_option maxRecDepth 100000 in
theorem implPassOf_any (v : Value) (l : List Opr) (k : Nat) (p : Pas) (w : World) (hl : RdO w w.heap.size v l) (ho : opsB 24 l = true) (hk : k < l.length) (hp : psOf l (k : Int) = some p) :
    Calls Tryd.prog 16 #[v, .int .i64 (k : Int)] w fun e w' => e = .returned (.tuple #[p.v, .int .i64 0]) ∧ Below w.heap.size w w' := by
  have HB0 := Lib.hid (show Below w.heap.size w (w.alloc (.cells #[.int .i64 0, .int .i64 0, .int .i64 0, .int .i64 0, .int .i64 0, .int .i64 0] 46)) from (Below.refl _ _).alloc (Nat.le_refl _) _)
  have HX0 := Lib.hid (Bx.new w [.int .i64 0, .int .i64 0, .int .i64 0, .int .i64 0, .int .i64 0, .int .i64 0] 46)
  have HL := Lib.hid hl
  have HV := Lib.hid (areOps_any v l _ ((hl.below HB0.out).more HB0.out.size))
  have hpl := psL_len ho
  have hol := ops_len ho
  have HIN := Lib.hid (fun (x : Pas) (hx : x ∈ psL l) => psL_in ho hx)
  obtain ⟨A, N, c, rfl, hln, hl', gl⟩ := hl
  have hNl := hl'.out
  clear hl' gl
  rw [ho] at HV
  have HQ := Lib.hid (fun w1 (hb : Below w.heap.size w w1) => passes_any 24 _ l w1 ((HL.out.below hb).more hb.size) ho)
  have HR : Hid (((psL l).drop 0).find? (fun p => decide (p.f ≤ (k : Int)) && decide ((k : Int) ≤ p.f + p.n - 1)) = some p) := hp
  have HLL := Lib.hid hol
  have hkn : inB 0 (k : Int) ((N : Int) - 1) = true := inB_iff.2 (by omega)
  have hN15 : N ≤ 1500 := by omega
  generalize hP : psL l = L at *
  have HP := Lib.hid hP
  clear ho hP hp hNl hk hol
  go_enter Tryd.func16, Tryd.ntmps16
  go_wp2_with fail
  refine HV.out.mono ?_
  rintro e w1 ⟨rfl, hb⟩
  have HX1 := Lib.hid (HX0.out.below hb (by simp))
  have HB := Lib.hid (HB0.out.trans (hb.mono HB0.out.size))
  clear hb
  go_wp2_with (go_at_call 47; refine (within_s _ _ _ _).mono ?_; rintro e w' ⟨rfl, rfl⟩; rw [hkn])
  refine (HQ.out _ HB.out).mono ?_
  rintro e w2 ⟨v2, rfl, hw, hb⟩
  have HW := Lib.hid (RdS.of_own Pas.len hw)
  obtain ⟨A2, c2, rfl, -⟩ := hw.cells
  have HX2 := Lib.hid (HX1.out.below hb HX1.out.2.2)
  have HB2 := Lib.hid (HB.out.trans (hb.mono HB.out.size))
  generalize hn : L.length = n at *
  have HN := Lib.hid hn
  clear hb hw hn hkn
  go_wp2
  go_loopw [22] (fun v22 wr => ∃ (i : Nat) (wq : World), wq = wr ∧ v22 = .int .i64 (i : Int) ∧ i ≤ n ∧ Hid ((L.drop i).find? (fun p => decide (p.f ≤ (k : Int)) && decide ((k : Int) ≤ p.f + p.n - 1)) = some p) ∧ Hid (Below w2.heap.size w2 wq)) (fun v22 _ => n - (intOf v22).toNat)
  case atStart => exact ⟨0, _, rfl, rfl, Nat.zero_le _, HR.out, Below.refl _ _⟩
  case round =>
    obtain ⟨i, wq, hwq, rfl, hi, hd, hb⟩ := hrel
    subst hwq
    by_cases hlt : i < n
    · obtain ⟨b, off, x, rfl, hbb, hlk, hc⟩ := (HW.out.below hb.out).at_ (k := i) (by omega)
      have hol := HLL.out
      obtain ⟨hf0, hn1, hfn, hr0, hr1⟩ := HIN.out x (List.mem_of_getElem? hlk)
      obtain ⟨c0, c1, c2, c3, c4, c5⟩ := hc.six
      have HNX := Lib.hid (show ((L.drop i).find? (fun p => decide (p.f ≤ (k : Int)) && decide ((k : Int) ≤ p.f + p.n - 1))) = (if inB x.f (k : Int) (x.f + x.n - 1) = true then some x else ((L.drop (i + 1)).find? (fun p => decide (p.f ≤ (k : Int)) && decide ((k : Int) ≤ p.f + p.n - 1)))) from find_step hlk)
      obtain ⟨xk, xd, xc, xr, xf, xn⟩ := x
      simp only at c0 c1 c2 c3 c4 c5 hf0 hn1 hfn hr0 hr1 HNX
      have HB3 := Lib.hid (hb.out.alloc hb.out.size (.cells #[.int .i64 xk, .int .i64 xd, .int .i64 xc, .int .i64 xr, .int .i64 xf, .int .i64 xn] 46))
      have hw1 : IntKind.i64.wrap (xf + xn) = xf + xn := IntWalk.i64_in _ (by omega)
      have hw2 : IntKind.i64.wrap (xf + xn - 1) = xf + xn - 1 := IntWalk.i64_in _ (by omega)
      have HX3 := Lib.hid (HX2.out.below hb.out HX2.out.2.2)
      have hwz : w.heap.size < wq.heap.size := HX3.out.2.2
      obtain ⟨z0, z1, z2, z3, z4, z5⟩ := HX3.out.six
      have zf := HX3.out.2.1
      clear hlk hc hf0 hn1 hfn hr0 hr1 hol
      cases hin : inB xf (k : Int) (xf + xn - 1)
      · rw [hin] at HNX
        have HNO := Lib.hid hin
        clear hin
        clear z0 z1 z2 z3 z4 z5 zf
        go_wp2_with (go_at_call 47; refine (within_s _ _ _ _).mono ?_; rintro e w' ⟨rfl, rfl⟩; rw [HNO.out])
        exact ⟨⟨i + 1, _, rfl, by go_num, by omega, by unfold Hid; rw [← hd.out, HNX.out]; rfl, HB3.out⟩, by simp [intOf]; omega⟩
      · rw [hin] at HNX
        have HYES := Lib.hid hin
        have HE := Lib.hid (show (⟨xk, xd, xc, xr, xf, xn⟩ : Pas) = p by have h := hd.out; rw [HNX.out] at h; simpa using h)
        clear hin
        go_wp2_with (go_at_call 47; refine (within_s _ _ _ _).mono ?_; rintro e w' ⟨rfl, rfl⟩; rw [HYES.out])
        refine bodyPost_ret (v := .tuple #[(⟨xk, xd, xc, xr, xf, xn⟩ : Pas).v, .int .i64 0]) (by simp [results, Tryd.results16, go_sem, z0, z1, z2, z3, z4, z5, World.cell?_setCell_other, World.cell?_alloc_lt, hwz]) rfl ⟨by rw [HE.out], ?_⟩
        have h6 := below_set6 (b := w.heap.size) (o := 0) (HB2.out.trans (hb.out.mono HB2.out.size)) (Nat.le_refl _) (.int .i64 xk) (.int .i64 xd) (.int .i64 xc) (.int .i64 xr) (.int .i64 xf) (.int .i64 xn)
        exact h6.alloc h6.size _
    · exfalso
      have h := hd.out
      rw [List.drop_of_length_le (by have := HN.out; omega)] at h
      simp at h
theorem isRack_t (n : Int) (w : World) : Calls Tryd.prog 46 #[.int .i64 n] w fun e w' => e = .returned (.bool (inB (-3) n 3)) ∧ w = w' := by
  go_enter Tryd.func46, Tryd.ntmps46
  go_wp2_with (go_at_call 47; refine (within_s _ _ _ _).mono ?_; rintro e w' ⟨rfl, rfl⟩)
  go_ret
  exact ⟨rfl, rfl⟩
theorem isCarrier_t (n : Int) (w : World) : Calls Tryd.prog 49 #[.int .i64 n] w fun e w' => e = .returned (.bool (inB 1 n 4)) ∧ w = w' := by
  go_enter Tryd.func49, Tryd.ntmps49
  go_wp2_with (go_at_call 47; refine (within_s _ _ _ _).mono ?_; rintro e w' ⟨rfl, rfl⟩)
  go_ret
  exact ⟨rfl, rfl⟩
set_option maxHeartbeats 4000000 in
set_option maxRecDepth 100000 in
theorem implValidPass_yes (l : List Opr) (p : Pas) (f n : Nat) (hb : Body l p f n) (hl : l.length ≤ 1500) (w : World) :
    Calls Tryd.prog 14 #[p.v] w fun e w' => e = .returned (.bool true) ∧ Below w.heap.size w w' := by
  have HB0 := Lib.hid (show Below w.heap.size w (w.alloc (.cells #[.int .i64 p.k, .int .i64 p.d, .int .i64 p.c, .int .i64 p.r, .int .i64 p.f, .int .i64 p.n] 46)) from (Below.refl _ _).alloc (Nat.le_refl _) _)
  obtain ⟨pk, pd, pc, pr, pf, pn⟩ := p
  obtain ⟨h1, h2, h3, h4, h5, h6, h7, h8, -⟩ := hb
  simp only at h1 h2 h5 h6 h7 h8
  subst h1 h2
  have e1 : inB (-3) pr 3 = true := inB_iff.2 h5
  have e2 : inB 0 (f : Int) 1499 = true := inB_iff.2 (by omega)
  have hw : IntKind.i64.wrap (1500 - (f : Int)) = 1500 - (f : Int) := IntWalk.i64_in _ (by omega)
  have e3 : inB 1 (n : Int) (1500 - (f : Int)) = true := inB_iff.2 (by omega)
  have E1 := Lib.hid e1
  have E2 := Lib.hid e2
  have E3 := Lib.hid e3
  clear e1 e2 e3 h3 h4 h5 hl
  rcases h6 with rfl | rfl | rfl
  · obtain ⟨d1, c1, c2⟩ := h7 rfl
    have E4 := Lib.hid (show dirM pd = true by unfold dirM; simpa using d1)
    have E5 := Lib.hid (show inB 1 pc 4 = true from inB_iff.2 ⟨c1, c2⟩)
    clear h7 h8 d1 c1 c2
    go_enter Tryd.func14, Tryd.ntmps14
    go_wp2_with (first
      | (go_at_call 46; refine (isRack_t _ _).mono ?_; rintro e w' ⟨rfl, rfl⟩; rw [E1.out])
      | (go_at_call 47; refine (within_s _ _ _ _).mono ?_; rintro e w' ⟨rfl, rfl⟩; first | rw [E2.out] | rw [E3.out])
      | (go_at_call 48; refine (isDirection_s _ _).mono ?_; rintro e w' ⟨rfl, rfl⟩; rw [E4.out])
      | (go_at_call 49; refine (isCarrier_t _ _).mono ?_; rintro e w' ⟨rfl, rfl⟩; rw [E5.out]))
    go_ret
    exact ⟨rfl, HB0.out⟩
  all_goals
    obtain ⟨rfl, rfl⟩ := h8 (by omega)
    clear h7 h8
    go_enter Tryd.func14, Tryd.ntmps14
    go_wp2_with (first
      | (go_at_call 46; refine (isRack_t _ _).mono ?_; rintro e w' ⟨rfl, rfl⟩; rw [E1.out])
      | (go_at_call 47; refine (within_s _ _ _ _).mono ?_; rintro e w' ⟨rfl, rfl⟩; first | rw [E2.out] | rw [E3.out]))
    go_ret
    exact ⟨rfl, HB0.out⟩

end Go.Proofs.YtccdnmafakaleaaDoor

/-
  Passes: the program's PassText (a text that is not empty).
-/
namespace Go.Proofs.YtccdnmafakaleaaDoor
set_option linter.unusedVariables false
set_option linter.unusedSimpArgs false
open Go.RowKit

def dirT (d : Int) : List UInt8 := if d = 1 then [62] else [60]
theorem str_ne {S : ByteArray} (h : 0 < S.size) : ∃ t : List UInt8, Value.string S = strV t ∧ t ≠ [] := by
  refine ⟨S.data.toList, ?_, fun e => ?_⟩
  · unfold strV
    rw [Array.toArray_toList]
  · have h2 : S.data.size = 0 := by rw [← Array.length_toList, e]; rfl
    have h3 : S.size = S.data.size := rfl
    omega
def DirRes (d : Int) (w : World) (e : Ending) (w' : World) : Prop := e = .returned (strV (dirT d)) ∧ Below w.heap.size w w'
theorem dirText_any (d : Int) (w : World) : Calls Tryd.prog 50 #[.int .i64 d] w fun e w' => e = .returned (strV (dirT d)) ∧ Below w.heap.size w w' := by
  by_cases h : d = 1
  · have h' : (d == 1) = true := by simp [h]
    have HE := Lib.hid (show dirT d = [62] by simp [dirT, h])
    clear h
    go_enter Tryd.func50, Tryd.ntmps50
    go_wp2
    go_ret
    exact ⟨by rw [HE.out]; rfl, Below.refl _ _⟩
  · have h' : (d == 1) = false := by simpa using h
    have HE := Lib.hid (show dirT d = [60] by simp [dirT, h])
    clear h
    go_enter Tryd.func50, Tryd.ntmps50
    go_wp2
    go_ret
    exact ⟨by rw [HE.out]; rfl, Below.refl _ _⟩
attribute [local go_sem] strV
set_option maxHeartbeats 8000000 in
set_option maxRecDepth 100000 in
theorem implPassText_any (l : List Opr) (p : Pas) (f n : Nat) (hb : Body l p f n) (hl : l.length ≤ 1500) (B : Nat) (w : World) (hB : B ≤ w.heap.size) (ht : TabW B w) :
    Calls Tryd.prog 15 #[p.v] w fun e w' => ∃ t : List UInt8, e = .returned (strV t) ∧ t ≠ [] ∧ Below w.heap.size w w' := by
  have HV := Lib.hid (fun W => implValidPass_yes l p f n hb hl W)
  have HT := Lib.hid ht
  have HB0 := Lib.hid (show Below w.heap.size w (w.alloc (.cells #[.int .i64 p.k, .int .i64 p.d, .int .i64 p.c, .int .i64 p.r, .int .i64 p.f, .int .i64 p.n] 46)) from (Below.refl _ _).alloc (Nat.le_refl _) _)
  have HP0 : Hid (CellsAt (w.alloc (.cells #[.int .i64 p.k, .int .i64 p.d, .int .i64 p.c, .int .i64 p.r, .int .i64 p.f, .int .i64 p.n] 46)) w.heap.size 0 p.cells) := CellsAt.of_alloc (us := p.cells)
  obtain ⟨pk, pd, pc, pr, pf, pn⟩ := p
  obtain ⟨h1, h2, h3, h4, h5, h6, h7, h8, -⟩ := hb
  simp only at h1 h2 h5 h6 h7 h8
  subst h1 h2
  have hpc : -1000 ≤ pc ∧ pc ≤ 1000 := by
    rcases (by omega : pk = 1 ∨ pk ≠ 1) with h | h
    · have := h7 h; omega
    · have := h8 h; omega
  have hD := Lib.hid (fun (x : Int) (h0 : -10000 ≤ x) (h1 : x ≤ 10000) (W : World) (hW : Below w.heap.size w W) => Decimal_any x (by omega) (by omega) B W (HT.out.on (hW.mono hB)))
  have hc1 := Lib.hid (hD.out pc (by omega) (by omega))
  have hr1 := Lib.hid (hD.out pr (by omega) (by omega))
  have hf1 := Lib.hid (hD.out (f : Int) (by omega) (by omega))
  have hn1 := Lib.hid (hD.out ((f : Int) + (n : Int) - 1) (by omega) (by omega))
  have lc := Lib.itoa_length_le pc (by omega) (by omega)
  have lr := Lib.itoa_length_le pr (by omega) (by omega)
  have lf := Lib.itoa_length_le (f : Int) (by omega) (by omega)
  have ln := Lib.itoa_length_le ((f : Int) + (n : Int) - 1) (by omega) (by omega)
  have ld : (dirT pd).length = 1 := by unfold dirT; split <;> rfl
  have hw1 : IntKind.i64.wrap ((f : Int) + (n : Int)) = (f : Int) + (n : Int) := IntWalk.i64_in _ (by omega)
  have hw2 : IntKind.i64.wrap ((f : Int) + (n : Int) - 1) = (f : Int) + (n : Int) - 1 := IntWalk.i64_in _ (by omega)
  have ld1 : (dirT pd).length ≤ 1 := by omega
  clear hD h7 h8 ht hB h3 h4 h5 hl hpc ld
  rcases h6 with rfl | rfl | rfl
  all_goals
    go_enter Tryd.func15, Tryd.ntmps15
    obtain ⟨x0, x1, x2, x3, x4, x5⟩ := HP0.out.six
    go_wp2_with fail
    refine (HV.out _).mono ?_
    rintro e w1 ⟨rfl, hb1⟩
    have HB1 := Lib.hid (HB0.out.trans (hb1.mono HB0.out.size))
    have HP1 := Lib.hid (HP0.out.below hb1 (by simp))
    have hz1 : w.heap.size < w1.heap.size := Nat.lt_of_lt_of_le (by simp) hb1.size
    clear x0 x1 x2 x3 x4 x5 hb1
    go_upto_region 3 with fail
    obtain ⟨y0, y1, y2, y3, y4, y5⟩ := HP1.out.grow6
    refine wp_region_grow (by kernel_rfl) (by kernel_rfl) ?_
    repeat (go_big_quiet_step ((first | (go_at_call 50; exact calls_grow (dirText_any _ _)) | (go_at_call 31; exact calls_grow (hc1.out _ (HB1.out.trans ((below_wgrow w1 _).mono HB1.out.size)))))))
    refine wpQuiet_nil ?_
    intro w2 hb2
    have HB2 := Lib.hid (HB1.out.trans (hb2.mono HB1.out.size))
    have HP2 := Lib.hid (HP1.out.below hb2 hz1)
    have hz2 : w.heap.size < w2.heap.size := Nat.lt_of_lt_of_le hz1 hb2.size
    clear y0 y1 y2 y3 y4 y5 hb2
    obtain ⟨z0, z1, z2, z3, z4, z5⟩ := HP2.out.six
    go_upto_region 9 with fail
    clear z0 z1 z2 z3 z4 z5
    obtain ⟨y0, y1, y2, y3, y4, y5⟩ := HP2.out.grow6
    refine wp_region_grow (by kernel_rfl) (by kernel_rfl) ?_
    repeat (go_big_quiet_step ((first | (go_at_call_of 31 (Value.int IntKind.i64 pr); exact calls_grow (hr1.out _ (HB2.out.trans ((below_wgrow w2 _).mono HB2.out.size)))) | (go_at_call_of 31 (Value.int IntKind.i64 (f : Int)); exact calls_grow (hf1.out _ (HB2.out.trans ((below_wgrow w2 _).mono HB2.out.size)))) | (go_at_call 31; exact calls_grow (hn1.out _ (HB2.out.trans ((below_wgrow w2 _).mono HB2.out.size)))))))
    refine wpQuiet_nil ?_
    intro w3 hb3
    have HB3 := Lib.hid (HB2.out.trans (hb3.mono HB2.out.size))
    clear y0 y1 y2 y3 y4 y5 hb3
    go_wp2
    go_ret
    have key : ∀ S : ByteArray, 0 < S.size → ∃ t : List UInt8, Ending.returned (Value.string S) = .returned (strV t) ∧ t ≠ [] ∧ Below w.heap.size w w3 := fun S hS => by
      obtain ⟨t, ht, hne⟩ := str_ne hS
      exact ⟨t, by rw [ht], hne, HB3.out⟩
    exact key _ (by
      have h4 : (⟨#[32, 116, 111, 32]⟩ : ByteArray).size = 4 := rfl
      simp only [ByteArray.size_append]
      omega)

end Go.Proofs.YtccdnmafakaleaaDoor
