/-
  Texts joined: Weak0, Do1, Rk0, Uk0.
-/
import Derived.Test.YthhpjgdeehcgjaaGreatPk2
import Derived.Test.YthhpjgdeehcgjaaGreatPk5
/-
  WeakLoops, the plain law: the loops of most, in the needles' order and in the loops' order.
-/
namespace Go.Proofs.YthhpjgdeehcgjaaGreat
set_option linter.unusedVariables false
set_option linter.unusedSimpArgs false
open Go.RowKit

def plN (m : Mc) (n : Int × Int) : Int := if n.1 = 2 then n.2 + m.rk else n.2
theorem ndX_pl {m : Mc} {x : Int} {n : Int × Int} (h : n ∈ ndX m x) : plN m n = x := by
  unfold ndX at h
  unfold plN
  rcases List.mem_append.1 h with h | h
  · split at h
    · simp at h; subst h; simp
    · simp at h
  · split at h
    · simp at h; subst h; simp
    · simp at h
theorem ndX_nodup (m : Mc) (x : Int) : (ndX m x).Nodup := by
  unfold ndX
  split <;> split <;> simp
theorem ndGo_pl {m : Mc} : ∀ (f : Nat) (x : Int) (n : Int × Int), n ∈ ndGo m f x → x ≤ plN m n
  | 0, x, n, h => by simp [ndGo] at h
  | f + 1, x, n, h => by
    rw [ndGo] at h
    rcases List.mem_append.1 h with h | h
    · rw [ndX_pl h]
      omega
    · have := ndGo_pl f (x + 1) n h
      omega
theorem ndGo_nodup (m : Mc) : ∀ (f : Nat) (x : Int), (ndGo m f x).Nodup
  | 0, x => List.nodup_nil
  | f + 1, x => by
    rw [ndGo]
    refine List.nodup_append.2 ⟨ndX_nodup m x, ndGo_nodup m f (x + 1), fun a ha b hb e => ?_⟩
    subst e
    have h1 := ndX_pl ha
    have h2 := ndGo_pl f (x + 1) a hb
    omega
end Go.Proofs.YthhpjgdeehcgjaaGreat

/-
  Valid operations keep valid machines valid: plain data.
-/
namespace Go.Proofs.YthhpjgdeehcgjaaGreat
set_option linter.unusedVariables false
set_option linter.unusedSimpArgs false
open Go.RowKit

theorem parsB_iff {n : Int} : ∀ {l pre : List Int}, parsB n pre l = true ↔ (∀ x ∈ l, 0 ≤ x ∧ x ≤ n - 1) ∧ l.Nodup ∧ ∀ x ∈ l, ¬ x ∈ pre
  | [], pre => by simp [parsB]
  | y :: t, pre => by
    rw [parsB]
    simp only [Bool.and_eq_true, Bool.not_eq_true', List.contains_eq_mem, decide_eq_false_iff_not, parsB_iff (l := t), inB_iff]
    constructor
    · rintro ⟨h1, h2, h3, h4, h5⟩
      refine ⟨fun x hx => ?_, List.nodup_cons.2 ⟨fun hy => h5 y hy (by simp), h4⟩, fun x hx => ?_⟩
      · rcases List.mem_cons.1 hx with rfl | hx
        · exact h1
        · exact h3 x hx
      · rcases List.mem_cons.1 hx with rfl | hx
        · exact h2
        · exact fun hp => h5 x hx (by simp [hp])
    · rintro ⟨h1, h2, h3⟩
      obtain ⟨h4, h5⟩ := List.nodup_cons.1 h2
      refine ⟨h1 y (by simp), h3 y (by simp), fun x hx => h1 x (by simp [hx]), h5, fun x hx hp => ?_⟩
      rcases List.mem_append.1 hp with hp | hp
      · exact h3 x (by simp [hx]) hp
      · simp at hp
        subst hp
        exact h4 hx
theorem infsB_iff {wd : Int} : ∀ {l : List Inf} {i : Int}, infsB wd i l = true ↔ ∀ (j : Nat) (x : Inf), l[j]? = some x → okInf wd (i + (j : Int)) x = true
  | [], i => by simp [infsB]
  | y :: t, i => by
    rw [infsB]
    simp only [Bool.and_eq_true, infsB_iff (l := t)]
    constructor
    · rintro ⟨h1, h2⟩ j x hx
      rcases j with _ | j
      · simp at hx; subst hx; simpa using h1
      · simp at hx
        have := h2 j x hx
        rwa [show i + 1 + (j : Int) = i + ((j + 1 : Nat) : Int) by omega] at this
    · intro h
      refine ⟨by simpa using h 0 y rfl, fun j x hx => ?_⟩
      have := h (j + 1) x (by simpa using hx)
      rwa [show i + ((j + 1 : Nat) : Int) = i + 1 + (j : Int) by omega] at this

def allL (m : Mc) : List Int := m.fr.flatten ++ (m.bk.flatten ++ m.dr)
structure OkP (m : Mc) : Prop where
  wd : 1 ≤ m.wd ∧ m.wd ≤ 24
  rk : -3 ≤ m.rk ∧ m.rk ≤ 3
  fr : (m.fr.length : Int) = m.wd
  bk : (m.bk.length : Int) = m.wd
  cs : m.cs.length = 4
  ls : m.ls.length ≤ 300
  f4 : ∀ x ∈ m.fr, x.length ≤ 4
  b4 : ∀ x ∈ m.bk, x.length ≤ 4
  car : ∀ c ∈ m.cs, carB m.wd c = true
  inf : ∀ (j : Nat) (x : Inf), m.ls[j]? = some x → okInf m.wd (j : Int) x = true
  ris : risB m.dr = true
  nd : (allL m).Nodup
  rng : ∀ x ∈ allL m, 0 ≤ x ∧ x < m.ls.length
theorem okM_iff {m : Mc} : okM m = true ↔ OkP m := by
  constructor
  · intro h
    have hw := ok_wd h
    have hl := ls_len h
    unfold okM at h
    simp only [Bool.and_eq_true] at h
    obtain ⟨h1, h2, h3, h4, h5, h6, h7⟩ := h
    obtain ⟨g1, g2, _⟩ := parsB_iff.1 h7
    have h5' := infsB_iff.1 h5
    refine ⟨⟨hw.1, hw.2.1⟩, ⟨hw.2.2.1, hw.2.2.2.1⟩, hw.2.2.2.2.1, hw.2.2.2.2.2.1, hw.2.2.2.2.2.2, hl, by simpa [lens4] using h2, by simpa [lens4] using h3, by simpa [carsB] using h4, fun j x hx => by simpa using h5' j x hx, h6, g2, fun x hx => ?_⟩
    have := g1 x hx
    omega
  · rintro ⟨h1, h2, h3, h4, h5, h6, h7, h8, h9, h10, h11, h12, h13⟩
    unfold okM headM
    simp only [Bool.and_eq_true, decide_eq_true_eq, inB_iff]
    refine ⟨⟨h1, h2, h3, h4, by omega, by omega⟩, by simpa [lens4] using h7, by simpa [lens4] using h8, by simpa [carsB] using h9, infsB_iff.2 (fun j x hx => by simpa using h10 j x hx), h11, parsB_iff.2 ⟨fun x hx => ?_, h12, by simp⟩⟩
    have := h13 x hx
    omega

/-! ### Lists of needles, as one list -/
theorem flat_set {L : List (List Int)} {k : Nat} (l : List Int) (hk : k < L.length) : (L.set k l).flatten.Perm (l ++ ((L.take k).flatten ++ (L.drop (k + 1)).flatten)) := by
  rw [List.set_eq_take_append_cons_drop, if_pos hk, List.flatten_append, List.flatten_cons]
  rw [← List.append_assoc, ← List.append_assoc]
  exact (List.perm_append_comm).append_right _
theorem flat_get {L : List (List Int)} {k : Nat} (hk : k < L.length) : L.flatten.Perm (L.getD k [] ++ ((L.take k).flatten ++ (L.drop (k + 1)).flatten)) := by
  have h := flat_set (L := L) (L.getD k []) hk
  have e : L.set k (L.getD k []) = L := by
    apply List.ext_getElem?
    intro i
    by_cases hi : i = k
    · subst hi
      rw [List.getElem?_set_self hk, List.getD_eq_getElem?_getD, List.getElem?_eq_getElem hk]
      rfl
    · rw [List.getElem?_set_ne (fun e => hi e.symm)]
  rwa [e] at h
/-- All other loops. -/
def restL (m : Mc) (n : Int × Int) : List Int :=
  if n.1 = 2 then m.fr.flatten ++ (((m.bk.take n.2.toNat).flatten ++ (m.bk.drop (n.2.toNat + 1)).flatten) ++ m.dr)
  else ((m.fr.take n.2.toNat).flatten ++ (m.fr.drop (n.2.toNat + 1)).flatten) ++ (m.bk.flatten ++ m.dr)
theorem all_set {m : Mc} {n : Int × Int} (l : List Int) (h : ndIn m n) : (allL (setL m n l)).Perm (l ++ restL m n) := by
  obtain ⟨h1, h2, h3, h4⟩ := h
  unfold allL setL restL
  by_cases e : n.1 = 2
  · rw [if_pos e, if_pos e]
    show (m.fr.flatten ++ ((m.bk.set n.2.toNat l).flatten ++ m.dr)).Perm _
    have p1 := ((flat_set l h4).append_right m.dr).append_left m.fr.flatten
    refine p1.trans ?_
    rw [List.append_assoc l, ← List.append_assoc m.fr.flatten, ← List.append_assoc l]
    exact List.perm_append_comm.append_right _
  · rw [if_neg e, if_neg e]
    show ((m.fr.set n.2.toNat l).flatten ++ (m.bk.flatten ++ m.dr)).Perm _
    have p1 := (flat_set l h3).append_right (m.bk.flatten ++ m.dr)
    refine p1.trans ?_
    rw [List.append_assoc l]
theorem all_get {m : Mc} {n : Int × Int} (h : ndIn m n) : (allL m).Perm (onL m n ++ restL m n) := by
  obtain ⟨h1, h2, h3, h4⟩ := h
  unfold allL onL restL
  by_cases e : n.1 = 2
  · rw [if_pos e, if_pos e]
    have p1 := ((flat_get h4).append_right m.dr).append_left m.fr.flatten
    refine p1.trans ?_
    rw [List.append_assoc (m.bk.getD _ _), ← List.append_assoc m.fr.flatten, ← List.append_assoc (m.bk.getD _ _)]
    exact List.perm_append_comm.append_right _
  · rw [if_neg e, if_neg e]
    have p1 := (flat_get h3).append_right (m.bk.flatten ++ m.dr)
    refine p1.trans ?_
    rw [List.append_assoc (m.fr.getD _ _)]
theorem OkP.need {m : Mc} (h : OkP m) {n : Int × Int} (hb : n.1 = 1 ∨ n.1 = 2) (h0 : 0 ≤ n.2) (h1 : n.2 < m.wd) : ndIn m n := ⟨hb, h0, by have := h.fr; omega, by have := h.bk; omega⟩
theorem setL_fr (m : Mc) (n : Int × Int) (l : List Int) : (setL m n l).fr.length = m.fr.length ∧ (setL m n l).bk.length = m.bk.length ∧ (setL m n l).wd = m.wd ∧ (setL m n l).rk = m.rk ∧ (setL m n l).cs = m.cs ∧ (setL m n l).ls = m.ls ∧ (setL m n l).dr = m.dr := by
  unfold setL; split <;> simp
theorem ndIn_set {m : Mc} {n k : Int × Int} (l : List Int) (h : ndIn m n) : ndIn (setL m k l) n := by
  have := setL_fr m k l
  obtain ⟨h1, h2, h3, h4⟩ := h
  exact ⟨h1, h2, by omega, by omega⟩
theorem set_mem {L : List (List Int)} {k : Nat} {l x : List Int} (h : x ∈ L.set k l) : x = l ∨ x ∈ L := by
  rcases List.mem_or_eq_of_mem_set h with h | h
  · exact .inr h
  · exact .inl h
/-- A needle's list replaced by one that is made of known loops. -/
theorem OkP.setL {m : Mc} (h : OkP m) (n : Int × Int) (l : List Int) (h4 : l.length ≤ 4) (hn : (allL (setL m n l)).Nodup) (hr : ∀ x ∈ allL (setL m n l), 0 ≤ x ∧ x < m.ls.length) : OkP (setL m n l) := by
  obtain ⟨e1, e2, e3, e4, e5, e6, e7⟩ := setL_fr m n l
  refine ⟨by rw [e3]; exact h.wd, by rw [e4]; exact h.rk, by rw [e1, e3]; exact h.fr, by rw [e2, e3]; exact h.bk, by rw [e5]; exact h.cs, by rw [e6]; exact h.ls, fun x hx => ?_, fun x hx => ?_, by rw [e5, e3]; exact h.car, by rw [e6, e3]; exact h.inf, by rw [e7]; exact h.ris, hn, by rw [e6]; exact hr⟩
  · unfold Go.Proofs.YthhpjgdeehcgjaaGreat.setL at hx
    split at hx
    · exact h.f4 x hx
    · rcases set_mem hx with rfl | hx
      · exact h4
      · exact h.f4 x hx
  · unfold Go.Proofs.YthhpjgdeehcgjaaGreat.setL at hx
    split at hx
    · rcases set_mem hx with rfl | hx
      · exact h4
      · exact h.b4 x hx
    · exact h.b4 x hx
theorem OkP.on4 {m : Mc} (h : OkP m) (n : Int × Int) : (onL m n).length ≤ 4 := onL_len (okM_iff.2 h) n
/-- A needle emptied. -/
theorem OkP.empty {m : Mc} (h : OkP m) {n : Int × Int} (hn : ndIn m n) : OkP (Go.Proofs.YthhpjgdeehcgjaaGreat.setL m n []) := by
  have p1 := all_set [] hn
  have p2 := all_get hn
  have s : (restL m n).Sublist (onL m n ++ restL m n) := List.sublist_append_right _ _
  refine h.setL n [] (by simp) ((p1.nodup_iff).2 ((p2.nodup_iff.1 h.nd).sublist s)) (fun x hx => ?_)
  exact h.rng x (p2.mem_iff.2 (s.subset (p1.mem_iff.1 hx)))
/-- A carrier that stands within the bounds. -/
theorem OkP.setC {m : Mc} (h : OkP m) (c : Int) (x : Car) (hx : carB m.wd x = true) : OkP (setC m c x) := by
  refine ⟨h.wd, h.rk, h.fr, h.bk, by show (m.cs.set _ _).length = 4; rw [List.length_set]; exact h.cs, h.ls, h.f4, h.b4, fun y hy => ?_, h.inf, h.ris, h.nd, h.rng⟩
  rcases List.mem_or_eq_of_mem_set (show y ∈ m.cs.set (c - 1).toNat x from hy) with h1 | h1
  · exact h.car y h1
  · rw [h1]; exact hx
theorem carB_iff {wd : Int} {c : Car} : carB wd c = true ↔ -3 ≤ c.p ∧ c.p ≤ wd + 3 ∧ (c.i = true ∨ c.p = 0) := by
  unfold carB
  simp only [Bool.and_eq_true, inB_iff, Bool.or_eq_true, decide_eq_true_eq, and_assoc]
theorem plc_rng {b a r wd : Int} (h0 : 0 ≤ a) (h1 : a < wd) (h2 : -3 ≤ r) (h3 : r ≤ 3) : -3 ≤ plc b a r ∧ plc b a r < wd + 3 := by unfold plc; split <;> omega
theorem carOk_in {m : Mc} {o : Opr} (h : carOk m o = true) : (carAt m o.c).i = true := by
  unfold carOk at h
  simp only [Bool.and_eq_true] at h
  exact h.1
theorem OkP.carTo {m : Mc} (h : OkP m) {o : Opr} (hc : carOk m o = true) (h0 : 0 ≤ o.fa) (h1 : o.fa < m.wd) : OkP (carTo m o) := by
  have hp := plc_rng (b := o.fb) h0 h1 h.rk.1 h.rk.2
  refine h.setC _ _ (carB_iff.2 ⟨?_, ?_, .inl (carOk_in hc)⟩)
  · show -3 ≤ (if o.d = 1 then plcO m o + 1 else plcO m o); unfold plcO; split <;> omega
  · show (if o.d = 1 then plcO m o + 1 else plcO m o) ≤ m.wd + 3; unfold plcO; split <;> omega
/-- A loop more. -/
theorem okInf_new {m : Mc} {o : Opr} {ps : List Int} (h : OkP m) (hk : o.k = 1 ∨ o.k = 2 ∨ o.k = 5) (hd : o.d = 1 ∨ o.d = -1) (hb : o.fb = 1 ∨ o.fb = 2) (h0 : 0 ≤ o.fa) (h1 : o.fa < m.wd) (hc : 1 ≤ o.c ∧ o.c ≤ 4)
    (hp4 : ps.length ≤ 4) (hpn : ps.Nodup) (hpr : ∀ x ∈ ps, 0 ≤ x ∧ x < m.ls.length) (h2 : o.k = 2 → ps = []) (h5 : o.k = 5 → 0 < ps.length) : okInf m.wd m.ls.length ⟨o.k, o.c, o.fb, o.fa, o.d, ps⟩ = true := by
  unfold okInf kindM headI tailI bedM
  simp only [Bool.and_eq_true, decide_eq_true_eq, inB_iff, dirM_iff, parsB_iff, Bool.or_eq_true, Bool.not_eq_true', beq_eq_false_iff_ne]
  refine ⟨by omega, ⟨hc, hb, ⟨h0, by omega⟩, hd⟩, hp4, ⟨fun x hx => by have := hpr x hx; omega, hpn, by simp⟩, ?_, ?_⟩
  · by_cases e : o.k = 2
    · right; rw [h2 e]; rfl
    · exact .inl e
  · by_cases e : o.k = 5
    · right; exact h5 e
    · exact .inl e
theorem OkP.add_lp {m : Mc} (h : OkP m) {o : Opr} {ps : List Int} (h3 : m.ls.length < 300) (hi : okInf m.wd m.ls.length ⟨o.k, o.c, o.fb, o.fa, o.d, ps⟩ = true) : OkP (addLp m o ps) := by
  refine ⟨h.wd, h.rk, h.fr, h.bk, h.cs, ?_, h.f4, h.b4, h.car, fun j x hx => ?_, h.ris, h.nd, fun x hx => ?_⟩
  · show (m.ls ++ [_]).length ≤ 300
    simp; omega
  · have hx' : (m.ls ++ [(⟨o.k, o.c, o.fb, o.fa, o.d, ps⟩ : Inf)])[j]? = some x := hx
    by_cases hj : j < m.ls.length
    · rw [List.getElem?_append_left hj] at hx'
      exact h.inf j x hx'
    · have hj2 : j = m.ls.length := by have := (List.getElem?_eq_some_iff.1 hx').1; simp at this; omega
      subst hj2
      rw [List.getElem?_append_right (Nat.le_refl _), Nat.sub_self] at hx'
      injection hx' with hx'
      subst hx'
      exact hi
  · have := h.rng x hx
    show 0 ≤ x ∧ x < ((m.ls ++ [_]).length : Nat)
    simp; omega
/-- The number of the new loop alone on a needle, or behind those on it. -/
theorem OkP.addOn {m : Mc} (h : OkP m) {o : Opr} {ps l : List Int} {n : Int × Int} (hn : ndIn m n) (h3 : m.ls.length < 300) (hi : okInf m.wd m.ls.length ⟨o.k, o.c, o.fb, o.fa, o.d, ps⟩ = true) (hl : l = [] ∨ l = onL m n) (h4 : l.length < 4) :
    OkP (Go.Proofs.YthhpjgdeehcgjaaGreat.setL (addLp m o ps) n (l ++ [(m.ls.length : Int)])) := by
  have ha := h.add_lp h3 hi
  have hn' : ndIn (addLp m o ps) n := hn
  have p1 := all_set (l ++ [(m.ls.length : Int)]) hn'
  have p2 := all_get hn
  have er : restL (addLp m o ps) n = restL m n := rfl
  rw [er] at p1
  have hb := p2.nodup_iff.1 h.nd
  have hlr : (l ++ restL m n).Nodup ∧ ∀ x ∈ l ++ restL m n, 0 ≤ x ∧ x < m.ls.length := by
    have hsub : (l ++ restL m n).Sublist (onL m n ++ restL m n) := by
      rcases hl with rfl | rfl
      · exact List.sublist_append_right _ _
      · exact List.Sublist.refl _
    exact ⟨hb.sublist hsub, fun x hx => h.rng x (p2.mem_iff.2 (hsub.subset hx))⟩
  have p3 : (l ++ [(m.ls.length : Int)] ++ restL m n).Perm ((m.ls.length : Int) :: (l ++ restL m n)) := by
    rw [List.append_assoc]
    exact List.perm_middle
  refine ha.setL n _ (by simp; omega) ((p1.trans p3).nodup_iff.2 (List.nodup_cons.2 ⟨fun hx => ?_, hlr.1⟩)) (fun x hx => ?_)
  · have := hlr.2 _ hx
    omega
  · have hl2 : (addLp m o ps).ls.length = m.ls.length + 1 := by show (m.ls ++ [_]).length = _; simp
    rw [hl2]
    rcases List.mem_cons.1 ((p1.trans p3).mem_iff.1 hx) with rfl | hx
    · omega
    · have := hlr.2 x hx; omega
theorem onL_setL_ne {m : Mc} {n k : Int × Int} (l : List Int) (hn : ndIn m n) (hk : ndIn m k) (hne : n.1 ≠ k.1) : onL (setL m k l) n = onL m n := by
  obtain ⟨h1, h2, h3, h4⟩ := hn
  obtain ⟨k1, k2, k3, k4⟩ := hk
  unfold onL setL
  by_cases e : n.1 = 2 <;> by_cases e2 : k.1 = 2
  · omega
  · rw [if_pos e, if_pos e, if_neg e2]
  · rw [if_neg e, if_neg e, if_pos e2]
  · omega
theorem onL_setL {m : Mc} {n : Int × Int} (l : List Int) (hn : ndIn m n) : onL (setL m n l) n = l := by
  obtain ⟨h1, h2, h3, h4⟩ := hn
  unfold onL setL
  by_cases e : n.1 = 2
  · rw [if_pos e, if_pos e]
    show (m.bk.set _ _).getD _ _ = _
    rw [List.getD_eq_getElem?_getD, List.getElem?_set_self h4]; rfl
  · rw [if_neg e, if_neg e]
    show (m.fr.set _ _).getD _ _ = _
    rw [List.getD_eq_getElem?_getD, List.getElem?_set_self h3]; rfl
theorem mvL_perm (m : Mc) (o : Opr) : (mvL m o).Perm (onL m o.f ++ onL m o.t) := by
  unfold mvL
  split
  · exact List.Perm.refl _
  · exact List.perm_append_comm
theorem mvCode_zero {m : Mc} {o : Opr} (h : mvCode m o = 0) : plc o.fb o.fa m.rk = plc o.tb o.ta m.rk ∧ 0 < (onL m o.f).length ∧ (onL m o.f).length + (onL m o.t).length ≤ 4 := by
  unfold mvCode at h
  split at h
  · omega
  rename_i h1
  split at h
  · omega
  split at h
  · omega
  exact ⟨by simpa using h1, by omega, by omega⟩
theorem OkP.mvTo {m : Mc} (h : OkP m) {o : Opr} (hf : ndIn m o.f) (ht : ndIn m o.t) (hne : o.fb ≠ o.tb) (hc : mvCode m o = 0) : OkP (mvTo m o) := by
  obtain ⟨-, -, h4⟩ := mvCode_zero hc
  have hlen : (mvL m o).length ≤ 4 := by rw [(mvL_perm m o).length_eq, List.length_append]; exact h4
  unfold Go.Proofs.YthhpjgdeehcgjaaGreat.mvTo
  have hf' : ndIn (Go.Proofs.YthhpjgdeehcgjaaGreat.setL m o.t (mvL m o)) o.f := ndIn_set _ hf
  -- all loops: first what was on both needles
  have p1 := all_set (m := Go.Proofs.YthhpjgdeehcgjaaGreat.setL m o.t (mvL m o)) [] hf'
  have p2 := all_get (m := Go.Proofs.YthhpjgdeehcgjaaGreat.setL m o.t (mvL m o)) hf'
  rw [onL_setL_ne _ hf ht hne] at p2
  have p3 := all_set (mvL m o) ht
  have p4 := all_get ht
  -- [] ++ rest, and onL f ++ rest ~ mvL ++ restL m t ~ (onL f ++ onL t) ++ restL m t ~ onL f ++ all m
  have p5 : (onL m o.f ++ restL (Go.Proofs.YthhpjgdeehcgjaaGreat.setL m o.t (mvL m o)) o.f).Perm (onL m o.f ++ allL m) := by
    refine (p2.symm.trans p3).trans ?_
    refine ((mvL_perm m o).append_right _).trans ?_
    rw [List.append_assoc]
    exact p4.symm.append_left _
  have p6 := (List.perm_append_left_iff (onL m o.f)).1 p5
  have p7 : (allL (Go.Proofs.YthhpjgdeehcgjaaGreat.setL (Go.Proofs.YthhpjgdeehcgjaaGreat.setL m o.t (mvL m o)) o.f [])).Perm (allL m) := p1.trans (by simpa using p6)
  have hn := p7.nodup_iff.2 h.nd
  have hr : ∀ x ∈ allL (Go.Proofs.YthhpjgdeehcgjaaGreat.setL (Go.Proofs.YthhpjgdeehcgjaaGreat.setL m o.t (mvL m o)) o.f []), 0 ≤ x ∧ x < m.ls.length := fun x hx => h.rng x (p7.mem_iff.1 hx)
  obtain ⟨e1, e2, e3, e4, e5, e6, e7⟩ := setL_fr m o.t (mvL m o)
  obtain ⟨g1, g2, g3, g4, g5, g6, g7⟩ := setL_fr (Go.Proofs.YthhpjgdeehcgjaaGreat.setL m o.t (mvL m o)) o.f []
  have hA : ∀ x ∈ (Go.Proofs.YthhpjgdeehcgjaaGreat.setL m o.t (mvL m o)).fr, x.length ≤ 4 := fun x hx => by
    unfold Go.Proofs.YthhpjgdeehcgjaaGreat.setL at hx
    split at hx
    · exact h.f4 x hx
    · rcases set_mem hx with rfl | hx
      · exact hlen
      · exact h.f4 x hx
  have hB : ∀ x ∈ (Go.Proofs.YthhpjgdeehcgjaaGreat.setL m o.t (mvL m o)).bk, x.length ≤ 4 := fun x hx => by
    unfold Go.Proofs.YthhpjgdeehcgjaaGreat.setL at hx
    split at hx
    · rcases set_mem hx with rfl | hx
      · exact hlen
      · exact h.b4 x hx
    · exact h.b4 x hx
  refine ⟨by rw [g3, e3]; exact h.wd, by rw [g4, e4]; exact h.rk, by rw [g1, e1, g3, e3]; exact h.fr, by rw [g2, e2, g3, e3]; exact h.bk, by rw [g5, e5]; exact h.cs, by rw [g6, e6]; exact h.ls, fun x hx => ?_, fun x hx => ?_, by rw [g5, e5, g3, e3]; exact h.car, by rw [g6, e6, g3, e3]; exact h.inf, by rw [g7, e7]; exact h.ris, hn, by rw [g6, e6]; exact hr⟩
  · generalize Go.Proofs.YthhpjgdeehcgjaaGreat.setL m o.t (mvL m o) = M at *
    unfold Go.Proofs.YthhpjgdeehcgjaaGreat.setL at hx
    split at hx
    · exact hA x hx
    · rcases set_mem hx with rfl | hx
      · simp
      · exact hA x hx
  · generalize Go.Proofs.YthhpjgdeehcgjaaGreat.setL m o.t (mvL m o) = M at *
    unfold Go.Proofs.YthhpjgdeehcgjaaGreat.setL at hx
    split at hx
    · rcases set_mem hx with rfl | hx
      · simp
      · exact hB x hx
    · exact hB x hx

/-! ### What was dropped -/
theorem risB_iff : ∀ {l : List Int}, risB l = true ↔ l.Pairwise (· < ·)
  | [] => by simp [risB]
  | [a] => by simp [risB]
  | a :: b :: t => by
    rw [risB, Bool.and_eq_true, decide_eq_true_eq, risB_iff (l := b :: t)]
    constructor
    · rintro ⟨h1, h2⟩
      refine List.pairwise_cons.2 ⟨fun x hx => ?_, h2⟩
      rcases List.mem_cons.1 hx with rfl | hx
      · exact h1
      · have := (List.pairwise_cons.1 h2).1 x hx; omega
    · intro h
      exact ⟨(List.pairwise_cons.1 h).1 b (by simp), (List.pairwise_cons.1 h).2⟩
theorem putI_perm {n : Int} : ∀ {l : List Int}, l.Pairwise (· < ·) → ¬ n ∈ l → (putI l n).Perm (n :: l) ∧ (putI l n).Pairwise (· < ·)
  | [], _, _ => by simp [putI]
  | x :: t, h, hn => by
    obtain ⟨h1, h2⟩ := List.pairwise_cons.1 h
    rw [putI]
    by_cases h3 : n ≤ x
    · have h4 : n < x := by
        have : n ≠ x := fun e => hn (by simp [e])
        omega
      rw [if_pos h3, if_pos h4]
      refine ⟨List.Perm.refl _, List.pairwise_cons.2 ⟨fun y hy => ?_, h⟩⟩
      rcases List.mem_cons.1 hy with rfl | hy
      · exact h4
      · have := h1 y hy; omega
    · rw [if_neg h3]
      obtain ⟨p, s⟩ := putI_perm (n := n) (l := t) h2 (fun e => hn (by simp [e]))
      refine ⟨(p.cons x).trans (List.Perm.swap n x t), List.pairwise_cons.2 ⟨fun y hy => ?_, s⟩⟩
      rcases List.mem_cons.1 (p.mem_iff.1 hy) with rfl | hy
      · omega
      · exact h1 y hy
theorem putAll_perm : ∀ {ns l : List Int}, l.Pairwise (· < ·) → (ns ++ l).Nodup → (putAll l ns).Perm (ns ++ l) ∧ (putAll l ns).Pairwise (· < ·)
  | [], l, h, _ => ⟨List.Perm.refl _, h⟩
  | n :: t, l, h, hn => by
    have hn' : ¬ n ∈ l := fun e => (List.nodup_cons.1 hn).1 (by simp [e])
    obtain ⟨p, s⟩ := putI_perm h hn'
    have p1 : (t ++ putI l n).Perm (n :: (t ++ l)) := (p.append_left t).trans List.perm_middle
    obtain ⟨q, r⟩ := putAll_perm (ns := t) (l := putI l n) s (p1.nodup_iff.2 hn)
    exact ⟨q.trans p1, r⟩
theorem OkP.drop {m : Mc} (h : OkP m) {n : Int × Int} (hn : ndIn m n) : OkP (Go.Proofs.YthhpjgdeehcgjaaGreat.setL { m with dr := putAll m.dr (onL m n) } n []) := by
  have p2 := all_get hn
  have hb := p2.nodup_iff.1 h.nd
  -- the dropped ones are among the rest
  have hsub : (onL m n ++ m.dr).Sublist (onL m n ++ restL m n) := by
    refine (List.Sublist.refl _).append ?_
    unfold restL
    split
    · exact (List.sublist_append_right _ _).trans (List.sublist_append_right _ _)
    · exact (List.sublist_append_right _ _).trans (List.sublist_append_right _ _)
  obtain ⟨q, s⟩ := putAll_perm (risB_iff.1 h.ris) (hb.sublist hsub)
  have hn' : ndIn { m with dr := putAll m.dr (onL m n) } n := hn
  have p1 := all_set [] hn'
  have p3 : (restL { m with dr := putAll m.dr (onL m n) } n).Perm (onL m n ++ restL m n) := by
    refine List.perm_iff_count.2 fun a => ?_
    have hq := List.perm_iff_count.1 q a
    simp only [List.count_append] at hq
    unfold restL
    split
    · show List.count a (m.fr.flatten ++ (_ ++ putAll m.dr (onL m n))) = List.count a (onL m n ++ (m.fr.flatten ++ (_ ++ m.dr)))
      simp only [List.count_append]
      omega
    · show List.count a (_ ++ (m.bk.flatten ++ putAll m.dr (onL m n))) = List.count a (onL m n ++ (_ ++ (m.bk.flatten ++ m.dr)))
      simp only [List.count_append]
      omega
  have p4 := (p1.trans p3).trans p2.symm
  have h1 : OkP { m with dr := putAll m.dr (onL m n) } → OkP (Go.Proofs.YthhpjgdeehcgjaaGreat.setL { m with dr := putAll m.dr (onL m n) } n []) := fun h1 => h1.empty hn'
  obtain ⟨e1, e2, e3, e4, e5, e6, e7⟩ := setL_fr { m with dr := putAll m.dr (onL m n) } n []
  refine ⟨by rw [e3]; exact h.wd, by rw [e4]; exact h.rk, by rw [e1, e3]; exact h.fr, by rw [e2, e3]; exact h.bk, by rw [e5]; exact h.cs, by rw [e6]; exact h.ls, fun x hx => ?_, fun x hx => ?_, by rw [e5, e3]; exact h.car, by rw [e6, e3]; exact h.inf, by rw [e7]; exact risB_iff.2 s, p4.nodup_iff.2 h.nd, by rw [e6]; exact fun x hx => h.rng x (p4.mem_iff.1 hx)⟩
  · unfold Go.Proofs.YthhpjgdeehcgjaaGreat.setL at hx
    split at hx
    · exact h.f4 x hx
    · rcases set_mem hx with rfl | hx
      · simp
      · exact h.f4 x hx
  · unfold Go.Proofs.YthhpjgdeehcgjaaGreat.setL at hx
    split at hx
    · rcases set_mem hx with rfl | hx
      · simp
      · exact h.b4 x hx
    · exact h.b4 x hx

/-! ### All operations -/
theorem onL_nodup {m : Mc} (h : OkP m) {n : Int × Int} (hn : ndIn m n) : (onL m n).Nodup ∧ ∀ x ∈ onL m n, 0 ≤ x ∧ x < m.ls.length := by
  have p := all_get hn
  exact ⟨(p.nodup_iff.1 h.nd).sublist (List.sublist_append_left _ _), fun x hx => h.rng x (p.mem_iff.2 (List.mem_append_left _ hx))⟩
theorem OkP.do_ {m : Mc} {o : Opr} (h : OkP m) (ho : okOpW m.wd o = true) (hc : doCode m o = 0) : OkP (doTo m o) := by
  obtain ⟨h0, hfw, htw⟩ := okOpW_iff.1 ho
  rcases okOp_kinds h0 with ⟨hk, hd, hf, c1, c4, htb, hta, hr⟩ | ⟨hk, hf, ht, hne, hd, hcc, hr⟩ | ⟨hk, hf, ht, hne, hd, c1, c4, hr⟩ | ⟨hk, hf, hd, htb, hta, hcc, hr⟩ | ⟨hk, hr1, hr2, _⟩ | ⟨hk, hd, c1, c4, _⟩ | ⟨hk, c1, c4, _⟩
  · obtain ⟨hb, hf0, hf1⟩ := ndB_iff.1 hf
    have hn : ndIn m o.f := h.need hb hf0 hfw
    by_cases h3 : o.k = 3
    · have e1 : doCode m o = (if carOk m o = false then 9 else 0) := by unfold doCode; rw [if_neg (by omega), if_pos h3]
      have e2 : doTo m o = Go.Proofs.YthhpjgdeehcgjaaGreat.carTo m o := by unfold doTo; rw [if_neg (by omega), if_pos h3]
      rw [e1] at hc
      rw [e2]
      refine h.carTo ?_ hf0 hfw
      by_cases hco : carOk m o = false
      · rw [if_pos hco] at hc; omega
      · simpa using hco
    have hk' : o.k = 1 ∨ o.k = 2 ∨ o.k = 5 := by omega
    have e1 : doCode m o = fmCode m o := by unfold doCode; rw [if_pos hk']
    have e2 : doTo m o = fmTo m o := by unfold doTo; rw [if_pos hk']
    rw [e1] at hc
    rw [e2]
    unfold fmCode at hc
    by_cases hco : carOk m o = false
    · rw [if_pos hco] at hc; omega
    rw [if_neg hco] at hc
    have hco' : carOk m o = true := by simpa using hco
    have hcar := h.carTo hco' hf0 hfw
    have hnc : ndIn (Go.Proofs.YthhpjgdeehcgjaaGreat.carTo m o) o.f := hn
    by_cases hl : 300 ≤ m.ls.length
    · rw [if_pos hl] at hc; omega
    rw [if_neg hl] at hc
    obtain ⟨hpn, hpr⟩ := onL_nodup h hn
    unfold fmTo
    by_cases hk1 : o.k = 1
    · rw [if_pos hk1]
      exact hcar.addOn (ps := onL m o.f) (l := []) hnc (by show m.ls.length < 300; omega) (okInf_new hcar hk' hd hb hf0 hfw ⟨c1, c4⟩ (h.on4 _) hpn hpr (fun e => by omega) (fun e => by omega)) (.inl rfl) (by simp)
    · have hk2 : o.k = 2 := by omega
      rw [if_neg hk1, if_pos hk2]
      rw [if_neg hk1, if_pos hk2] at hc
      by_cases h4 : 4 ≤ (onL m o.f).length
      · rw [if_pos h4] at hc; omega
      exact hcar.addOn (ps := []) (l := onL m o.f) hnc (by show m.ls.length < 300; omega) (okInf_new hcar hk' hd hb hf0 hfw ⟨c1, c4⟩ (by simp) List.nodup_nil (by simp) (fun _ => rfl) (fun e => by omega)) (.inr rfl) (by omega)
  · obtain ⟨hb, hf0, hf1⟩ := ndB_iff.1 hf
    obtain ⟨hb2, ht0, ht1⟩ := ndB_iff.1 ht
    have e1 : doCode m o = mvCode m o := by unfold doCode; rw [if_neg (by omega), if_neg (by omega), if_pos hk]
    have e2 : doTo m o = Go.Proofs.YthhpjgdeehcgjaaGreat.mvTo m o := by unfold doTo; rw [if_neg (by omega), if_neg (by omega), if_pos hk]
    rw [e1] at hc
    rw [e2]
    exact h.mvTo (h.need hb hf0 hfw) (h.need hb2 ht0 htw) hne hc
  · obtain ⟨hb, hf0, hf1⟩ := ndB_iff.1 hf
    obtain ⟨hb2, ht0, ht1⟩ := ndB_iff.1 ht
    have hn : ndIn m o.f := h.need hb hf0 hfw
    have hn2 : ndIn m o.t := h.need hb2 ht0 htw
    have hk' : o.k = 1 ∨ o.k = 2 ∨ o.k = 5 := by omega
    have e1 : doCode m o = fmCode m o := by unfold doCode; rw [if_pos hk']
    have e2 : doTo m o = fmTo m o := by unfold doTo; rw [if_pos hk']
    rw [e1] at hc
    rw [e2]
    unfold fmCode at hc
    by_cases hco : carOk m o = false
    · rw [if_pos hco] at hc; omega
    rw [if_neg hco] at hc
    have hco' : carOk m o = true := by simpa using hco
    have hcar := h.carTo hco' hf0 hfw
    by_cases hl : 300 ≤ m.ls.length
    · rw [if_pos hl] at hc; omega
    rw [if_neg hl, if_neg (by omega), if_neg (by omega)] at hc
    obtain ⟨hpn, hpr⟩ := onL_nodup h hn
    unfold fmTo
    rw [if_neg (by omega), if_neg (by omega)]
    have hmc : mvCode (Go.Proofs.YthhpjgdeehcgjaaGreat.carTo m o) o = 0 := hc
    have hmv := hcar.mvTo (o := o) hn hn2 hne hmc
    obtain ⟨-, hpos, -⟩ := mvCode_zero hc
    obtain ⟨e3, e4, e5, e6, e7, e8, e9⟩ := setL_fr (Go.Proofs.YthhpjgdeehcgjaaGreat.carTo m o) o.t (mvL (Go.Proofs.YthhpjgdeehcgjaaGreat.carTo m o) o)
    obtain ⟨g3, g4, g5, g6, g7, g8, g9⟩ := setL_fr (Go.Proofs.YthhpjgdeehcgjaaGreat.setL (Go.Proofs.YthhpjgdeehcgjaaGreat.carTo m o) o.t (mvL (Go.Proofs.YthhpjgdeehcgjaaGreat.carTo m o) o)) o.f []
    have hls : (Go.Proofs.YthhpjgdeehcgjaaGreat.mvTo (Go.Proofs.YthhpjgdeehcgjaaGreat.carTo m o) o).ls = m.ls := by unfold Go.Proofs.YthhpjgdeehcgjaaGreat.mvTo; rw [g8, e8]; rfl
    have hwd : (Go.Proofs.YthhpjgdeehcgjaaGreat.mvTo (Go.Proofs.YthhpjgdeehcgjaaGreat.carTo m o) o).wd = m.wd := by unfold Go.Proofs.YthhpjgdeehcgjaaGreat.mvTo; rw [g5, e5]; rfl
    have hnm : ndIn (Go.Proofs.YthhpjgdeehcgjaaGreat.mvTo (Go.Proofs.YthhpjgdeehcgjaaGreat.carTo m o) o) o.f := ndIn_set _ (ndIn_set _ hn)
    have hi := okInf_new (ps := onL m o.f) hcar hk' hd hb hf0 hfw ⟨c1, c4⟩ (h.on4 _) hpn hpr (fun e => by omega) (fun e => hpos)
    have := hmv.addOn (o := o) (ps := onL m o.f) (l := []) hnm (by rw [hls]; omega) (by rw [hls, hwd]; exact hi) (.inl rfl) (by simp)
    rw [hls] at this
    exact this
  · obtain ⟨hb, hf0, hf1⟩ := ndB_iff.1 hf
    have e2 : doTo m o = Go.Proofs.YthhpjgdeehcgjaaGreat.setL { m with dr := putAll m.dr (onL m o.f) } o.f [] := by unfold doTo; rw [if_neg (by omega), if_neg (by omega), if_neg (by omega), if_pos hk]
    rw [e2]
    exact h.drop (h.need hb hf0 hfw)
  · have e2 : doTo m o = { m with rk := o.r } := by unfold doTo; rw [if_neg (by omega), if_neg (by omega), if_neg (by omega), if_neg (by omega), if_pos hk]
    rw [e2]
    exact ⟨h.wd, ⟨hr1, hr2⟩, h.fr, h.bk, h.cs, h.ls, h.f4, h.b4, h.car, h.inf, h.ris, h.nd, h.rng⟩
  · have e2 : doTo m o = Go.Proofs.YthhpjgdeehcgjaaGreat.setC m o.c ⟨true, if o.d = -1 then m.wd + 3 else -3⟩ := by unfold doTo; rw [if_neg (by omega), if_neg (by omega), if_neg (by omega), if_neg (by omega), if_neg (by omega), if_pos hk]
    rw [e2]
    refine h.setC _ _ (carB_iff.2 ⟨?_, ?_, .inl rfl⟩)
    · show -3 ≤ (if o.d = -1 then m.wd + 3 else -3); have := h.wd; split <;> omega
    · show (if o.d = -1 then m.wd + 3 else -3) ≤ m.wd + 3; have := h.wd; split <;> omega
  · have e2 : doTo m o = Go.Proofs.YthhpjgdeehcgjaaGreat.setC m o.c ⟨false, 0⟩ := by unfold doTo; rw [if_neg (by omega), if_neg (by omega), if_neg (by omega), if_neg (by omega), if_neg (by omega), if_neg (by omega)]
    rw [e2]
    exact h.setC _ _ (carB_iff.2 ⟨by show (-3 : Int) ≤ 0; omega, by show (0 : Int) ≤ m.wd + 3; have := h.wd; omega, .inr rfl⟩)
theorem ok_do {m : Mc} {o : Opr} (h : okM m = true) (ho : okOpW m.wd o = true) (hc : doCode m o = 0) : okM (doTo m o) = true := okM_iff.2 ((okM_iff.1 h).do_ ho hc)

end Go.Proofs.YthhpjgdeehcgjaaGreat

/-
  The crossings of a step of the rack, in plain Lean: the program's order of needles, turned pair by pair, and the reference's counts.
-/
namespace Go.Proofs.YthhpjgdeehcgjaaGreat
set_option linter.unusedVariables false
set_option linter.unusedSimpArgs false
open Go.RowKit

abbrev Nd := Int × Int
def szN (m : Mc) (n : Nd) : Nat := (onL m n).length
def szL (m : Mc) (l : List Nd) : Nat := (l.map (szN m)).sum
theorem szL_append (m : Mc) (a b : List Nd) : szL m (a ++ b) = szL m a + szL m b := by unfold szL; rw [List.map_append, List.sum_append]
/-- The crossings of a block of a strands that begins at p with the t-th strand behind it: places and signs. -/
def crRow (p s : Int) (t : Nat) : Nat → List (Int × Int)
  | 0 => []
  | k + 1 => (p + (t : Int) + (k : Int), s) :: crRow p s t k
def crL (p : Int) (a b : Nat) (s : Int) : List (Int × Int) := (List.range b).flatMap fun t => crRow p s t a
/-! ### The reference's count of the strands before a needle -/
def befT (m : Mc) (n : Nd) (i : Nat) : Nat :=
  (if (i : Int) < plc n.1 n.2 m.rk ∨ ((i : Int) = plc n.1 n.2 m.rk ∧ n.1 = 2) then szN m (1, (i : Int)) else 0) + (if (i : Int) + m.rk < plc n.1 n.2 m.rk then szN m (2, (i : Int)) else 0)
def befS (m : Mc) (n : Nd) : Nat := ((List.range m.wd.toNat).map (befT m n)).sum
/-- The crossings of one step, as the reference counts them. -/
def rkT (m : Mc) (up : Bool) (i : Nat) : List (Int × Int) :=
  let k := (i : Int) - m.rk - (if up = true then 1 else 0)
  if inB 0 k (m.wd - 1) = true then (if up = true then crL (befS m (2, k)) (szN m (2, k)) (szN m (1, (i : Int))) (-1) else crL (befS m (1, (i : Int))) (szN m (1, (i : Int))) (szN m (2, k)) 1) else []
def rkS (m : Mc) (up : Bool) : List (Int × Int) := (List.range m.wd.toNat).flatMap (rkT m up)
/-! ### The program's order -/
def swapAt (l : List Nd) (a : Nat) : List Nd := l.take a ++ (l.drop (a + 1)).take 1 ++ (l.drop a).take 1 ++ l.drop (a + 2)
theorem swap_at (P T : List Nd) (u v : Nd) : swapAt (P ++ u :: v :: T) P.length = P ++ v :: u :: T := by
  unfold swapAt
  rw [List.take_left, List.drop_left]
  have e1 : (P ++ u :: v :: T).drop (P.length + 1) = v :: T := by rw [show P ++ u :: v :: T = (P ++ [u]) ++ v :: T by simp, show P.length + 1 = (P ++ [u]).length by simp, List.drop_left]
  have e2 : (P ++ u :: v :: T).drop (P.length + 2) = T := by rw [show P ++ u :: v :: T = (P ++ [u, v]) ++ T by simp, show P.length + 2 = (P ++ [u, v]).length by simp, List.drop_left]
  rw [e1, e2]
  simp
/-- One needle's part of a step: the order behind it, and the crossings. -/
def rkJ (m : Mc) (up : Bool) (l : List Nd) (a : Int) (bk : Nd) : List Nd × List (Int × Int) :=
  if a < 0 ∨ (l.length : Int) ≤ a + 1 ∨ (l[a.toNat]? ≠ some bk ∧ l[a.toNat + 1]? ≠ some bk) then (l, [])
  else (swapAt l a.toNat, crL (szL m (l.take a.toNat)) (szN m ((l[a.toNat]?).getD (0, 0))) (szN m ((l[a.toNat + 1]?).getD (0, 0))) (if up = true then -1 else 1))
def rkI (m : Mc) (up : Bool) (i : Nat) (l : List Nd) : List Nd × List (Int × Int) :=
  rkJ m up l ((l.idxOf ((1, (i : Int)) : Nd) : Int) - (if up = true then 1 else 0)) (2, (i : Int) - m.rk - (if up = true then 1 else 0))
theorem rkI_up' (m : Mc) (i : Nat) (l : List Nd) (k : Nat) (h : l.idxOf ((1, (i : Int)) : Nd) = k) : rkI m true i l = rkJ m true l ((k : Int) - 1) (2, (i : Int) - m.rk - 1) := by subst h; rfl
theorem rkI_dn' (m : Mc) (i : Nat) (l : List Nd) (k : Nat) (h : l.idxOf ((1, (i : Int)) : Nd) = k) : rkI m false i l = rkJ m false l (k : Int) (2, (i : Int) - m.rk) := by
  subst h
  show rkJ m false l (((List.idxOf ((1, (i : Int)) : Nd) l : Nat) : Int) - 0) (2, (i : Int) - m.rk - 0) = _
  rw [Int.sub_zero, Int.sub_zero]
theorem rkJ_no (m : Mc) (up : Bool) (l : List Nd) (a : Int) (bk : Nd) (h : a < 0 ∨ (l.length : Int) ≤ a + 1 ∨ (l[a.toNat]? ≠ some bk ∧ l[a.toNat + 1]? ≠ some bk)) : rkJ m up l a bk = (l, []) := if_pos h
theorem rkJ_yes (m : Mc) (up : Bool) (P T : List Nd) (u v bk : Nd) (h : u = bk ∨ v = bk) : rkJ m up (P ++ u :: v :: T) (P.length : Int) bk = (P ++ v :: u :: T, crL (szL m P) (szN m u) (szN m v) (if up = true then -1 else 1)) := by
  have g0 : (P ++ u :: v :: T)[P.length]? = some u := by simp
  have g1 : (P ++ u :: v :: T)[P.length + 1]? = some v := by rw [List.getElem?_append_right (by omega)]; simp
  have gs : swapAt (P ++ u :: v :: T) P.length = P ++ v :: u :: T := swap_at P T u v
  have ht : (P ++ u :: v :: T).take P.length = P := List.take_left
  unfold rkJ
  rw [if_neg (by
    intro hc
    rw [show ((P.length : Int)).toNat = P.length by omega, g0, g1] at hc
    rcases hc with hc | hc | hc
    · omega
    · simp at hc; omega
    · rcases h with h | h
      · exact hc.1 (by rw [h])
      · exact hc.2 (by rw [h])), show ((P.length : Int)).toNat = P.length by omega, gs, ht, g0, g1]
  rfl
def rkG (m : Mc) (up : Bool) : Nat → Nat → List Nd → List (Int × Int)
  | 0, _, _ => []
  | f + 1, i, l => (rkI m up i l).2 ++ rkG m up f (i + 1) (rkI m up i l).1
def rkP (m : Mc) (up : Bool) : List (Int × Int) := rkG m up m.wd.toNat 0 (ndL m)

/-! ### They agree -/
def Fx (m : Mc) (x : Int) : List Nd := if inB 0 x (m.wd - 1) = true then [(1, x)] else []
def Bxx (m : Mc) (x : Int) : List Nd := if inB 0 (x - m.rk) (m.wd - 1) = true then [(2, x - m.rk)] else []
theorem ndX_FB (m : Mc) (x : Int) : ndX m x = Fx m x ++ Bxx m x := rfl
theorem Fx_mem {m : Mc} {x : Int} {n : Nd} (h : n ∈ Fx m x) : n = (1, x) ∧ 0 ≤ x ∧ x < m.wd := by
  unfold Fx at h
  split at h
  · rename_i h1; have := inB_iff.1 h1; simp at h; exact ⟨h, by omega, by omega⟩
  · simp at h
theorem Bxx_mem {m : Mc} {x : Int} {n : Nd} (h : n ∈ Bxx m x) : n = (2, x - m.rk) ∧ 0 ≤ x - m.rk ∧ x - m.rk < m.wd := by
  unfold Bxx at h
  split at h
  · rename_i h1; have := inB_iff.1 h1; simp at h; exact ⟨h, by omega, by omega⟩
  · simp at h
theorem Fx_yes {m : Mc} {i : Nat} (h : (i : Int) < m.wd) : Fx m (i : Int) = [(1, (i : Int))] := by unfold Fx; rw [if_pos (inB_iff.2 ⟨by omega, by omega⟩)]
/-- What stands behind place x. -/
theorem ndGo_step (m : Mc) (f : Nat) (x : Int) : ndGo m (f + 1) x = ndX m x ++ ndGo m f (x + 1) := rfl
theorem idx_at {P T : List Nd} {n : Nd} (h : ¬ n ∈ P) : (P ++ n :: T).idxOf n = P.length := by
  induction P with
  | nil => simp
  | cons a t ih =>
    have h1 : ¬ a = n := fun e => h (by simp [e])
    have h2 : ¬ n ∈ t := fun e => h (by simp [e])
    have h3 : (a == n) = false := by simpa using h1
    rw [List.cons_append, List.idxOf_cons, h3, cond_false, ih h2, List.length_cons]
/-- A step up: the back needle at place i - 1 goes over the front needle i. -/
theorem rkI_up {m : Mc} {i : Nat} {P T : List Nd} (hi : (i : Int) < m.wd) (hP : ∀ n ∈ P, n ≠ (1, (i : Int)) ∧ (n.1 = 2 → 0 ≤ n.2 ∧ n.2 < m.wd ∧ n.2 + m.rk < (i : Int) - 1)) :
    ∃ G', (rkI m true i (P ++ (Bxx m ((i : Int) - 1) ++ (Fx m (i : Int) ++ T)))).1 = P ++ (G' ++ T) ∧ szL m G' = szL m (Bxx m ((i : Int) - 1)) + szL m (Fx m (i : Int)) ∧ (∀ n ∈ G', n ∈ Bxx m ((i : Int) - 1) ∨ n ∈ Fx m (i : Int)) ∧
      (rkI m true i (P ++ (Bxx m ((i : Int) - 1) ++ (Fx m (i : Int) ++ T)))).2 = (if inB 0 ((i : Int) - m.rk - 1) (m.wd - 1) = true then crL (szL m P) (szN m (2, (i : Int) - m.rk - 1)) (szN m (1, (i : Int))) (-1) else []) := by
  rw [Fx_yes hi]
  have he : (i : Int) - 1 - m.rk = (i : Int) - m.rk - 1 := by omega
  by_cases hb : inB 0 ((i : Int) - m.rk - 1) (m.wd - 1) = true
  · have hB : Bxx m ((i : Int) - 1) = [(2, (i : Int) - m.rk - 1)] := by unfold Bxx; rw [he, if_pos hb]
    rw [hB, if_pos hb]
    have e0 : P ++ ([((2, (i : Int) - m.rk - 1) : Nd)] ++ ([(1, (i : Int))] ++ T)) = P ++ (2, (i : Int) - m.rk - 1) :: (1, (i : Int)) :: T := by simp
    rw [e0]
    have hidx : (P ++ ((2, (i : Int) - m.rk - 1) : Nd) :: (1, (i : Int)) :: T).idxOf ((1, (i : Int)) : Nd) = P.length + 1 := by
      have h1 := idx_at (P := P ++ [((2, (i : Int) - m.rk - 1) : Nd)]) (T := T) (n := (1, (i : Int))) (fun e => by
        rcases List.mem_append.1 e with e | e
        · exact (hP _ e).1 rfl
        · simp at e)
      simpa using h1
    have hr : rkI m true i (P ++ ((2, (i : Int) - m.rk - 1) : Nd) :: (1, (i : Int)) :: T) = (P ++ (1, (i : Int)) :: (2, (i : Int) - m.rk - 1) :: T, crL (szL m P) (szN m (2, (i : Int) - m.rk - 1)) (szN m (1, (i : Int))) (-1)) := by
      rw [rkI_up' m i _ _ hidx, show (((P.length + 1 : Nat)) : Int) - 1 = (P.length : Int) by omega]
      exact rkJ_yes m true P T _ _ _ (.inl rfl)
    rw [hr]
    refine ⟨[(1, (i : Int)), (2, (i : Int) - m.rk - 1)], by simp, by simp [szL]; omega, fun n hn => ?_, rfl⟩
    simp at hn
    rcases hn with rfl | rfl <;> simp
  · have hB : Bxx m ((i : Int) - 1) = [] := by unfold Bxx; rw [he, if_neg hb]
    rw [hB, if_neg hb]
    have e0 : P ++ (([] : List Nd) ++ ([(1, (i : Int))] ++ T)) = P ++ (1, (i : Int)) :: T := by simp
    rw [e0]
    have hidx : (P ++ ((1, (i : Int)) : Nd) :: T).idxOf ((1, (i : Int)) : Nd) = P.length := idx_at (fun e => (hP _ e).1 rfl)
    have hr : rkI m true i (P ++ ((1, (i : Int)) : Nd) :: T) = (P ++ (1, (i : Int)) :: T, []) := by
      rw [rkI_up' m i _ _ hidx]
      refine rkJ_no _ _ _ _ _ ?_
      rcases Nat.eq_zero_or_pos P.length with h0 | h0
      · left; omega
      · right; right
        rw [show ((P.length : Int) - 1).toNat = P.length - 1 by omega, show P.length - 1 + 1 = P.length by omega]
        constructor
        · intro e
          rw [List.getElem?_append_left (by omega)] at e
          have hm := List.mem_of_getElem? e
          have h2 := (hP _ hm).2 rfl
          apply hb
          refine inB_iff.2 ⟨?_, ?_⟩
          · have := h2.1; simp at this; omega
          · have := h2.2.1; simp at this; omega
        · intro e
          simp at e
    rw [hr]
    exact ⟨[(1, (i : Int))], by simp, by simp [szL], fun n hn => .inr hn, rfl⟩

/-- A step down: the front needle i goes over the back needle at its place. -/
theorem rkI_down {m : Mc} {i : Nat} {P T : List Nd} (hi : (i : Int) < m.wd) (hP : ∀ n ∈ P, n ≠ (1, (i : Int))) (hT : ∀ n ∈ T.head?, n ≠ (2, (i : Int) - m.rk)) :
    ∃ G', (rkI m false i (P ++ (Fx m (i : Int) ++ (Bxx m (i : Int) ++ T)))).1 = P ++ (G' ++ T) ∧ szL m G' = szL m (Fx m (i : Int)) + szL m (Bxx m (i : Int)) ∧ (∀ n ∈ G', n ∈ Fx m (i : Int) ∨ n ∈ Bxx m (i : Int)) ∧
      (rkI m false i (P ++ (Fx m (i : Int) ++ (Bxx m (i : Int) ++ T)))).2 = (if inB 0 ((i : Int) - m.rk) (m.wd - 1) = true then crL (szL m P) (szN m (1, (i : Int))) (szN m (2, (i : Int) - m.rk)) 1 else []) := by
  rw [Fx_yes hi]
  by_cases hb : inB 0 ((i : Int) - m.rk) (m.wd - 1) = true
  · have hB : Bxx m (i : Int) = [(2, (i : Int) - m.rk)] := by unfold Bxx; rw [if_pos hb]
    rw [hB, if_pos hb]
    have e0 : P ++ ([((1, (i : Int)) : Nd)] ++ ([(2, (i : Int) - m.rk)] ++ T)) = P ++ (1, (i : Int)) :: (2, (i : Int) - m.rk) :: T := by simp
    rw [e0]
    have hidx : (P ++ ((1, (i : Int)) : Nd) :: (2, (i : Int) - m.rk) :: T).idxOf ((1, (i : Int)) : Nd) = P.length := idx_at (fun e => hP _ e rfl)
    have hr : rkI m false i (P ++ ((1, (i : Int)) : Nd) :: (2, (i : Int) - m.rk) :: T) = (P ++ (2, (i : Int) - m.rk) :: (1, (i : Int)) :: T, crL (szL m P) (szN m (1, (i : Int))) (szN m (2, (i : Int) - m.rk)) 1) := by
      rw [rkI_dn' m i _ _ hidx]
      exact rkJ_yes m false P T _ _ _ (.inr rfl)
    rw [hr]
    refine ⟨[(2, (i : Int) - m.rk), (1, (i : Int))], by simp, by simp [szL]; omega, fun n hn => ?_, rfl⟩
    simp at hn
    rcases hn with rfl | rfl <;> simp
  · have hB : Bxx m (i : Int) = [] := by unfold Bxx; rw [if_neg hb]
    rw [hB, if_neg hb]
    have e0 : P ++ ([((1, (i : Int)) : Nd)] ++ (([] : List Nd) ++ T)) = P ++ (1, (i : Int)) :: T := by simp
    rw [e0]
    have hidx : (P ++ ((1, (i : Int)) : Nd) :: T).idxOf ((1, (i : Int)) : Nd) = P.length := idx_at (fun e => hP _ e rfl)
    have hr : rkI m false i (P ++ ((1, (i : Int)) : Nd) :: T) = (P ++ (1, (i : Int)) :: T, []) := by
      rw [rkI_dn' m i _ _ hidx]
      refine rkJ_no _ _ _ _ _ ?_
      right; right
      rw [show ((P.length : Int)).toNat = P.length by omega]
      constructor
      · intro e
        simp at e
      · intro e
        rw [List.getElem?_append_right (by omega), show P.length + 1 - P.length = 1 by omega] at e
        have e' : T[0]? = some (2, (i : Int) - m.rk) := by simpa using e
        exact hT _ (by rw [List.head?_eq_getElem?, e']; rfl) (by simp)
    rw [hr]
    exact ⟨[(1, (i : Int))], by simp, by simp [szL], fun n hn => .inl hn, rfl⟩

/-! ### Sums -/
def sumLt (g : Nat → Nat) (r : Int) (n : Nat) (x : Int) : Nat := ((List.range n).map fun (j : Nat) => if (j : Int) + r < x then g j else 0).sum
theorem sumLt_succ (g : Nat → Nat) (r : Int) (n : Nat) (x : Int) : sumLt g r (n + 1) x = sumLt g r n x + (if (n : Int) + r < x then g n else 0) := by
  unfold sumLt
  rw [List.range_succ, List.map_append, List.sum_append]
  simp
theorem sumLt_zero (g : Nat → Nat) (r : Int) (x : Int) (h : x ≤ r) : ∀ n, sumLt g r n x = 0
  | 0 => rfl
  | n + 1 => by rw [sumLt_succ, sumLt_zero g r x h n, if_neg (by omega)]
theorem sumLt_step (g : Nat → Nat) (r : Int) (x : Int) : ∀ n, sumLt g r n (x + 1) = sumLt g r n x + (if 0 ≤ x - r ∧ x - r < (n : Int) then g (x - r).toNat else 0)
  | 0 => by rw [if_neg (by omega)]; rfl
  | n + 1 => by
    rw [sumLt_succ, sumLt_succ, sumLt_step g r x n]
    by_cases h1 : x - r = (n : Int)
    · rw [if_pos (by omega : (n : Int) + r < x + 1), if_neg (by omega : ¬ (n : Int) + r < x), if_neg (by omega), if_pos (by omega), h1, Int.toNat_natCast]
    · by_cases h2 : 0 ≤ x - r ∧ x - r < (n : Int)
      · rw [if_pos h2, if_pos (by omega : 0 ≤ x - r ∧ x - r < ((n + 1 : Nat) : Int))]
        by_cases h3 : (n : Int) + r < x
        · omega
        · rw [if_neg (by omega : ¬ (n : Int) + r < x + 1), if_neg h3]; omega
      · rw [if_neg h2, if_neg (by omega : ¬ (0 ≤ x - r ∧ x - r < ((n + 1 : Nat) : Int)))]
        by_cases h3 : (n : Int) + r < x
        · rw [if_pos (by omega : (n : Int) + r < x + 1), if_pos h3]; omega
        · rw [if_neg (by omega : ¬ (n : Int) + r < x + 1), if_neg h3]
def sA (m : Mc) (x : Int) : Nat := sumLt (fun j => szN m (1, (j : Int))) 0 m.wd.toNat x
def sB (m : Mc) (x : Int) : Nat := sumLt (fun j => szN m (2, (j : Int))) m.rk m.wd.toNat x
theorem szL_nil (m : Mc) : szL m [] = 0 := rfl
theorem szL_one (m : Mc) (n : Nd) : szL m [n] = szN m n := by simp [szL]
theorem sA_step (m : Mc) (hw : 0 ≤ m.wd) (x : Int) : sA m (x + 1) = sA m x + szL m (Fx m x) := by
  unfold sA Fx
  rw [sumLt_step]
  by_cases h : inB 0 x (m.wd - 1) = true
  · have h1 := inB_iff.1 h
    rw [if_pos h, if_pos (by omega), szL_one, show (((x - 0).toNat : Nat) : Int) = x by omega]
  · rw [if_neg h, if_neg (fun h2 => h (inB_iff.2 (by omega))), szL_nil]
theorem sB_step (m : Mc) (hw : 0 ≤ m.wd) (x : Int) : sB m (x + 1) = sB m x + szL m (Bxx m x) := by
  unfold sB Bxx
  rw [sumLt_step]
  by_cases h : inB 0 (x - m.rk) (m.wd - 1) = true
  · have h1 := inB_iff.1 h
    rw [if_pos h, if_pos (by omega), szL_one, show (((x - m.rk).toNat : Nat) : Int) = x - m.rk by omega]
  · rw [if_neg h, if_neg (fun h2 => h (inB_iff.2 (by omega))), szL_nil]
theorem sum_add (f g : Nat → Nat) : ∀ l : List Nat, (l.map fun j => f j + g j).sum = (l.map f).sum + (l.map g).sum
  | [] => rfl
  | a :: t => by simp only [List.map_cons, List.sum_cons]; rw [sum_add f g t]; omega
theorem befS_front (m : Mc) (a : Int) : befS m (1, a) = sA m a + sB m a := by
  unfold befS sA sB sumLt
  rw [← sum_add]
  congr 1
  apply List.map_congr_left
  intro j _
  unfold befT
  have hp : plc 1 a m.rk = a := by unfold plc; rw [if_neg (by decide)]
  simp only [hp]
  by_cases h : (j : Int) + 0 < a
  · rw [if_pos h, if_pos (.inl (by omega))]
  · rw [if_neg h, if_neg (by omega)]
theorem befS_back (m : Mc) (a : Int) : befS m (2, a) = sA m (a + m.rk + 1) + sB m (a + m.rk) := by
  unfold befS sA sB sumLt
  rw [← sum_add]
  congr 1
  apply List.map_congr_left
  intro j _
  unfold befT
  have hp : plc 2 a m.rk = a + m.rk := by unfold plc; rw [if_pos rfl]
  show (if (j : Int) < plc 2 a m.rk ∨ ((j : Int) = plc 2 a m.rk ∧ (2 : Int) = 2) then szN m (1, (j : Int)) else 0) + (if (j : Int) + m.rk < plc 2 a m.rk then szN m (2, (j : Int)) else 0) = _
  rw [hp]
  by_cases h : (j : Int) + 0 < a + m.rk + 1
  · rw [if_pos h, if_pos (by omega)]
  · rw [if_neg h, if_neg (by omega)]

/-! ### The two counts of crossings are the same -/
theorem ndGo_split (m : Mc) (b : Nat) : ∀ (a : Nat) (x : Int), ndGo m (a + b) x = ndGo m a x ++ ndGo m b (x + a)
  | 0, x => by simp [ndGo]
  | a + 1, x => by
    rw [show a + 1 + b = (a + b) + 1 by omega, ndGo_step, ndGo_split m b a (x + 1), ndGo_step, List.append_assoc, show x + 1 + (a : Int) = x + ((a + 1 : Nat) : Int) by omega]
theorem szL_go (m : Mc) (hw : 0 ≤ m.wd) : ∀ (f : Nat) (x : Int), sA m (x + f) + sB m (x + f) = sA m x + sB m x + szL m (ndGo m f x)
  | 0, x => by simp [ndGo, szL_nil]
  | f + 1, x => by
    have h := szL_go m hw f (x + 1)
    have h1 := sA_step m hw x
    have h2 := sB_step m hw x
    rw [ndGo_step, szL_append, ndX_FB, szL_append, show x + ((f + 1 : Nat) : Int) = x + 1 + (f : Int) by omega]
    omega
theorem sA_low (m : Mc) (x : Int) (h : x ≤ 0) : sA m x = 0 := sumLt_zero _ _ _ h _
theorem sB_low (m : Mc) (x : Int) (h : x ≤ m.rk) : sB m x = 0 := sumLt_zero _ _ _ h _
structure RkUp (m : Mc) (i : Nat) (P : List Nd) : Prop where
  sz : szL m P = sA m i + sB m ((i : Int) - 1)
  mem : ∀ n ∈ P, (n.1 = 1 → n.2 < (i : Int)) ∧ (n.1 = 2 → 0 ≤ n.2 ∧ n.2 < m.wd ∧ n.2 + m.rk < (i : Int) - 1)
theorem rkG_up {m : Mc} (hw : 0 ≤ m.wd) : ∀ (f i : Nat) (P : List Nd), ((i + f : Nat) : Int) = m.wd → RkUp m i P → rkG m true f i (P ++ (Bxx m ((i : Int) - 1) ++ ndGo m (f + 3) (i : Int))) = (List.range' i f).flatMap (rkT m true)
  | 0, i, P, _, _ => rfl
  | f + 1, i, P, hf, h => by
    have hi : (i : Int) < m.wd := by omega
    obtain ⟨G', e1, e2, e3, e4⟩ := rkI_up (m := m) (i := i) (P := P) (T := Bxx m (i : Int) ++ ndGo m (f + 3) ((i : Int) + 1)) hi (fun n hn => ⟨fun e => by
      have := (h.mem n hn).1 (by rw [e]); rw [e] at this; simp at this, (h.mem n hn).2⟩)
    have e0 : ndGo m (f + 1 + 3) (i : Int) = Fx m (i : Int) ++ (Bxx m (i : Int) ++ ndGo m (f + 3) ((i : Int) + 1)) := by
      rw [show f + 1 + 3 = (f + 3) + 1 by omega, ndGo_step, ndX_FB, List.append_assoc]
    have hn : RkUp m (i + 1) (P ++ G') := by
      have h1 := sA_step m hw (i : Int)
      have h2 := sB_step m hw ((i : Int) - 1)
      rw [show (i : Int) - 1 + 1 = (i : Int) by omega] at h2
      have h3 := h.sz
      refine ⟨?_, fun n hn => ?_⟩
      · rw [szL_append, e2, show ((i + 1 : Nat) : Int) - 1 = (i : Int) by omega, show ((i + 1 : Nat) : Int) = (i : Int) + 1 by omega]
        omega
      · rcases List.mem_append.1 hn with hn | hn
        · have := h.mem n hn
          refine ⟨fun e => by have := this.1 e; omega, fun e => ?_⟩
          have := this.2 e
          omega
        · rcases e3 n hn with hn | hn
          · obtain ⟨rfl, q1, q2⟩ := Bxx_mem hn
            exact ⟨fun e => by simp at e, fun _ => by simp only; omega⟩
          · obtain ⟨rfl, q1, q2⟩ := Fx_mem hn
            exact ⟨fun _ => by simp only; omega, fun e => by simp at e⟩
    have ih := rkG_up hw f (i + 1) (P ++ G') (by omega) hn
    rw [show ((i + 1 : Nat) : Int) - 1 = (i : Int) by omega, show ((i + 1 : Nat) : Int) = (i : Int) + 1 by omega] at ih
    rw [e0, rkG, e1, e4, ← List.append_assoc P G', ih, List.range'_succ, List.flatMap_cons]
    congr 1
    show _ = rkT m true i
    unfold rkT
    show _ = if inB 0 ((i : Int) - m.rk - 1) (m.wd - 1) = true then crL (befS m (2, (i : Int) - m.rk - 1)) (szN m (2, (i : Int) - m.rk - 1)) (szN m (1, (i : Int))) (-1) else []
    rw [befS_back, h.sz, show (i : Int) - m.rk - 1 + m.rk + 1 = (i : Int) by omega, show (i : Int) - m.rk - 1 + m.rk = (i : Int) - 1 by omega]
structure RkDn (m : Mc) (i : Nat) (P : List Nd) : Prop where
  sz : szL m P = sA m i + sB m i
  mem : ∀ n ∈ P, n.1 = 1 → n.2 < (i : Int)
theorem rkG_down {m : Mc} (hw : 0 ≤ m.wd) : ∀ (f i : Nat) (P : List Nd), ((i + f : Nat) : Int) = m.wd → RkDn m i P → rkG m false f i (P ++ ndGo m (f + 3) (i : Int)) = (List.range' i f).flatMap (rkT m false)
  | 0, i, P, _, _ => rfl
  | f + 1, i, P, hf, h => by
    have hi : (i : Int) < m.wd := by omega
    obtain ⟨G', e1, e2, e3, e4⟩ := rkI_down (m := m) (i := i) (P := P) (T := ndGo m (f + 3) ((i : Int) + 1)) hi (fun n hn e => by
      have := h.mem n hn (by rw [e]); rw [e] at this; simp at this) (fun n hn e => by
      have h1 := ndGo_pl (f + 3) ((i : Int) + 1) n (List.mem_of_mem_head? hn)
      subst e
      unfold plN at h1
      simp at h1
      omega)
    have e0 : ndGo m (f + 1 + 3) (i : Int) = Fx m (i : Int) ++ (Bxx m (i : Int) ++ ndGo m (f + 3) ((i : Int) + 1)) := by
      rw [show f + 1 + 3 = (f + 3) + 1 by omega, ndGo_step, ndX_FB, List.append_assoc]
    have hn : RkDn m (i + 1) (P ++ G') := by
      have h1 := sA_step m hw (i : Int)
      have h2 := sB_step m hw (i : Int)
      have h3 := h.sz
      refine ⟨?_, fun n hn => ?_⟩
      · rw [szL_append, e2, show ((i + 1 : Nat) : Int) = (i : Int) + 1 by omega]
        omega
      · rcases List.mem_append.1 hn with hn | hn
        · exact fun e => by have := h.mem n hn e; omega
        · rcases e3 n hn with hn | hn
          · obtain ⟨rfl, q1, q2⟩ := Fx_mem hn
            exact fun _ => by simp only; omega
          · obtain ⟨rfl, q1, q2⟩ := Bxx_mem hn
            exact fun e => by simp at e
    have ih := rkG_down hw f (i + 1) (P ++ G') (by omega) hn
    rw [show ((i + 1 : Nat) : Int) = (i : Int) + 1 by omega] at ih
    rw [e0, rkG, e1, e4, ← List.append_assoc P G', ih, List.range'_succ, List.flatMap_cons]
    congr 1
    unfold rkT
    show _ = if inB 0 ((i : Int) - m.rk - 0) (m.wd - 1) = true then crL (befS m (1, (i : Int))) (szN m (1, (i : Int))) (szN m (2, (i : Int) - m.rk - 0)) 1 else []
    rw [befS_front, h.sz, Int.sub_zero]
theorem rk_same {m : Mc} (hw : 1 ≤ m.wd) (hr : -3 ≤ m.rk) (up : Bool) : rkP m up = rkS m up := by
  have e6 : m.wd.toNat + 6 = 3 + (m.wd.toNat + 3) := by omega
  have hg := szL_go m (by omega) 3 (-3)
  have a3 := sA_low m (-3) (by omega)
  have b3 := sB_low m (-3) (by omega)
  unfold rkP rkS ndL
  rw [e6, ndGo_split, show (-3 : Int) + ((3 : Nat) : Int) = ((0 : Nat) : Int) by omega, List.range_eq_range']
  have hp := fun n (hn : n ∈ ndGo m 3 (-3)) => ndGo_ok hn
  cases up with
  | false =>
    refine rkG_down (by omega) m.wd.toNat 0 _ (by omega) ⟨?_, fun n hn e => ?_⟩
    · rw [show (-3 : Int) + ((3 : Nat) : Int) = ((0 : Nat) : Int) by omega] at hg
      omega
    · exfalso
      have h3 : n ∈ Fx m (-3) ++ Bxx m (-3) ++ ((Fx m (-2) ++ Bxx m (-2)) ++ ((Fx m (-1) ++ Bxx m (-1)) ++ [])) := hn
      simp only [List.mem_append, List.not_mem_nil, or_false] at h3
      rcases h3 with (h3 | h3) | (h3 | h3) | h3 | h3
      all_goals first | (obtain ⟨rfl, q1, q2⟩ := Fx_mem h3; omega) | (obtain ⟨rfl, q1, q2⟩ := Bxx_mem h3; simp at e)
  | true =>
    have e9 : ndGo m 3 (-3) = (ndGo m 2 (-3) ++ Fx m (-1)) ++ Bxx m (((0 : Nat) : Int) - 1) := by
      show (Fx m (-3) ++ Bxx m (-3)) ++ ((Fx m (-2) ++ Bxx m (-2)) ++ ((Fx m (-1) ++ Bxx m (-1)) ++ [])) = (((Fx m (-3) ++ Bxx m (-3)) ++ ((Fx m (-2) ++ Bxx m (-2)) ++ [])) ++ Fx m (-1)) ++ Bxx m (-1)
      simp
    rw [e9, List.append_assoc (ndGo m 2 (-3) ++ Fx m (-1))]
    refine rkG_up (by omega) m.wd.toNat 0 _ (by omega) ⟨?_, fun n hn => ?_⟩
    · have hg2 := szL_go m (by omega) 2 (-3)
      rw [show (-3 : Int) + ((2 : Nat) : Int) = -1 by omega] at hg2
      have h1 := sA_step m (by omega) (-1)
      rw [show (-1 : Int) + 1 = ((0 : Nat) : Int) by omega] at h1
      rw [szL_append, show (((0 : Nat) : Int)) - 1 = -1 by omega]
      omega
    · have h3 : n ∈ ((Fx m (-3) ++ Bxx m (-3)) ++ ((Fx m (-2) ++ Bxx m (-2)) ++ [])) ++ Fx m (-1) := hn
      simp only [List.mem_append, List.not_mem_nil, or_false] at h3
      rcases h3 with ((h3 | h3) | h3 | h3) | h3
      all_goals first | (obtain ⟨rfl, q1, q2⟩ := Fx_mem h3; omega) | (obtain ⟨rfl, q1, q2⟩ := Bxx_mem h3; exact ⟨fun e => by simp at e, fun _ => by simp only; omega⟩)

end Go.Proofs.YthhpjgdeehcgjaaGreat

/-
  Taking back the last loop, in plain Lean: the code, the machine behind it, and that it is valid.
-/
namespace Go.Proofs.YthhpjgdeehcgjaaGreat
set_option linter.unusedVariables false
set_option linter.unusedSimpArgs false
open Go.RowKit

abbrev Inf.n (x : Inf) : Int × Int := (x.b, x.p)
/-- The needle that faces another one. -/
def fcN (m : Mc) (n : Int × Int) : Int × Int := if n.1 = 2 then (1, n.2 + m.rk) else (2, n.2 - m.rk)
def fcIn (m : Mc) (n : Int × Int) : Bool := inB 0 (fcN m n).2 (m.wd - 1)
def cutLs (m : Mc) : Mc := { m with ls := m.ls.take (m.ls.length - 1) }
/-! ### What lies on a needle is live -/
theorem ndX_mem {m : Mc} {n : Int × Int} (hb : n.1 = 1 ∨ n.1 = 2) (h0 : 0 ≤ n.2) (h1 : n.2 < m.wd) : n ∈ ndX m (plc n.1 n.2 m.rk) := by
  obtain ⟨b, a⟩ := n
  unfold ndX plc
  rcases hb with hb | hb
  · have hb' : b = 1 := hb
    subst hb'
    refine List.mem_append_left _ ?_
    have h1' : a < m.wd := h1
    have h0' : 0 ≤ a := h0
    rw [if_neg (show ¬ ((1 : Int) = 2) by omega), if_pos (show inB 0 a (m.wd - 1) = true from inB_iff.2 ⟨h0', by omega⟩)]
    simp
  · have hb' : b = 2 := hb
    subst hb'
    refine List.mem_append_right _ ?_
    have h1' : a < m.wd := h1
    have h0' : 0 ≤ a := h0
    rw [if_pos rfl, show a + m.rk - m.rk = a by omega, if_pos (show inB 0 a (m.wd - 1) = true from inB_iff.2 ⟨h0', by omega⟩)]
    simp
theorem ndGo_mem {m : Mc} {n : Int × Int} {p : Int} (h : n ∈ ndX m p) : ∀ (f : Nat) (x : Int), x ≤ p → p < x + f → n ∈ ndGo m f x
  | 0, x, h1, h2 => by omega
  | f + 1, x, h1, h2 => by
    rw [ndGo]
    by_cases e : x = p
    · subst e
      exact List.mem_append_left _ h
    · exact List.mem_append_right _ (ndGo_mem h f (x + 1) (by omega) (by omega))
/-! ### The machine behind it is valid -/
theorem OkP.cut {m : Mc} (h : OkP m) (hr : ∀ x ∈ allL m, x < (m.ls.length : Int) - 1) : OkP (cutLs m) := by
  refine ⟨h.wd, h.rk, h.fr, h.bk, h.cs, ?_, h.f4, h.b4, h.car, fun j x hx => ?_, h.ris, h.nd, fun x hx => ?_⟩
  · show (m.ls.take _).length ≤ 300
    have := h.ls
    simp; omega
  · have hx' : (m.ls.take (m.ls.length - 1))[j]? = some x := hx
    rw [List.getElem?_take] at hx'
    split at hx'
    · exact h.inf j x hx'
    · cases hx'
  · have h1 := h.rng x hx
    have h2 := hr x hx
    refine ⟨h1.1, ?_⟩
    show x < ((m.ls.take (m.ls.length - 1)).length : Nat)
    simp; omega
/-- A needle's list replaced so that all loops but one stand: no two are one, and the last one is gone. -/
theorem OkP.less {m : Mc} (h : OkP m) {n : Int × Int} {l : List Int} (h4 : l.length ≤ 4) {L : Int} (hL : (m.ls.length : Int) - 1 = L) (hp : (allL m).Perm (L :: allL (Go.Proofs.YthhpjgdeehcgjaaGreat.setL m n l))) : OkP (Go.Proofs.YthhpjgdeehcgjaaGreat.setL m n l) ∧ ∀ x ∈ allL (Go.Proofs.YthhpjgdeehcgjaaGreat.setL m n l), x < L := by
  have h1 := hp.nodup_iff.1 h.nd
  obtain ⟨h2, h3⟩ := List.nodup_cons.1 h1
  have hr : ∀ x ∈ allL (Go.Proofs.YthhpjgdeehcgjaaGreat.setL m n l), 0 ≤ x ∧ x < m.ls.length := fun x hx => h.rng x (hp.mem_iff.2 (List.mem_cons_of_mem _ hx))
  exact ⟨h.setL n l h4 h3 hr, fun x hx => by
    have h5 := hr x hx
    have h6 : x ≠ L := fun e => h2 (e ▸ hx)
    omega⟩
/-- The parts that the last loop of a valid machine has. -/
structure LastP (m : Mc) (x : Inf) : Prop where
  n : ndIn m x.n
  k : x.k = 1 ∨ x.k = 2 ∨ x.k = 5
  y : 1 ≤ x.y ∧ x.y ≤ 4
  b : x.b = 1 ∨ x.b = 2
  p0 : 0 ≤ x.p
  p1 : x.p < m.wd
  d : x.d = 1 ∨ x.d = -1
  len : x.ps.length ≤ 4
  nd : x.ps.Nodup
  lt : ∀ q ∈ x.ps, 0 ≤ q ∧ q < (m.ls.length : Int) - 1
theorem OkP.last {m : Mc} (h : OkP m) {x : Inf} (hx : m.ls.getLast? = some x) : LastP m x ∧ 0 < m.ls.length := by
  have hl : 0 < m.ls.length := by
    rcases Nat.eq_zero_or_pos m.ls.length with e | e
    · rw [List.length_eq_zero_iff.1 e] at hx; cases hx
    · exact e
  have hx' : m.ls[m.ls.length - 1]? = some x := by rw [← List.getLast?_eq_getElem?]; exact hx
  have h1 := h.inf _ x hx'
  unfold okInf kindM headI bedM at h1
  simp only [Bool.and_eq_true, decide_eq_true_eq, inB_iff, dirM_iff, parsB_iff] at h1
  obtain ⟨k, ⟨y, b, p, d⟩, len, ⟨pr, pn, -⟩, -⟩ := h1
  have hp1 : x.p < m.wd := by omega
  exact ⟨⟨h.need b p.1 hp1, k, y, b, p.1, hp1, d, len, pn, fun q hq => by have := pr q hq; omega⟩, hl⟩
end Go.Proofs.YthhpjgdeehcgjaaGreat
