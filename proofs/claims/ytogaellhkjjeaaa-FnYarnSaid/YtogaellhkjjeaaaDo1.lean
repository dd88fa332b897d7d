/-
  Valid operations keep valid machines valid: plain data.
-/
import Derived.Test.YtogaellhkjjeaaaDo0
import Derived.Test.YtogaellhkjjeaaaWeak0
namespace Go.Proofs.Ytogaellhkjjeaaa
set_option linter.unusedVariables false
set_option linter.unusedSimpArgs false
open Go.RowKit

theorem parsB_iff {n : Int} : ∀ {l pre : List Int}, parsB n pre l = true ↔ (∀ x ∈ l, 0 ≤ x ∧ x ≤ n - 1) ∧ l.Nodup ∧ ∀ x ∈ l, ¬ x ∈ pre
  | [], pre => by simp [parsB]
  | y :: t, pre => by
    rw [parsB]
    simp only [Bool.and_eq_true, Bool.not_eq_true', List.contains_eq_mem, decide_eq_false_iff_not, parsB_iff (l := t), inB_iff]
    constructor
    · rintro ⟨h1, h2, h3, h4, h5⟩
      refine ⟨fun x hx => ?_, List.nodup_cons.2 ⟨fun hy => h5 y hy (by simp), h4⟩, fun x hx => ?_⟩
      · rcases List.mem_cons.1 hx with rfl | hx
        · exact h1
        · exact h3 x hx
      · rcases List.mem_cons.1 hx with rfl | hx
        · exact h2
        · exact fun hp => h5 x hx (by simp [hp])
    · rintro ⟨h1, h2, h3⟩
      obtain ⟨h4, h5⟩ := List.nodup_cons.1 h2
      refine ⟨h1 y (by simp), h3 y (by simp), fun x hx => h1 x (by simp [hx]), h5, fun x hx hp => ?_⟩
      rcases List.mem_append.1 hp with hp | hp
      · exact h3 x (by simp [hx]) hp
      · simp at hp
        subst hp
        exact h4 hx
theorem infsB_iff {wd : Int} : ∀ {l : List Inf} {i : Int}, infsB wd i l = true ↔ ∀ (j : Nat) (x : Inf), l[j]? = some x → okInf wd (i + (j : Int)) x = true
  | [], i => by simp [infsB]
  | y :: t, i => by
    rw [infsB]
    simp only [Bool.and_eq_true, infsB_iff (l := t)]
    constructor
    · rintro ⟨h1, h2⟩ j x hx
      rcases j with _ | j
      · simp at hx; subst hx; simpa using h1
      · simp at hx
        have := h2 j x hx
        rwa [show i + 1 + (j : Int) = i + ((j + 1 : Nat) : Int) by omega] at this
    · intro h
      refine ⟨by simpa using h 0 y rfl, fun j x hx => ?_⟩
      have := h (j + 1) x (by simpa using hx)
      rwa [show i + ((j + 1 : Nat) : Int) = i + 1 + (j : Int) by omega] at this

def allL (m : Mc) : List Int := m.fr.flatten ++ (m.bk.flatten ++ m.dr)
structure OkP (m : Mc) : Prop where
  wd : 1 ≤ m.wd ∧ m.wd ≤ 24
  rk : -3 ≤ m.rk ∧ m.rk ≤ 3
  fr : (m.fr.length : Int) = m.wd
  bk : (m.bk.length : Int) = m.wd
  cs : m.cs.length = 4
  ls : m.ls.length ≤ 300
  f4 : ∀ x ∈ m.fr, x.length ≤ 4
  b4 : ∀ x ∈ m.bk, x.length ≤ 4
  car : ∀ c ∈ m.cs, carB m.wd c = true
  inf : ∀ (j : Nat) (x : Inf), m.ls[j]? = some x → okInf m.wd (j : Int) x = true
  ris : risB m.dr = true
  nd : (allL m).Nodup
  rng : ∀ x ∈ allL m, 0 ≤ x ∧ x < m.ls.length
theorem okM_iff {m : Mc} : okM m = true ↔ OkP m := by
  constructor
  · intro h
    have hw := ok_wd h
    have hl := ls_len h
    unfold okM at h
    simp only [Bool.and_eq_true] at h
    obtain ⟨h1, h2, h3, h4, h5, h6, h7⟩ := h
    obtain ⟨g1, g2, _⟩ := parsB_iff.1 h7
    have h5' := infsB_iff.1 h5
    refine ⟨⟨hw.1, hw.2.1⟩, ⟨hw.2.2.1, hw.2.2.2.1⟩, hw.2.2.2.2.1, hw.2.2.2.2.2.1, hw.2.2.2.2.2.2, hl, by simpa [lens4] using h2, by simpa [lens4] using h3, by simpa [carsB] using h4, fun j x hx => by simpa using h5' j x hx, h6, g2, fun x hx => ?_⟩
    have := g1 x hx
    omega
  · rintro ⟨h1, h2, h3, h4, h5, h6, h7, h8, h9, h10, h11, h12, h13⟩
    unfold okM headM
    simp only [Bool.and_eq_true, decide_eq_true_eq, inB_iff]
    refine ⟨⟨h1, h2, h3, h4, by omega, by omega⟩, by simpa [lens4] using h7, by simpa [lens4] using h8, by simpa [carsB] using h9, infsB_iff.2 (fun j x hx => by simpa using h10 j x hx), h11, parsB_iff.2 ⟨fun x hx => ?_, h12, by simp⟩⟩
    have := h13 x hx
    omega

/-! ### Lists of needles, as one list -/
theorem flat_set {L : List (List Int)} {k : Nat} (l : List Int) (hk : k < L.length) : (L.set k l).flatten.Perm (l ++ ((L.take k).flatten ++ (L.drop (k + 1)).flatten)) := by
  rw [List.set_eq_take_append_cons_drop, if_pos hk, List.flatten_append, List.flatten_cons]
  rw [← List.append_assoc, ← List.append_assoc]
  exact (List.perm_append_comm).append_right _
theorem flat_get {L : List (List Int)} {k : Nat} (hk : k < L.length) : L.flatten.Perm (L.getD k [] ++ ((L.take k).flatten ++ (L.drop (k + 1)).flatten)) := by
  have h := flat_set (L := L) (L.getD k []) hk
  have e : L.set k (L.getD k []) = L := by
    apply List.ext_getElem?
    intro i
    by_cases hi : i = k
    · subst hi
      rw [List.getElem?_set_self hk, List.getD_eq_getElem?_getD, List.getElem?_eq_getElem hk]
      rfl
    · rw [List.getElem?_set_ne (fun e => hi e.symm)]
  rwa [e] at h
/-- All other loops. -/
def restL (m : Mc) (n : Int × Int) : List Int :=
  if n.1 = 2 then m.fr.flatten ++ (((m.bk.take n.2.toNat).flatten ++ (m.bk.drop (n.2.toNat + 1)).flatten) ++ m.dr)
  else ((m.fr.take n.2.toNat).flatten ++ (m.fr.drop (n.2.toNat + 1)).flatten) ++ (m.bk.flatten ++ m.dr)
theorem all_set {m : Mc} {n : Int × Int} (l : List Int) (h : ndIn m n) : (allL (setL m n l)).Perm (l ++ restL m n) := by
  obtain ⟨h1, h2, h3, h4⟩ := h
  unfold allL setL restL
  by_cases e : n.1 = 2
  · rw [if_pos e, if_pos e]
    show (m.fr.flatten ++ ((m.bk.set n.2.toNat l).flatten ++ m.dr)).Perm _
    have p1 := ((flat_set l h4).append_right m.dr).append_left m.fr.flatten
    refine p1.trans ?_
    rw [List.append_assoc l, ← List.append_assoc m.fr.flatten, ← List.append_assoc l]
    exact List.perm_append_comm.append_right _
  · rw [if_neg e, if_neg e]
    show ((m.fr.set n.2.toNat l).flatten ++ (m.bk.flatten ++ m.dr)).Perm _
    have p1 := (flat_set l h3).append_right (m.bk.flatten ++ m.dr)
    refine p1.trans ?_
    rw [List.append_assoc l]
theorem all_get {m : Mc} {n : Int × Int} (h : ndIn m n) : (allL m).Perm (onL m n ++ restL m n) := by
  obtain ⟨h1, h2, h3, h4⟩ := h
  unfold allL onL restL
  by_cases e : n.1 = 2
  · rw [if_pos e, if_pos e]
    have p1 := ((flat_get h4).append_right m.dr).append_left m.fr.flatten
    refine p1.trans ?_
    rw [List.append_assoc (m.bk.getD _ _), ← List.append_assoc m.fr.flatten, ← List.append_assoc (m.bk.getD _ _)]
    exact List.perm_append_comm.append_right _
  · rw [if_neg e, if_neg e]
    have p1 := (flat_get h3).append_right (m.bk.flatten ++ m.dr)
    refine p1.trans ?_
    rw [List.append_assoc (m.fr.getD _ _)]
theorem OkP.need {m : Mc} (h : OkP m) {n : Int × Int} (hb : n.1 = 1 ∨ n.1 = 2) (h0 : 0 ≤ n.2) (h1 : n.2 < m.wd) : ndIn m n := ⟨hb, h0, by have := h.fr; omega, by have := h.bk; omega⟩
theorem setL_fr (m : Mc) (n : Int × Int) (l : List Int) : (setL m n l).fr.length = m.fr.length ∧ (setL m n l).bk.length = m.bk.length ∧ (setL m n l).wd = m.wd ∧ (setL m n l).rk = m.rk ∧ (setL m n l).cs = m.cs ∧ (setL m n l).ls = m.ls ∧ (setL m n l).dr = m.dr := by
  unfold setL; split <;> simp
theorem ndIn_set {m : Mc} {n k : Int × Int} (l : List Int) (h : ndIn m n) : ndIn (setL m k l) n := by
  have := setL_fr m k l
  obtain ⟨h1, h2, h3, h4⟩ := h
  exact ⟨h1, h2, by omega, by omega⟩
theorem set_mem {L : List (List Int)} {k : Nat} {l x : List Int} (h : x ∈ L.set k l) : x = l ∨ x ∈ L := by
  rcases List.mem_or_eq_of_mem_set h with h | h
  · exact .inr h
  · exact .inl h
/-- A needle's list replaced by one that is made of known loops. -/
theorem OkP.setL {m : Mc} (h : OkP m) (n : Int × Int) (l : List Int) (h4 : l.length ≤ 4) (hn : (allL (setL m n l)).Nodup) (hr : ∀ x ∈ allL (setL m n l), 0 ≤ x ∧ x < m.ls.length) : OkP (setL m n l) := by
  obtain ⟨e1, e2, e3, e4, e5, e6, e7⟩ := setL_fr m n l
  refine ⟨by rw [e3]; exact h.wd, by rw [e4]; exact h.rk, by rw [e1, e3]; exact h.fr, by rw [e2, e3]; exact h.bk, by rw [e5]; exact h.cs, by rw [e6]; exact h.ls, fun x hx => ?_, fun x hx => ?_, by rw [e5, e3]; exact h.car, by rw [e6, e3]; exact h.inf, by rw [e7]; exact h.ris, hn, by rw [e6]; exact hr⟩
  · unfold Go.Proofs.Ytogaellhkjjeaaa.setL at hx
    split at hx
    · exact h.f4 x hx
    · rcases set_mem hx with rfl | hx
      · exact h4
      · exact h.f4 x hx
  · unfold Go.Proofs.Ytogaellhkjjeaaa.setL at hx
    split at hx
    · rcases set_mem hx with rfl | hx
      · exact h4
      · exact h.b4 x hx
    · exact h.b4 x hx
theorem OkP.on4 {m : Mc} (h : OkP m) (n : Int × Int) : (onL m n).length ≤ 4 := onL_len (okM_iff.2 h) n
/-- A needle emptied. -/
theorem OkP.empty {m : Mc} (h : OkP m) {n : Int × Int} (hn : ndIn m n) : OkP (Go.Proofs.Ytogaellhkjjeaaa.setL m n []) := by
  have p1 := all_set [] hn
  have p2 := all_get hn
  have s : (restL m n).Sublist (onL m n ++ restL m n) := List.sublist_append_right _ _
  refine h.setL n [] (by simp) ((p1.nodup_iff).2 ((p2.nodup_iff.1 h.nd).sublist s)) (fun x hx => ?_)
  exact h.rng x (p2.mem_iff.2 (s.subset (p1.mem_iff.1 hx)))
/-- A carrier that stands within the bounds. -/
theorem OkP.setC {m : Mc} (h : OkP m) (c : Int) (x : Car) (hx : carB m.wd x = true) : OkP (setC m c x) := by
  refine ⟨h.wd, h.rk, h.fr, h.bk, by show (m.cs.set _ _).length = 4; rw [List.length_set]; exact h.cs, h.ls, h.f4, h.b4, fun y hy => ?_, h.inf, h.ris, h.nd, h.rng⟩
  rcases List.mem_or_eq_of_mem_set (show y ∈ m.cs.set (c - 1).toNat x from hy) with h1 | h1
  · exact h.car y h1
  · rw [h1]; exact hx
theorem carB_iff {wd : Int} {c : Car} : carB wd c = true ↔ -3 ≤ c.p ∧ c.p ≤ wd + 3 ∧ (c.i = true ∨ c.p = 0) := by
  unfold carB
  simp only [Bool.and_eq_true, inB_iff, Bool.or_eq_true, decide_eq_true_eq, and_assoc]
theorem plc_rng {b a r wd : Int} (h0 : 0 ≤ a) (h1 : a < wd) (h2 : -3 ≤ r) (h3 : r ≤ 3) : -3 ≤ plc b a r ∧ plc b a r < wd + 3 := by unfold plc; split <;> omega
theorem carOk_in {m : Mc} {o : Opr} (h : carOk m o = true) : (carAt m o.c).i = true := by
  unfold carOk at h
  simp only [Bool.and_eq_true] at h
  exact h.1
theorem OkP.carTo {m : Mc} (h : OkP m) {o : Opr} (hc : carOk m o = true) (h0 : 0 ≤ o.fa) (h1 : o.fa < m.wd) : OkP (carTo m o) := by
  have hp := plc_rng (b := o.fb) h0 h1 h.rk.1 h.rk.2
  refine h.setC _ _ (carB_iff.2 ⟨?_, ?_, .inl (carOk_in hc)⟩)
  · show -3 ≤ (if o.d = 1 then plcO m o + 1 else plcO m o); unfold plcO; split <;> omega
  · show (if o.d = 1 then plcO m o + 1 else plcO m o) ≤ m.wd + 3; unfold plcO; split <;> omega
/-- A loop more. -/
theorem okInf_new {m : Mc} {o : Opr} {ps : List Int} (h : OkP m) (hk : o.k = 1 ∨ o.k = 2 ∨ o.k = 5) (hd : o.d = 1 ∨ o.d = -1) (hb : o.fb = 1 ∨ o.fb = 2) (h0 : 0 ≤ o.fa) (h1 : o.fa < m.wd) (hc : 1 ≤ o.c ∧ o.c ≤ 4)
    (hp4 : ps.length ≤ 4) (hpn : ps.Nodup) (hpr : ∀ x ∈ ps, 0 ≤ x ∧ x < m.ls.length) (h2 : o.k = 2 → ps = []) (h5 : o.k = 5 → 0 < ps.length) : okInf m.wd m.ls.length ⟨o.k, o.c, o.fb, o.fa, o.d, ps⟩ = true := by
  unfold okInf kindM headI tailI bedM
  simp only [Bool.and_eq_true, decide_eq_true_eq, inB_iff, dirM_iff, parsB_iff, Bool.or_eq_true, Bool.not_eq_true', beq_eq_false_iff_ne]
  refine ⟨by omega, ⟨hc, hb, ⟨h0, by omega⟩, hd⟩, hp4, ⟨fun x hx => by have := hpr x hx; omega, hpn, by simp⟩, ?_, ?_⟩
  · by_cases e : o.k = 2
    · right; rw [h2 e]; rfl
    · exact .inl e
  · by_cases e : o.k = 5
    · right; exact h5 e
    · exact .inl e
theorem OkP.add_lp {m : Mc} (h : OkP m) {o : Opr} {ps : List Int} (h3 : m.ls.length < 300) (hi : okInf m.wd m.ls.length ⟨o.k, o.c, o.fb, o.fa, o.d, ps⟩ = true) : OkP (addLp m o ps) := by
  refine ⟨h.wd, h.rk, h.fr, h.bk, h.cs, ?_, h.f4, h.b4, h.car, fun j x hx => ?_, h.ris, h.nd, fun x hx => ?_⟩
  · show (m.ls ++ [_]).length ≤ 300
    simp; omega
  · have hx' : (m.ls ++ [(⟨o.k, o.c, o.fb, o.fa, o.d, ps⟩ : Inf)])[j]? = some x := hx
    by_cases hj : j < m.ls.length
    · rw [List.getElem?_append_left hj] at hx'
      exact h.inf j x hx'
    · have hj2 : j = m.ls.length := by have := (List.getElem?_eq_some_iff.1 hx').1; simp at this; omega
      subst hj2
      rw [List.getElem?_append_right (Nat.le_refl _), Nat.sub_self] at hx'
      injection hx' with hx'
      subst hx'
      exact hi
  · have := h.rng x hx
    show 0 ≤ x ∧ x < ((m.ls ++ [_]).length : Nat)
    simp; omega
/-- The number of the new loop alone on a needle, or behind those on it. -/
theorem OkP.addOn {m : Mc} (h : OkP m) {o : Opr} {ps l : List Int} {n : Int × Int} (hn : ndIn m n) (h3 : m.ls.length < 300) (hi : okInf m.wd m.ls.length ⟨o.k, o.c, o.fb, o.fa, o.d, ps⟩ = true) (hl : l = [] ∨ l = onL m n) (h4 : l.length < 4) :
    OkP (Go.Proofs.Ytogaellhkjjeaaa.setL (addLp m o ps) n (l ++ [(m.ls.length : Int)])) := by
  have ha := h.add_lp h3 hi
  have hn' : ndIn (addLp m o ps) n := hn
  have p1 := all_set (l ++ [(m.ls.length : Int)]) hn'
  have p2 := all_get hn
  have er : restL (addLp m o ps) n = restL m n := rfl
  rw [er] at p1
  have hb := p2.nodup_iff.1 h.nd
  have hlr : (l ++ restL m n).Nodup ∧ ∀ x ∈ l ++ restL m n, 0 ≤ x ∧ x < m.ls.length := by
    have hsub : (l ++ restL m n).Sublist (onL m n ++ restL m n) := by
      rcases hl with rfl | rfl
      · exact List.sublist_append_right _ _
      · exact List.Sublist.refl _
    exact ⟨hb.sublist hsub, fun x hx => h.rng x (p2.mem_iff.2 (hsub.subset hx))⟩
  have p3 : (l ++ [(m.ls.length : Int)] ++ restL m n).Perm ((m.ls.length : Int) :: (l ++ restL m n)) := by
    rw [List.append_assoc]
    exact List.perm_middle
  refine ha.setL n _ (by simp; omega) ((p1.trans p3).nodup_iff.2 (List.nodup_cons.2 ⟨fun hx => ?_, hlr.1⟩)) (fun x hx => ?_)
  · have := hlr.2 _ hx
    omega
  · have hl2 : (addLp m o ps).ls.length = m.ls.length + 1 := by show (m.ls ++ [_]).length = _; simp
    rw [hl2]
    rcases List.mem_cons.1 ((p1.trans p3).mem_iff.1 hx) with rfl | hx
    · omega
    · have := hlr.2 x hx; omega
theorem onL_setL_ne {m : Mc} {n k : Int × Int} (l : List Int) (hn : ndIn m n) (hk : ndIn m k) (hne : n.1 ≠ k.1) : onL (setL m k l) n = onL m n := by
  obtain ⟨h1, h2, h3, h4⟩ := hn
  obtain ⟨k1, k2, k3, k4⟩ := hk
  unfold onL setL
  by_cases e : n.1 = 2 <;> by_cases e2 : k.1 = 2
  · omega
  · rw [if_pos e, if_pos e, if_neg e2]
  · rw [if_neg e, if_neg e, if_pos e2]
  · omega
theorem onL_setL {m : Mc} {n : Int × Int} (l : List Int) (hn : ndIn m n) : onL (setL m n l) n = l := by
  obtain ⟨h1, h2, h3, h4⟩ := hn
  unfold onL setL
  by_cases e : n.1 = 2
  · rw [if_pos e, if_pos e]
    show (m.bk.set _ _).getD _ _ = _
    rw [List.getD_eq_getElem?_getD, List.getElem?_set_self h4]; rfl
  · rw [if_neg e, if_neg e]
    show (m.fr.set _ _).getD _ _ = _
    rw [List.getD_eq_getElem?_getD, List.getElem?_set_self h3]; rfl
theorem mvL_perm (m : Mc) (o : Opr) : (mvL m o).Perm (onL m o.f ++ onL m o.t) := by
  unfold mvL
  split
  · exact List.Perm.refl _
  · exact List.perm_append_comm
theorem mvCode_zero {m : Mc} {o : Opr} (h : mvCode m o = 0) : plc o.fb o.fa m.rk = plc o.tb o.ta m.rk ∧ 0 < (onL m o.f).length ∧ (onL m o.f).length + (onL m o.t).length ≤ 4 := by
  unfold mvCode at h
  split at h
  · omega
  rename_i h1
  split at h
  · omega
  split at h
  · omega
  exact ⟨by simpa using h1, by omega, by omega⟩
theorem OkP.mvTo {m : Mc} (h : OkP m) {o : Opr} (hf : ndIn m o.f) (ht : ndIn m o.t) (hne : o.fb ≠ o.tb) (hc : mvCode m o = 0) : OkP (mvTo m o) := by
  obtain ⟨-, -, h4⟩ := mvCode_zero hc
  have hlen : (mvL m o).length ≤ 4 := by rw [(mvL_perm m o).length_eq, List.length_append]; exact h4
  unfold Go.Proofs.Ytogaellhkjjeaaa.mvTo
  have hf' : ndIn (Go.Proofs.Ytogaellhkjjeaaa.setL m o.t (mvL m o)) o.f := ndIn_set _ hf
  -- all loops: first what was on both needles
  have p1 := all_set (m := Go.Proofs.Ytogaellhkjjeaaa.setL m o.t (mvL m o)) [] hf'
  have p2 := all_get (m := Go.Proofs.Ytogaellhkjjeaaa.setL m o.t (mvL m o)) hf'
  rw [onL_setL_ne _ hf ht hne] at p2
  have p3 := all_set (mvL m o) ht
  have p4 := all_get ht
  -- [] ++ rest, and onL f ++ rest ~ mvL ++ restL m t ~ (onL f ++ onL t) ++ restL m t ~ onL f ++ all m
  have p5 : (onL m o.f ++ restL (Go.Proofs.Ytogaellhkjjeaaa.setL m o.t (mvL m o)) o.f).Perm (onL m o.f ++ allL m) := by
    refine (p2.symm.trans p3).trans ?_
    refine ((mvL_perm m o).append_right _).trans ?_
    rw [List.append_assoc]
    exact p4.symm.append_left _
  have p6 := (List.perm_append_left_iff (onL m o.f)).1 p5
  have p7 : (allL (Go.Proofs.Ytogaellhkjjeaaa.setL (Go.Proofs.Ytogaellhkjjeaaa.setL m o.t (mvL m o)) o.f [])).Perm (allL m) := p1.trans (by simpa using p6)
  have hn := p7.nodup_iff.2 h.nd
  have hr : ∀ x ∈ allL (Go.Proofs.Ytogaellhkjjeaaa.setL (Go.Proofs.Ytogaellhkjjeaaa.setL m o.t (mvL m o)) o.f []), 0 ≤ x ∧ x < m.ls.length := fun x hx => h.rng x (p7.mem_iff.1 hx)
  obtain ⟨e1, e2, e3, e4, e5, e6, e7⟩ := setL_fr m o.t (mvL m o)
  obtain ⟨g1, g2, g3, g4, g5, g6, g7⟩ := setL_fr (Go.Proofs.Ytogaellhkjjeaaa.setL m o.t (mvL m o)) o.f []
  have hA : ∀ x ∈ (Go.Proofs.Ytogaellhkjjeaaa.setL m o.t (mvL m o)).fr, x.length ≤ 4 := fun x hx => by
    unfold Go.Proofs.Ytogaellhkjjeaaa.setL at hx
    split at hx
    · exact h.f4 x hx
    · rcases set_mem hx with rfl | hx
      · exact hlen
      · exact h.f4 x hx
  have hB : ∀ x ∈ (Go.Proofs.Ytogaellhkjjeaaa.setL m o.t (mvL m o)).bk, x.length ≤ 4 := fun x hx => by
    unfold Go.Proofs.Ytogaellhkjjeaaa.setL at hx
    split at hx
    · rcases set_mem hx with rfl | hx
      · exact hlen
      · exact h.b4 x hx
    · exact h.b4 x hx
  refine ⟨by rw [g3, e3]; exact h.wd, by rw [g4, e4]; exact h.rk, by rw [g1, e1, g3, e3]; exact h.fr, by rw [g2, e2, g3, e3]; exact h.bk, by rw [g5, e5]; exact h.cs, by rw [g6, e6]; exact h.ls, fun x hx => ?_, fun x hx => ?_, by rw [g5, e5, g3, e3]; exact h.car, by rw [g6, e6, g3, e3]; exact h.inf, by rw [g7, e7]; exact h.ris, hn, by rw [g6, e6]; exact hr⟩
  · generalize Go.Proofs.Ytogaellhkjjeaaa.setL m o.t (mvL m o) = M at *
    unfold Go.Proofs.Ytogaellhkjjeaaa.setL at hx
    split at hx
    · exact hA x hx
    · rcases set_mem hx with rfl | hx
      · simp
      · exact hA x hx
  · generalize Go.Proofs.Ytogaellhkjjeaaa.setL m o.t (mvL m o) = M at *
    unfold Go.Proofs.Ytogaellhkjjeaaa.setL at hx
    split at hx
    · rcases set_mem hx with rfl | hx
      · simp
      · exact hB x hx
    · exact hB x hx

/-! ### What was dropped -/
theorem risB_iff : ∀ {l : List Int}, risB l = true ↔ l.Pairwise (· < ·)
  | [] => by simp [risB]
  | [a] => by simp [risB]
  | a :: b :: t => by
    rw [risB, Bool.and_eq_true, decide_eq_true_eq, risB_iff (l := b :: t)]
    constructor
    · rintro ⟨h1, h2⟩
      refine List.pairwise_cons.2 ⟨fun x hx => ?_, h2⟩
      rcases List.mem_cons.1 hx with rfl | hx
      · exact h1
      · have := (List.pairwise_cons.1 h2).1 x hx; omega
    · intro h
      exact ⟨(List.pairwise_cons.1 h).1 b (by simp), (List.pairwise_cons.1 h).2⟩
theorem putI_perm {n : Int} : ∀ {l : List Int}, l.Pairwise (· < ·) → ¬ n ∈ l → (putI l n).Perm (n :: l) ∧ (putI l n).Pairwise (· < ·)
  | [], _, _ => by simp [putI]
  | x :: t, h, hn => by
    obtain ⟨h1, h2⟩ := List.pairwise_cons.1 h
    rw [putI]
    by_cases h3 : n ≤ x
    · have h4 : n < x := by
        have : n ≠ x := fun e => hn (by simp [e])
        omega
      rw [if_pos h3, if_pos h4]
      refine ⟨List.Perm.refl _, List.pairwise_cons.2 ⟨fun y hy => ?_, h⟩⟩
      rcases List.mem_cons.1 hy with rfl | hy
      · exact h4
      · have := h1 y hy; omega
    · rw [if_neg h3]
      obtain ⟨p, s⟩ := putI_perm (n := n) (l := t) h2 (fun e => hn (by simp [e]))
      refine ⟨(p.cons x).trans (List.Perm.swap n x t), List.pairwise_cons.2 ⟨fun y hy => ?_, s⟩⟩
      rcases List.mem_cons.1 (p.mem_iff.1 hy) with rfl | hy
      · omega
      · exact h1 y hy
theorem putAll_perm : ∀ {ns l : List Int}, l.Pairwise (· < ·) → (ns ++ l).Nodup → (putAll l ns).Perm (ns ++ l) ∧ (putAll l ns).Pairwise (· < ·)
  | [], l, h, _ => ⟨List.Perm.refl _, h⟩
  | n :: t, l, h, hn => by
    have hn' : ¬ n ∈ l := fun e => (List.nodup_cons.1 hn).1 (by simp [e])
    obtain ⟨p, s⟩ := putI_perm h hn'
    have p1 : (t ++ putI l n).Perm (n :: (t ++ l)) := (p.append_left t).trans List.perm_middle
    obtain ⟨q, r⟩ := putAll_perm (ns := t) (l := putI l n) s (p1.nodup_iff.2 hn)
    exact ⟨q.trans p1, r⟩
theorem OkP.drop {m : Mc} (h : OkP m) {n : Int × Int} (hn : ndIn m n) : OkP (Go.Proofs.Ytogaellhkjjeaaa.setL { m with dr := putAll m.dr (onL m n) } n []) := by
  have p2 := all_get hn
  have hb := p2.nodup_iff.1 h.nd
  -- the dropped ones are among the rest
  have hsub : (onL m n ++ m.dr).Sublist (onL m n ++ restL m n) := by
    refine (List.Sublist.refl _).append ?_
    unfold restL
    split
    · exact (List.sublist_append_right _ _).trans (List.sublist_append_right _ _)
    · exact (List.sublist_append_right _ _).trans (List.sublist_append_right _ _)
  obtain ⟨q, s⟩ := putAll_perm (risB_iff.1 h.ris) (hb.sublist hsub)
  have hn' : ndIn { m with dr := putAll m.dr (onL m n) } n := hn
  have p1 := all_set [] hn'
  have p3 : (restL { m with dr := putAll m.dr (onL m n) } n).Perm (onL m n ++ restL m n) := by
    refine List.perm_iff_count.2 fun a => ?_
    have hq := List.perm_iff_count.1 q a
    simp only [List.count_append] at hq
    unfold restL
    split
    · show List.count a (m.fr.flatten ++ (_ ++ putAll m.dr (onL m n))) = List.count a (onL m n ++ (m.fr.flatten ++ (_ ++ m.dr)))
      simp only [List.count_append]
      omega
    · show List.count a (_ ++ (m.bk.flatten ++ putAll m.dr (onL m n))) = List.count a (onL m n ++ (_ ++ (m.bk.flatten ++ m.dr)))
      simp only [List.count_append]
      omega
  have p4 := (p1.trans p3).trans p2.symm
  have h1 : OkP { m with dr := putAll m.dr (onL m n) } → OkP (Go.Proofs.Ytogaellhkjjeaaa.setL { m with dr := putAll m.dr (onL m n) } n []) := fun h1 => h1.empty hn'
  obtain ⟨e1, e2, e3, e4, e5, e6, e7⟩ := setL_fr { m with dr := putAll m.dr (onL m n) } n []
  refine ⟨by rw [e3]; exact h.wd, by rw [e4]; exact h.rk, by rw [e1, e3]; exact h.fr, by rw [e2, e3]; exact h.bk, by rw [e5]; exact h.cs, by rw [e6]; exact h.ls, fun x hx => ?_, fun x hx => ?_, by rw [e5, e3]; exact h.car, by rw [e6, e3]; exact h.inf, by rw [e7]; exact risB_iff.2 s, p4.nodup_iff.2 h.nd, by rw [e6]; exact fun x hx => h.rng x (p4.mem_iff.1 hx)⟩
  · unfold Go.Proofs.Ytogaellhkjjeaaa.setL at hx
    split at hx
    · exact h.f4 x hx
    · rcases set_mem hx with rfl | hx
      · simp
      · exact h.f4 x hx
  · unfold Go.Proofs.Ytogaellhkjjeaaa.setL at hx
    split at hx
    · rcases set_mem hx with rfl | hx
      · simp
      · exact h.b4 x hx
    · exact h.b4 x hx

/-! ### All operations -/
theorem onL_nodup {m : Mc} (h : OkP m) {n : Int × Int} (hn : ndIn m n) : (onL m n).Nodup ∧ ∀ x ∈ onL m n, 0 ≤ x ∧ x < m.ls.length := by
  have p := all_get hn
  exact ⟨(p.nodup_iff.1 h.nd).sublist (List.sublist_append_left _ _), fun x hx => h.rng x (p.mem_iff.2 (List.mem_append_left _ hx))⟩
theorem OkP.do_ {m : Mc} {o : Opr} (h : OkP m) (ho : okOpW m.wd o = true) (hc : doCode m o = 0) : OkP (doTo m o) := by
  obtain ⟨h0, hfw, htw⟩ := okOpW_iff.1 ho
  rcases okOp_kinds h0 with ⟨hk, hd, hf, c1, c4, htb, hta, hr⟩ | ⟨hk, hf, ht, hne, hd, hcc, hr⟩ | ⟨hk, hf, ht, hne, hd, c1, c4, hr⟩ | ⟨hk, hf, hd, htb, hta, hcc, hr⟩ | ⟨hk, hr1, hr2, _⟩ | ⟨hk, hd, c1, c4, _⟩ | ⟨hk, c1, c4, _⟩
  · obtain ⟨hb, hf0, hf1⟩ := ndB_iff.1 hf
    have hn : ndIn m o.f := h.need hb hf0 hfw
    by_cases h3 : o.k = 3
    · have e1 : doCode m o = (if carOk m o = false then 9 else 0) := by unfold doCode; rw [if_neg (by omega), if_pos h3]
      have e2 : doTo m o = Go.Proofs.Ytogaellhkjjeaaa.carTo m o := by unfold doTo; rw [if_neg (by omega), if_pos h3]
      rw [e1] at hc
      rw [e2]
      refine h.carTo ?_ hf0 hfw
      by_cases hco : carOk m o = false
      · rw [if_pos hco] at hc; omega
      · simpa using hco
    have hk' : o.k = 1 ∨ o.k = 2 ∨ o.k = 5 := by omega
    have e1 : doCode m o = fmCode m o := by unfold doCode; rw [if_pos hk']
    have e2 : doTo m o = fmTo m o := by unfold doTo; rw [if_pos hk']
    rw [e1] at hc
    rw [e2]
    unfold fmCode at hc
    by_cases hco : carOk m o = false
    · rw [if_pos hco] at hc; omega
    rw [if_neg hco] at hc
    have hco' : carOk m o = true := by simpa using hco
    have hcar := h.carTo hco' hf0 hfw
    have hnc : ndIn (Go.Proofs.Ytogaellhkjjeaaa.carTo m o) o.f := hn
    by_cases hl : 300 ≤ m.ls.length
    · rw [if_pos hl] at hc; omega
    rw [if_neg hl] at hc
    obtain ⟨hpn, hpr⟩ := onL_nodup h hn
    unfold fmTo
    by_cases hk1 : o.k = 1
    · rw [if_pos hk1]
      exact hcar.addOn (ps := onL m o.f) (l := []) hnc (by show m.ls.length < 300; omega) (okInf_new hcar hk' hd hb hf0 hfw ⟨c1, c4⟩ (h.on4 _) hpn hpr (fun e => by omega) (fun e => by omega)) (.inl rfl) (by simp)
    · have hk2 : o.k = 2 := by omega
      rw [if_neg hk1, if_pos hk2]
      rw [if_neg hk1, if_pos hk2] at hc
      by_cases h4 : 4 ≤ (onL m o.f).length
      · rw [if_pos h4] at hc; omega
      exact hcar.addOn (ps := []) (l := onL m o.f) hnc (by show m.ls.length < 300; omega) (okInf_new hcar hk' hd hb hf0 hfw ⟨c1, c4⟩ (by simp) List.nodup_nil (by simp) (fun _ => rfl) (fun e => by omega)) (.inr rfl) (by omega)
  · obtain ⟨hb, hf0, hf1⟩ := ndB_iff.1 hf
    obtain ⟨hb2, ht0, ht1⟩ := ndB_iff.1 ht
    have e1 : doCode m o = mvCode m o := by unfold doCode; rw [if_neg (by omega), if_neg (by omega), if_pos hk]
    have e2 : doTo m o = Go.Proofs.Ytogaellhkjjeaaa.mvTo m o := by unfold doTo; rw [if_neg (by omega), if_neg (by omega), if_pos hk]
    rw [e1] at hc
    rw [e2]
    exact h.mvTo (h.need hb hf0 hfw) (h.need hb2 ht0 htw) hne hc
  · obtain ⟨hb, hf0, hf1⟩ := ndB_iff.1 hf
    obtain ⟨hb2, ht0, ht1⟩ := ndB_iff.1 ht
    have hn : ndIn m o.f := h.need hb hf0 hfw
    have hn2 : ndIn m o.t := h.need hb2 ht0 htw
    have hk' : o.k = 1 ∨ o.k = 2 ∨ o.k = 5 := by omega
    have e1 : doCode m o = fmCode m o := by unfold doCode; rw [if_pos hk']
    have e2 : doTo m o = fmTo m o := by unfold doTo; rw [if_pos hk']
    rw [e1] at hc
    rw [e2]
    unfold fmCode at hc
    by_cases hco : carOk m o = false
    · rw [if_pos hco] at hc; omega
    rw [if_neg hco] at hc
    have hco' : carOk m o = true := by simpa using hco
    have hcar := h.carTo hco' hf0 hfw
    by_cases hl : 300 ≤ m.ls.length
    · rw [if_pos hl] at hc; omega
    rw [if_neg hl, if_neg (by omega), if_neg (by omega)] at hc
    obtain ⟨hpn, hpr⟩ := onL_nodup h hn
    unfold fmTo
    rw [if_neg (by omega), if_neg (by omega)]
    have hmc : mvCode (Go.Proofs.Ytogaellhkjjeaaa.carTo m o) o = 0 := hc
    have hmv := hcar.mvTo (o := o) hn hn2 hne hmc
    obtain ⟨-, hpos, -⟩ := mvCode_zero hc
    obtain ⟨e3, e4, e5, e6, e7, e8, e9⟩ := setL_fr (Go.Proofs.Ytogaellhkjjeaaa.carTo m o) o.t (mvL (Go.Proofs.Ytogaellhkjjeaaa.carTo m o) o)
    obtain ⟨g3, g4, g5, g6, g7, g8, g9⟩ := setL_fr (Go.Proofs.Ytogaellhkjjeaaa.setL (Go.Proofs.Ytogaellhkjjeaaa.carTo m o) o.t (mvL (Go.Proofs.Ytogaellhkjjeaaa.carTo m o) o)) o.f []
    have hls : (Go.Proofs.Ytogaellhkjjeaaa.mvTo (Go.Proofs.Ytogaellhkjjeaaa.carTo m o) o).ls = m.ls := by unfold Go.Proofs.Ytogaellhkjjeaaa.mvTo; rw [g8, e8]; rfl
    have hwd : (Go.Proofs.Ytogaellhkjjeaaa.mvTo (Go.Proofs.Ytogaellhkjjeaaa.carTo m o) o).wd = m.wd := by unfold Go.Proofs.Ytogaellhkjjeaaa.mvTo; rw [g5, e5]; rfl
    have hnm : ndIn (Go.Proofs.Ytogaellhkjjeaaa.mvTo (Go.Proofs.Ytogaellhkjjeaaa.carTo m o) o) o.f := ndIn_set _ (ndIn_set _ hn)
    have hi := okInf_new (ps := onL m o.f) hcar hk' hd hb hf0 hfw ⟨c1, c4⟩ (h.on4 _) hpn hpr (fun e => by omega) (fun e => hpos)
    have := hmv.addOn (o := o) (ps := onL m o.f) (l := []) hnm (by rw [hls]; omega) (by rw [hls, hwd]; exact hi) (.inl rfl) (by simp)
    rw [hls] at this
    exact this
  · obtain ⟨hb, hf0, hf1⟩ := ndB_iff.1 hf
    have e2 : doTo m o = Go.Proofs.Ytogaellhkjjeaaa.setL { m with dr := putAll m.dr (onL m o.f) } o.f [] := by unfold doTo; rw [if_neg (by omega), if_neg (by omega), if_neg (by omega), if_pos hk]
    rw [e2]
    exact h.drop (h.need hb hf0 hfw)
  · have e2 : doTo m o = { m with rk := o.r } := by unfold doTo; rw [if_neg (by omega), if_neg (by omega), if_neg (by omega), if_neg (by omega), if_pos hk]
    rw [e2]
    exact ⟨h.wd, ⟨hr1, hr2⟩, h.fr, h.bk, h.cs, h.ls, h.f4, h.b4, h.car, h.inf, h.ris, h.nd, h.rng⟩
  · have e2 : doTo m o = Go.Proofs.Ytogaellhkjjeaaa.setC m o.c ⟨true, if o.d = -1 then m.wd + 3 else -3⟩ := by unfold doTo; rw [if_neg (by omega), if_neg (by omega), if_neg (by omega), if_neg (by omega), if_neg (by omega), if_pos hk]
    rw [e2]
    refine h.setC _ _ (carB_iff.2 ⟨?_, ?_, .inl rfl⟩)
    · show -3 ≤ (if o.d = -1 then m.wd + 3 else -3); have := h.wd; split <;> omega
    · show (if o.d = -1 then m.wd + 3 else -3) ≤ m.wd + 3; have := h.wd; split <;> omega
  · have e2 : doTo m o = Go.Proofs.Ytogaellhkjjeaaa.setC m o.c ⟨false, 0⟩ := by unfold doTo; rw [if_neg (by omega), if_neg (by omega), if_neg (by omega), if_neg (by omega), if_neg (by omega), if_neg (by omega)]
    rw [e2]
    exact h.setC _ _ (carB_iff.2 ⟨by show (-3 : Int) ≤ 0; omega, by show (0 : Int) ≤ m.wd + 3; have := h.wd; omega, .inr rfl⟩)
theorem ok_do {m : Mc} {o : Opr} (h : okM m = true) (ho : okOpW m.wd o = true) (hc : doCode m o = 0) : okM (doTo m o) = true := okM_iff.2 ((okM_iff.1 h).do_ ho hc)

end Go.Proofs.Ytogaellhkjjeaaa
