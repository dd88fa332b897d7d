/-
  Rows of rows that grow: children of the program.
-/
import Derived.Test.YtogaellhkjjeaaaMcWale
import Derived.Test.YtogaellhkjjeaaaSpot
namespace Go.Proofs.Ytogaellhkjjeaaa
set_option linter.unusedVariables false
set_option linter.unusedSimpArgs false
open Go.RowKit

theorem own_set {w : World} {base e sz n : Nat} {v : Value} {xs : List Value} (h : w.ownsRow base e sz v n xs) {p : Addr} (hp : p.block < base) (u : Value) : (w.setCell p u).ownsRow base e sz v n xs := by
  refine ⟨h.1, ?_⟩
  rcases h.2 with h2 | ⟨g, cap, cur, hv, hb, hh, h3⟩
  · exact .inl h2
  · exact .inr ⟨g, cap, cur, hv, hb, (Below.heap_setCell _ _ _ _ (by omega)).trans hh, h3⟩
theorem rowIs_block {w w' : World} {g t n : Nat} {f : Nat → Value} (h : w.rowIs g t n f) (hb : w'.heap[g]? = w.heap[g]?) : w'.rowIs g t n f := by
  obtain ⟨cur, h1, h2, h3⟩ := h
  exact ⟨cur, hb.trans h1, h2, h3⟩
theorem rowIs_lt {w : World} {g t n : Nat} {f : Nat → Value} (h : w.rowIs g t n f) : g < w.heap.size := by
  obtain ⟨cur, h1, h2, h3⟩ := h
  exact (Array.getElem?_eq_some_iff.1 h1).1
theorem rowIs_below {w w' : World} {g t n : Nat} {f : Nat → Value} (h : w.rowIs g t n f) (hb : Below w.heap.size w w') : w'.rowIs g t n f := rowIs_block h (hb.block g (rowIs_lt h))

/-- Rows of the call's own behind one row of their headers. -/
structure Mat (w : World) (go n : Nat) (L : Nat → List Int) (f : Nat → Value) : Prop where
  row : w.rowIs go 27 n f
  own : ∀ j, j < n → w.ownsRow (go + 1) 2 1 (f j) (L j).length (vI (L j))
  dis : ∀ i j, i < n → j < n → i ≠ j → ∀ g, (f i).ownBlock = some g → (f j).ownBlock ≠ some g
theorem Mat.below {w w' : World} {go n : Nat} {L : Nat → List Int} {f : Nat → Value} (h : Mat w go n L f) (hb : Below w.heap.size w w') : Mat w' go n L f :=
  ⟨rowIs_below h.row hb, fun j hj => own_below (h.own j hj) hb, h.dis⟩
theorem Mat.congr {w : World} {go n : Nat} {L L' : Nat → List Int} {f : Nat → Value} (h : Mat w go n L f) (e : ∀ j, j < n → L' j = L j) : Mat w go n L' f :=
  ⟨h.row, fun j hj => by rw [e j hj]; exact h.own j hj, h.dis⟩
theorem Mat.app {w w' : World} {go n p : Nat} {x : Int} {L : Nat → List Int} {f : Nat → Value} {v' : Value} (h : Mat w go n L f) (hp : p < n) (hown : w'.ownsRow (go + 1) 2 1 v' (L p ++ [x]).length (vI (L p ++ [x])))
    (hg : w.grownBy w' (f p).ownBlock) (hat : v'.ownBlock = (f p).ownBlock ∨ v'.ownBlock = some w.heap.size) :
    Mat (w'.setCell ⟨go, p, none⟩ v') go n (fun j => if j = p then L p ++ [x] else L j) (fun j => if j = p then v' else f j) := by
  refine ⟨(rowIs_block h.row (hg.block go (rowIs_lt h.row) (fun e => ?_))).set p v', fun j hj => ?_, fun i j hi hj hij g hgi => ?_⟩
  · have := ((h.own p hp).lt _ e.symm).1
    omega
  · by_cases e : j = p
    · simp only [e, if_true]
      exact own_set hown (by simp) _
    · simp only [e, if_false]
      exact own_set (own_other (h.own j hj) hg (fun g hgj hgp => h.dis p j hp hj (fun h => e h.symm) g hgp hgj)) (by simp) _
  · by_cases ei : i = p
    · subst ei
      have ej : ¬ j = i := fun h => hij h.symm
      simp only [if_true] at hgi
      simp only [ej, if_false]
      rcases hat with hat | hat
      · exact h.dis i j hi hj hij g (hat ▸ hgi)
      · rw [hat] at hgi
        injection hgi with hgi
        intro hgj
        have := ((h.own j hj).lt _ hgj).2
        omega
    · simp only [ei, if_false] at hgi
      by_cases ej : j = p
      · subst ej
        simp only [if_true]
        rcases hat with hat | hat
        · rw [hat]; exact h.dis i j hi hj hij g hgi
        · rw [hat]
          intro hgj
          injection hgj with hgj
          have := ((h.own i hi).lt _ hgi).2
          omega
      · simp only [ej, if_false]
        exact h.dis i j hi hj hij g hgi

def GivesMat (w : World) (n : Nat) (L : Nat → List Int) (e : Ending) (w' : World) : Prop := ∃ f, e = .returned (.slice (some ⟨w.heap.size, 0, none⟩) n n) ∧ Mat w' w.heap.size n L f ∧ Below w.heap.size w w'

theorem pars_dis {n : Int} : ∀ {l pre : List Int} {j : Nat} {p : Int}, parsB n pre l = true → l[j]? = some p → (pre ++ l.take j).contains p = false
  | [], pre, j, p, h, hp => by simp at hp
  | x :: t, pre, 0, p, h, hp => by
    rw [parsB] at h
    simp at h hp
    subst hp
    simpa using h.2.1
  | x :: t, pre, j + 1, p, h, hp => by
    rw [parsB] at h
    simp at h
    have := pars_dis (pre := pre ++ [x]) (j := j) h.2.2 (by simpa using hp)
    simpa using this
theorem ok_dis {m : Mc} {i j : Nat} {x : Inf} {p : Int} (h : okM m = true) (hx : m.ls[i]? = some x) (hp : x.ps[j]? = some p) : (x.ps.take j).contains p = false := by
  unfold okM at h
  simp at h
  have h1 := infs_at h.2.2.2.2.1 hx
  unfold okInf at h1
  simp at h1
  obtain ⟨_, _, h4, h5, _⟩ := h1
  simpa using pars_dis h5 hp

/-- The children while the parents of loop i are told, j of them. -/
def kidL (l : List Inf) (i : Nat) (ps : List Int) (j : Nat) (c : Nat) : List Int := chGo (c : Int) 0 (l.take i) ++ (if (ps.take j).contains (c : Int) = true then [(i : Int)] else [])
theorem kid_zero (l : List Inf) (i : Nat) (ps : List Int) (c : Nat) : kidL l i ps 0 c = chGo (c : Int) 0 (l.take i) := by simp [kidL]
theorem kid_end {l : List Inf} {i : Nat} {x : Inf} (hx : l[i]? = some x) (c : Nat) : chGo (c : Int) 0 (l.take (i + 1)) = kidL l i x.ps x.ps.length c := by
  rw [chGo_take hx, kidL, List.take_length]
theorem kid_next {l : List Inf} {i j p : Nat} {ps : List Int} (hp : ps[j]? = some (p : Int)) (hd : (ps.take j).contains (p : Int) = false) (c : Nat) :
    kidL l i ps (j + 1) c = if c = p then kidL l i ps j p ++ [(i : Int)] else kidL l i ps j c := by
  unfold kidL
  rw [List.take_add_one, hp]
  by_cases e : c = p
  · subst e
    rw [if_pos rfl]
    simp only [hd]
    simp
  · rw [if_neg e]
    have e1 : (ps.take j ++ [(p : Int)]).contains (c : Int) = (ps.take j).contains (c : Int) := by
      rw [Bool.eq_iff_iff]; simp; omega
    show _ ++ (if (ps.take j ++ [(p : Int)]).contains (c : Int) = true then _ else _) = _
    rw [e1]
theorem kid_len {l : List Inf} {i j c : Nat} {ps : List Int} : (kidL l i ps j c).length ≤ l.length + 1 := by
  unfold kidL
  have := chGo_len (c : Int) (l.take i) 0
  rw [List.length_append]
  have h2 : (l.take i).length ≤ l.length := List.length_take_le' i l
  split <;> simp <;> omega

set_option maxHeartbeats 8000000 in
set_option maxRecDepth 100000 in
theorem children_any (m : Mc) (g : Nat) (w : World) (h : RdP w g m) (ok : okM m = true) :
    Calls Try.prog 68 #[.pointer (some ⟨g, 0, none⟩)] w (GivesMat w m.ls.length (fun j => chL m (j : Int))) := by
  obtain ⟨i0, hi, hz0, hz1, hz2⟩ := info_parts info_int
  have h300 := ls_len ok
  have hgl := h.lt
  obtain ⟨F, G, C, L, D, hc, h1, h2, h3, h4, h5, h6⟩ := h
  obtain ⟨AI, cI, rfl⟩ := RdN.shape h4
  have HI := Lib.hid h4
  have HC := Lib.hid hc
  have HOK := Lib.hid ok
  have hl0 : ∀ j : Nat, j < m.ls.length → chGo (j : Int) 0 (m.ls.take 0) = [] := fun j _ => rfl
  have HL0 := Lib.hid hl0
  have HLE := Lib.hid (show ∀ j : Nat, chL m (j : Int) = chGo (j : Int) 0 (m.ls.take m.ls.length) from fun j => by rw [List.take_length]; rfl)
  generalize hln : m.ls.length = n at *
  have HLN := Lib.hid hln
  obtain ⟨x0, x1, x2, x3, x4, x5, x6⟩ := hc.seven
  have hmk : ∀ W : World, (Instr.makeSlice 24 (.int .i64 (n : Int)) (.int .i64 (n : Int))).run Try.prog W = .ok (.slice (some ⟨W.heap.size, 0, none⟩) n n) (W.alloc (.cells (madeCells #[.slice none 0 0] n) 27)) := fun W => run_make_row' (P := Try.prog) 24 27 (.slice none 0 0) 24 Try.underlying24 info_sl rfl .i64 .i64 n (by omega) (by omega) W
  clear h1 h2 h3 h4 h5 h6 hc hln ok hl0
  go_enter Try.func68, Try.ntmps68
  go_wp2
  clear hmk
  go_loopw [19] (fun i wr => ∃ (q : Nat) (f : Nat → Value), q ≤ n ∧ i = .int .i64 q ∧ Hid (Mat wr w.heap.size n (fun c => chGo (c : Int) 0 (m.ls.take q)) f) ∧ Hid (Below w.heap.size w wr)) (fun i _ => n - (intOf i).toNat)
  case atStart =>
    refine ⟨0, _, Nat.zero_le _, rfl, ⟨World.rowIs_made _ _ _ _, fun j hj => ?_, fun i j hi hj hij g hg => ?_⟩, (Below.refl _ _).alloc (Nat.le_refl _) _⟩
    · rw [HL0.out j hj]; exact World.ownsRow_nil _ _ _ _
    · cases hg
  case round =>
    rename_i wr
    obtain ⟨q, f, hq, rfl, hmat, hbb⟩ := hrel
    by_cases hlt : q < n
    · obtain ⟨b, off, x, s, rfl, hb1, hlk, hcc, hs⟩ := (RdIs.below HI.out hbb.out).at_ hlt
      obtain ⟨A1, c1, rfl⟩ := hs.len
      obtain ⟨q0, q1, q2, q3, q4, q5⟩ := hcc.six
      have HPS := Lib.hid (ok_loop HOK.out hlk).1
      have hp4 := (ok_loop HOK.out hlk).2
      have HDI := Lib.hid (fun j p hp => ok_dis (j := j) (p := p) HOK.out hlk hp)
      have HS := Lib.hid hs
      have HKE := Lib.hid (kid_end hlk)
      have hbz := hbb.out.size
      have HM0 := Lib.hid (fun o : Obj => (hmat.out.below (w' := wr.alloc o) ((Below.refl _ _).alloc (Nat.le_refl _) o)).congr (L' := kidL m.ls q x.ps 0) (fun j _ => kid_zero _ _ _ _))
      have HB0 := Lib.hid (fun o : Obj => hbb.out.alloc hbz o)
      clear hlk hs hcc
      go_wp2
      go_loopw [27] (fun i wq => ∃ (j : Nat) (f2 : Nat → Value) (W2 : World), W2 = wq ∧ j ≤ x.ps.length ∧ i = .int .i64 j ∧ Hid (Mat W2 w.heap.size n (kidL m.ls q x.ps j) f2) ∧ Hid (Below w.heap.size w W2)) (fun i _ => x.ps.length - (intOf i).toNat)
      case atStart => exact ⟨0, f, _, rfl, Nat.zero_le _, rfl, HM0.out _, HB0.out _⟩
      case round =>
        obtain ⟨j, f2, W2, hwe, hj, rfl, hm2, hb2⟩ := hrel
        subst hwe
        by_cases hlt2 : j < x.ps.length
        · obtain ⟨b2, o2, p, rfl, hbb2, hpk, hpc⟩ := (HS.out.keep (fun p hp => (hb2.out.cell hp).trans (hbb.out.cell hp).symm)).at_ hlt2
          obtain ⟨p0, p1⟩ := HPS.out p (List.mem_of_getElem? hpk)
          obtain ⟨pn, rfl⟩ := Int.eq_ofNat_of_zero_le p0
          have hpn : pn < n := by omega
          have hd := HDI.out j _ hpk
          have HKN := Lib.hid (kid_next (l := m.ls) (i := q) hpk hd)
          have cp := hm2.out.row.cell (i := pn) hpn
          have fz := fun i => hm2.out.row.frozen i
          have hkl : (kidL m.ls q x.ps j pn).length ≤ 301 := by have := kid_len (l := m.ls) (i := q) (j := j) (c := pn) (ps := x.ps); have := HLN.out; omega
          have hw2 := hb2.out.size
          have hlw : w.heap.size < W2.heap.size := rowIs_lt hm2.out.row
          have HO := Lib.hid (hm2.out.own pn hpn)
          clear hpk hd p0
          generalize hfp : f2 pn = fp at *
          have HFP := Lib.hid hfp
          clear hfp
          go_wp2_with (at_builtin; refine wpList_append_own_at _ rfl _ _ 27 rfl (w.heap.size + 1) 2 i0 _ 1 8 Try.underlying27 hi hz0 hz1 hz2 rfl (by decide) _ _ _ rfl (HO.out.alloc _) ⟨W2.heap.size, 0, none⟩ 1 1 [.int .i64 (q : Int)] rfl rfl ?c1 ?c2 ?c3 ?c4 ?c5 ?_)
          case c1 => exact new_cells' _ _ rfl
          case c2 => exact int_one _
          case c3 => unfold maxLen; omega
          case c4 => omega
          case c5 => simp; omega
          intro v' w3 hown3 hg3 _ hat3
          obtain ⟨gv, capv, rfl, hgv0, hgv1⟩ := hown3.form (by omega)
          have hmA := hm2.out.below ((Below.refl W2.heap.size W2).alloc (Nat.le_refl _) (.cells #[.int .i64 (q : Int)] 2))
          have hr3 : w3.rowIs w.heap.size 27 n f2 := rowIs_block hmA.row (hg3.block _ (by simp; omega) (fun e => by have := (HO.out.lt _ e.symm).1; omega))
          have cp3 := hr3.cell (i := pn) hpn
          have fz3 := fun i => hr3.frozen i
          have HM3 := Lib.hid ((Mat.app (x := (q : Int)) hmA hpn (by rw [vI_snoc, List.length_append]; exact hown3) (by rw [HFP.out]; exact hg3) (by rw [HFP.out]; simpa using hat3)).congr (L' := kidL m.ls q x.ps (j + 1)) (fun c _ => HKN.out c))
          have HB3 := Lib.hid ((((hb2.out.alloc hw2 _).grown hg3 (by simp; omega) (fun k hk => by have := (HO.out.lt k hk).1; omega))).setCell (p := ⟨w.heap.size, pn, none⟩) (Nat.le_refl _) (.slice (some ⟨gv, 0, none⟩) ((kidL m.ls q x.ps j pn).length + 1) capv))
          clear hmA hr3 hown3 hg3 hat3 cp fz
          go_wp2
          exact ⟨⟨j + 1, _, _, rfl, by omega, by go_num, HM3.out, HB3.out⟩, by simp [intOf]; omega⟩
        · have HM := Lib.hid (hm2.out.congr (L' := fun c : Nat => chGo (c : Int) 0 (m.ls.take (q + 1))) (fun c _ => by have e : j = x.ps.length := (by omega); rw [e]; exact HKE.out c))
          go_wp2
          exact ⟨⟨q + 1, f2, by omega, by go_num, HM.out, hb2⟩, by simp [intOf]; omega⟩
    · have HM := Lib.hid (hmat.out.congr (L' := fun c : Nat => chL m (c : Int)) (fun c _ => by have e : q = n := (by omega); rw [e]; exact HLE.out c))
      go_wp2
      go_ret
      exact ⟨_, rfl, HM.out, hbb.out⟩

end Go.Proofs.Ytogaellhkjjeaaa
