/-
  Texts joined: McKids, McRes2, McState, McUndo, McUndo2, McTop.
-/
import Derived.Test.YtccdnmafakaleaaDoorMcWale
import Derived.Test.YtccdnmafakaleaaDoorSpot
import Derived.Test.YtccdnmafakaleaaDoorMcRes
import Derived.StillTailTactics
/-
  Rows of rows that grow: children of the program.
-/
namespace Go.Proofs.YtccdnmafakaleaaDoor
set_option linter.unusedVariables false
set_option linter.unusedSimpArgs false
open Go.RowKit

theorem own_set {w : World} {base e sz n : Nat} {v : Value} {xs : List Value} (h : w.ownsRow base e sz v n xs) {p : Addr} (hp : p.block < base) (u : Value) : (w.setCell p u).ownsRow base e sz v n xs := by
  refine ⟨h.1, ?_⟩
  rcases h.2 with h2 | ⟨g, cap, cur, hv, hb, hh, h3⟩
  · exact .inl h2
  · exact .inr ⟨g, cap, cur, hv, hb, (Below.heap_setCell _ _ _ _ (by omega)).trans hh, h3⟩
theorem rowIs_block {w w' : World} {g t n : Nat} {f : Nat → Value} (h : w.rowIs g t n f) (hb : w'.heap[g]? = w.heap[g]?) : w'.rowIs g t n f := by
  obtain ⟨cur, h1, h2, h3⟩ := h
  exact ⟨cur, hb.trans h1, h2, h3⟩
theorem rowIs_lt {w : World} {g t n : Nat} {f : Nat → Value} (h : w.rowIs g t n f) : g < w.heap.size := by
  obtain ⟨cur, h1, h2, h3⟩ := h
  exact (Array.getElem?_eq_some_iff.1 h1).1
theorem rowIs_below {w w' : World} {g t n : Nat} {f : Nat → Value} (h : w.rowIs g t n f) (hb : Below w.heap.size w w') : w'.rowIs g t n f := rowIs_block h (hb.block g (rowIs_lt h))

/-- Rows of the call's own behind one row of their headers. -/
structure Mat (w : World) (go n : Nat) (L : Nat → List Int) (f : Nat → Value) : Prop where
  row : w.rowIs go 25 n f
  own : ∀ j, j < n → w.ownsRow (go + 1) 2 1 (f j) (L j).length (vI (L j))
  dis : ∀ i j, i < n → j < n → i ≠ j → ∀ g, (f i).ownBlock = some g → (f j).ownBlock ≠ some g
theorem Mat.below {w w' : World} {go n : Nat} {L : Nat → List Int} {f : Nat → Value} (h : Mat w go n L f) (hb : Below w.heap.size w w') : Mat w' go n L f :=
  ⟨rowIs_below h.row hb, fun j hj => own_below (h.own j hj) hb, h.dis⟩
theorem Mat.congr {w : World} {go n : Nat} {L L' : Nat → List Int} {f : Nat → Value} (h : Mat w go n L f) (e : ∀ j, j < n → L' j = L j) : Mat w go n L' f :=
  ⟨h.row, fun j hj => by rw [e j hj]; exact h.own j hj, h.dis⟩
theorem Mat.app {w w' : World} {go n p : Nat} {x : Int} {L : Nat → List Int} {f : Nat → Value} {v' : Value} (h : Mat w go n L f) (hp : p < n) (hown : w'.ownsRow (go + 1) 2 1 v' (L p ++ [x]).length (vI (L p ++ [x])))
    (hg : w.grownBy w' (f p).ownBlock) (hat : v'.ownBlock = (f p).ownBlock ∨ v'.ownBlock = some w.heap.size) :
    Mat (w'.setCell ⟨go, p, none⟩ v') go n (fun j => if j = p then L p ++ [x] else L j) (fun j => if j = p then v' else f j) := by
  refine ⟨(rowIs_block h.row (hg.block go (rowIs_lt h.row) (fun e => ?_))).set p v', fun j hj => ?_, fun i j hi hj hij g hgi => ?_⟩
  · have := ((h.own p hp).lt _ e.symm).1
    omega
  · by_cases e : j = p
    · simp only [e, if_true]
      exact own_set hown (by simp) _
    · simp only [e, if_false]
      exact own_set (own_other (h.own j hj) hg (fun g hgj hgp => h.dis p j hp hj (fun h => e h.symm) g hgp hgj)) (by simp) _
  · by_cases ei : i = p
    · subst ei
      have ej : ¬ j = i := fun h => hij h.symm
      simp only [if_true] at hgi
      simp only [ej, if_false]
      rcases hat with hat | hat
      · exact h.dis i j hi hj hij g (hat ▸ hgi)
      · rw [hat] at hgi
        injection hgi with hgi
        intro hgj
        have := ((h.own j hj).lt _ hgj).2
        omega
    · simp only [ei, if_false] at hgi
      by_cases ej : j = p
      · subst ej
        simp only [if_true]
        rcases hat with hat | hat
        · rw [hat]; exact h.dis i j hi hj hij g hgi
        · rw [hat]
          intro hgj
          injection hgj with hgj
          have := ((h.own i hi).lt _ hgi).2
          omega
      · simp only [ej, if_false]
        exact h.dis i j hi hj hij g hgi

def GivesMat (w : World) (n : Nat) (L : Nat → List Int) (e : Ending) (w' : World) : Prop := ∃ f, e = .returned (.slice (some ⟨w.heap.size, 0, none⟩) n n) ∧ Mat w' w.heap.size n L f ∧ Below w.heap.size w w'

theorem pars_dis {n : Int} : ∀ {l pre : List Int} {j : Nat} {p : Int}, parsB n pre l = true → l[j]? = some p → (pre ++ l.take j).contains p = false
  | [], pre, j, p, h, hp => by simp at hp
  | x :: t, pre, 0, p, h, hp => by
    rw [parsB] at h
    simp at h hp
    subst hp
    simpa using h.2.1
  | x :: t, pre, j + 1, p, h, hp => by
    rw [parsB] at h
    simp at h
    have := pars_dis (pre := pre ++ [x]) (j := j) h.2.2 (by simpa using hp)
    simpa using this
theorem ok_dis {m : Mc} {i j : Nat} {x : Inf} {p : Int} (h : okM m = true) (hx : m.ls[i]? = some x) (hp : x.ps[j]? = some p) : (x.ps.take j).contains p = false := by
  unfold okM at h
  simp at h
  have h1 := infs_at h.2.2.2.2.1 hx
  unfold okInf at h1
  simp at h1
  obtain ⟨_, _, h4, h5, _⟩ := h1
  simpa using pars_dis h5 hp

/-- The children while the parents of loop i are told, j of them. -/
def kidL (l : List Inf) (i : Nat) (ps : List Int) (j : Nat) (c : Nat) : List Int := chGo (c : Int) 0 (l.take i) ++ (if (ps.take j).contains (c : Int) = true then [(i : Int)] else [])
theorem kid_zero (l : List Inf) (i : Nat) (ps : List Int) (c : Nat) : kidL l i ps 0 c = chGo (c : Int) 0 (l.take i) := by simp [kidL]
theorem kid_end {l : List Inf} {i : Nat} {x : Inf} (hx : l[i]? = some x) (c : Nat) : chGo (c : Int) 0 (l.take (i + 1)) = kidL l i x.ps x.ps.length c := by
  rw [chGo_take hx, kidL, List.take_length]
theorem kid_next {l : List Inf} {i j p : Nat} {ps : List Int} (hp : ps[j]? = some (p : Int)) (hd : (ps.take j).contains (p : Int) = false) (c : Nat) :
    kidL l i ps (j + 1) c = if c = p then kidL l i ps j p ++ [(i : Int)] else kidL l i ps j c := by
  unfold kidL
  rw [List.take_add_one, hp]
  by_cases e : c = p
  · subst e
    rw [if_pos rfl]
    simp only [hd]
    simp
  · rw [if_neg e]
    have e1 : (ps.take j ++ [(p : Int)]).contains (c : Int) = (ps.take j).contains (c : Int) := by
      rw [Bool.eq_iff_iff]; simp; omega
    show _ ++ (if (ps.take j ++ [(p : Int)]).contains (c : Int) = true then _ else _) = _
    rw [e1]
theorem kid_len {l : List Inf} {i j c : Nat} {ps : List Int} : (kidL l i ps j c).length ≤ l.length + 1 := by
  unfold kidL
  have := chGo_len (c : Int) (l.take i) 0
  rw [List.length_append]
  have h2 : (l.take i).length ≤ l.length := List.length_take_le' i l
  split <;> simp <;> omega

set_option maxHeartbeats 8000000 in
set_option maxRecDepth 100000 in
theorem children_any (m : Mc) (g : Nat) (w : World) (h : RdP w g m) (ok : okM m = true) :
    Calls Tryd.prog 68 #[.pointer (some ⟨g, 0, none⟩)] w (GivesMat w m.ls.length (fun j => chL m (j : Int))) := by
  obtain ⟨i0, hi, hz0, hz1, hz2⟩ := info_parts info_int
  have h300 := ls_len ok
  have hgl := h.lt
  obtain ⟨F, G, C, L, D, hc, h1, h2, h3, h4, h5, h6⟩ := h
  obtain ⟨AI, cI, rfl⟩ := RdN.shape h4
  have HI := Lib.hid h4
  have HC := Lib.hid hc
  have HOK := Lib.hid ok
  have hl0 : ∀ j : Nat, j < m.ls.length → chGo (j : Int) 0 (m.ls.take 0) = [] := fun j _ => rfl
  have HL0 := Lib.hid hl0
  have HLE := Lib.hid (show ∀ j : Nat, chL m (j : Int) = chGo (j : Int) 0 (m.ls.take m.ls.length) from fun j => by rw [List.take_length]; rfl)
  generalize hln : m.ls.length = n at *
  have HLN := Lib.hid hln
  obtain ⟨x0, x1, x2, x3, x4, x5, x6⟩ := hc.seven
  have hmk : ∀ W : World, (Instr.makeSlice 22 (.int .i64 (n : Int)) (.int .i64 (n : Int))).run Tryd.prog W = .ok (.slice (some ⟨W.heap.size, 0, none⟩) n n) (W.alloc (.cells (madeCells #[.slice none 0 0] n) 25)) := fun W => run_make_row' (P := Tryd.prog) 22 25 (.slice none 0 0) 24 Tryd.underlying22 info_sl rfl .i64 .i64 n (by omega) (by omega) W
  clear h1 h2 h3 h4 h5 h6 hc hln ok hl0
  go_enter Tryd.func68, Tryd.ntmps68
  go_wp2
  clear hmk
  go_loopw [19] (fun i wr => ∃ (q : Nat) (f : Nat → Value), q ≤ n ∧ i = .int .i64 q ∧ Hid (Mat wr w.heap.size n (fun c => chGo (c : Int) 0 (m.ls.take q)) f) ∧ Hid (Below w.heap.size w wr)) (fun i _ => n - (intOf i).toNat)
  case atStart =>
    refine ⟨0, _, Nat.zero_le _, rfl, ⟨World.rowIs_made _ _ _ _, fun j hj => ?_, fun i j hi hj hij g hg => ?_⟩, (Below.refl _ _).alloc (Nat.le_refl _) _⟩
    · rw [HL0.out j hj]; exact World.ownsRow_nil _ _ _ _
    · cases hg
  case round =>
    rename_i wr
    obtain ⟨q, f, hq, rfl, hmat, hbb⟩ := hrel
    by_cases hlt : q < n
    · obtain ⟨b, off, x, s, rfl, hb1, hlk, hcc, hs⟩ := (RdIs.below HI.out hbb.out).at_ hlt
      obtain ⟨A1, c1, rfl⟩ := hs.len
      obtain ⟨q0, q1, q2, q3, q4, q5⟩ := hcc.six
      have HPS := Lib.hid (ok_loop HOK.out hlk).1
      have hp4 := (ok_loop HOK.out hlk).2
      have HDI := Lib.hid (fun j p hp => ok_dis (j := j) (p := p) HOK.out hlk hp)
      have HS := Lib.hid hs
      have HKE := Lib.hid (kid_end hlk)
      have hbz := hbb.out.size
      have HM0 := Lib.hid (fun o : Obj => (hmat.out.below (w' := wr.alloc o) ((Below.refl _ _).alloc (Nat.le_refl _) o)).congr (L' := kidL m.ls q x.ps 0) (fun j _ => kid_zero _ _ _ _))
      have HB0 := Lib.hid (fun o : Obj => hbb.out.alloc hbz o)
      clear hlk hs hcc
      go_wp2
      go_loopw [27] (fun i wq => ∃ (j : Nat) (f2 : Nat → Value) (W2 : World), W2 = wq ∧ j ≤ x.ps.length ∧ i = .int .i64 j ∧ Hid (Mat W2 w.heap.size n (kidL m.ls q x.ps j) f2) ∧ Hid (Below w.heap.size w W2)) (fun i _ => x.ps.length - (intOf i).toNat)
      case atStart => exact ⟨0, f, _, rfl, Nat.zero_le _, rfl, HM0.out _, HB0.out _⟩
      case round =>
        obtain ⟨j, f2, W2, hwe, hj, rfl, hm2, hb2⟩ := hrel
        subst hwe
        by_cases hlt2 : j < x.ps.length
        · obtain ⟨b2, o2, p, rfl, hbb2, hpk, hpc⟩ := (HS.out.keep (fun p hp => (hb2.out.cell hp).trans (hbb.out.cell hp).symm)).at_ hlt2
          obtain ⟨p0, p1⟩ := HPS.out p (List.mem_of_getElem? hpk)
          obtain ⟨pn, rfl⟩ := Int.eq_ofNat_of_zero_le p0
          have hpn : pn < n := by omega
          have hd := HDI.out j _ hpk
          have HKN := Lib.hid (kid_next (l := m.ls) (i := q) hpk hd)
          have cp := hm2.out.row.cell (i := pn) hpn
          have fz := fun i => hm2.out.row.frozen i
          have hkl : (kidL m.ls q x.ps j pn).length ≤ 301 := by have := kid_len (l := m.ls) (i := q) (j := j) (c := pn) (ps := x.ps); have := HLN.out; omega
          have hw2 := hb2.out.size
          have hlw : w.heap.size < W2.heap.size := rowIs_lt hm2.out.row
          have HO := Lib.hid (hm2.out.own pn hpn)
          clear hpk hd p0
          generalize hfp : f2 pn = fp at *
          have HFP := Lib.hid hfp
          clear hfp
          go_wp2_with (at_builtin; refine wpList_append_own_at _ rfl _ _ 25 rfl (w.heap.size + 1) 2 i0 _ 1 8 Tryd.underlying25 hi hz0 hz1 hz2 rfl (by decide) _ _ _ rfl (HO.out.alloc _) ⟨W2.heap.size, 0, none⟩ 1 1 [.int .i64 (q : Int)] rfl rfl ?c1 ?c2 ?c3 ?c4 ?c5 ?_)
          case c1 => exact new_cells' _ _ rfl
          case c2 => exact int_one _
          case c3 => unfold maxLen; omega
          case c4 => omega
          case c5 => simp; omega
          intro v' w3 hown3 hg3 _ hat3
          obtain ⟨gv, capv, rfl, hgv0, hgv1⟩ := hown3.form (by omega)
          have hmA := hm2.out.below ((Below.refl W2.heap.size W2).alloc (Nat.le_refl _) (.cells #[.int .i64 (q : Int)] 2))
          have hr3 : w3.rowIs w.heap.size 25 n f2 := rowIs_block hmA.row (hg3.block _ (by simp; omega) (fun e => by have := (HO.out.lt _ e.symm).1; omega))
          have cp3 := hr3.cell (i := pn) hpn
          have fz3 := fun i => hr3.frozen i
          have HM3 := Lib.hid ((Mat.app (x := (q : Int)) hmA hpn (by rw [vI_snoc, List.length_append]; exact hown3) (by rw [HFP.out]; exact hg3) (by rw [HFP.out]; simpa using hat3)).congr (L' := kidL m.ls q x.ps (j + 1)) (fun c _ => HKN.out c))
          have HB3 := Lib.hid ((((hb2.out.alloc hw2 _).grown hg3 (by simp; omega) (fun k hk => by have := (HO.out.lt k hk).1; omega))).setCell (p := ⟨w.heap.size, pn, none⟩) (Nat.le_refl _) (.slice (some ⟨gv, 0, none⟩) ((kidL m.ls q x.ps j pn).length + 1) capv))
          clear hmA hr3 hown3 hg3 hat3 cp fz
          go_wp2
          exact ⟨⟨j + 1, _, _, rfl, by omega, by go_num, HM3.out, HB3.out⟩, by simp [intOf]; omega⟩
        · have HM := Lib.hid (hm2.out.congr (L' := fun c : Nat => chGo (c : Int) 0 (m.ls.take (q + 1))) (fun c _ => by have e : j = x.ps.length := (by omega); rw [e]; exact HKE.out c))
          go_wp2
          exact ⟨⟨q + 1, f2, by omega, by go_num, HM.out, hb2⟩, by simp [intOf]; omega⟩
    · have HM := Lib.hid (hmat.out.congr (L' := fun c : Nat => chL m (c : Int)) (fun c _ => by have e : q = n := (by omega); rw [e]; exact HLE.out c))
      go_wp2
      go_ret
      exact ⟨_, rfl, HM.out, hbb.out⟩

end Go.Proofs.YtccdnmafakaleaaDoor

/-
  WaleOf, ChildrenOf, of the program and of the reference.
-/
namespace Go.Proofs.YtccdnmafakaleaaDoor
set_option linter.unusedVariables false
set_option linter.unusedSimpArgs false
open Go.RowKit

theorem ask_zero {m : Mc} {k : Int} (h : askC m k = 0) : okM m = true ∧ 0 ≤ k ∧ k < m.ls.length := by
  unfold askC at h
  split at h
  · omega
  · rename_i h1
    split at h
    · omega
    · rename_i h2
      have h3 : inB 0 k ((m.ls.length : Int) - 1) = true := by simpa using h2
      have := inB_iff.1 h3
      exact ⟨by simpa using h1, this.1, by omega⟩



end Go.Proofs.YtccdnmafakaleaaDoor

/-
  isLive, states of the program, l11State of the reference; indicesOf.
-/
namespace Go.Proofs.YtccdnmafakaleaaDoor
set_option linter.unusedVariables false
set_option linter.unusedSimpArgs false
open Go.RowKit

/-- A row of bools of the call's own, one for each loop. -/
def GivesB (w : World) (n : Nat) (F : Nat → Bool) (e : Ending) (w' : World) : Prop := e = .returned (.slice (some ⟨w.heap.size, 0, none⟩) n n) ∧ w'.rowIs w.heap.size 4 n (fun i => .bool (F i)) ∧ Below w.heap.size w w'
theorem rowIs_congr {w : World} {g t n : Nat} {f f' : Nat → Value} (h : w.rowIs g t n f) (e : ∀ i, i < n → f' i = f i) : w.rowIs g t n f' := by
  obtain ⟨cur, h1, h2, h3⟩ := h
  exact ⟨cur, h1, h2, fun i hi => by rw [e i hi]; exact h3 i hi⟩

set_option maxHeartbeats 8000000 in
set_option maxRecDepth 100000 in
theorem isLive_any (m : Mc) (g : Nat) (w : World) (h : RdP w g m) (ok : okM m = true) :
    Calls Tryd.prog 67 #[.pointer (some ⟨g, 0, none⟩)] w (GivesB w m.ls.length (fun i => hasB (liveL m) (i : Int))) := by
  have h300 := ls_len ok
  have h240 := liveL_len ok
  have HP := Lib.hid h
  have HOK := Lib.hid ok
  have HRNG := Lib.hid (fun (k : Int) (hk : k ∈ liveL m) => liveL_rng ok hk)
  obtain ⟨F, G, C, L, D, hc, h1, h2, h3, h4, h5, h6⟩ := h
  obtain ⟨AI, cI, rfl⟩ := RdN.shape h4
  obtain ⟨x0, x1, x2, x3, x4, x5, x6⟩ := hc.seven
  generalize hln : m.ls.length = n at *
  have hmk : ∀ W : World, (Instr.makeSlice 119 (.int .i64 (n : Int)) (.int .i64 (n : Int))).run Tryd.prog W = .ok (.slice (some ⟨W.heap.size, 0, none⟩) n n) (W.alloc (.cells (madeCells #[.bool false] n) 4)) := fun W => run_make_row' (P := Tryd.prog) 119 4 (.bool false) 1 Tryd.underlying119 info_bool rfl .i64 .i64 n (by omega) (by omega) W
  have BW := Lib.hid (show Below w.heap.size w (w.alloc (.cells (madeCells #[.bool false] n) 4)) from (Below.refl _ _).alloc (Nat.le_refl _) _)
  have HR0 := Lib.hid (World.rowIs_made w (.bool false) n 4)
  clear h1 h2 h3 h4 h5 h6 hc hln ok
  go_enter Tryd.func67, Tryd.ntmps67
  go_wp2_with fail
  clear hmk
  refine (live_any m g _ (HP.out.below BW.out) HOK.out).mono ?_
  rintro e w1 ⟨v, rfl, ho, hb⟩
  obtain ⟨A, cp, rfl, -⟩ := ho.cells
  have hs1 : w.heap.size + 1 ≤ w1.heap.size := by have := hb.size; simp at this; omega
  have HO := Lib.hid (ho.wide (show w.heap.size + 1 ≤ _ by simp) (Nat.le_refl _))
  have HB1 := Lib.hid (BW.out.trans (hb.mono BW.out.size))
  have HR1 := Lib.hid (rowIs_below HR0.out hb)
  generalize hY : liveL m = Y at *
  have HYE := Lib.hid hY
  generalize hyn : Y.length = N at *
  have HYN := Lib.hid hyn
  clear ho hb hY hyn BW HR0 x0 x1 x2 x3 x4 x5 x6
  go_wp2
  go_loopw [15] (fun i wr => ∃ (k : Nat) (f : Nat → Value), k ≤ N ∧ i = .int .i64 k ∧ wr.rowIs w.heap.size 4 n f ∧ Hid (∀ i, i < n → f i = .bool ((Y.take k).contains (i : Int))) ∧ Hid (Same (w.heap.size + 1) w1.heap.size w1 wr) ∧ Hid (Below w.heap.size w wr)) (fun i _ => N - (intOf i).toNat)
  case atStart => exact ⟨0, _, Nat.zero_le _, rfl, HR1.out, fun i hi => by simp, Same.refl _ _ _, HB1.out⟩
  case round =>
    rename_i wr
    obtain ⟨k, f, hk, rfl, hrow, hf, hsame, hbb⟩ := hrel
    by_cases hlt : k < N
    · have hown := HO.out.same hsame.out
      rw [← HYN.out] at hown
      have hrd := RdI.of_own hown
      rw [HYN.out] at hrd
      obtain ⟨b, off, y, rfl, hb1, hyk, hcy⟩ := hrd.at_ hlt
      obtain ⟨y0, y1⟩ := HRNG.out y (List.mem_of_getElem? hyk)
      obtain ⟨yn, rfl⟩ := Int.eq_ofNat_of_zero_le y0
      have hyn : yn < n := by omega
      have cp := hrow.cell (i := yn) hyn
      rw [hf.out yn hyn] at cp
      have fz := fun i => hrow.frozen i
      have HSE := Lib.hid (seen_set (q := yn) hf.out)
      have HTK := Lib.hid (show Y.take (k + 1) = Y.take k ++ [(yn : Int)] by rw [List.take_add_one, hyk]; rfl)
      have HROW := Lib.hid hrow
      have HB2 := Lib.hid (hbb.out.setCell (p := ⟨w.heap.size, yn, none⟩) (Nat.le_refl _) (.bool true))
      have HS2 := Lib.hid (hsame.out.setCell (p := ⟨w.heap.size, yn, none⟩) (.inl (by simp)) (.bool true))
      clear hrow hyk hown hrd y0
      go_wp2
      exact ⟨⟨k + 1, _, by omega, by go_num, HROW.out.set _ _, by rw [HTK.out]; exact HSE.out, HS2.out, HB2.out⟩, by simp [intOf]; omega⟩
    · have HROW := Lib.hid (rowIs_congr (f' := fun i => .bool (hasB Y (i : Int))) hrow (fun i hi => by
        rw [hf.out i hi, List.take_of_length_le (by have := HYN.out; omega)]; rfl))
      clear hrow
      go_wp2
      go_ret
      exact ⟨rfl, by rw [← HYE.out] at HROW; exact HROW.out, hbb.out⟩

def stL (m : Mc) : List Int := (List.range m.ls.length).map fun i : Nat => stM m (i : Int)
set_option maxHeartbeats 8000000 in
set_option maxRecDepth 100000 in
theorem states_any (m : Mc) (g : Nat) (w : World) (h : RdP w g m) (ok : okM m = true) :
    Calls Tryd.prog 30 #[.pointer (some ⟨g, 0, none⟩)] w (GivesOw w 2 1 m.ls.length (vI (stL m))) := by
  have h300 := ls_len ok
  have hgl := h.lt
  have HP := Lib.hid h
  have HOK := Lib.hid ok
  have HST := Lib.hid (fun i : Nat => show stM m (i : Int) = if hasB (liveL m) (i : Int) = true then 2 else if m.dr.contains (i : Int) = true then 3 else if 0 < (chL m (i : Int)).length then 1 else 4 from rfl)
  obtain ⟨F, G, C, L, D, hc, h1, h2, h3, h4, h5, h6⟩ := h
  obtain ⟨AI, cI, rfl⟩ := RdN.shape h4
  have HC := Lib.hid hc
  have HD := Lib.hid h5
  have HVI := Lib.hid (show vI (stL m) = (List.range m.ls.length).map fun i : Nat => Value.int .i64 (stM m (i : Int)) by simp [vI, stL])
  generalize hst : stM m = S at *
  generalize hln : m.ls.length = n at *
  have HLN := Lib.hid hln
  have hmk : ∀ W : World, (Instr.makeSlice 25 (.int .i64 (n : Int)) (.int .i64 (n : Int))).run Tryd.prog W = .ok (.slice (some ⟨W.heap.size, 0, none⟩) n n) (W.alloc (.cells (madeCells #[.int .i64 0] n) 2)) := fun W => run_make_row' (P := Tryd.prog) 25 2 (.int .i64 0) 8 Tryd.underlying25 info_int rfl .i64 .i64 n (by omega) (by omega) W
  clear h1 h2 h3 h4 h5 h6 hc hln ok hst
  go_enter Tryd.func30, Tryd.ntmps30
  go_wp2_with fail
  refine (isLive_any m g _ HP.out HOK.out).mono ?_
  rintro e w1 ⟨rfl, hr1, hb1⟩
  have HP1 := Lib.hid (HP.out.below hb1)
  have HB1 := Lib.hid hb1
  rw [HLN.out] at hr1
  have HR1 := Lib.hid hr1
  have hz1 := hb1.size
  have hwl : w.heap.size < w1.heap.size := rowIs_lt hr1
  clear hr1 hb1
  go_wp2_with fail
  refine (children_any m g _ HP1.out HOK.out).mono ?_
  rintro e w2 ⟨f, rfl, hm, hb2⟩
  rw [HLN.out] at hm
  have HB2 := Lib.hid (HB1.out.trans (hb2.mono hz1))
  have HR2 := Lib.hid (rowIs_below HR1.out hb2)
  have HM2 := Lib.hid hm
  have hwl2 : w1.heap.size < w2.heap.size := rowIs_lt hm.row
  obtain ⟨x0, x1, x2, x3, x4, x5, x6⟩ := (HC.out.below HB2.out hgl).seven
  rw [HLN.out]
  clear hm hb2
  have hg2 : g < w2.heap.size := by omega
  go_wp2
  clear hmk x0 x1 x2 x3 x4 x5 x6
  go_loopw [22] (fun i wr => ∃ (k : Nat) (f3 : Nat → Value), k ≤ n ∧ i = .int .i64 k ∧ wr.rowIs w2.heap.size 2 n f3 ∧ Hid (∀ i, i < k → f3 i = .int .i64 (S (i : Int))) ∧ Hid (Below w2.heap.size w2 wr)) (fun i _ => n - (intOf i).toNat)
  case atStart => exact ⟨0, _, Nat.zero_le _, rfl, World.rowIs_made _ _ _ _, fun i hi => absurd hi (by omega), (Below.refl _ _).alloc (Nat.le_refl _) _⟩
  case round =>
    rename_i wr
    obtain ⟨k, f3, hk, rfl, hrow, hf, hbb⟩ := hrel
    by_cases hlt : k < n
    · have cl := (rowIs_below HR2.out hbb.out).cell (i := k) hlt
      have fz := fun i => hrow.frozen i
      have cp := hrow.cell (i := k) hlt
      have HSK := Lib.hid (HST.out k)
      have HFN := Lib.hid (fun (x : Int) (hx : S (k : Int) = x) => show ∀ i, i < k + 1 → (fun j => if j = k then Value.int .i64 x else f3 j) i = .int .i64 (S (i : Int)) from fun i hi => by
        by_cases e : i = k
        · subst e; simp [hx]
        · simp only [e, if_false]; exact hf.out i (by omega))
      have HROW := Lib.hid hrow
      have HBB := Lib.hid (fun (W : World) (x : Int) (hb : Below wr.heap.size wr W) => show Below w2.heap.size w2 (W.setCell ⟨w2.heap.size, k, none⟩ (.int .i64 x)) from (hbb.out.trans (hb.mono hbb.out.size)).setCell (Nat.le_refl _) _)
      cases hl : hasB (liveL m) (k : Int)
      · have HK1 := Lib.hid hl
        have HDR := Lib.hid ((HD.out.below (HB2.out.trans (hbb.out.mono HB2.out.size))).more (show w.heap.size ≤ wr.heap.size by have := HB2.out.size; have := hbb.out.size; omega))
        have hcx := (HC.out.below (HB2.out.trans (hbb.out.mono HB2.out.size)) hgl).seven
        obtain ⟨x0, x1, x2, x3, x4, x5, x6⟩ := hcx
        rw [hl] at cl
        cases hd : m.dr.contains (k : Int)
        · have HK2 := Lib.hid hd
          have hmat := HM2.out.below hbb.out
          have HMR := Lib.hid hmat
          have cm := hmat.row.cell (i := k) hlt
          have hok := hmat.own k hlt
          obtain ⟨Ak, ck, hfk, -⟩ := (OwC.of_own hok).cells
          have HFK := Lib.hid hfk
          by_cases h0 : 0 < (chL m (k : Int)).length
          · have h0' : (0 : Int) < ((chL m (k : Int)).length : Int) := by omega
            have HK3 := Lib.hid (show S (k : Int) = 1 by rw [HSK.out, HK1.out, HK2.out, if_neg (by decide), if_neg (by decide), if_pos h0])
            generalize (chL m (k : Int)).length = N at *
            rw [hfk] at cm
            clear hl hd hrow hmat hok hfk
            go_wp2_with fail
            refine (containsI_any _ m.dr _ _ HDR.out).mono ?_
            rintro e w3 ⟨rfl, hb3⟩
            rw [HK2.out]
            have cm3 := (HMR.out.below hb3).row.cell (i := k) hlt
            rw [HFK.out] at cm3
            have fz3 := fun i => (rowIs_below HROW.out hb3).frozen i
            have cp3 := (rowIs_below HROW.out hb3).cell (i := k) hlt
            have HR3 := Lib.hid (rowIs_below HROW.out hb3)
            have HB3 := Lib.hid hb3
            clear hb3 fz cp cl x0 x1 x2 x3 x4 x5 x6 cm
            go_wp2
            exact ⟨⟨k + 1, _, by omega, by go_num, HR3.out.set _ _, HFN.out 1 HK3.out, HBB.out _ 1 HB3.out⟩, by simp [intOf]; omega⟩
          · have h0' : ¬ (0 : Int) < ((chL m (k : Int)).length : Int) := by omega
            have HK3 := Lib.hid (show S (k : Int) = 4 by rw [HSK.out, HK1.out, HK2.out, if_neg (by decide), if_neg (by decide), if_neg h0])
            generalize (chL m (k : Int)).length = N at *
            rw [hfk] at cm
            clear hl hd hrow hmat hok hfk
            go_wp2_with fail
            refine (containsI_any _ m.dr _ _ HDR.out).mono ?_
            rintro e w3 ⟨rfl, hb3⟩
            rw [HK2.out]
            have cm3 := (HMR.out.below hb3).row.cell (i := k) hlt
            rw [HFK.out] at cm3
            have fz3 := fun i => (rowIs_below HROW.out hb3).frozen i
            have cp3 := (rowIs_below HROW.out hb3).cell (i := k) hlt
            have HR3 := Lib.hid (rowIs_below HROW.out hb3)
            have HB3 := Lib.hid hb3
            clear hb3 fz cp cl x0 x1 x2 x3 x4 x5 x6 cm
            go_wp2
            exact ⟨⟨k + 1, _, by omega, by go_num, HR3.out.set _ _, HFN.out 4 HK3.out, HBB.out _ 4 HB3.out⟩, by simp [intOf]; omega⟩
        · have HK2 := Lib.hid hd
          have HK3 := Lib.hid (show S (k : Int) = 3 by rw [HSK.out, HK1.out, HK2.out, if_neg (by decide), if_pos rfl])
          clear hl hd hrow
          go_wp2_with fail
          refine (containsI_any _ m.dr _ _ HDR.out).mono ?_
          rintro e w3 ⟨rfl, hb3⟩
          rw [HK2.out]
          have fz3 := fun i => (rowIs_below HROW.out hb3).frozen i
          have cp3 := (rowIs_below HROW.out hb3).cell (i := k) hlt
          have HR3 := Lib.hid (rowIs_below HROW.out hb3)
          have HB3 := Lib.hid hb3
          clear hb3 fz cp cl x0 x1 x2 x3 x4 x5 x6
          go_wp2
          exact ⟨⟨k + 1, _, by omega, by go_num, HR3.out.set _ _, HFN.out 3 HK3.out, HBB.out _ 3 HB3.out⟩, by simp [intOf]; omega⟩
      · have HK3 := Lib.hid (show S (k : Int) = 2 by rw [HSK.out, hl, if_pos rfl])
        rw [hl] at cl
        clear hl hrow
        go_wp2
        exact ⟨⟨k + 1, _, by omega, by go_num, HROW.out.set _ _, HFN.out 2 HK3.out, HBB.out _ 2 (Below.refl _ _)⟩, by simp [intOf]; omega⟩
    · have HROW := Lib.hid (rowIs_congr (f' := fun i => .int .i64 (S (i : Int))) hrow (fun i hi => (hf.out i (by omega)).symm))
      have HBW := Lib.hid (HB2.out.trans (hbb.out.mono HB2.out.size))
      clear hrow
      go_wp2
      go_ret
      refine ⟨_, rfl, ?_, HBW.out⟩
      rw [HVI.out]
      have h := OwC.of_rowF (lo := w.heap.size) (hi := wr.heap.size) (n := n) (sz := 1) (by rw [Nat.mul_one]; exact HROW.out) (by omega) (rowIs_lt HROW.out) (by unfold maxLen; omega)
      rw [Nat.mul_one] at h
      exact h

end Go.Proofs.YtccdnmafakaleaaDoor

/-
  What comes undone: undone, indicesOf of the program.
-/
namespace Go.Proofs.YtccdnmafakaleaaDoor
set_option linter.unusedVariables false
set_option linter.unusedSimpArgs false
open Go.RowKit



end Go.Proofs.YtccdnmafakaleaaDoor

/-
  l12Undone of the reference; runOf of the program, l12Run of the reference.
-/
namespace Go.Proofs.YtccdnmafakaleaaDoor
set_option linter.unusedVariables false
set_option linter.unusedSimpArgs false
open Go.RowKit

theorem rowIs_other {w : World} {g t n : Nat} {f : Nat → Value} (h : w.rowIs g t n f) {p : Addr} (hp : p.block ≠ g) (u : Value) : (w.setCell p u).rowIs g t n f :=
  rowIs_block h (Below.heap_setCell _ _ _ _ (fun e => hp e.symm))


end Go.Proofs.YtccdnmafakaleaaDoor

/-
  LoopState, Undone, IsSecure, of the program and of the reference.
-/
namespace Go.Proofs.YtccdnmafakaleaaDoor
set_option linter.unusedVariables false
set_option linter.unusedSimpArgs false
open Go.RowKit

/-- The code of a machine. -/
def okC (m : Mc) : Int := if okM m = true then 0 else 1
theorem okC_no {m : Mc} (h : okM m = false) : okC m = 1 := by simp [okC, h]
theorem okC_yes {m : Mc} (h : okM m = true) : okC m = 0 := by simp [okC, h]

set_option maxHeartbeats 4000000 in
set_option maxRecDepth 100000 in
theorem l11State_any (m : Mc) (g : Nat) (k : Int) (w : World) (h : RdP w g m) (ok : okM m = true) :
    Calls Tryd.prog 61 #[.pointer (some ⟨g, 0, none⟩), .int .i64 k] w fun e w' => e = .returned (.int .i64 (stM m k)) ∧ Below w.heap.size w w' := by
  have h300 := ls_len ok
  have HP := Lib.hid h
  have HOK := Lib.hid ok
  have HL := Lib.hid (l07Live_any m g w h ok)
  cases hl : (liveL m).contains k
  case true =>
    have HS := Lib.hid (show stM m k = 2 by unfold stM; rw [if_pos hl])
    have HK := Lib.hid hl
    clear hl h ok
    go_enter Tryd.func61, Tryd.ntmps61
    go_wp2_with fail
    refine HL.out.mono ?_
    rintro e w1 ⟨v, rfl, ho, hb⟩
    have HB := Lib.hid hb
    have HR := Lib.hid (RdI.of_own ho)
    clear ho hb
    go_wp2_with fail
    refine (l00Has_any _ _ k _ HR.out).mono ?_
    rintro e w2 ⟨rfl, hb⟩
    rw [HK.out]
    have HB2 := Lib.hid (HB.out.trans (hb.mono HB.out.size))
    clear hb
    go_wp2
    go_ret
    exact ⟨ret_int HS.out.symm, HB2.out⟩
  have HK := Lib.hid hl
  have h2 := h
  obtain ⟨F, G, C, L, D, hc, h1, h2', h3, h4, h5, h6⟩ := h2
  have HC := Lib.hid hc
  have HD := Lib.hid h5
  have hgl := h.lt
  clear hc h1 h2' h3 h4 h5 h6
  cases hd : m.dr.contains k
  case true =>
    have HS := Lib.hid (show stM m k = 3 by unfold stM; rw [hl, if_neg (by decide), if_pos hd])
    have HK2 := Lib.hid hd
    clear hl h ok hd
    go_enter Tryd.func61, Tryd.ntmps61
    go_wp2_with fail
    refine HL.out.mono ?_
    rintro e w1 ⟨v, rfl, ho, hb⟩
    have HB := Lib.hid hb
    have HR := Lib.hid (RdI.of_own ho)
    clear ho hb
    go_wp2_with fail
    refine (l00Has_any _ _ k _ HR.out).mono ?_
    rintro e w2 ⟨rfl, hb⟩
    rw [HK.out]
    have HB2 := Lib.hid (HB.out.trans (hb.mono HB.out.size))
    clear hb
    obtain ⟨x0, x1, x2, x3, x4, x5, x6⟩ := (HC.out.below HB2.out hgl).seven
    go_wp2_with fail
    refine (l00Has_any _ m.dr k _ ((HD.out.below HB2.out).more HB2.out.size)).mono ?_
    rintro e w3 ⟨rfl, hb⟩
    rw [HK2.out]
    have HB3 := Lib.hid (HB2.out.trans (hb.mono HB2.out.size))
    clear hb
    go_wp2
    go_ret
    exact ⟨ret_int HS.out.symm, HB3.out⟩
  have HK2 := Lib.hid hd
  have HCH := Lib.hid (show stM m k = if 0 < (chL m k).length then 1 else 4 by unfold stM; rw [hl, hd, if_neg (by decide), if_neg (by decide)])
  clear hl h ok hd
  by_cases hz : 0 < (chL m k).length
  all_goals
    first
      | (have hz1 : (0 : Int) < ((chL m k).length : Int) := by omega
         have HS := Lib.hid (show stM m k = 1 by rw [HCH.out, if_pos hz])
         clear HCH
         generalize hx : chL m k = X at *
         have HX := Lib.hid hx
         clear hx)
      | (have hz1 : ¬ (0 : Int) < ((chL m k).length : Int) := by omega
         have HS := Lib.hid (show stM m k = 4 by rw [HCH.out, if_neg hz])
         clear HCH
         generalize hx : chL m k = X at *
         have HX := Lib.hid hx
         clear hx)
    go_enter Tryd.func61, Tryd.ntmps61
    go_wp2_with fail
    refine HL.out.mono ?_
    rintro e w1 ⟨v, rfl, ho, hb⟩
    have HB := Lib.hid hb
    have HR := Lib.hid (RdI.of_own ho)
    clear ho hb
    go_wp2_with fail
    refine (l00Has_any _ _ k _ HR.out).mono ?_
    rintro e w2 ⟨rfl, hb⟩
    rw [HK.out]
    have HB2 := Lib.hid (HB.out.trans (hb.mono HB.out.size))
    clear hb
    obtain ⟨x0, x1, x2, x3, x4, x5, x6⟩ := (HC.out.below HB2.out hgl).seven
    go_wp2_with fail
    refine (l00Has_any _ m.dr k _ ((HD.out.below HB2.out).more HB2.out.size)).mono ?_
    rintro e w3 ⟨rfl, hb⟩
    rw [HK2.out]
    have HB3 := Lib.hid (HB2.out.trans (hb.mono HB2.out.size))
    clear hb x0 x1 x2 x3 x4 x5 x6
    go_wp2_with fail
    refine (l11Children_any m g k _ (HP.out.below HB3.out) h300).mono ?_
    rintro e w4 ⟨v4, rfl, ho, hb⟩
    rw [HX.out] at ho
    obtain ⟨A4, c4, rfl, -⟩ := ho.cells
    have HB4 := Lib.hid (HB3.out.trans (hb.mono HB3.out.size))
    clear hb ho
    go_wp2
    go_ret
    exact ⟨ret_int HS.out.symm, HB4.out⟩

/-- What LoopState answers. -/
def stV (m : Mc) (k : Int) : Int := if askC m k = 0 then stM m k else 0
def stR (m : Mc) (k : Int) (e : Ending) : Prop := e = .returned (.tuple #[.int .i64 (stV m k), .int .i64 (askC m k)])


/-- Is a machine secure? -/
def secB (m : Mc) : Bool := okM m && decide ((undone m).length = 0)

end Go.Proofs.YtccdnmafakaleaaDoor
