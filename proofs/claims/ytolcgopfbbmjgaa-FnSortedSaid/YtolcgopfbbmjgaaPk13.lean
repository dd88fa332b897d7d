/-
  Texts joined: St4, St5, St6.
-/
import Derived.Test.YtolcgopfbbmjgaaPk12
import Derived.Test.YtolcgopfbbmjgaaAppend
import Derived.Test.YtolcgopfbbmjgaaPk8
import Derived.Test.YtolcgopfbbmjgaaPs1
import Derived.Test.YtolcgopfbbmjgaaOwn
import Derived.Test.YtolcgopfbbmjgaaPk7
/-
  A row of operations that is sorted in part; slices.Clone at operations; how many transfers may be separate.
-/
namespace Go.Proofs.Ytolcgopfbbmjgaa
set_option linter.unusedVariables false
set_option linter.unusedSimpArgs false
open Go.Sort Go.RowKit

theorem vO_app (a b : List Opr) : vO (a ++ b) = vO a ++ vO b := by simp [vS]
theorem vO_len (a : List Opr) : (vO a).length = a.length * 8 := vS_len Opr.len a
theorem flat_vO (d : Array Opr) : (flatK Opr.cells 8 d).toList = vO d.toList := by
  refine vS_ext Opr.len (by omega) (by simp) (fun k x hx j hj => ?_)
  have hk : k < d.size := by
    have := (List.getElem?_eq_some_iff.1 hx).1
    simpa using this
  have hkj : k * 8 + j < d.size * 8 := by omega
  have h := get_flatK Opr.cells 8 d (k * 8 + j) hkj
  have e1 : (k * 8 + j) / 8 = k := by omega
  have e2 : (k * 8 + j) % 8 = j := by omega
  rw [e1, e2] at h
  have ex : d[k]! = x := by
    rw [getElem!_pos d k hk]
    rw [Array.getElem?_toList, Array.getElem?_eq_getElem hk] at hx
    injection hx
  rw [ex] at h
  have hs : k * 8 + j < (flatK Opr.cells 8 d).size := by rw [size_flatK]; exact hkj
  rw [Array.getElem?_toList, Array.getElem?_eq_getElem hs]
  rw [getElem!_pos (flatK Opr.cells 8 d) _ hs] at h
  rw [h]
  have hc : j < x.cells.length := by rw [Opr.len]; exact hj
  rw [getElem!_pos x.cells j hc, List.getElem?_eq_getElem hc]

section
variable {W : World} {B g cap n : Nat} {X M Y : List Opr}
theorem own_holds (h : W.ownsRow B 55 8 (.slice (some ⟨g, 0, none⟩) n cap) n (vO (X ++ (M ++ Y)))) : HoldsK Opr.cells 8 W g (X.length * 8) M.toArray := by
  rcases h.2 with ⟨h0, _⟩ | ⟨g', cap', cur, hv, hB, hb, h1, h2, h3, h4⟩
  · cases h0
  · injection hv with e1 e2 e3
    injection e1 with e1
    injection e1 with e1 _
    subst e1 e3
    intro j hj
    rw [size_flatK] at hj
    have hj' : j < M.length * 8 := by simpa using hj
    have hn := h.1
    rw [vO_len] at hn
    simp only [List.length_append] at hn
    refine ⟨?_, by simp [World.frozen?, hb]⟩
    have hs : j < (flatK Opr.cells 8 M.toArray).size := by rw [size_flatK]; exact hj
    have e : (cur.toList.take (n * 8))[X.length * 8 + j]? = (vO (X ++ (M ++ Y)))[X.length * 8 + j]? := by rw [h4]
    rw [List.getElem?_take_of_lt (by omega), vO_app, vO_app, List.getElem?_append_right (by rw [vO_len]; omega), vO_len, List.getElem?_append_left (by rw [vO_len]; omega)] at e
    rw [show X.length * 8 + j - X.length * 8 = j by omega] at e
    have e2 : (vO M)[j]? = (flatK Opr.cells 8 M.toArray).toList[j]? := by rw [flat_vO]
    rw [e2, Array.getElem?_toList, Array.getElem?_toList, Array.getElem?_eq_getElem hs] at e
    simp only [World.cell?, hb, Option.isSome_none, Bool.false_eq_true, if_false, id]
    rw [e, getElem!_pos (flatK Opr.cells 8 M.toArray) _ hs]
theorem grown_sortK {blk off m : Nat} {d : Array Opr} {os : Array Obj} : W.grownBy (sortWorldK Opr.cells 8 W blk off m d os) (some blk) := by
  refine ⟨rfl, rfl, rfl, by simp [sortWorldK, size_grow, putRowK, putRow, mapBlock, Sort.ahead], fun k hk hne => ?_⟩
  unfold sortWorldK
  rw [heap_grow_old _ _ (by simpa [putRowK, putRow, mapBlock, Sort.ahead] using hk)]
  have : blk ≠ k := fun e => hne (by rw [e])
  simp [putRowK, putRow, mapBlock, Sort.ahead, Array.getElem?_modify, this]
theorem own_sortK {m : Nat} {d : Array Opr} {os : Array Obj} (h : W.ownsRow B 55 8 (.slice (some ⟨g, 0, none⟩) n cap) n (vO (X ++ (M ++ Y)))) (hd : d.size = M.length) :
    (sortWorldK Opr.cells 8 W g (X.length * 8) m d os).ownsRow B 55 8 (.slice (some ⟨g, 0, none⟩) n cap) n (vO (X ++ (d.toList ++ Y))) := by
  have hn := h.1
  rw [vO_len] at hn
  have hnl : (X ++ (M ++ Y)).length = n := by omega
  simp only [List.length_append] at hnl
  refine ⟨by rw [vO_len]; simp only [List.length_append, Array.length_toList (xs := d)]; omega, .inr ?_⟩
  rcases h.2 with ⟨h0, _⟩ | ⟨g', cap', cur, hv, hB, hb, h1, h2, h3, h4⟩
  · cases h0
  · injection hv with e1 e2 e3
    injection e1 with e1
    injection e1 with e1 _
    subst e1 e3
    have hg : g < W.heap.size := (Array.getElem?_eq_some_iff.1 hb).1
    refine ⟨g, cap, putCells id (X.length * 8) (flatK Opr.cells 8 d) cur, rfl, hB, ?_, h1, h2, by simp [putCells, h3], ?_⟩
    · unfold sortWorldK
      rw [heap_grow_old _ _ (by simpa [putRowK, putRow, mapBlock, Sort.ahead] using hg)]
      simp [putRowK, putRow, mapBlock, Sort.ahead, Array.getElem?_modify, hb, onCells]
    · apply List.ext_getElem?
      intro j
      by_cases hj : j < n * 8
      · have hjc : j < cur.size := by rw [h3]; have := Nat.mul_le_mul_right 8 h1; omega
        rw [List.getElem?_take_of_lt hj, Array.getElem?_toList]
        have e : cur[j]? = (vO (X ++ (M ++ Y)))[j]? := by rw [← h4, List.getElem?_take_of_lt hj, Array.getElem?_toList]
        rw [vO_app, vO_app]
        rw [vO_app, vO_app] at e
        have hp : (putCells id (X.length * 8) (flatK Opr.cells 8 d) cur)[j]? = if X.length * 8 ≤ j ∧ j < X.length * 8 + (flatK Opr.cells 8 d).size then some ((flatK Opr.cells 8 d)[j - X.length * 8]!) else cur[j]? := by
          simp only [putCells, Array.getElem?_mapIdx, Array.getElem?_eq_getElem hjc, Option.map_some, id]
          split <;> rfl
        rw [hp, size_flatK]
        by_cases c1 : j < X.length * 8
        · rw [if_neg (by omega), e, List.getElem?_append_left (by rw [vO_len]; omega), List.getElem?_append_left (by rw [vO_len]; omega)]
        · rw [List.getElem?_append_right (by rw [vO_len]; omega), vO_len]
          rw [List.getElem?_append_right (by rw [vO_len]; omega), vO_len] at e
          by_cases c2 : j < X.length * 8 + d.size * 8
          · rw [if_pos (by omega), List.getElem?_append_left (by rw [vO_len, Array.length_toList (xs := d)]; omega), ← flat_vO, Array.getElem?_toList]
            have hs : j - X.length * 8 < (flatK Opr.cells 8 d).size := by rw [size_flatK]; omega
            rw [getElem!_pos (flatK Opr.cells 8 d) _ hs, Array.getElem?_eq_getElem hs]
          · rw [if_neg (by omega), e, List.getElem?_append_right (by rw [vO_len]; omega), List.getElem?_append_right (by rw [vO_len, Array.length_toList (xs := d)]; omega), vO_len, vO_len, Array.length_toList (xs := d), hd]
      · rw [List.getElem?_eq_none (by rw [List.length_take]; omega), List.getElem?_eq_none (by rw [vO_len]; simp only [List.length_append, Array.length_toList (xs := d)]; omega)]
end

theorem vO_one (l : List Opr) : ∀ u ∈ vO l, u.oneCell' = true := by
  intro u hu
  obtain ⟨x, _, hx⟩ := List.mem_flatMap.1 hu
  exact opr_one x u hx
set_option maxHeartbeats 2000000 in
theorem cloneO_any (v : Value) (l : List Opr) (w : World) (hl : RdO w w.heap.size v l) (hlen : l.length ≤ 1048576) :
    Calls Try.prog 38 #[v] w (GivesRow w 55 8 l.length (vO l)) := by
  obtain ⟨i0, hi, hz0, hz1, hz2⟩ := info_parts info_op
  have hl0 := hl
  obtain ⟨A, n, c, rfl, hln, hln', gl⟩ := hl
  obtain ⟨hr, hn⟩ := hl0.reads Opr.len (by omega)
  rw [hn] at hlen
  rcases A with _ | ad
  · have h0 : n = 0 := by
      rcases Nat.eq_zero_or_pos n with h | h
      · exact h
      · obtain ⟨b, off, x, hA, _⟩ := gl 0 h
        cases hA
    subst h0
    have hnil : l = [] := List.eq_nil_of_length_eq_zero hn
    subst hnil
    have hq := fun W => Lib.run_eql_slice_nil (P := Try.prog) W 24 55 none 0 c 0 0 Try.underlying24
    clear gl hl0 hr hln'
    go_enter Try.func38, Try.ntmps38
    go_wp2
    go_ret
    exact ⟨_, rfl, World.ownsRow_nil _ _ _ _, Below.refl _ _⟩
  · have hq := fun W => Lib.run_eql_slice_nil (P := Try.prog) W 24 55 (some ad) n c 0 0 Try.underlying24
    have HR := Lib.hid hr
    have HN := Lib.hid hn
    clear gl hl0 hr hln' hn
    go_enter Try.func38, Try.ntmps38
    go_wp2_with (at_builtin; refine wpList_append_any _ rfl (.tmp 5) (.tmp 6) _ rfl w.heap.size 55 i0 _ 8 64 Try.underlying24 hi hz0 hz1 hz2 rfl (by decide) _ 0 [] rfl (World.ownsRow_lit _ _ _ (Nat.le_refl _) (by unfold maxLen; omega) rfl) w.heap.size (some ad) n c (vO l) rfl (HR.out.alloc (Nat.le_refl _) _) (vO_one l) (by unfold maxLen; omega) (by omega) (by simp) ?_; intro v1 w1 hown hg hat)
    go_ret
    refine ⟨v1, rfl, by rw [HN.out]; simpa using hown, ((Below.refl _ _).alloc (Nat.le_refl _) _).grown hg (by simp) (fun k hk => ?_)⟩
    have hk' : some w.heap.size = some k := hk
    injection hk' with hk'
    omega

/-- A list of different numbers below n is no longer than n. -/
theorem nodup_lt : ∀ (n : Nat) (l : List Nat), l.Nodup → (∀ x ∈ l, x < n) → l.length ≤ n
  | 0, l, _, h => by
    cases l with
    | nil => simp
    | cons x l => exact absurd (h x (by simp)) (by omega)
  | n + 1, l, hd, h => by
    have h1 : (l.filter (fun x => decide (x ≠ n))).length ≤ n := nodup_lt n _ (hd.filter _) (fun x hx => by
      obtain ⟨h2, h3⟩ := List.mem_filter.1 hx
      have := h x h2
      have h4 : x ≠ n := by simpa using h3
      omega)
    have h2 : (l.filter (fun x => !decide (x ≠ n))).length ≤ 1 := by
      have hd2 := hd.filter (fun x => !decide (x ≠ n))
      have hm : ∀ x ∈ l.filter (fun x => !decide (x ≠ n)), x = n := fun x hx => by
        have := (List.mem_filter.1 hx).2
        simpa using this
      generalize l.filter (fun x => !decide (x ≠ n)) = q at hd2 hm
      match q, hd2, hm with
      | [], _, _ => simp
      | [_], _, _ => simp
      | a :: b :: q, hd2, hm =>
        have e1 := hm a (by simp)
        have e2 := hm b (by simp)
        exact absurd (e1.trans e2.symm) ((List.pairwise_cons.1 hd2).1 b (by simp))
    have h3 := len_parts (fun x => decide (x ≠ n)) l
    omega
/-- A needle's number. -/
def ndN (n : Int × Int) : Nat := (n.1.toNat - 1) * 24 + n.2.toNat
theorem ndN_lt {b a : Int} (h : ndB b a = true) : ndN (b, a) < 48 := by
  rw [ndB_iff] at h
  unfold ndN
  simp only
  rcases h.1 with e | e <;> subst e <;> omega
theorem ndN_inj {b a c d : Int} (h : ndB b a = true) (h2 : ndB c d = true) (e : ndN (b, a) = ndN (c, d)) : (b, a) = (c, d) := by
  rw [ndB_iff] at h h2
  unfold ndN at e
  simp only at e
  rcases h.1 with e1 | e1 <;> rcases h2.1 with e2 | e2 <;> subst e1 <;> subst e2 <;> simp <;> omega
theorem sep_len {s : List Opr} (hok : ∀ o ∈ s, okOp o = true ∧ o.k = 4) (hp : s.Pairwise SepO) : s.length ≤ 24 := by
  have hnd : ∀ o ∈ s, ndB o.fb o.fa = true ∧ ndB o.tb o.ta = true ∧ o.fb ≠ o.tb := fun o ho => by
    obtain ⟨h, hk⟩ := hok o ho
    rcases okOp_kinds h with h1 | h1 | h1 | h1 | h1 | h1 | h1
    · omega
    · exact ⟨h1.2.1, h1.2.2.1, h1.2.2.2.1⟩
    all_goals omega
  have hnodup : (s.flatMap (fun o => [ndN o.f, ndN o.t])).Nodup := by
    induction s with
    | nil => simp
    | cons x s ih =>
      obtain ⟨h1, h2⟩ := List.pairwise_cons.1 hp
      rw [List.flatMap_cons]
      have hx := hnd x (by simp)
      refine List.nodup_append.2 ⟨?_, ih (fun o ho => hok o (by simp [ho])) h2 (fun o ho => hnd o (by simp [ho])), ?_⟩
      · simp only [List.nodup_cons, List.mem_singleton, List.not_mem_nil, not_false_eq_true, List.nodup_nil, and_true]
        intro e
        have := ndN_inj hx.1 hx.2.1 e
        injection this with e1 _
        exact hx.2.2 e1
      · intro a ha b hb e
        subst e
        obtain ⟨o, ho, hao⟩ := List.mem_flatMap.1 hb
        have hs := h1 o ho
        have hy := hnd o (by simp [ho])
        simp only [List.mem_cons, List.not_mem_nil, or_false] at ha hao
        rcases ha with rfl | rfl <;> rcases hao with e | e
        · exact hs.1 (ndN_inj hx.1 hy.1 e)
        · exact hs.2.1 (ndN_inj hx.1 hy.2.1 e)
        · exact hs.2.2.1 (ndN_inj hx.2.1 hy.1 e)
        · exact hs.2.2.2 (ndN_inj hx.2.1 hy.2.1 e)
  have hl := nodup_lt 48 _ hnodup (fun x hx => by
    obtain ⟨o, ho, hxo⟩ := List.mem_flatMap.1 hx
    have hy := hnd o ho
    simp only [List.mem_cons, List.not_mem_nil, or_false] at hxo
    rcases hxo with rfl | rfl
    · exact ndN_lt hy.1
    · exact ndN_lt hy.2.1)
  have hlen : (s.flatMap (fun o => [ndN o.f, ndN o.t])).length = s.length * 2 := by
    clear hnodup hl hp hok hnd
    induction s with
    | nil => rfl
    | cons x s ih => rw [List.flatMap_cons, List.length_append, ih, List.length_cons]; simp; omega
  omega

end Go.Proofs.Ytolcgopfbbmjgaa

/-
  The program's ordering of transfers.
-/
namespace Go.Proofs.Ytolcgopfbbmjgaa
set_option linter.unusedVariables false
set_option linter.unusedSimpArgs false
open Go.Sort Go.RowKit

/-- What one round of the ordering does. -/
structure StepI (l : List Opr) (i : Nat) (p : Pas) (X s Y : List Opr) (f n : Nat) : Prop where
  pf : p.f = (f : Int)
  pn : p.n = (n : Int)
  out : srtI l i = X ++ (s ++ Y)
  xl : X.length = f
  sl : s.length = n
  n1 : 1 ≤ n
  le : f + n ≤ l.length
  next : srtI l (i + 1) = X ++ (nrmP p s ++ Y)
  ok : ∀ o ∈ s, okOp o = true
  k4 : p.k = 2 → ∀ o ∈ s, o.k = 4
  rk : -3 ≤ p.r ∧ p.r ≤ 3
theorem srtI_len {n : Int} {l : List Opr} (h : opsB n l = true) {i : Nat} (hi : i ≤ (psL l).length) : (srtI l i).length = l.length := by
  obtain ⟨e, _, hl, _⟩ := psL_lay (ops_g h)
  exact (srtI_st hl (ops_ok h) i hi).len
theorem step_i {n0 : Int} {l : List Opr} (h : opsB n0 l = true) {i : Nat} {p : Pas} (hp : (psL l)[i]? = some p) : ∃ X s Y f n, StepI l i p X s Y f n := by
  obtain ⟨e, _, hl, _⟩ := psL_lay (ops_g h)
  have hi : i < (psL l).length := (List.getElem?_eq_some_iff.1 hp).1
  have hs := srtI_st hl (ops_ok h) i (by omega)
  obtain ⟨a, f, n, _, _, _, _, hb, _⟩ := hl.at hp
  have hfl : f + n ≤ (srtI l i).length := by rw [hs.len]; exact hb.le
  have e1 : spnS (srtI l i) p = ((srtI l i).drop f).take n := spnS_nat hb.pf hb.pn
  have hseg := hs.seg i p hp
  rw [if_neg (by omega)] at hseg
  refine ⟨(srtI l i).take f, spnS (srtI l i) p, (srtI l i).drop (f + n), f, n, hb.pf, hb.pn, ?_, ?_, ?_, hb.n1, hb.le, ?_, ?_, ?_, hb.rk⟩
  · have := repl_self (l := srtI l i) hfl
    rw [← e1] at this
    exact this.symm
  · rw [List.length_take]; omega
  · rw [e1, List.length_take, List.length_drop]; omega
  · rw [srtI_next hp]
    unfold srtOne replS
    rw [hb.pf, hb.pn, Int.toNat_natCast, Int.toNat_natCast]
  · intro o ho
    rw [e1] at ho
    exact ops_ok h o (hs.perm.mem_iff.1 (List.mem_of_mem_drop (List.mem_of_mem_take ho)))
  · intro hk o ho
    rw [hseg, spnS_nat hb.pf hb.pn] at ho
    obtain ⟨j, hj, e⟩ := List.getElem_of_mem ho
    have hjn : j < n := by rw [List.length_take, List.length_drop] at hj; omega
    have h1 : l[f + j]? = some o := by rw [← seg_get l f n j hjn, List.getElem?_eq_getElem hj, e]
    exact kind4 (ops_ok h o (List.mem_of_getElem? h1)) (by rw [hb.kk j o hjn h1]; exact hk)
theorem stb_congr {α : Type} {key key' : α → Int} {s q : List α} (h : ∀ x ∈ s, key x = key' x) (hs : Stb key s q) : Stb key' s q := by
  have hm : ∀ x ∈ q, x ∈ s := fun x hx => hs.2.mem hx
  refine ⟨?_, fun v => ?_⟩
  · refine List.Pairwise.imp_of_mem ?_ hs.1
    intro a b ha hb hab
    rw [← h a (hm a ha), ← h b (hm b hb)]; exact hab
  · have h1 := hs.2 v
    rw [← List.filter_congr (p := fun x => key x == v) (fun x hx => by rw [h x (hm x hx)]), ← List.filter_congr (l := s) (p := fun x => key x == v) (fun x hx => by rw [h x hx])]
    exact h1
theorem keyP_W {o : Opr} {r : Int} (h : okOp o = true) (hk : o.k = 4) (hr : -3 ≤ r ∧ r ≤ 3) : plcW o.fb o.fa r = keyP r o := by
  have hz : psK o.k ≠ 0 := by rw [hk]; decide
  obtain ⟨_, _, h3, _⟩ := okOp_rng h
  have := h3 hz
  unfold plcW keyP plc
  split
  · have e := IntWalk.i64_in (o.fa + r) (by omega)
    rw [IntKind.wrap_i64] at e
    first | exact e | (unfold wrap64; omega)
  · rfl
theorem StepI.sorted {l : List Opr} {i : Nat} {p : Pas} {X s Y : List Opr} {f n : Nat} (h : StepI l i p X s Y f n) (hk : p.k = 2) (hp : s.Pairwise SepO) {q : List Opr} (hq : Stb (fun o => plcW o.fb o.fa p.r) s q) : srtI l (i + 1) = X ++ (q ++ Y) := by
  have h1 : Stb (keyP p.r) s q := stb_congr (fun o ho => keyP_W (h.ok o ho) (h.k4 hk o ho) h.rk) hq
  have h2 : q = nrmP p s := by
    unfold nrmP
    rw [if_pos ⟨hk, hp⟩]
    exact h1.uniq (isK_stb s)
  rw [h.next, h2]
theorem StepI.same {l : List Opr} {i : Nat} {p : Pas} {X s Y : List Opr} {f n : Nat} (h : StepI l i p X s Y f n) (hn : ¬ (p.k = 2 ∧ s.Pairwise SepO)) : srtI l (i + 1) = srtI l i := by
  have h2 : nrmP p s = s := by unfold nrmP; rw [if_neg hn]
  rw [h.next, h2, h.out]
theorem StepI.few {l : List Opr} {i : Nat} {p : Pas} {X s Y : List Opr} {f n : Nat} (h : StepI l i p X s Y f n) (hk : p.k = 2) (hp : s.Pairwise SepO) : n ≤ 24 := by
  have := sep_len (fun o ho => ⟨h.ok o ho, h.k4 hk o ho⟩) hp
  rw [h.sl] at this
  exact this
/-- A part of an own row reads. -/
theorem own_part {W : World} {B g cap n : Nat} {X M Y : List Opr} (h : W.ownsRow B 55 8 (.slice (some ⟨g, 0, none⟩) n cap) n (vO (X ++ (M ++ Y)))) (c : Nat) (hm : M.length ≤ 9223372036854775807) : RdO W W.heap.size (.slice (some ⟨g, X.length * 8, none⟩) M.length c) M := by
  have hg : g < W.heap.size := (h.lt g rfl).2
  have hh := own_holds h
  refine ⟨_, _, c, rfl, hm, rfl, fun k hk => ?_⟩
  refine ⟨g, X.length * 8, M[k], rfl, hg, List.getElem?_eq_getElem hk, fun j u hu => ?_⟩
  have := HoldsK.cells hh Opr.len (i := k) (by simpa using hk) j u (by rw [getElem!_pos M.toArray k (by simpa using hk)]; simpa using hu)
  rwa [Addr.add_lit] at this

set_option maxHeartbeats 8000000 in
set_option maxRecDepth 100000 in
theorem sortT_any (v : Value) (l : List Opr) (w : World) (hl : RdO w w.heap.size v l) (hok : opsB 24 l = true) : Calls Try.prog 24 #[v] w (GivesOw w 55 8 (srtT l).length (vO (srtT l))) := by
  have hlen := ops_len hok
  have HC := Lib.hid (cloneO_any v l w hl (by omega))
  have HPS := Lib.hid (fun (w1 : World) (hb : Below w.heap.size w w1) => passes_any 24 v l w1 ((hl.below hb).more hb.size) hok)
  have HSL := Lib.hid (srt_len hok)
  have HSI := Lib.hid (fun (i : Nat) (p : Pas) (hp : (psL l)[i]? = some p) => step_i hok hp)
  have HI := Lib.hid (fun i (hi : i ≤ (psL l).length) => srtI_len hok (i := i) hi)
  have HE := Lib.hid (srtI_end l)
  have H0 := Lib.hid (show srtI l 0 = l from rfl)
  obtain ⟨A, N, c, rfl, hln, hl', gl⟩ := hl
  clear hl' gl hok
  generalize hP : psL l = P at *
  go_enter Try.func24, Try.ntmps24
  go_wp2_with fail
  refine HC.out.mono ?_
  rintro e w1 ⟨v1, rfl, ho1, hb1⟩
  have HB1 := Lib.hid hb1
  have HO1 := Lib.hid ho1
  clear hb1 ho1
  go_wp2_with (go_at_call 28; refine (HPS.out _ HB1.out).mono ?_; rintro e w2 ⟨v2, rfl, ho2, hb2⟩; have HP2 := Lib.hid ho2; obtain ⟨A2, c2, rfl, hm2, hc2⟩ := ho2.cells)
  have HO2 := Lib.hid (own_below HO1.out hb2)
  have HB2 := Lib.hid (HB1.out.trans (hb2.mono HB1.out.size))
  have hs12 := hb2.size
  have hs01 := HB1.out.size
  have HV1 := Lib.hid (HO1.out.lt)
  clear hb2 hc2
  go_loopw [12] (fun i wr => ∃ k : Nat, k ≤ P.length ∧ i = .int .i64 k ∧ Hid (wr.ownsRow w.heap.size 55 8 v1 l.length (vO (srtI l k))) ∧ Hid (OwC wr w1.heap.size w2.heap.size 50 6 (.slice A2 P.length c2) P.length (vPs P)) ∧ Hid (Below w.heap.size w wr) ∧ w2.heap.size ≤ wr.heap.size) (fun i _ => P.length - (intOf i).toNat)
  case atStart => exact ⟨0, Nat.zero_le _, rfl, by rw [H0.out]; exact HO2.out, HP2.out, HB2.out, Nat.le_refl _⟩
  case round =>
    rename_i wr
    obtain ⟨k, hk, rfl, HO, HP, HB, hsz⟩ := hrel
    by_cases hlt : k < P.length
    · obtain ⟨p, hpk⟩ : ∃ p, P[k]? = some p := ⟨_, List.getElem?_eq_getElem hlt⟩
      obtain ⟨X, s, Y, f, n, HST⟩ := HSI.out k p hpk
      have HST := Lib.hid HST
      have hll := HST.out.le
      have hn1 := HST.out.n1
      obtain ⟨g, cap, rfl, hgB, hgw, hcap, -⟩ := row_slice HO.out (by omega)
      have hg1 : g < w1.heap.size := (HV1.out g rfl).2
      obtain ⟨A3, c3, hv3, -, hcc⟩ := HP.out.cells
      obtain ⟨gp, hA, hgp1, hgp2, -, hcx⟩ := hcc k hlt
      injection hv3 with e1 e2 e3
      subst e1 e3
      subst hA
      have hcp : CellsAt wr gp (k * 6) p.cells := fun j u hu => by
        have hj : j < 6 := (List.getElem?_eq_some_iff.1 hu).1
        exact hcx _ u (by omega) (by rw [vS_get Pas.len P k p hpk j hj]; exact hu)
      have hpf := HST.out.pf
      have hpn := HST.out.pn
      obtain ⟨pk, pd, pc, pr, pf, pn⟩ := p
      simp only at hpf hpn
      subst hpf hpn
      obtain ⟨c0, c1, c2', c3', c4, c5⟩ := hcp.six
      have HPK := Lib.hid hpk
      clear hpk hcx hcc hcp
      obtain ⟨en, hen⟩ : ∃ en : Nat, en = f + n := ⟨_, rfl⟩
      have hfn : (f : Int) + (n : Int) = (en : Int) := by omega
      have hen4 : en ≤ 1500 := by omega
      have hcapn : (en : Int) ≤ (cap : Int) := by omega
      have hfe : (f : Int) ≤ (en : Int) := by omega
      have hfne : ¬ cap = f := by omega
      have HEN := Lib.hid hen
      clear hen hll
      have hef : en - f = n := by have := HEN.out; omega
      have HX := Lib.hid HST.out.xl
      have HSLEN := Lib.hid HST.out.sl
      obtain ⟨W0, hW0⟩ : ∃ W0, W0 = wr.alloc (.cells #[.int .i64 pk, .int .i64 pd, .int .i64 pc, .int .i64 pr, .int .i64 (f : Int), .int .i64 (n : Int)] 50) := ⟨_, rfl⟩
      have HO0 := Lib.hid (show W0.ownsRow w.heap.size 55 8 (.slice (some ⟨g, 0, none⟩) l.length cap) l.length (vO (X ++ (s ++ Y))) by rw [hW0, ← HST.out.out]; exact HO.out.alloc _)
      have HP0 := Lib.hid (show OwC W0 w1.heap.size w2.heap.size 50 6 (.slice (some ⟨gp, 0, none⟩) P.length c2) P.length (vPs P) by rw [hW0]; exact HP.out.below ((alloc_below _ _).mono hsz))
      have HB0 := Lib.hid (show Below w.heap.size w W0 by rw [hW0]; exact HB.out.alloc HB.out.size _)
      have hs0 : W0.heap.size = wr.heap.size + 1 := by rw [hW0]; simp
      have HBX := Lib.hid (show W0.cell? ⟨wr.heap.size, 3, none⟩ = some (.int .i64 pr) by
        have := box_at wr 50 [.int .i64 pk, .int .i64 pd, .int .i64 pc, .int .i64 pr, .int .i64 (f : Int), .int .i64 (n : Int)] 3 _ rfl
        rw [hW0]; exact this)
      have HW0 := Lib.hid hW0
      by_cases hk2 : pk = 2
      · subst hk2
        have hA := areSep_any _ s W0 (own_part HO0.out (cap - f) (by have := HSLEN.out; omega))
        rw [HX.out, HSLEN.out] at hA
        have HAS := Lib.hid hA
        clear hA
        by_cases hsep : s.Pairwise SepO
        · have HQ := Lib.hid (HST.out.few rfl hsep)
          rw [decide_eq_true hsep] at HAS
          have HSO := Lib.hid (fun q => HST.out.sorted (q := q) rfl hsep)
          clear hsep hs0
          rw [hW0] at HAS
          clear hW0
          go_wp2_with (first | (go_at_call 39; refine HAS.out.mono ?_; rintro e w3 ⟨rfl, hb3⟩))
          have hb3' : Below W0.heap.size W0 w3 := by rw [HW0.out]; exact hb3
          have HO3 := Lib.hid (own_below HO0.out hb3')
          have HB3 := Lib.hid (HB0.out.trans (hb3'.mono HB0.out.size))
          have hgs : g < W0.heap.size := (HO0.out.lt g rfl).2
          have hsW : W0.heap.size = wr.heap.size + 1 := by rw [HW0.out]; simp
          have HP3 := Lib.hid (HP0.out.below (hb3'.mono (show w2.heap.size ≤ W0.heap.size by omega)))
          have hbx3 : w3.cell? ⟨wr.heap.size, 3, none⟩ = some (.int .i64 pr) := by rw [hb3'.cell (p := ⟨wr.heap.size, 3, none⟩) (by rw [hsW]; simp)]; exact HBX.out
          have hs3 := hb3'.size
          have HG := Lib.hid (show g < w1.heap.size ∧ W0.heap.size ≤ w3.heap.size ∧ w2.heap.size ≤ w3.heap.size from ⟨hg1, hs3, by omega⟩)
          have hSS := sortStable_any (cap := cap - f) (d0 := s.toArray) ⟨by rw [← HX.out]; exact own_holds HO3.out, (HO3.out.lt g rfl).2, by have := HSLEN.out; have := HQ.out; simp; omega⟩ (blk := g) (off := f * 8) hbx3 (by omega) s rfl n (by simpa using HSLEN.out.symm) HQ.out
          have HSS := Lib.hid hSS
          clear hb3 hb3' hbx3 hSS hgs hsW hs3 HAS
          go_wp2_with (first | (go_at_call 40; refine HSS.out.mono ?_; rintro e w4 ⟨rfl, m4, d4, o4, hw4, hd4, hst4⟩))
          have HO4 := Lib.hid (show w4.ownsRow w.heap.size 55 8 (.slice (some ⟨g, 0, none⟩) l.length cap) l.length (vO (srtI l (k + 1))) by
            rw [HSO.out _ hst4, hw4, ← HX.out]
            exact own_sortK HO3.out (by simpa using hd4))
          have hgr : w3.grownBy w4 (some g) := by rw [hw4]; exact grown_sortK
          have HP4 := Lib.hid (HP3.out.keep (w' := w4) (fun q h1 h2 => hgr.block q (by have := HG.out; omega) (fun e => by injection e with e; have := HG.out; omega)))
          have HB4 := Lib.hid (HB3.out.grown hgr HB3.out.size (fun q hq => by injection hq with hq; omega))
          have hs4 : w2.heap.size ≤ w4.heap.size := by have := hgr.size; have := HG.out; omega
          rw [hw4] at HO4 HP4 HB4 hs4
          clear hw4 hd4 hst4 hgr
          go_wp2
          exact ⟨⟨k + 1, by omega, by go_num, HO4.out, HP4.out, HB4.out, hs4⟩, by simp [intOf]; omega⟩
        · have HSM := Lib.hid (HST.out.same (fun h => hsep h.2))
          rw [decide_eq_false hsep] at HAS
          clear hsep hs0
          rw [hW0] at HAS
          clear hW0
          go_wp2_with (first | (go_at_call 39; refine HAS.out.mono ?_; rintro e w3 ⟨rfl, hb3⟩))
          have hb3' : Below W0.heap.size W0 w3 := by rw [HW0.out]; exact hb3
          have hsW : W0.heap.size = wr.heap.size + 1 := by rw [HW0.out]; simp
          have hs3 := hb3'.size
          refine ⟨⟨k + 1, by omega, by go_num, ?_, HP0.out.below (hb3'.mono (show w2.heap.size ≤ W0.heap.size by omega)), HB0.out.trans (hb3'.mono HB0.out.size), by omega⟩, by simp [intOf]; omega⟩
          rw [HSM.out, HST.out.out]
          exact own_below HO0.out hb3'
      · have HSM := Lib.hid (HST.out.same (fun h => hk2 h.1))
        have hk2' : (pk == 2) = false := by simpa using hk2
        clear hk2 hs0 hW0
        go_wp2_with fail
        have hW0 := HW0.out
        have hsW : W0.heap.size = wr.heap.size + 1 := by rw [hW0]; simp
        rw [hW0] at HO0 HP0 HB0 hsW
        refine ⟨⟨k + 1, by omega, by go_num, ?_, HP0.out, HB0.out, by omega⟩, by simp [intOf]; omega⟩
        rw [HSM.out, HST.out.out]
        exact HO0.out
    · have hkP : k = P.length := by omega
      subst hkP
      have HL := Lib.hid (show (srtT l).length = l.length from HSL.out)
      go_wp2
      go_ret
      exact ⟨_, rfl, by rw [HL.out, ← HE.out]; exact OwC.of_own HO.out, HB.out⟩

end Go.Proofs.Ytolcgopfbbmjgaa

/-
  The reference's ordering of transfers.
-/
namespace Go.Proofs.Ytolcgopfbbmjgaa
set_option linter.unusedVariables false
set_option linter.unusedSimpArgs false
open Go.Sort Go.Shelf Go.RowKit Go.Lib

theorem sw_swap {w : World} {blk off m : Nat} {d : Array Opr} {os : Array Obj} (hblk : blk < w.heap.size) {i j : Nat} (hi : i < d.size) (hj : j < d.size) :
    ((SW w blk off m d os).setCells blk (off + i * 8) d[j]!.cells).setCells blk (off + j * 8) d[i]!.cells = SW w blk off m (swp d i j) os := by
  have h := swap_worldK Opr.cells 8 Opr.len w m 0 blk off d i j hi hj
  rw [show ∀ X : World, X.drewN 0 = X from fun _ => rfl, Nat.add_zero] at h
  show (World.setCells (World.setCells (grow (putRowK Opr.cells 8 (Sort.ahead w m) blk off d) os) blk (off + i * 8) d[j]!.cells) blk (off + j * 8) d[i]!.cells) = grow (putRowK Opr.cells 8 (Sort.ahead w m) blk off (swp d i j)) os
  have hb : blk < (putRowK Opr.cells 8 (Sort.ahead w m) blk off d).heap.size := by rw [size_putRowK]; exact hblk
  generalize putRowK Opr.cells 8 (Sort.ahead w m) blk off d = W at h hb ⊢
  rw [← h]
  generalize d[j]!.cells = u1
  generalize d[i]!.cells = u2
  rw [setCells_grow os blk u1 _ W hb, setCells_grow os blk u2 _ _ (by rw [size_setCells]; exact hb)]
theorem sw_box {w : World} {blk off m : Nat} {d : Array Opr} {os : Array Obj} (o : Obj) : (SW w blk off m d os).alloc o = SW w blk off m d (os ++ #[o]) := by
  rw [alloc_eq_grow]
  exact sortWorldK_grown_c Opr.cells 8 w blk off m 0 d os #[o]
/-- An element that has reached its place among sorted ones. -/
theorem insK_at {α : Type} {key : α → Int} {x : α} : ∀ {S : List α} {j : Nat}, Srt key S → j ≤ S.length → (∀ y ∈ S.drop j, key x < key y) → (j = 0 ∨ ∃ y, S[j - 1]? = some y ∧ key y ≤ key x) → insK key x S = S.take j ++ x :: S.drop j
  | [], j, _, hj, _, _ => by
    have : j = 0 := by simpa using hj
    subst this
    rfl
  | y :: t, 0, _, _, h, _ => by
    rw [insK, if_pos (h y (by simp))]
    rfl
  | y :: t, j + 1, hs, hj, h, hl => by
    have h2 := List.pairwise_cons.1 hs
    have hle : ¬ key x < key y := by
      rcases hl with h3 | ⟨z, hz, hzx⟩
      · omega
      · rw [Nat.add_sub_cancel] at hz
        cases j with
        | zero => simp at hz; subst hz; omega
        | succ j =>
          have := h2.1 z (List.mem_of_getElem? (i := j) (by simpa using hz))
          omega
    rw [insK, if_neg hle, insK_at (S := t) (j := j) h2.2 (by simpa using hj) (by simpa using h) ?_]
    · rfl
    · cases j with
      | zero => exact .inl rfl
      | succ j =>
        rcases hl with h3 | ⟨z, hz, hzx⟩
        · omega
        · exact .inr ⟨z, by simpa using hz, hzx⟩
theorem isK_next {α : Type} {key : α → Int} {s : List α} {i : Nat} {x : α} (h : s[i]? = some x) : isK key (s.take (i + 1)) = insK key x (isK key (s.take i)) := by
  unfold isK
  rw [List.take_add_one, h, List.foldl_append]
  rfl

theorem l07PlaceG_any (b a r : Int) (h0 : -100 ≤ a) (h1 : a ≤ 100) (h2 : -100 ≤ r) (h3 : r ≤ 100) (w : World) : Calls Try.prog 21 #[.agg #[.int .i64 b, .int .i64 a], .int .i64 r] w fun e w' => e = .returned (.int .i64 (plc b a r)) ∧ ∃ q os, w' = grow (w.drewN q) os := by
  unfold plc
  by_cases hb : b = 2
  · subst hb
    go_enter Try.func21, Try.ntmps21
    go_wp2
    go_ret
    exact ⟨ret_int (by simp), 0, _, by rw [alloc_eq_grow]; rfl⟩
  · have h2 : (b == 2) = false := by simpa using hb
    rw [if_neg hb]
    clear hb
    go_enter Try.func21, Try.ntmps21
    go_wp2
    go_ret
    exact ⟨rfl, 0, _, by rw [alloc_eq_grow]; rfl⟩

def srtC (l : List Opr) : Int := if opsB 24 l = true then 0 else 1
def srtR (l : List Opr) : List Opr := if opsB 24 l = true then srtT l else []
theorem srtR_len (l : List Opr) : (srtR l).length ≤ 1048576 := by
  unfold srtR
  split
  · rename_i h
    have := ops_len h
    rw [srt_len h]; omega
  · simp
theorem srt_bad {w w' : World} {l : List Opr} (h : opsB 24 l = false) (hb : Below w.heap.size w w') : GivesC w 55 8 (srtR l).length (vO (srtR l)) (srtC l) (.returned (.tuple #[.slice none 0 0, .int .i64 1])) w' := by
  rw [show srtR l = [] by simp [srtR, h], show srtC l = 1 by simp [srtC, h]]
  exact ⟨_, rfl, OwC.nil, hb⟩
theorem srt_yes {w w' : World} {l : List Opr} {v : Value} (h : opsB 24 l = true) (ho : OwC w' w.heap.size w'.heap.size 55 8 v (srtT l).length (vO (srtT l))) (hb : Below w.heap.size w w') : GivesC w 55 8 (srtR l).length (vO (srtR l)) (srtC l) (.returned (.tuple #[v, .int .i64 0])) w' := by
  rw [show srtR l = srtT l by simp [srtR, h], show srtC l = 0 by simp [srtC, h]]
  exact ⟨_, rfl, ho, hb⟩

set_option maxHeartbeats 4000000 in
set_option maxRecDepth 100000 in
theorem implSrt_any (v : Value) (l : List Opr) (w : World) (hl : RdO w w.heap.size v l) :
    Calls Try.prog 8 #[v] w (GivesC w 55 8 (srtR l).length (vO (srtR l)) (srtC l)) := by
  have HL := Lib.hid hl
  have HV := Lib.hid (areOps_any v l w hl)
  obtain ⟨A, N, c, rfl, hln, hl', gl⟩ := hl
  clear hl' gl
  cases ho : opsB 24 l
  · have HN := Lib.hid (fun w' hb => srt_bad (w := w) (w' := w') ho hb)
    rw [ho] at HV
    clear ho
    go_enter Try.func8, Try.ntmps8
    go_wp2_with fail
    refine HV.out.mono ?_
    rintro e w1 ⟨rfl, hb⟩
    have HB := Lib.hid hb
    clear hb
    go_wp2
    go_ret2
    exact HN.out _ HB.out
  · rw [ho] at HV
    have HQ := Lib.hid (fun w1 (hb : Below w.heap.size w w1) => sortT_any _ l w1 ((HL.out.below hb).more hb.size) ho)
    have HY := Lib.hid (fun w' v hw hb => srt_yes (w := w) (w' := w') (v := v) ho hw hb)
    clear ho
    go_enter Try.func8, Try.ntmps8
    go_wp2_with fail
    refine HV.out.mono ?_
    rintro e w1 ⟨rfl, hb⟩
    have HB := Lib.hid hb
    clear hb
    go_wp2_with fail
    refine (HQ.out _ HB.out).mono ?_
    rintro e w2 ⟨v2, rfl, hw, hb⟩
    obtain ⟨A2, c2, rfl, -⟩ := hw.cells
    have HW := Lib.hid (hw.wide HB.out.size (Nat.le_refl _))
    have HB2 := Lib.hid (HB.out.trans (hb.mono HB.out.size))
    clear hb hw
    go_wp2
    go_ret2
    exact HY.out _ _ HW.out HB2.out

end Go.Proofs.Ytolcgopfbbmjgaa
