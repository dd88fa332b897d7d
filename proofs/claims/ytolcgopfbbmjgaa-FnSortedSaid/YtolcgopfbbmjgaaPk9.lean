/-
  Texts joined: Stab2, Stab3, Sw1, Sw2, Sw3, Sw4.
-/
import Derived.Test.YtolcgopfbbmjgaaPk8
import Derived.Sort.LotA
import Derived.Test.YtolcgopfbbmjgaaOp
import Derived.Test.YtolcgopfbbmjgaaBx0
import Derived.Shelf.SlSortCmp.InsertionK
import Derived.Shelf.SlSortFuncK.ComposeK
import Derived.RegionTactic
import Derived.BigQuiet
/-
  Stable sorting (plain): the library's insertion sort keeps equals in their order; swaps of blocks.
-/
namespace Go.Proofs.Ytolcgopfbbmjgaa
set_option linter.unusedVariables false
set_option linter.unusedSimpArgs false
open Go.Sort

section
variable {α : Type} [Inhabited α] {key : α → Int}
theorem arr_ext {d e : Array α} (hs : d.size = e.size) (h : ∀ i : Nat, i < d.size → d[i]! = e[i]!) : d = e := by
  apply Array.ext hs
  intro i h1 h2
  have := h i h1
  rw [getElem!_pos d i h1, getElem!_pos e i h2] at this
  exact this
theorem swp_list {d : Array α} {X M Y : List α} {x y : α} {i j : Nat} (h : d.toList = X ++ x :: (M ++ y :: Y)) (hi : X.length = i) (hj : i + 1 + M.length = j) : (swp d i j).toList = X ++ y :: (M ++ x :: Y) := by
  have hd : d = (X ++ x :: (M ++ y :: Y)).toArray := by rw [← h]
  subst hd
  subst hi
  subst hj
  have e1 : ((X ++ x :: (M ++ y :: Y)).toArray)[X.length]! = x := by simp
  have e2 : ((X ++ x :: (M ++ y :: Y)).toArray)[X.length + 1 + M.length]! = y := by
    rw [getElem!_pos _ _ (by simp; omega)]
    simp only [List.getElem_toArray]
    rw [List.getElem_append_right (by omega)]
    simp only [show X.length + 1 + M.length - X.length = M.length + 1 by omega, List.getElem_cons_succ]
    rw [List.getElem_append_right (by omega)]
    simp
  unfold swp
  rw [e1, e2]
  simp only [List.setIfInBounds_toArray]
  rw [List.set_append_right _ _ (by omega)]
  simp only [Nat.sub_self, List.set_cons_zero]
  rw [List.set_append_right _ _ (by omega), show X.length + 1 + M.length - X.length = M.length + 1 by omega, List.set_cons_succ, List.set_append_right _ _ (by omega)]
  simp
/-- Two neighbours of different keys may change places. -/
theorem fil_adj {d : Array α} {j : Nat} (hj : j + 1 < d.size) (h : key d[j + 1]! ≠ key d[j]!) : Fil key d.toList (swp d (j + 1) j).toList := by
  have e0 : d.toList = d.toList.take j ++ d[j]! :: ([] ++ d[j + 1]! :: d.toList.drop (j + 2)) := by
    conv => lhs; rw [← List.take_append_drop j d.toList]
    congr 1
    rw [List.drop_eq_getElem_cons (by simp; omega), List.drop_eq_getElem_cons (by simp; omega)]
    rw [getElem!_pos d j (by omega), getElem!_pos d (j + 1) hj]
    simp
  have hsw : swp d (j + 1) j = swp d j (j + 1) := by
    unfold swp
    rw [Array.setIfInBounds_comm _ _ (by omega)]
  have hsl := swp_list (i := j) (j := j + 1) e0 (by simp; omega) (by simp)
  rw [hsw, hsl]
  conv => enter [2]; rw [e0]
  refine (Fil.refl _).app ?_
  have := (Fil.swap (key := key) (u := [d[j]!]) (w := [d[j + 1]!]) (by intro a ha b hb; simp at ha hb; subst ha hb; exact fun e => h e.symm)).app (Fil.refl (key := key) (d.toList.drop (j + 2)))
  simpa using this
theorem insInner_fil (lt : α → α → Bool) (hlt : ∀ a b, lt a b = decide (key a < key b)) (a : Nat) : ∀ (j : Nat) (d : Array α), j < d.size → Fil key d.toList (insInner lt a j d).toList := by
  intro j
  induction j with
  | zero => intro d _; exact Fil.refl _
  | succ j ih =>
    intro d hj
    rw [insInner]
    split
    · rename_i h
      simp only [Bool.and_eq_true, decide_eq_true_eq] at h
      have h2 := h.2
      rw [hlt] at h2
      simp at h2
      exact (fil_adj hj (by omega)).trans (ih _ (by rw [swp_size]; omega))
    · exact Fil.refl _
theorem insInner_size (lt : α → α → Bool) (a : Nat) : ∀ (j : Nat) (d : Array α), (insInner lt a j d).size = d.size := by
  intro j
  induction j with
  | zero => intro d; rfl
  | succ j ih =>
    intro d
    rw [insInner]
    split
    · rw [ih, swp_size]
    · rfl
theorem insOuter_fil (lt : α → α → Bool) (hlt : ∀ a b, lt a b = decide (key a < key b)) (a b : Nat) : ∀ (n i : Nat) (d : Array α), b - i = n → b ≤ d.size → Fil key d.toList (insOuter lt a b i d).toList := by
  intro n
  induction n with
  | zero => intro i d hn hb; rw [insOuter, if_neg (by omega)]; exact Fil.refl _
  | succ n ih =>
    intro i d hn hb
    rw [insOuter, if_pos (by omega)]
    exact (insInner_fil lt hlt a i d (by omega)).trans (ih (i + 1) _ (by omega) (by rw [insInner_size]; exact hb))
omit [Inhabited α] in
theorem swo_key (lt : α → α → Bool) (hlt : ∀ a b, lt a b = decide (key a < key b)) : SWO lt :=
  ⟨fun x => by rw [hlt]; simp, fun x y z h1 h2 => by rw [hlt] at *; simp at *; omega, fun x y z h1 h2 => by rw [hlt] at *; simp at *; omega⟩
/-- The library's insertion sort over a part of a row. -/
theorem ins_stb (lt : α → α → Bool) (hlt : ∀ a b, lt a b = decide (key a < key b)) {d : Array α} {X M Y : List α} (h : d.toList = X ++ (M ++ Y)) :
    ∃ S, (insertionSort lt d X.length (X.length + M.length)).toList = X ++ (S ++ Y) ∧ Stb key M S ∧ S.length = M.length := by
  have hsz : d.size = X.length + M.length + Y.length := by
    rw [← Array.length_toList, h]; simp; omega
  obtain ⟨⟨p1, p2, p3⟩, hs⟩ := insertionSort_holds (lt := lt) (swo_key lt hlt) d X.length (X.length + M.length) (by omega) (by omega)
  have hf : Fil key d.toList (insertionSort lt d X.length (X.length + M.length)).toList := insOuter_fil lt hlt _ _ _ _ d rfl (by omega)
  generalize insertionSort lt d X.length (X.length + M.length) = e at *
  have ha : ∀ i, d[i]? = (X ++ (M ++ Y))[i]? := fun i => by rw [← h, Array.getElem?_toList]
  have hg : ∀ i, i < X.length ∨ X.length + M.length ≤ i → e.toList[i]? = (X ++ (M ++ Y))[i]? := by
    intro i hi
    have := p2 i hi
    by_cases hlt' : i < d.size
    · rw [getElem!_pos d i hlt', getElem!_pos e i (by omega)] at this
      rw [← ha i, Array.getElem?_toList, Array.getElem?_eq_getElem (by omega : i < e.size), Array.getElem?_eq_getElem hlt', this]
    · rw [← ha i, Array.getElem?_toList, Array.getElem?_eq_none (by omega), Array.getElem?_eq_none (by omega)]
  have hel : e.toList.length = X.length + M.length + Y.length := by simp; omega
  have e1 : e.toList = X ++ ((e.toList.drop X.length).take M.length ++ Y) := by
    apply List.ext_getElem?
    intro i
    by_cases h1 : i < X.length
    · rw [hg i (.inl h1), List.getElem?_append_left h1, List.getElem?_append_left h1]
    · by_cases h2 : i < X.length + M.length
      · rw [List.getElem?_append_right (by omega), List.getElem?_append_left (by simp; omega), List.getElem?_take, if_pos (by omega), List.getElem?_drop]
        congr 1; omega
      · rw [hg i (.inr (by omega)), List.getElem?_append_right (by omega), List.getElem?_append_right (by omega), List.getElem?_append_right (by omega), List.getElem?_append_right (by simp; omega)]
        congr 1
        simp
        omega
  refine ⟨(e.toList.drop X.length).take M.length, e1, ⟨?_, ?_⟩, by simp; omega⟩
  · refine List.pairwise_iff_getElem.2 ?_
    intro i j h1 h2 hij
    simp at h1 h2
    have := hs (X.length + i) (X.length + j) (by omega) (by omega) (by omega)
    rw [hlt] at this
    rw [getElem!_pos e _ (by omega), getElem!_pos e _ (by omega)] at this
    simp at this
    simp
    omega
  · intro v
    have := hf v
    rw [h, e1] at this
    simp only [List.filter_append] at this
    have h2 := List.append_cancel_left this
    exact List.append_cancel_right h2
end

end Go.Proofs.Ytolcgopfbbmjgaa

/-
  Stable sorting (plain): blocks that change places, one element that goes through a block.
-/
namespace Go.Proofs.Ytolcgopfbbmjgaa
set_option linter.unusedVariables false
set_option linter.unusedSimpArgs false
open Go.Sort

section
variable {α : Type} [Inhabited α] {key : α → Int}
/-- One round of swapRange. -/
theorem swpR_step {d : Array α} {X U M V Y : List α} {i : Nat} (h : d.toList = X ++ (V.take i ++ (U.drop i ++ (M ++ (U.take i ++ (V.drop i ++ Y)))))) (hi : i < U.length) (hv : V.length = U.length) :
    (swp d (X.length + i) (X.length + U.length + M.length + i)).toList = X ++ (V.take (i + 1) ++ (U.drop (i + 1) ++ (M ++ (U.take (i + 1) ++ (V.drop (i + 1) ++ Y))))) := by
  have e1 : U.drop i = U[i] :: U.drop (i + 1) := List.drop_eq_getElem_cons hi
  have e2 : V.drop i = V[i] :: V.drop (i + 1) := List.drop_eq_getElem_cons (by omega)
  have e3 : U.take (i + 1) = U.take i ++ [U[i]] := by rw [List.take_add_one, List.getElem?_eq_getElem hi]; rfl
  have e4 : V.take (i + 1) = V.take i ++ [V[i]] := by rw [List.take_add_one, List.getElem?_eq_getElem (by omega)]; rfl
  have h' : d.toList = (X ++ V.take i) ++ U[i] :: ((U.drop (i + 1) ++ M ++ U.take i) ++ V[i] :: (V.drop (i + 1) ++ Y)) := by
    rw [h, e1, e2]; simp only [List.append_assoc, List.cons_append, List.nil_append]
  have := swp_list h' (i := X.length + i) (j := X.length + U.length + M.length + i) (by simp; omega) (by simp; omega)
  rw [this, e3, e4]
  simp only [List.append_assoc, List.cons_append, List.nil_append]
/-- One round of an element's way to the right. -/
theorem right_step {d : Array α} {X R Y : List α} {x : α} {t : Nat} (h : d.toList = X ++ (R.take t ++ (x :: (R.drop t ++ Y)))) (ht : t < R.length) :
    (swp d (X.length + t) (X.length + t + 1)).toList = X ++ (R.take (t + 1) ++ (x :: (R.drop (t + 1) ++ Y))) := by
  have e1 : R.drop t = R[t] :: R.drop (t + 1) := List.drop_eq_getElem_cons ht
  have e4 : R.take (t + 1) = R.take t ++ [R[t]] := by rw [List.take_add_one, List.getElem?_eq_getElem ht]; rfl
  have h' : d.toList = (X ++ R.take t) ++ x :: ([] ++ R[t] :: (R.drop (t + 1) ++ Y)) := by rw [h, e1]; simp only [List.append_assoc, List.cons_append, List.nil_append]
  have := swp_list h' (i := X.length + t) (j := X.length + t + 1) (by simp; omega) (by simp)
  rw [this, e4]
  simp only [List.append_assoc, List.cons_append, List.nil_append]
/-- One round of an element's way to the left. -/
theorem left_step {d : Array α} {X L Y : List α} {x : α} {t : Nat} (h : d.toList = X ++ (L.take (t + 1) ++ (x :: (L.drop (t + 1) ++ Y)))) (ht : t < L.length) :
    (swp d (X.length + t + 1) (X.length + t)).toList = X ++ (L.take t ++ (x :: (L.drop t ++ Y))) := by
  have e1 : L.drop t = L[t] :: L.drop (t + 1) := List.drop_eq_getElem_cons ht
  have e4 : L.take (t + 1) = L.take t ++ [L[t]] := by rw [List.take_add_one, List.getElem?_eq_getElem ht]; rfl
  have hsw : swp d (X.length + t + 1) (X.length + t) = swp d (X.length + t) (X.length + t + 1) := by
    unfold swp
    rw [Array.setIfInBounds_comm _ _ (by omega)]
  have h' : d.toList = (X ++ L.take t) ++ L[t] :: ([] ++ x :: (L.drop (t + 1) ++ Y)) := by rw [h, e4]; simp only [List.append_assoc, List.cons_append, List.nil_append]
  have := swp_list h' (i := X.length + t) (j := X.length + t + 1) (by simp; omega) (by simp)
  rw [hsw, this, e1]
  simp only [List.append_assoc, List.cons_append, List.nil_append]
end
section
variable {α : Type} {key : α → Int}
/-- The left half is one element. -/
theorem one_left {x : α} {R : List α} (hR : Srt key R) (e : Nat) (he : e ≤ R.length) (h1 : e = 0 ∨ ∀ y, R[e - 1]? = some y → key y < key x) (h2 : e = R.length ∨ ∀ y, R[e]? = some y → key x ≤ key y) :
    Stb key ([x] ++ R) (R.take e ++ ([x] ++ R.drop e)) := by
  have hc := sym_conds (key := key) (L := [x]) (R := R) (List.pairwise_singleton _ _) hR 0 e (.inl rfl)
    (by rcases h1 with h | h
        · exact .inr (.inl h)
        · refine .inr (.inr fun a b ha hb => ?_)
          simp at ha; subst ha; exact h b hb) (by simp) he
  have hs : ∀ y ∈ R.drop e, key x ≤ key y := by
    intro y hy
    obtain ⟨j, hj, yj⟩ := mem_drop_get hy
    have hjl := (List.getElem?_eq_some_iff.1 yj).1
    rcases h2 with h | h
    · omega
    · obtain ⟨y2, hy2⟩ : ∃ y, R[e]? = some y := ⟨_, List.getElem?_eq_getElem (by omega)⟩
      have := h y2 hy2
      have := srt_get hR hy2 yj hj
      omega
  have := sym_join (key := key) (L1 := []) (U := [x]) (V := R.take e) (R2 := R.drop e) (S1 := R.take e) (S2 := [x] ++ R.drop e) (List.pairwise_singleton _ _) (by rw [List.take_append_drop]; exact hR)
    (fun u hu v hv => hc.1 u (by simpa using hu) v hv) (by intro a ha; cases ha) ⟨srt_take hR e, Fil.refl _⟩ ⟨List.pairwise_cons.2 ⟨hs, srt_drop hR e⟩, Fil.refl _⟩
  rw [List.take_append_drop] at this
  simpa using this
/-- The right half is one element. -/
theorem one_right {y : α} {L : List α} (hL : Srt key L) (s : Nat) (hs : s ≤ L.length) (h1 : s = 0 ∨ ∀ x, L[s - 1]? = some x → key x ≤ key y) (h2 : s = L.length ∨ ∀ x, L[s]? = some x → key y < key x) :
    Stb key (L ++ [y]) (L.take s ++ ([y] ++ L.drop s)) := by
  have hc := sym_conds (key := key) (L := L) (R := [y]) hL (List.pairwise_singleton _ _) s 1 (.inr (.inl rfl))
    (by rcases h2 with h | h
        · exact .inl h
        · refine .inr (.inr fun a b ha hb => ?_)
          simp at hb; subst hb; exact h a ha) hs (by simp)
  have hl : ∀ x ∈ L.take s, key x ≤ key y := by
    intro x hx
    obtain ⟨i, hi, xi⟩ := mem_take_get hx
    rcases h1 with h | h
    · omega
    · obtain ⟨x2, hx2⟩ : ∃ x, L[s - 1]? = some x := ⟨_, List.getElem?_eq_getElem (by omega)⟩
      have := h x2 hx2
      have := srt_get hL xi hx2 (by omega)
      omega
  have := sym_join (key := key) (L1 := L.take s) (U := L.drop s) (V := [y]) (R2 := []) (S1 := L.take s ++ [y]) (S2 := L.drop s) (by rw [List.take_append_drop]; exact hL) (List.pairwise_singleton _ _)
    (fun u hu v hv => hc.1 u hu v (by simpa using hv)) (by intro a _ b hb; cases hb)
    ⟨List.pairwise_append.2 ⟨srt_take hL s, List.pairwise_singleton _ _, fun a ha b hb => by simp at hb; subst hb; exact hl a ha⟩, Fil.refl _⟩ ⟨srt_drop hL s, by rw [List.append_nil]; exact Fil.refl _⟩
  rw [List.take_append_drop] at this
  simpa using this
/-- Rotating: more on the left. -/
theorem rot_left {X P1 P2 Q Y T : List α} (h : T = X ++ (Q ++ ((P1 ++ P2) ++ Y))) : T = (X ++ Q) ++ (P1 ++ (P2 ++ Y)) := by rw [h]; simp
theorem rot_right {X P Q1 Q2 Y T : List α} (h : T = X ++ ((Q1 ++ Q2) ++ (P ++ Y))) : T = X ++ (Q1 ++ (Q2 ++ (P ++ Y))) := by rw [h]; simp
end

end Go.Proofs.Ytolcgopfbbmjgaa

/-
  The library's stable sort at operations: swapRange.
-/
namespace Go.Proofs.Ytolcgopfbbmjgaa
set_option linter.unusedVariables false
set_option linter.unusedSimpArgs false
open Go.RowKit Go.Lib Go.Sort

instance : Inhabited Opr := ⟨⟨0, 0, 0, 0, 0, 0, 0, 0⟩⟩
/-- A world that the sort passes through. -/
abbrev SW (w : World) (blk off m : Nat) (d : Array Opr) (os : Array Obj) : World := sortWorldK Opr.cells 8 w blk off m d os
/-- What the sort stands on: the row at its place. -/
structure SwR (w : World) (blk off : Nat) (d0 : Array Opr) : Prop where
  holds : HoldsK Opr.cells 8 w blk off d0
  lt : blk < w.heap.size
  sz : d0.size ≤ 2000
theorem SwR.at_ {w : World} {blk off : Nat} {d0 : Array Opr} (h : SwR w blk off d0) (m : Nat) (d : Array Opr) (os : Array Obj) (hs : d.size = d0.size) : HoldsK Opr.cells 8 (SW w blk off m d os) blk off d :=
  holdsK_sortWorldK_c Opr.cells 8 w blk off d0 d m os h.holds h.lt hs
theorem SwR.cells {w : World} {blk off : Nat} {d0 : Array Opr} (h : SwR w blk off d0) (m : Nat) (d : Array Opr) (os : Array Obj) (hs : d.size = d0.size) {i : Nat} (hi : i < d.size) : CellsAt (SW w blk off m d os) blk (off + i * 8) d[i]!.cells := fun c v hv => by
  have := HoldsK.cells (h.at_ m d os hs) Opr.len hi c v hv
  rwa [Addr.add_lit] at this
theorem SwR.frozen {w : World} {blk off : Nat} {d0 : Array Opr} (h : SwR w blk off d0) (m : Nat) (d : Array Opr) (os : Array Obj) (hs : d.size = d0.size) {i c : Nat} (hi : i < d.size) (hc : c < 8) : (SW w blk off m d os).frozen? ⟨blk, off + i * 8 + c, none⟩ = false := by
  have := (HoldsK.cell (h.at_ m d os hs) hi hc).2
  exact this
theorem set8_cells (w : World) (b o : Nat) (x : Opr) : ((((((((w.setCell ⟨b, o, none⟩ (.int .i64 x.k)).setCell ⟨b, o + 1, none⟩ (.int .i64 x.d)).setCell ⟨b, o + 2, none⟩ (.int .i64 x.fb)).setCell ⟨b, o + 3, none⟩ (.int .i64 x.fa)).setCell ⟨b, o + 4, none⟩ (.int .i64 x.tb)).setCell ⟨b, o + 5, none⟩ (.int .i64 x.ta)).setCell ⟨b, o + 6, none⟩ (.int .i64 x.c)).setCell ⟨b, o + 7, none⟩ (.int .i64 x.r)) = w.setCells b o x.cells := rfl
theorem drew_setCells_s (b : Nat) : ∀ (vs : List Value) (o : Nat) (w : World), (w.setCells b o vs).drew = w.drew.setCells b o vs
  | [], _, _ => rfl
  | v :: r, o, w => by rw [World.setCells, World.setCells, drew_setCells_s b r, ← World.setCell_drew]

set_option maxHeartbeats 8000000 in
set_option maxRecDepth 100000 in
theorem swapRange_any {w : World} {blk off cap : Nat} {d0 : Array Opr} (H : SwR w blk off d0) (m : Nat) (d : Array Opr) (os : Array Obj) (hd : d.size = d0.size) (X U M V Y : List Opr) (h : d.toList = X ++ (U ++ (M ++ (V ++ Y)))) (hv : V.length = U.length) (a b n N : Nat) (ha : a = X.length) (hb : b = X.length + U.length + M.length) (hn : n = U.length) (hN : N = d.size) (fv : Value) :
    Calls Try.prog 89 #[.slice (some ⟨blk, off, none⟩) N cap, .int .i64 (a : Int), .int .i64 (b : Int), .int .i64 (n : Int), fv] (SW w blk off m d os) fun e w' => e = .returned (.tuple #[]) ∧ ∃ m' d' os', w' = SW w blk off m' d' os' ∧ d'.size = d0.size ∧ d'.toList = X ++ (V ++ (M ++ (U ++ Y))) := by
  have mixed : Try.prog.follows Departure.mixedOrders = true := by kernel_rfl
  have HH := Lib.hid H
  have HD := Lib.hid h
  have HV := Lib.hid hv
  have HA := Lib.hid ha
  have HB := Lib.hid hb
  have HNN := Lib.hid hn
  have HS := Lib.hid hN
  have HD0 := Lib.hid hd
  have hbig := H.sz
  have hNb : N ≤ 2000 := by omega
  have hlen : X.length + (U.length + (M.length + (V.length + Y.length))) = N := by
    have := congrArg List.length h
    simp at this
    omega
  have hbn : b + n ≤ N := by omega
  have hab : a + n ≤ b := by omega
  clear H h hv ha hb hn hN hd hlen
  go_enter Try.func89, Try.ntmps89
  go_wp2
  go_loopw [10] (fun v10 wr => ∃ (i m1 : Nat) (d1 : Array Opr) (o1 : Array Obj), wr = SW w blk off m1 d1 o1 ∧ v10 = .int .i64 (i : Int) ∧ i ≤ n ∧ Hid (d1.size = d0.size) ∧ Hid (d1.toList = X ++ (V.take i ++ (U.drop i ++ (M ++ (U.take i ++ (V.drop i ++ Y))))))) (fun v10 _ => n - (intOf v10).toNat)
  case atStart => exact ⟨0, m, d, os, rfl, rfl, Nat.zero_le _, HD0.out, by unfold Hid; rw [HD.out]; simp⟩
  case round =>
    obtain ⟨i, m1, d1, o1, hw1, rfl, hi, hs1, HL⟩ := hrel
    by_cases hlt : i < n
    · obtain ⟨p, hp⟩ : ∃ p : Nat, p = a + i := ⟨_, rfl⟩
      obtain ⟨q, hq⟩ : ∃ q : Nat, q = b + i := ⟨_, rfl⟩
      have hwp : IntKind.i64.wrap ((a : Int) + (i : Int)) = (p : Int) := by rw [IntWalk.i64_in _ (by omega)]; omega
      have hwq : IntKind.i64.wrap ((b : Int) + (i : Int)) = (q : Int) := by rw [IntWalk.i64_in _ (by omega)]; omega
      have hpN : (p : Int) < (N : Int) := by omega
      have hqN : (q : Int) < (N : Int) := by omega
      have hsd : d1.size = N := by rw [hs1.out, ← HD0.out]; exact HS.out.symm
      have hpd : p < d1.size := by omega
      have hqd : q < d1.size := by omega
      have hpq : p * 8 + 8 ≤ q * 8 := by omega
      have hcp := HH.out.cells m1 d1 o1 hs1.out hpd
      have hcq := HH.out.cells m1 d1 o1 hs1.out hqd
      have fp := fun c (hc : c < 8) => HH.out.frozen m1 d1 o1 hs1.out hpd hc
      have fq := fun c (hc : c < 8) => HH.out.frozen m1 d1 o1 hs1.out hqd hc
      have HSWP := Lib.hid (sortWorldK_swp_c Opr.cells 8 w blk off Opr.len m1 d1 o1 HH.out.lt p q hpd hqd)
      have HNX := Lib.hid (show (swp d1 p q).toList = X ++ (V.take (i + 1) ++ (U.drop (i + 1) ++ (M ++ (U.take (i + 1) ++ (V.drop (i + 1) ++ Y))))) by
        have h9 := swpR_step HL.out (by have := HNN.out; omega) HV.out
        rw [show p = X.length + i by have := HA.out; omega, show q = X.length + U.length + M.length + i by have := HB.out; omega]
        exact h9)
      have HSZ := Lib.hid (show (swp d1 p q).size = d0.size by rw [size_swp]; exact hs1.out)
      generalize hP : d1[p]! = P at *
      generalize hQ : d1[q]! = Q at *
      obtain ⟨x0, x1, x2, x3, x4, x5, x6, x7⟩ := hcp.eight
      obtain ⟨y0, y1, y2, y3, y4, y5, y6, y7⟩ := hcq.eight
      have f0 := fp 0 (by omega)
      have f1 := fp 1 (by omega)
      have f2 := fp 2 (by omega)
      have f3 := fp 3 (by omega)
      have f4 := fp 4 (by omega)
      have f5 := fp 5 (by omega)
      have f6 := fp 6 (by omega)
      have f7 := fp 7 (by omega)
      have g0 := fq 0 (by omega)
      have g1 := fq 1 (by omega)
      have g2 := fq 2 (by omega)
      have g3 := fq 3 (by omega)
      have g4 := fq 4 (by omega)
      have g5 := fq 5 (by omega)
      have g6 := fq 6 (by omega)
      have g7 := fq 7 (by omega)
      rw [Nat.add_zero] at f0 g0
      have HPQ := Lib.hid hpq
      clear hcp hcq fp fq hP hQ hp hq hsd hs1 hpd hqd
      rw [← hw1] at x0 x1 x2 x3 x4 x5 x6 x7 y0 y1 y2 y3 y4 y5 y6 y7 f0 f1 f2 f3 f4 f5 f6 f7 g0 g1 g2 g3 g4 g5 g6 g7
      have HW1 := Lib.hid hw1
      clear hw1
      go_wp2_with fail
      have hrel8 : ∀ c : Nat, c < 8 → ∀ c' : Nat, c' < 8 → off + p * 8 + c ≠ off + q * 8 + c' := fun c _ c' _ => by have := HPQ.out; omega
      go_big_region_o
      all_goals go_wp2
      refine ⟨⟨i + 1, m1 + 1, swp d1 p q, o1, ?_, by go_num, by omega, HSZ.out, HNX.out⟩, ?_⟩
      · rw [set8_cells, set8_cells]
        have := HSWP.out
        have hw := HW1.out
        rw [show sortWorldK Opr.cells 8 w blk off m1 d1 o1 = wr from hw.symm] at this
        refine Eq.trans ?_ this
        rw [drew_setCells_s, drew_setCells_s]
      · simp [intOf]
        omega
    · have hin : i = n := by omega
      subst hin
      have hlast : d1.toList = X ++ (V ++ (M ++ (U ++ Y))) := by
        have h9 := HL.out
        have e1 := HNN.out
        have e2 := HV.out
        rwa [List.take_of_length_le (by omega), List.drop_of_length_le (by omega), List.take_of_length_le (by omega), List.drop_of_length_le (by omega), List.nil_append, List.nil_append] at h9
      have HLAST := Lib.hid hlast
      have HS1 := Lib.hid hs1.out
      clear hlast
      go_wp2
      go_end0
      exact ⟨rfl, m1, d1, o1, by first | rfl | exact hw1, HS1.out, HLAST.out⟩

end Go.Proofs.Ytolcgopfbbmjgaa

/-
  The library's stable sort at operations: rotate.
-/
namespace Go.Proofs.Ytolcgopfbbmjgaa
set_option linter.unusedVariables false
set_option linter.unusedSimpArgs false
open Go.RowKit Go.Lib Go.Sort

theorem sp1 {α : Type} (A Z : List α) (j : Nat) : A ++ Z = A.take j ++ (A.drop j ++ Z) := by rw [← List.append_assoc, List.take_append_drop]

set_option maxHeartbeats 8000000 in
set_option maxRecDepth 100000 in
theorem rotate_any {w : World} {blk off cap : Nat} {d0 : Array Opr} (H : SwR w blk off d0) (m0 : Nat) (d : Array Opr) (os : Array Obj) (hd : d.size = d0.size) (X U V Y : List Opr) (h : d.toList = X ++ (U ++ (V ++ Y))) (hu : 0 < U.length) (hv : 0 < V.length) (a m b N : Nat) (ha : a = X.length) (hm : m = X.length + U.length) (hb : b = X.length + U.length + V.length) (hN : N = d.size) (fv : Value) :
    Calls Try.prog 88 #[.slice (some ⟨blk, off, none⟩) N cap, .int .i64 (a : Int), .int .i64 (m : Int), .int .i64 (b : Int), fv] (SW w blk off m0 d os) fun e w' => e = .returned (.tuple #[]) ∧ ∃ m' d' os', w' = SW w blk off m' d' os' ∧ d'.size = d0.size ∧ d'.toList = X ++ (V ++ (U ++ Y)) := by
  have mixed : Try.prog.follows Departure.mixedOrders = true := by kernel_rfl
  have HH := Lib.hid H
  have HD := Lib.hid h
  have HU := Lib.hid hu
  have HV := Lib.hid hv
  have HD0 := Lib.hid hd
  have HN := Lib.hid hN
  have hbig := H.sz
  have hNb : N ≤ 2000 := by omega
  have hlen : X.length + (U.length + (V.length + Y.length)) = N := by
    have := congrArg List.length h
    simp at this
    omega
  have hbn : b ≤ N := by omega
  have hw0 : IntKind.i64.wrap ((m : Int) - (a : Int)) = ((m - a : Nat) : Int) := by rw [IntWalk.i64_in _ (by omega)]; omega
  have hw1 : IntKind.i64.wrap ((b : Int) - (m : Int)) = ((b - m : Nat) : Int) := by rw [IntWalk.i64_in _ (by omega)]; omega
  have HI0 := Lib.hid (show m - a = U.length by omega)
  have HJ0 := Lib.hid (show b - m = V.length by omega)
  have HXA := Lib.hid (show X.length = m - (m - a) ∧ m - a ≤ m by omega)
  clear H h hu hv ha hm hb hN hd hlen
  go_enter Try.func88, Try.ntmps88
  go_wp2
  go_loopw [10, 11] (fun v10 v11 wr => ∃ (i j m1 : Nat) (d1 : Array Opr) (o1 : Array Obj) (P A B S : List Opr), wr = SW w blk off m1 d1 o1 ∧ v10 = .int .i64 (i : Int) ∧ v11 = .int .i64 (j : Int) ∧ 0 < i ∧ 0 < j ∧ i ≤ m ∧ m + j ≤ N ∧ Hid (A.length = i ∧ B.length = j ∧ P.length = m - i ∧ d1.size = d0.size) ∧ Hid (d1.toList = P ++ (A ++ (B ++ S))) ∧ Hid (P ++ (B ++ (A ++ S)) = X ++ (V ++ (U ++ Y)))) (fun v10 v11 _ => (intOf v10).toNat + (intOf v11).toNat)
  case atStart => exact ⟨m - a, b - m, m0, d, os, X, U, V, Y, rfl, rfl, rfl, by rw [HI0.out]; exact HU.out, by rw [HJ0.out]; exact HV.out, by omega, by have := HJ0.out; have := HV.out; omega, ⟨HI0.out.symm, HJ0.out.symm, HXA.out.1, HD0.out⟩, HD.out, rfl⟩
  case round =>
    obtain ⟨i, j, m1, d1, o1, P, A, B, S, hw1, rfl, rfl, hi, hj, him, hmj, HL, HP, HQ⟩ := hrel
    subst hw1
    obtain ⟨q, hq⟩ : ∃ q : Nat, q = m - i := ⟨_, rfl⟩
    have hwq : IntKind.i64.wrap ((m : Int) - (i : Int)) = (q : Int) := by rw [IntWalk.i64_in _ (by omega)]; omega
    have HQE := Lib.hid hq
    have hqm : q + i = m := by omega
    clear hq
    by_cases hij : i = j
    · subst hij
      have hC := fun cap => swapRange_any (cap := cap) HH.out m1 d1 o1 HL.out.2.2.2 P A [] B S HP.out (by rw [HL.out.1, HL.out.2.1]) q m i N (by rw [HL.out.2.2.1]; exact HQE.out) (by rw [HL.out.2.2.1, HL.out.1]; have := HQE.out; simp; omega) HL.out.1.symm (by rw [HL.out.2.2.2, ← HD0.out]; exact HN.out) fv
      have HC := Lib.hid hC
      clear hC
      go_wp2_with (go_at_call 89; refine (HC.out _).mono ?_; rintro e w' ⟨rfl, m2, d2, o2, hw2, hs2, hl2⟩)
      have HS2 := Lib.hid hs2
      have HL2 := Lib.hid hl2
      clear hs2 hl2
      go_end0
      exact ⟨rfl, m2, d2, o2, by first | rfl | exact hw2, HS2.out, by rw [HL2.out, ← HQ.out]; rfl⟩
    · have hne : ¬ (i : Int) = (j : Int) := by omega
      by_cases hgt : j < i
      · have hgtz : (j : Int) < (i : Int) := by omega
        have hC := fun cap => swapRange_any (cap := cap) HH.out m1 d1 o1 HL.out.2.2.2 P (A.take j) (A.drop j) B S (by rw [HP.out, sp1 A _ j]) (by rw [HL.out.2.1, List.length_take, HL.out.1]; omega) q m j N (by rw [HL.out.2.2.1]; exact HQE.out) (by rw [HL.out.2.2.1, List.length_take, List.length_drop, HL.out.1]; have := HQE.out; omega) (by rw [List.length_take, HL.out.1]; omega) (by rw [HL.out.2.2.2, ← HD0.out]; exact HN.out) fv
        have HC := Lib.hid hC
        have hwi : IntKind.i64.wrap ((i : Int) - (j : Int)) = ((i - j : Nat) : Int) := by rw [IntWalk.i64_in _ (by omega)]; omega
        clear hC
        go_wp2_with (go_at_call 89; refine (HC.out _).mono ?_; rintro e w' ⟨rfl, m2, d2, o2, hw2, hs2, hl2⟩)
        have HS2 := Lib.hid hs2
        have HL2 := Lib.hid hl2
        clear hs2 hl2
        have HHL := HL.out
        have hrelN : ∃ (i' j' m1 : Nat) (d1 : Array Opr) (o1 : Array Obj) (P A B S : List Opr), SW w blk off m2 d2 o2 = SW w blk off m1 d1 o1 ∧ Value.int .i64 ((i - j : Nat) : Int) = .int .i64 (i' : Int) ∧ Value.int .i64 (j : Int) = .int .i64 (j' : Int) ∧ 0 < i' ∧ 0 < j' ∧ i' ≤ m ∧ m + j' ≤ N ∧ Hid (A.length = i' ∧ B.length = j' ∧ P.length = m - i' ∧ d1.size = d0.size) ∧ Hid (d1.toList = P ++ (A ++ (B ++ S))) ∧ Hid (P ++ (B ++ (A ++ S)) = X ++ (V ++ (U ++ Y))) := by
          refine ⟨i - j, j, m2, d2, o2, P ++ B, A.drop j, A.take j, S, rfl, rfl, rfl, by omega, hj, by omega, hmj, ⟨?_, ?_, ?_, HS2.out⟩, ?_, ?_⟩
          · rw [List.length_drop, HHL.1]
          · rw [List.length_take, HHL.1]; omega
          · rw [List.length_append, HHL.2.1, HHL.2.2.1]; omega
          · show _ = _
            rw [HL2.out]; simp
          · show _ = _
            rw [← HQ.out]
            rw [sp1 A S j]
            simp
        have HR := Lib.hid hrelN
        clear hrelN
        go_wp2
        refine ⟨by first | exact HR.out | (rw [hw2]; exact HR.out), by simp [intOf]; omega⟩
      · have hgtz : ¬ (j : Int) < (i : Int) := by omega
        obtain ⟨r, hr⟩ : ∃ r : Nat, r = m + j - i := ⟨_, rfl⟩
        obtain ⟨s, hs⟩ : ∃ s : Nat, s = m + j := ⟨_, rfl⟩
        have hwr1 : IntKind.i64.wrap ((m : Int) + (j : Int)) = (s : Int) := by rw [IntWalk.i64_in _ (by omega)]; omega
        have hwr : IntKind.i64.wrap ((s : Int) - (i : Int)) = (r : Int) := by rw [IntWalk.i64_in _ (by omega)]; omega
        have hC := fun cap => swapRange_any (cap := cap) HH.out m1 d1 o1 HL.out.2.2.2 P A (B.take (j - i)) (B.drop (j - i)) S (by rw [HP.out, sp1 B _ (j - i)]) (by rw [HL.out.1, List.length_drop, HL.out.2.1]; omega) q r i N (by rw [HL.out.2.2.1]; exact HQE.out) (by rw [HL.out.2.2.1, List.length_take, HL.out.1, HL.out.2.1]; have := HQE.out; omega) HL.out.1.symm (by rw [HL.out.2.2.2, ← HD0.out]; exact HN.out) fv
        have HC := Lib.hid hC
        have hwi : IntKind.i64.wrap ((j : Int) - (i : Int)) = ((j - i : Nat) : Int) := by rw [IntWalk.i64_in _ (by omega)]; omega
        have HR0 := Lib.hid hr
        clear hC hr hs
        go_wp2_with (go_at_call 89; refine (HC.out _).mono ?_; rintro e w' ⟨rfl, m2, d2, o2, hw2, hs2, hl2⟩)
        have HS2 := Lib.hid hs2
        have HL2 := Lib.hid hl2
        clear hs2 hl2
        have HHL := HL.out
        have hrelN : ∃ (i' j' m1 : Nat) (d1 : Array Opr) (o1 : Array Obj) (P A B S : List Opr), SW w blk off m2 d2 o2 = SW w blk off m1 d1 o1 ∧ Value.int .i64 (i : Int) = .int .i64 (i' : Int) ∧ Value.int .i64 ((j - i : Nat) : Int) = .int .i64 (j' : Int) ∧ 0 < i' ∧ 0 < j' ∧ i' ≤ m ∧ m + j' ≤ N ∧ Hid (A.length = i' ∧ B.length = j' ∧ P.length = m - i' ∧ d1.size = d0.size) ∧ Hid (d1.toList = P ++ (A ++ (B ++ S))) ∧ Hid (P ++ (B ++ (A ++ S)) = X ++ (V ++ (U ++ Y))) := by
          refine ⟨i, j - i, m2, d2, o2, P, B.drop (j - i), B.take (j - i), A ++ S, rfl, rfl, rfl, hi, by omega, him, by omega, ⟨?_, ?_, HHL.2.2.1, HS2.out⟩, ?_, ?_⟩
          · rw [List.length_drop, HHL.2.1]; omega
          · rw [List.length_take, HHL.2.1]; omega
          · show _ = _
            rw [HL2.out]
          · show _ = _
            rw [← HQ.out]
            rw [sp1 B (A ++ S) (j - i)]
        have HR := Lib.hid hrelN
        clear hrelN
        go_wp2
        refine ⟨by first | exact HR.out | (rw [hw2]; exact HR.out), by simp [intOf]; omega⟩

end Go.Proofs.Ytolcgopfbbmjgaa

/-
  The library's stable sort at operations: symMerge where one half is one element.
-/
namespace Go.Proofs.Ytolcgopfbbmjgaa
set_option linter.unusedVariables false
set_option linter.unusedSimpArgs false
open Go.RowKit Go.Lib Go.Sort

/-- What is asked of the comparing function. -/
structure CmpA (w : World) (blk off size : Nat) (g : Nat) (cb : Array Value) (cf : Opr → Opr → Int) (key : Opr → Int) : Prop where
  lays : CmpLays Try.prog g cb Opr.cells 8 cf blk off size w
  enters : ∀ args w, (callFunc g args).run Try.prog w = .ok (.enter g args) w
  less : ∀ x y, cf x y < 0 ↔ key x < key y
theorem at_part {α : Type} [Inhabited α] {d : Array α} {A R Y : List α} (h : d.toList = A ++ (R ++ Y)) {t i : Nat} (ht : t < R.length) (he : i = A.length + t) : R[t]? = some d[i]! := by
  have hl := congrArg List.length h
  simp at hl
  have e : d[i]! = d.toList[i]'(by simp; omega) := by rw [getElem!_pos d i (by omega)]; simp
  rw [e, ← List.getElem?_eq_getElem, h, List.getElem?_append_right (by omega), List.getElem?_append_left (by omega)]
  congr 1; omega
/-- What a call of symMerge does. -/
def SymDid (w : World) (blk off : Nat) (d0 : Array Opr) (key : Opr → Int) (X L R Y : List Opr) (e : Ending) (w' : World) : Prop :=
  e = .returned (.tuple #[]) ∧ ∃ m' d' os' M, w' = SW w blk off m' d' os' ∧ d'.size = d0.size ∧ d'.toList = X ++ (M ++ Y) ∧ Stb key (L ++ R) M

set_option maxHeartbeats 8000000 in
set_option maxRecDepth 100000 in
theorem symA_any {w : World} {blk off cap : Nat} {d0 : Array Opr} (H : SwR w blk off d0) {g : Nat} {cb : Array Value} {cf : Opr → Opr → Int} {key : Opr → Int} (C : CmpA w blk off d0.size g cb cf key) (m0 : Nat) (d : Array Opr) (os : Array Obj) (hd : d.size = d0.size) (X : List Opr) (x : Opr) (R Y : List Opr) (h : d.toList = X ++ ([x] ++ (R ++ Y))) (hr : 0 < R.length) (sR : Srt key R) (a m b N : Nat) (ha : a = X.length) (hm : m = a + 1) (hb : b = m + R.length) (hN : N = d.size) :
    Calls Try.prog 79 #[.slice (some ⟨blk, off, none⟩) N cap, .int .i64 (a : Int), .int .i64 (m : Int), .int .i64 (b : Int), .func (.func g) #[] cb] (SW w blk off m0 d os) (SymDid w blk off d0 key X [x] R Y) := by
  have mixed : Try.prog.follows Departure.mixedOrders = true := by kernel_rfl
  have HH := Lib.hid H
  have HC := Lib.hid C
  have eg := C.enters
  have HD := Lib.hid h
  have HR := Lib.hid hr
  have HSR := Lib.hid sR
  have HD0 := Lib.hid hd
  have HN := Lib.hid hN
  have HA := Lib.hid ha
  have HM := Lib.hid hm
  have HB := Lib.hid hb
  have hbig := H.sz
  have hNb : N ≤ 2000 := by omega
  have hlen : X.length + (1 + (R.length + Y.length)) = N := by
    have := congrArg List.length h
    simp at this
    omega
  have hbn : b ≤ N := by omega
  have hmb : m < b := by omega
  have ham : (a : Int) + 1 = (m : Int) := by omega
  have hw0 : IntKind.i64.wrap ((m : Int) - (a : Int)) = 1 := by rw [IntWalk.i64_in _ (by omega)]; omega
  clear H C h hr sR ha hm hb hN hd hlen
  go_enter Try.func79, Try.ntmps79
  go_wp2
  go_loopw [10, 11] (fun v10 v11 wr => ∃ (i j m1 : Nat) (o1 : Array Obj), wr = SW w blk off m1 d o1 ∧ v10 = .int .i64 (i : Int) ∧ v11 = .int .i64 (j : Int) ∧ m ≤ i ∧ i ≤ j ∧ j ≤ b ∧ Hid ((i = m ∨ ∀ y, R[i - m - 1]? = some y → key y < key x) ∧ (j = b ∨ ∀ y, R[j - m]? = some y → key x ≤ key y))) (fun v10 v11 _ => (intOf v11).toNat - (intOf v10).toNat)
  case atStart => exact ⟨m, b, m0, os, rfl, rfl, rfl, Nat.le_refl _, by omega, Nat.le_refl _, ⟨.inl rfl, .inl rfl⟩⟩
  case round =>
    obtain ⟨i, j, m1, o1, hw1, rfl, rfl, hmi, hij, hjb, HI⟩ := hrel
    by_cases hlt : i < j
    · obtain ⟨p, hp⟩ : ∃ p : Nat, p = (i + j) / 2 := ⟨_, rfl⟩
      have hmid : ((i : Int) + (j : Int)) / 2 = (p : Int) := by omega
      obtain ⟨q, hq⟩ : ∃ q : Nat, q = a := ⟨_, rfl⟩
      have hpb : m ≤ p ∧ p < b ∧ i ≤ p ∧ p < j := by omega
      obtain ⟨d1, hd1⟩ : ∃ d1 : Array Opr, d1 = d := ⟨_, rfl⟩
      have hs1 := Lib.hid (show d1.size = d0.size by rw [hd1]; exact HD0.out)
      have hsN : d1.size = N := by rw [hd1]; exact HN.out.symm
      have hpd : p < d1.size := by omega
      have hqd : q < d1.size := by omega
      have hpN : (p : Int) < (N : Int) := by omega
      have hqN : (a : Int) < (N : Int) := by omega
      have HPx := Lib.hid (show R[p - m]? = some d1[p]! from at_part (A := X ++ [x]) (Y := Y) (by rw [hd1, HD.out]; simp) (by have := HB.out; omega) (by have := HA.out; have := HM.out; simp; omega))
      have HQx := Lib.hid (show d1[q]! = x by
        have := at_part (A := X) (R := [x]) (Y := R ++ Y) (d := d1) (t := 0) (i := q) (by rw [hd1, HD.out]) (by simp) (by have := HA.out; omega)
        simp at this; exact this.symm)
      rw [← hd1] at hw1
      have hcls : ∀ n' os', grow ((SW w blk off m1 d1 o1).drewN n') os' = SW w blk off (m1 + n') d1 (o1 ++ os') := fun n' os' => sortWorldK_grown_c Opr.cells 8 w blk off m1 n' d1 o1 os'
      have hcp : ∀ n' os', CellsAt (grow ((SW w blk off m1 d1 o1).drewN n') os') blk (off + p * 8) d1[p]!.cells := fun n' os' => by rw [hcls]; exact HH.out.cells _ d1 _ hs1.out hpd
      have hcq : ∀ n' os', CellsAt (grow ((SW w blk off m1 d1 o1).drewN n') os') blk (off + q * 8) d1[q]!.cells := fun n' os' => by rw [hcls]; exact HH.out.cells _ d1 _ hs1.out hqd
      have hcg : ∀ n' os', Calls Try.prog g (#[.agg d1[p]!.cells.toArray, .agg d1[q]!.cells.toArray] ++ cb) (grow ((SW w blk off m1 d1 o1).drewN n') os') fun e w' => e = .returned (.int .i64 (cf d1[p]! d1[q]!)) ∧ ∃ q' os'', w' = grow ((grow ((SW w blk off m1 d1 o1).drewN n') os').drewN q') os'' := fun n' os' => by rw [hcls]; exact HC.out.lays _ _ d1 hs1.out _ _
      have HK := Lib.hid (HC.out.less d1[p]! d1[q]!)
      generalize hP : d1[p]! = P at *
      generalize hQ : d1[q]! = Q at *
      rw [← hw1] at hcls hcp hcq hcg
      have CLS := Lib.hid hcls
      have x0 := fun n' os' => (hcp n' os').eight.1
      have x1 := fun n' os' => (hcp n' os').eight.2.1
      have x2 := fun n' os' => (hcp n' os').eight.2.2.1
      have x3 := fun n' os' => (hcp n' os').eight.2.2.2.1
      have x4 := fun n' os' => (hcp n' os').eight.2.2.2.2.1
      have x5 := fun n' os' => (hcp n' os').eight.2.2.2.2.2.1
      have x6 := fun n' os' => (hcp n' os').eight.2.2.2.2.2.2.1
      have x7 := fun n' os' => (hcp n' os').eight.2.2.2.2.2.2.2
      have y0 := fun n' os' => (hcq n' os').eight.1
      have y1 := fun n' os' => (hcq n' os').eight.2.1
      have y2 := fun n' os' => (hcq n' os').eight.2.2.1
      have y3 := fun n' os' => (hcq n' os').eight.2.2.2.1
      have y4 := fun n' os' => (hcq n' os').eight.2.2.2.2.1
      have y5 := fun n' os' => (hcq n' os').eight.2.2.2.2.2.1
      have y6 := fun n' os' => (hcq n' os').eight.2.2.2.2.2.2.1
      have y7 := fun n' os' => (hcq n' os').eight.2.2.2.2.2.2.2
      have HW1 := Lib.hid hw1
      clear hw1 hcls hcp hcq
      subst hq
      have HE := Lib.hid hd1
      clear hd1 hs1 hsN hpd hqd hp hP hQ
      by_cases hlv : cf P Q < 0
      · have HNX : Hid ((p + 1 = m ∨ ∀ y, R[p + 1 - m - 1]? = some y → key y < key x) ∧ (j = b ∨ ∀ y, R[j - m]? = some y → key x ≤ key y)) := ⟨.inr (fun y hy => by
            rw [show p + 1 - m - 1 = p - m by omega, HPx.out] at hy
            injection hy with hy
            rw [← hy, ← HQx.out]; exact HK.out.1 hlv), HI.out.2⟩
        go_wp2_with fail
        go_quiet_grown (first | (go_at_fn g; refine Calls.grown_of (hcg _ _)))
        go_wp2
        refine ⟨⟨p + 1, j, m1 + nq, o1 ++ osq, ?_, by go_num, rfl, by omega, by omega, hjb, HNX⟩, ?_⟩
        · rw [CLS.out, HE.out]
        · simp [intOf]; omega
      · have HNX : Hid ((i = m ∨ ∀ y, R[i - m - 1]? = some y → key y < key x) ∧ (p = b ∨ ∀ y, R[p - m]? = some y → key x ≤ key y)) := ⟨HI.out.1, .inr (fun y hy => by
            rw [HPx.out] at hy
            injection hy with hy
            rw [← hy, ← HQx.out]
            have := mt HK.out.2 hlv
            omega)⟩
        go_wp2_with fail
        go_quiet_grown (first | (go_at_fn g; refine Calls.grown_of (hcg _ _)))
        go_wp2
        refine ⟨⟨i, p, m1 + nq, o1 ++ osq, ?_, rfl, rfl, hmi, by omega, by omega, HNX⟩, ?_⟩
        · rw [CLS.out, HE.out]
        · simp [intOf]; omega
    · obtain rfl : i = j := by omega
      have hne : ¬ (i : Int) < (i : Int) := by omega
      obtain ⟨i', hi'⟩ : ∃ i' : Nat, i' + 1 = i := ⟨i - 1, by omega⟩
      have hwi : IntKind.i64.wrap ((i : Int) - 1) = (i' : Int) := by rw [IntWalk.i64_in _ (by omega)]; omega
      have HFIN := Lib.hid (show Stb key ([x] ++ R) (R.take (i' - a) ++ ([x] ++ R.drop (i' - a))) from one_left HSR.out (i' - a) (by have := HB.out; have := HM.out; omega)
        (by rcases HI.out.1 with h | h
            · exact .inl (by have := HM.out; omega)
            · exact .inr (fun y hy => h y (by rw [show i - m - 1 = i' - a - 1 by have := HM.out; omega]; exact hy)))
        (by rcases HI.out.2 with h | h
            · exact .inl (by have := HM.out; have := HB.out; omega)
            · exact .inr (fun y hy => h y (by rw [show i - m = i' - a by have := HM.out; omega]; exact hy))))
      clear HI
      go_wp2
      go_loopw [13] (fun v13 wr2 => ∃ (k m1 : Nat) (d1 : Array Opr) (o1 : Array Obj), wr2 = SW w blk off m1 d1 o1 ∧ v13 = .int .i64 (k : Int) ∧ a ≤ k ∧ k ≤ i' ∧ Hid (d1.size = d0.size) ∧ Hid (d1.toList = X ++ (R.take (k - a) ++ (x :: (R.drop (k - a) ++ Y))))) (fun v13 _ => i' - (intOf v13).toNat)
      case atStart => exact ⟨a, m1, d, o1, by first | rfl | exact hw1, rfl, Nat.le_refl _, by omega, HD0.out, by unfold Hid; rw [HD.out]; simp⟩
      case round =>
        clear hw1
        obtain ⟨p, m1, d1, o1, hw1, rfl, hak, hki, hs1, HL⟩ := hrel
        by_cases hlt2 : p < i'
        · obtain ⟨q, hq⟩ : ∃ q : Nat, q = p + 1 := ⟨_, rfl⟩
          have hwq : IntKind.i64.wrap ((p : Int) + 1) = (q : Int) := by rw [IntWalk.i64_in _ (by omega)]; omega
          have hsN : d1.size = N := by rw [hs1.out, ← HD0.out]; exact HN.out.symm
          have hpd : p < d1.size := by omega
          have hqd : q < d1.size := by omega
          have hpN : (p : Int) < (N : Int) := by omega
          have hqN : (q : Int) < (N : Int) := by omega
          have hpq : p * 8 + 8 ≤ q * 8 := by omega
          have HNX := Lib.hid (show (swp d1 p q).toList = X ++ (R.take (q - a) ++ (x :: (R.drop (q - a) ++ Y))) by
            have h9 := right_step HL.out (by have := HB.out; have := HM.out; omega)
            rw [show q - a = p - a + 1 by omega, show p = X.length + (p - a) by have := HA.out; omega, show q = X.length + (p - a) + 1 by have := HA.out; omega]
            rw [show X.length + (p - a) - a = p - a by have := HA.out; omega]
            exact h9)
          have hcp := HH.out.cells m1 d1 o1 hs1.out hpd
          have hcq := HH.out.cells m1 d1 o1 hs1.out hqd
          have fp := fun c (hc : c < 8) => HH.out.frozen m1 d1 o1 hs1.out hpd hc
          have fq := fun c (hc : c < 8) => HH.out.frozen m1 d1 o1 hs1.out hqd hc
          have HSWP := Lib.hid (sortWorldK_swp_c Opr.cells 8 w blk off Opr.len m1 d1 o1 HH.out.lt p q hpd hqd)
          have HSZ := Lib.hid (show (swp d1 p q).size = d0.size by rw [size_swp]; exact hs1.out)
          generalize hP : d1[p]! = P at *
          generalize hQ : d1[q]! = Q at *
          obtain ⟨x0, x1, x2, x3, x4, x5, x6, x7⟩ := hcp.eight
          obtain ⟨y0, y1, y2, y3, y4, y5, y6, y7⟩ := hcq.eight
          have f0 := fp 0 (by omega)
          have f1 := fp 1 (by omega)
          have f2 := fp 2 (by omega)
          have f3 := fp 3 (by omega)
          have f4 := fp 4 (by omega)
          have f5 := fp 5 (by omega)
          have f6 := fp 6 (by omega)
          have f7 := fp 7 (by omega)
          have g0 := fq 0 (by omega)
          have g1 := fq 1 (by omega)
          have g2 := fq 2 (by omega)
          have g3 := fq 3 (by omega)
          have g4 := fq 4 (by omega)
          have g5 := fq 5 (by omega)
          have g6 := fq 6 (by omega)
          have g7 := fq 7 (by omega)
          rw [Nat.add_zero] at f0 g0
          have HPQ := Lib.hid hpq
          clear hcp hcq fp fq hP hQ
          rw [← hw1] at x0 x1 x2 x3 x4 x5 x6 x7 y0 y1 y2 y3 y4 y5 y6 y7 f0 f1 f2 f3 f4 f5 f6 f7 g0 g1 g2 g3 g4 g5 g6 g7
          have HW1 := Lib.hid hw1
          clear hw1
          have HQ1 := Lib.hid hq
          clear hs1 hsN hpd hqd hq
          go_wp2_with fail
          have hrel8 : ∀ c : Nat, c < 8 → ∀ c' : Nat, c' < 8 → off + p * 8 + c ≠ off + q * 8 + c' := fun c _ c' _ => by have := HPQ.out; omega
          go_big_region_o
          all_goals go_wp2
          have hq1 := HQ1.out
          refine ⟨⟨q, m1 + 1, swp d1 p q, o1, ?_, by go_num, by omega, by omega, HSZ.out, HNX.out⟩, ?_⟩
          · rw [set8_cells, set8_cells]
            have := HSWP.out
            have hw := HW1.out
            rw [show sortWorldK Opr.cells 8 w blk off m1 d1 o1 = wr from hw.symm] at this
            refine Eq.trans ?_ this
            rw [drew_setCells_s, drew_setCells_s]
          · simp [intOf]
            omega
        · obtain rfl : p = i' := by omega
          have hlz : ¬ (p : Int) < (p : Int) := by omega
          go_wp2
          first | go_end0 | refine bodyPost_ret (results_none rfl _ _ _) rfl ?_
          exact ⟨rfl, m1, d1, o1, _, by first | rfl | exact hw1, hs1.out, by rw [HL.out]; simp, HFIN.out⟩

end Go.Proofs.Ytolcgopfbbmjgaa

/-
  The library's stable sort at operations: symMerge where the right half is one element.
-/
namespace Go.Proofs.Ytolcgopfbbmjgaa
set_option linter.unusedVariables false
set_option linter.unusedSimpArgs false
open Go.RowKit Go.Lib Go.Sort

set_option maxHeartbeats 8000000 in
set_option maxRecDepth 100000 in
theorem symB_any {w : World} {blk off cap : Nat} {d0 : Array Opr} (H : SwR w blk off d0) {g : Nat} {cb : Array Value} {cf : Opr → Opr → Int} {key : Opr → Int} (C : CmpA w blk off d0.size g cb cf key) (m0 : Nat) (d : Array Opr) (os : Array Obj) (hd : d.size = d0.size) (X L : List Opr) (y : Opr) (Y : List Opr) (h : d.toList = X ++ (L ++ ([y] ++ Y))) (hr : 1 < L.length) (sL : Srt key L) (a m b N : Nat) (ha : a = X.length) (hm : m = a + L.length) (hb : b = m + 1) (hN : N = d.size) :
    Calls Try.prog 79 #[.slice (some ⟨blk, off, none⟩) N cap, .int .i64 (a : Int), .int .i64 (m : Int), .int .i64 (b : Int), .func (.func g) #[] cb] (SW w blk off m0 d os) (SymDid w blk off d0 key X L [y] Y) := by
  have mixed : Try.prog.follows Departure.mixedOrders = true := by kernel_rfl
  have HH := Lib.hid H
  have HC := Lib.hid C
  have eg := C.enters
  have HD := Lib.hid h
  have HSL := Lib.hid sL
  have HD0 := Lib.hid hd
  have HN := Lib.hid hN
  have HA := Lib.hid ha
  have HM := Lib.hid hm
  have HB := Lib.hid hb
  have hbig := H.sz
  have hNb : N ≤ 2000 := by omega
  have hlen : X.length + (L.length + (1 + Y.length)) = N := by
    have := congrArg List.length h
    simp at this
    omega
  have hbn : b ≤ N := by omega
  have ham2 : a + 1 < m := by omega
  have hbm : (m : Int) + 1 = (b : Int) := by omega
  obtain ⟨n1, hn1⟩ : ∃ n1 : Nat, n1 = m - a := ⟨_, rfl⟩
  have hw0 : IntKind.i64.wrap ((m : Int) - (a : Int)) = (n1 : Int) := by rw [IntWalk.i64_in _ (by omega)]; omega
  have hn12 : ((n1 : Int) == 1) = false := by rw [beq_eq_false_iff_ne]; omega
  have hw1 : IntKind.i64.wrap ((b : Int) - (m : Int)) = 1 := by rw [IntWalk.i64_in _ (by omega)]; omega
  clear H C h hr sL ha hm hb hN hd hlen hn1
  go_enter Try.func79, Try.ntmps79
  go_wp2
  clear hw1
  go_loopw [14, 15] (fun v10 v11 wr => ∃ (i j m1 : Nat) (o1 : Array Obj), wr = SW w blk off m1 d o1 ∧ v10 = .int .i64 (i : Int) ∧ v11 = .int .i64 (j : Int) ∧ a ≤ i ∧ i ≤ j ∧ j ≤ m ∧ Hid ((i = a ∨ ∀ x, L[i - a - 1]? = some x → key x ≤ key y) ∧ (j = m ∨ ∀ x, L[j - a]? = some x → key y < key x))) (fun v10 v11 _ => (intOf v11).toNat - (intOf v10).toNat)
  case atStart => exact ⟨a, m, m0, os, rfl, rfl, rfl, Nat.le_refl _, by omega, Nat.le_refl _, ⟨.inl rfl, .inl rfl⟩⟩
  case round =>
    obtain ⟨i, j, m1, o1, hw1, rfl, rfl, hmi, hij, hjb, HI⟩ := hrel
    by_cases hlt : i < j
    · obtain ⟨q, hq⟩ : ∃ q : Nat, q = (i + j) / 2 := ⟨_, rfl⟩
      have hmid : ((i : Int) + (j : Int)) / 2 = (q : Int) := by omega
      obtain ⟨p, hp⟩ : ∃ p : Nat, p = m := ⟨_, rfl⟩
      have hpb : a ≤ q ∧ q < m ∧ i ≤ q ∧ q < j := by omega
      obtain ⟨d1, hd1⟩ : ∃ d1 : Array Opr, d1 = d := ⟨_, rfl⟩
      have hs1 := Lib.hid (show d1.size = d0.size by rw [hd1]; exact HD0.out)
      have hsN : d1.size = N := by rw [hd1]; exact HN.out.symm
      have hpd : p < d1.size := by omega
      have hqd : q < d1.size := by omega
      have hpN : (m : Int) < (N : Int) := by omega
      have hqN : (q : Int) < (N : Int) := by omega
      have HQx := Lib.hid (show L[q - a]? = some d1[q]! from at_part (A := X) (Y := [y] ++ Y) (by rw [hd1, HD.out]) (by have := HM.out; omega) (by have := HA.out; omega))
      have HPx := Lib.hid (show d1[p]! = y by
        have := at_part (A := X ++ L) (R := [y]) (Y := Y) (d := d1) (t := 0) (i := p) (by rw [hd1, HD.out]; simp) (by simp) (by have := HA.out; have := HM.out; simp; omega)
        simp at this; exact this.symm)
      rw [← hd1] at hw1
      have hcls : ∀ n' os', grow ((SW w blk off m1 d1 o1).drewN n') os' = SW w blk off (m1 + n') d1 (o1 ++ os') := fun n' os' => sortWorldK_grown_c Opr.cells 8 w blk off m1 n' d1 o1 os'
      have hcp : ∀ n' os', CellsAt (grow ((SW w blk off m1 d1 o1).drewN n') os') blk (off + p * 8) d1[p]!.cells := fun n' os' => by rw [hcls]; exact HH.out.cells _ d1 _ hs1.out hpd
      have hcq : ∀ n' os', CellsAt (grow ((SW w blk off m1 d1 o1).drewN n') os') blk (off + q * 8) d1[q]!.cells := fun n' os' => by rw [hcls]; exact HH.out.cells _ d1 _ hs1.out hqd
      have hcg : ∀ n' os', Calls Try.prog g (#[.agg d1[p]!.cells.toArray, .agg d1[q]!.cells.toArray] ++ cb) (grow ((SW w blk off m1 d1 o1).drewN n') os') fun e w' => e = .returned (.int .i64 (cf d1[p]! d1[q]!)) ∧ ∃ q' os'', w' = grow ((grow ((SW w blk off m1 d1 o1).drewN n') os').drewN q') os'' := fun n' os' => by rw [hcls]; exact HC.out.lays _ _ d1 hs1.out _ _
      have HK := Lib.hid (HC.out.less d1[p]! d1[q]!)
      generalize hP : d1[p]! = P at *
      generalize hQ : d1[q]! = Q at *
      rw [← hw1] at hcls hcp hcq hcg
      have CLS := Lib.hid hcls
      have x0 := fun n' os' => (hcp n' os').eight.1
      have x1 := fun n' os' => (hcp n' os').eight.2.1
      have x2 := fun n' os' => (hcp n' os').eight.2.2.1
      have x3 := fun n' os' => (hcp n' os').eight.2.2.2.1
      have x4 := fun n' os' => (hcp n' os').eight.2.2.2.2.1
      have x5 := fun n' os' => (hcp n' os').eight.2.2.2.2.2.1
      have x6 := fun n' os' => (hcp n' os').eight.2.2.2.2.2.2.1
      have x7 := fun n' os' => (hcp n' os').eight.2.2.2.2.2.2.2
      have y0 := fun n' os' => (hcq n' os').eight.1
      have y1 := fun n' os' => (hcq n' os').eight.2.1
      have y2 := fun n' os' => (hcq n' os').eight.2.2.1
      have y3 := fun n' os' => (hcq n' os').eight.2.2.2.1
      have y4 := fun n' os' => (hcq n' os').eight.2.2.2.2.1
      have y5 := fun n' os' => (hcq n' os').eight.2.2.2.2.2.1
      have y6 := fun n' os' => (hcq n' os').eight.2.2.2.2.2.2.1
      have y7 := fun n' os' => (hcq n' os').eight.2.2.2.2.2.2.2
      have HW1 := Lib.hid hw1
      clear hw1 hcls hcp hcq
      subst hp
      have HE := Lib.hid hd1
      clear hd1 hs1 hsN hpd hqd hq hP hQ
      by_cases hlv : cf P Q < 0
      · have HNX : Hid ((i = a ∨ ∀ x, L[i - a - 1]? = some x → key x ≤ key y) ∧ (q = p ∨ ∀ x, L[q - a]? = some x → key y < key x)) := ⟨HI.out.1, .inr (fun x hx => by
            rw [HQx.out] at hx
            injection hx with hx
            rw [← hx, ← HPx.out]; exact HK.out.1 hlv)⟩
        go_wp2_with fail
        go_quiet_grown (first | (go_at_fn g; refine Calls.grown_of (hcg _ _)))
        go_wp2
        refine ⟨⟨i, q, m1 + nq, o1 ++ osq, ?_, rfl, rfl, hmi, by omega, by omega, HNX⟩, ?_⟩
        · rw [CLS.out, HE.out]
        · simp [intOf]; omega
      · have HNX : Hid ((q + 1 = a ∨ ∀ x, L[q + 1 - a - 1]? = some x → key x ≤ key y) ∧ (j = p ∨ ∀ x, L[j - a]? = some x → key y < key x)) := ⟨.inr (fun x hx => by
            rw [show q + 1 - a - 1 = q - a by omega, HQx.out] at hx
            injection hx with hx
            rw [← hx, ← HPx.out]
            have := mt HK.out.2 hlv
            omega), HI.out.2⟩
        have hge : 0 ≤ cf P Q := by omega
        go_wp2_with fail
        go_quiet_grown (first | (go_at_fn g; refine Calls.grown_of (hcg _ _)))
        go_wp2
        all_goals try (rename_i hcnd; rw [show decide (cf P Q < 0) = false from decide_eq_false (by omega)] at hcnd; cases hcnd; done)
        refine ⟨⟨q + 1, j, m1 + nq, o1 ++ osq, ?_, by go_num, rfl, by omega, by omega, hjb, HNX⟩, ?_⟩
        · rw [CLS.out, HE.out]
        · simp [intOf]; omega
    · obtain rfl : i = j := by omega
      have hne : ¬ (i : Int) < (i : Int) := by omega
      have HFIN := Lib.hid (show Stb key (L ++ [y]) (L.take (i - a) ++ ([y] ++ L.drop (i - a))) from one_right HSL.out (i - a) (by have := HM.out; omega)
        (by rcases HI.out.1 with h | h
            · exact .inl (by omega)
            · exact .inr (fun x hx => h x (by rw [show i - a - 1 = i - a - 1 from rfl]; exact hx)))
        (by rcases HI.out.2 with h | h
            · exact .inl (by have := HM.out; omega)
            · exact .inr (fun x hx => h x hx)))
      clear HI
      go_wp2
      go_loopw [17] (fun v13 wr2 => ∃ (k m1 : Nat) (d1 : Array Opr) (o1 : Array Obj), wr2 = SW w blk off m1 d1 o1 ∧ v13 = .int .i64 (k : Int) ∧ i ≤ k ∧ k ≤ m ∧ Hid (d1.size = d0.size) ∧ Hid (d1.toList = X ++ (L.take (k - a) ++ (y :: (L.drop (k - a) ++ Y))))) (fun v13 _ => (intOf v13).toNat - i)
      case atStart => exact ⟨m, m1, d, o1, by first | rfl | exact hw1, rfl, by omega, Nat.le_refl _, HD0.out, by unfold Hid; rw [HD.out, List.take_of_length_le (by have := HM.out; omega), List.drop_of_length_le (by have := HM.out; omega)]; simp⟩
      case round =>
        clear hw1
        obtain ⟨p, m1, d1, o1, hw1, rfl, hak, hki, hs1, HL⟩ := hrel
        by_cases hlt2 : i < p
        · obtain ⟨q, hq⟩ : ∃ q : Nat, q = p - 1 := ⟨_, rfl⟩
          have hwq : IntKind.i64.wrap ((p : Int) - 1) = (q : Int) := by rw [IntWalk.i64_in _ (by omega)]; omega
          have hgz : (i : Int) < (p : Int) := by omega
          have hsN : d1.size = N := by rw [hs1.out, ← HD0.out]; exact HN.out.symm
          have hpd : p < d1.size := by omega
          have hqd : q < d1.size := by omega
          have hpN : (p : Int) < (N : Int) := by omega
          have hqN : (q : Int) < (N : Int) := by omega
          have hpq : q * 8 + 8 ≤ p * 8 := by omega
          have HNX := Lib.hid (show (swp d1 p q).toList = X ++ (L.take (q - a) ++ (y :: (L.drop (q - a) ++ Y))) by
            have h8 : d1.toList = X ++ (L.take (q - a + 1) ++ (y :: (L.drop (q - a + 1) ++ Y))) := by rw [show q - a + 1 = p - a by omega]; exact HL.out
            have h9 := left_step (t := q - a) h8 (by have := HM.out; omega)
            rw [show X.length + (q - a) + 1 = p by have := HA.out; omega, show X.length + (q - a) = q by have := HA.out; omega] at h9
            exact h9)
          have hcp := HH.out.cells m1 d1 o1 hs1.out hpd
          have hcq := HH.out.cells m1 d1 o1 hs1.out hqd
          have fp := fun c (hc : c < 8) => HH.out.frozen m1 d1 o1 hs1.out hpd hc
          have fq := fun c (hc : c < 8) => HH.out.frozen m1 d1 o1 hs1.out hqd hc
          have HSWP := Lib.hid (sortWorldK_swp_c Opr.cells 8 w blk off Opr.len m1 d1 o1 HH.out.lt p q hpd hqd)
          have HSZ := Lib.hid (show (swp d1 p q).size = d0.size by rw [size_swp]; exact hs1.out)
          generalize hP : d1[p]! = P at *
          generalize hQ : d1[q]! = Q at *
          obtain ⟨x0, x1, x2, x3, x4, x5, x6, x7⟩ := hcp.eight
          obtain ⟨y0, y1, y2, y3, y4, y5, y6, y7⟩ := hcq.eight
          have f0 := fp 0 (by omega)
          have f1 := fp 1 (by omega)
          have f2 := fp 2 (by omega)
          have f3 := fp 3 (by omega)
          have f4 := fp 4 (by omega)
          have f5 := fp 5 (by omega)
          have f6 := fp 6 (by omega)
          have f7 := fp 7 (by omega)
          have g0 := fq 0 (by omega)
          have g1 := fq 1 (by omega)
          have g2 := fq 2 (by omega)
          have g3 := fq 3 (by omega)
          have g4 := fq 4 (by omega)
          have g5 := fq 5 (by omega)
          have g6 := fq 6 (by omega)
          have g7 := fq 7 (by omega)
          rw [Nat.add_zero] at f0 g0
          have HPQ := Lib.hid hpq
          clear hcp hcq fp fq hP hQ
          rw [← hw1] at x0 x1 x2 x3 x4 x5 x6 x7 y0 y1 y2 y3 y4 y5 y6 y7 f0 f1 f2 f3 f4 f5 f6 f7 g0 g1 g2 g3 g4 g5 g6 g7
          have HW1 := Lib.hid hw1
          clear hw1
          have HQ1 := Lib.hid hq
          clear hs1 hsN hpd hqd hq
          go_wp2_with fail
          have hrel8 : ∀ c : Nat, c < 8 → ∀ c' : Nat, c' < 8 → off + p * 8 + c ≠ off + q * 8 + c' := fun c _ c' _ => by have := HPQ.out; omega
          go_big_region_o
          all_goals go_wp2
          have hq1 := HQ1.out
          refine ⟨⟨q, m1 + 1, swp d1 p q, o1, ?_, by go_num, by omega, by omega, HSZ.out, HNX.out⟩, ?_⟩
          · rw [set8_cells, set8_cells]
            have := HSWP.out
            have hw := HW1.out
            rw [show sortWorldK Opr.cells 8 w blk off m1 d1 o1 = wr from hw.symm] at this
            refine Eq.trans ?_ this
            rw [drew_setCells_s, drew_setCells_s]
          · simp [intOf]
            omega
        · obtain rfl : i = p := by omega
          have hlz : ¬ (i : Int) < (i : Int) := by omega
          go_wp2
          first | go_end0 | refine bodyPost_ret (results_none rfl _ _ _) rfl ?_
          exact ⟨rfl, m1, d1, o1, _, by first | rfl | exact hw1, hs1.out, by first | (rw [HL.out]; simp; done) | rw [HL.out], HFIN.out⟩

end Go.Proofs.Ytolcgopfbbmjgaa
