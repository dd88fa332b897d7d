/-
  CrossingBraid, of the program and of the reference.
-/
import Derived.Test.YtgkapjjolhnliaaGreatDoorBraidE
import Derived.Test.YtgkapjjolhnliaaGreatDoorValid
import Derived.Test.YtgkapjjolhnliaaGreatDoorAppend
import Derived.Test.YtgkapjjolhnliaaGreatDoorWords
import Derived.Deep.RegionHeld3
namespace Go.Proofs.YtgkapjjolhnliaaGreatDoor
set_option linter.unusedVariables false
set_option linter.unusedSimpArgs false
open Go.RowKit

def crE (n : Int) (e : Ev) : Bool := (e.k == 1) && valE n e
def crossB (n : Int) (l : List Ev) : Bool := l.all (crE n)
def letE1 (e : Ev) : Int := e.c * (e.p + 1)
def letW (l : List Ev) : List Int := l.map letE1
def inS (n : Int) : Bool := decide (0 ≤ n) && decide (n ≤ 12)
/-- The code of CrossingBraid, and its braid. -/
def crC (n : Int) (l : List Ev) : Int := if inS n = false then 2 else if crossB n l = false then 1 else if 40 < l.length then 5 else 0
def crR (n : Int) (l : List Ev) : Br := if crC n l = 0 then ⟨n, letW l⟩ else ⟨0, []⟩
theorem crC_rng {n : Int} {l : List Ev} (h : inS n = false) : crC n l = 2 := by simp [crC, h]
theorem crC_bad {n : Int} {l : List Ev} (h : inS n = true) (h1 : crossB n l = false) : crC n l = 1 := by simp [crC, h, h1]
theorem crC_full {n : Int} {l : List Ev} (h : inS n = true) (h1 : crossB n l = true) (h2 : 40 < l.length) : crC n l = 5 := by simp [crC, h, h1, h2]
theorem crC_ok {n : Int} {l : List Ev} (h : inS n = true) (h1 : crossB n l = true) (h2 : ¬ 40 < l.length) : crC n l = 0 := by simp [crC, h, h1, h2]
theorem crR_no {n : Int} {l : List Ev} (h : crC n l ≠ 0) : crR n l = ⟨0, []⟩ := by unfold crR; rw [if_neg h]
theorem crR_yes {n : Int} {l : List Ev} (h : crC n l = 0) : crR n l = ⟨n, letW l⟩ := by unfold crR; rw [if_pos h]
theorem crE_rng {n : Int} {e : Ev} (hn : n ≤ 12) (h : crE n e = true) : (e.c = 1 ∨ e.c = -1) ∧ 0 ≤ e.p ∧ e.p ≤ 10 := by
  unfold crE at h
  rw [Bool.and_eq_true] at h
  obtain ⟨h1, h2⟩ := h
  have hk : e.k = 1 := by simpa using h1
  unfold valE at h2
  rw [if_pos hk] at h2
  simp at h2
  obtain ⟨a, b, c, d⟩ := h2
  exact ⟨c, a, by omega⟩
theorem letE1_rng {n : Int} {e : Ev} (hn : n ≤ 12) (h : crE n e = true) : IntKind.i64.wrap (e.p + 1) = e.p + 1 ∧ IntKind.i64.wrap (e.c * (e.p + 1)) = letE1 e := by
  obtain ⟨h1, h2, h3⟩ := crE_rng hn h
  refine ⟨IntWalk.i64_in _ (by omega), ?_⟩
  unfold letE1
  rcases h1 with h1 | h1 <;> rw [h1] <;> exact IntWalk.i64_in _ (by omega)
theorem crR_len (n : Int) (l : List Ev) : (crR n l).w.length ≤ 1048576 := by
  unfold crR
  split
  · rename_i h
    unfold crC at h
    split at h
    · omega
    · split at h
      · omega
      · split at h
        · omega
        · simp [letW]; omega
  · simp
theorem letW_snoc {L acc : List Int} {l : List Ev} {k : Nat} {x : Ev} (h : L = acc ++ letW (l.drop k)) (hx : l[k]? = some x) : L = (acc ++ [letE1 x]) ++ letW (l.drop (k + 1)) := by
  rw [h, drop_of_get hx, List.append_assoc]
  rfl
theorem cross_next {R : Bool} {n : Int} {l : List Ev} {k : Nat} {x : Ev} (h : R = crossB n (l.drop k)) (hx : l[k]? = some x) : R = (crE n x && crossB n (l.drop (k + 1))) := by
  rw [h, drop_of_get hx]; simp [crossB]
/-- A braid of the call's own and a code. -/
def GivesBrC (w : World) (b : Br) (code : Int) (e : Ending) (w' : World) : Prop := ∃ v, e = .returned (.tuple #[v, .int .i64 code]) ∧ OwBr w' w.heap.size w'.heap.size v b ∧ Below w.heap.size w w'
theorem GivesBrC.no {w w' : World} {n : Int} {l : List Ev} {c : Int} (h : crC n l = c) (hc : c ≠ 0) (hb : Below w.heap.size w w') : GivesBrC w (crR n l) (crC n l) (.returned (.tuple #[.agg #[.int .i64 0, .slice none 0 0], .int .i64 c])) w' := by
  rw [crR_no (by rw [h]; exact hc), h]
  exact ⟨_, rfl, ⟨_, rfl, by simp [vI], .inl ⟨rfl, none, 0, rfl⟩⟩, hb⟩
theorem GivesBrC.yes {w w' : World} {n : Int} {l : List Ev} {s : Value} (h : crC n l = 0) (ho : OwC w' w.heap.size w'.heap.size 2 1 s (letW l).length (vI (letW l))) (hb : Below w.heap.size w w') : GivesBrC w (crR n l) (crC n l) (.returned (.tuple #[.agg #[.int .i64 n, s], .int .i64 0])) w' := by
  rw [crR_yes h, h]
  exact ⟨_, rfl, ⟨s, rfl, ho⟩, hb⟩

set_option maxHeartbeats 1000000 in
set_option maxRecDepth 100000 in
theorem crClos_any (n : Int) (x : Ev) (h0 : 0 ≤ n) (h1 : n ≤ 12) (g : Nat) (w : World) (hc : w.cell? ⟨g, 0, none⟩ = some (.int .i64 n)) (hg : g < w.heap.size) :
    Calls Tryz.prog 28 #[x.v, .pointer (some ⟨g, 0, none⟩)] w fun e w' => e = .returned (.bool (!crE n x)) ∧ Below w.heap.size w w' := by
  cases hk : (x.k == 1)
  · have HE := Lib.hid (show (!crE n x) = true by simp [crE, hk])
    have hk1 : (x.k != 1) = true := by simp at hk ⊢; exact hk
    rw [HE.out]
    go_enter Tryz.func28, Tryz.ntmps28
    go_wp2
    go_ret
    exact ⟨rfl, (Below.refl _ _).alloc (Nat.le_refl _) _⟩
  · have HE := Lib.hid (show (!crE n x) = !valE n x by simp [crE, hk])
    have hk1 : (x.k != 1) = false := by simp at hk ⊢; exact hk
    rw [HE.out]
    clear hk
    go_enter Tryz.func28, Tryz.ntmps28
    go_wp2_with fail
    refine (valid_any x n h0 h1 _).mono ?_
    rintro e w1 ⟨rfl, hb⟩
    have HB := Lib.hid (((Below.refl w.heap.size w).alloc (Nat.le_refl _) _).trans (hb.mono (by simp)))
    clear hb
    go_wp2
    go_ret
    exact ⟨rfl, HB.out⟩

set_option maxHeartbeats 1000000 in
set_option maxRecDepth 100000 in
theorem crIdx_any (n : Int) (h0 : 0 ≤ n) (h1 : n ≤ 12) (g : Nat) (v : Value) (l : List Ev) (w : World) (hl : RdE w w.heap.size v l) (hc : w.cell? ⟨g, 0, none⟩ = some (.int .i64 n)) :
    Calls Tryz.prog 44 #[v, .func (.func 28) #[] #[.pointer (some ⟨g, 0, none⟩)]] w fun e w' => e = .returned (.int .i64 (idxOf (fun x => !crE n x) l)) ∧ Below w.heap.size w w' := by
  obtain ⟨A, N, c, rfl, hln, hl, gl⟩ := hl
  have hg := block_lt_of_cell hc
  have HC := Lib.hid hc
  clear hc
  go_enter Tryz.func44, Tryz.ntmps44
  go_wp2
  go_loopw [5, 8] (fun _ i wr => ∃ k : Nat, k ≤ N ∧ i = .int .i64 k ∧ Hid (idxOf (fun x => !crE n x) l = idxFrom (fun x => !crE n x) k (l.drop k)) ∧ Below w.heap.size w wr) (fun _ i _ => N - (intOf i).toNat)
  case atStart => exact ⟨0, Nat.zero_le _, rfl, rfl, Below.refl _ _⟩
  case round =>
    rename_i wr
    obtain ⟨k, hk, rfl, hd, hb⟩ := hrel
    by_cases hlt : k < N
    · obtain ⟨b, off, x, rfl, hbb, hlk, hcc⟩ := gl k hlt
      obtain ⟨c0, c1, c2, c3, c4, c5⟩ := (hcc.below hb hbb).six
      have HB := Lib.hid hb
      have Hl := Lib.hid hlk
      have HQ := Lib.hid (crClos_any n x h0 h1 g wr ((hb.cell (p := ⟨g, 0, none⟩) hg).trans HC.out) (by have := hb.size; omega))
      clear hb hlk gl hcc
      rcases hp : (!crE n x)
      · have HP := Lib.hid hp
        go_wp2_with fail
        refine HQ.out.mono ?_
        rintro e w1 ⟨rfl, hb1⟩
        rw [HP.out]
        have HB1 := HB.out.trans (hb1.mono HB.out.size)
        go_wp2
        exact ⟨⟨k + 1, by omega, by go_num, by unfold Hid; rw [hd.out, drop_of_get Hl.out]; simp [idxFrom, HP.out], HB1⟩, by simp [intOf]; omega⟩
      · have HP := Lib.hid hp
        go_wp2_with fail
        refine HQ.out.mono ?_
        rintro e w1 ⟨rfl, hb1⟩
        rw [HP.out]
        go_wp2
        go_ret
        exact ⟨ret_int (by rw [hd.out, drop_of_get Hl.out]; simp [idxFrom, HP.out]), HB.out.trans (hb1.mono HB.out.size)⟩
    · have HB := Lib.hid hb
      clear hb gl
      go_wp2
      go_ret
      exact ⟨ret_int (by rw [hd.out, List.drop_of_length_le (by have := hl.out; omega)]; rfl), HB.out⟩

set_option maxHeartbeats 1000000 in
set_option maxRecDepth 100000 in
theorem crCont_any (n : Int) (h0 : 0 ≤ n) (h1 : n ≤ 12) (g : Nat) (v : Value) (l : List Ev) (w : World) (hl : RdE w w.heap.size v l) (hc : w.cell? ⟨g, 0, none⟩ = some (.int .i64 n)) :
    Calls Tryz.prog 27 #[v, .func (.func 28) #[] #[.pointer (some ⟨g, 0, none⟩)]] w fun e w' => e = .returned (.bool (!crossB n l)) ∧ Below w.heap.size w w' := by
  have hi := idxOf_any (fun x => !crE n x) l
  have HX := Lib.hid (crIdx_any n h0 h1 g v l w hl hc)
  have hx : (!crossB n l) = l.any (fun x => !crE n x) := by unfold crossB; rw [List.not_all_eq_any_not]
  rw [hx]
  clear hl hc hx h0 h1
  generalize hA : l.any (fun x => !crE n x) = A at hi ⊢
  generalize hI : idxOf (fun x => !crE n x) l = I at hi HX
  clear hI hA
  cases A
  · have h1 : ¬ 0 ≤ I := by simpa using hi
    clear hi
    go_enter Tryz.func27, Tryz.ntmps27
    go_wp2_with fail
    refine HX.out.mono ?_
    rintro e w1 ⟨rfl, hb1⟩
    go_wp2
    go_ret
    exact ⟨ret_bool (by simp [h1]), hb1⟩
  · have h1 : 0 ≤ I := by simpa using hi
    clear hi
    go_enter Tryz.func27, Tryz.ntmps27
    go_wp2_with fail
    refine HX.out.mono ?_
    rintro e w1 ⟨rfl, hb1⟩
    go_wp2
    go_ret
    exact ⟨ret_bool (by simp [h1]), hb1⟩

set_option maxHeartbeats 4000000 in
set_option maxRecDepth 100000 in
theorem lettersOf_any (n : Int) (v : Value) (l : List Ev) (w : World) (hl : RdE w w.heap.size v l) (hn : n ≤ 12) (hc : crossB n l = true) (hlen : l.length ≤ 1048576) :
    Calls Tryz.prog 29 #[v] w (GivesOw w 2 1 (letW l).length (vI (letW l))) := by
  obtain ⟨A, N, c, rfl, hln, hl, gl⟩ := hl
  have hN : N ≤ 1048576 := by have := hl.out; omega
  obtain ⟨i0, hi, hz0, hz1, hz2⟩ := info_parts info_int
  have HCR := Lib.hid (fun (x : Ev) (hx : x ∈ l) => letE1_rng hn (by unfold crossB at hc; exact List.all_eq_true.1 hc x hx))
  generalize hY : letW l = Y
  have HY := Lib.hid (show Y = [] ++ letW (l.drop 0) by rw [← hY]; rfl)
  clear hlen hc hY
  go_enter Tryz.func29, Tryz.ntmps29
  go_wp2
  go_loopw [3, 9] (fun t i wr => ∃ (k : Nat) (acc : List Int), k ≤ N ∧ i = .int .i64 k ∧ wr.ownsRow w.heap.size 2 1 t acc.length (vI acc) ∧ acc.length ≤ k ∧ Hid (Y = acc ++ letW (l.drop k)) ∧ Below w.heap.size w wr) (fun _ i _ => N - (intOf i).toNat)
  case atStart => exact ⟨0, [], Nat.zero_le _, rfl, World.ownsRow_lit _ _ _ (Nat.le_refl _) (by unfold maxLen; omega) rfl, Nat.le_refl _, HY.out, (Below.refl _ _).alloc (Nat.le_refl _) _⟩
  case round =>
    rename_i wr
    obtain ⟨k, acc, hk, rfl, hown, hak, hd, hb⟩ := hrel
    by_cases hlt : k < N
    · obtain ⟨b, off, x, rfl, hbb, hlk, hcc⟩ := gl k hlt
      obtain ⟨c0, c1, c2, c3, c4, c5⟩ := (hcc.below hb hbb).six
      obtain ⟨r1, r2⟩ := HCR.out x (List.mem_of_getElem? hlk)
      have HB := Lib.hid hb
      have HO := Lib.hid hown
      have HD := Lib.hid (letW_snoc hd.out hlk)
      generalize hle : letE1 x = le at *
      clear hcc hb hlk gl hown hle
      go_wp2_with (at_builtin; refine wpList_append_own _ rfl _ _ 31 rfl w.heap.size 2 i0 _ 1 8 Tryz.underlying31 hi hz0 hz1 hz2 rfl (by decide) _ _ _ rfl ((HO.out.alloc _).alloc _) ⟨wr.heap.size + 1, 0, none⟩ 1 1 [.int .i64 le] rfl rfl ?c1 ?c2 ?c3 ?c4 ?c5 ?_)
      case c1 => exact new_cells' _ _ (by simp)
      case c2 => intro u hu; simp at hu; subst hu; rfl
      case c3 => unfold maxLen; omega
      case c4 => omega
      case c5 => have := HB.out.size; simp; omega
      intro v' w2 hown2 hgrow2 _
      have HB1 := Lib.hid (below_append' ((HB.out.alloc HB.out.size _).alloc (by have := HB.out.size; simp; omega) _) (by have := HB.out.size; simp; omega) HO.out (by simp; omega) hgrow2)
      have HO1 : Hid (w2.ownsRow w.heap.size 2 1 v' (acc ++ [le]).length (vI (acc ++ [le]))) := by unfold Hid; rw [show vI (acc ++ [le]) = vI acc ++ [.int .i64 le] by simp [vI], List.length_append]; exact hown2
      clear hgrow2 hown2 HB HO
      go_wp2
      exact ⟨⟨k + 1, acc ++ [le], by omega, by go_num, HO1.out, by simp; omega, HD.out, HB1.out⟩, by simp [intOf]; omega⟩
    · have HB := Lib.hid hb
      have HO := Lib.hid hown
      have HD := Lib.hid (show Y = acc by rw [hd.out, List.drop_of_length_le (by have := hl.out; omega)]; simp [letW])
      clear hb hown hd gl
      go_wp2
      go_ret
      exact ⟨_, rfl, by rw [HD.out]; exact OwC.of_own HO.out, HB.out⟩

set_option maxHeartbeats 8000000 in
set_option maxRecDepth 100000 in
theorem implCross_any (n : Int) (v : Value) (l : List Ev) (w : World) (hl : RdE w w.heap.size v l) (hlen : l.length ≤ 1048576) :
    Calls Tryz.prog 9 #[.int .i64 n, v] w (GivesBrC w (crR n l) (crC n l)) := by
  obtain ⟨A, N, c, rfl, hln, hl', gl⟩ := hl
  have HL := Lib.hid (show RdE w w.heap.size (.slice A N c) l from ⟨A, N, c, rfl, hln, hl', gl⟩)
  have HLN := Lib.hid hl'.out
  clear hl' gl
  have BW := Lib.hid (show Below w.heap.size w ((w.alloc (.cells #[.int .i64 n] 2)).alloc (.cells #[.int .i64 0, .slice none 0 0] 33)) from ((Below.refl _ _).alloc (Nat.le_refl _) _).alloc (by simp) _)
  cases hs : inS n
  · have HN := Lib.hid (fun w' hb => GivesBrC.no (w := w) (w' := w') (crC_rng (l := l) hs) (by decide) hb)
    have HI := Lib.hid (show (decide (0 ≤ n) && decide (n ≤ 12)) = false from hs)
    clear hs
    go_enter Tryz.func9, Tryz.ntmps9
    go_wp2_with fail
    refine (isStrands_any n _).mono ?_
    rintro e w1 ⟨rfl, rfl⟩
    rw [HI.out]
    go_wp2
    refine bodyPost_ret (v := .tuple #[.agg #[.int .i64 0, .slice none 0 0], .int .i64 2]) (by simp [results, Tryz.results9, go_sem]) rfl (HN.out _ ?_)
    exact BW.out
  · have HI := Lib.hid (show (decide (0 ≤ n) && decide (n ≤ 12)) = true from hs)
    have hs' := hs
    unfold inS at hs'
    simp at hs'
    obtain ⟨h0, h1⟩ := hs'
    have hcn : ((w.alloc (.cells #[.int .i64 n] 2)).alloc (.cells #[.int .i64 0, .slice none 0 0] 33)).cell? ⟨w.heap.size, 0, none⟩ = some (.int .i64 n) := by simp [go_sem]
    have HQ := Lib.hid (crCont_any n h0 h1 w.heap.size _ l _ ((HL.out.below BW.out).more BW.out.size) hcn)
    have hsz : ((w.alloc (.cells #[.int .i64 n] 2)).alloc (.cells #[.int .i64 0, .slice none 0 0] 33)).heap.size = w.heap.size + 2 := by simp
    have hca : CellsAt ((w.alloc (.cells #[.int .i64 n] 2)).alloc (.cells #[.int .i64 0, .slice none 0 0] 33)) (w.heap.size + 1) 0 [.int .i64 0, .slice none 0 0] := by
      intro j u hu; rcases j with _ | _ | j <;> simp at hu <;> subst hu <;> simp [go_sem]
    have HCA := Lib.hid hca
    have HCN := Lib.hid hcn
    have HSZ := Lib.hid hsz
    clear hca hcn hsz
    cases hc : crossB n l
    · have HN := Lib.hid (fun w' hb => GivesBrC.no (w := w) (w' := w') (crC_bad (l := l) hs hc) (by decide) hb)
      rw [hc] at HQ
      clear hs hc
      go_enter Tryz.func9, Tryz.ntmps9
      go_wp2_with fail
      refine (isStrands_any n _).mono ?_
      rintro e w1 ⟨rfl, rfl⟩
      rw [HI.out]
      go_wp2_with fail
      refine HQ.out.mono ?_
      rintro e w1 ⟨rfl, hb⟩
      have hbc := bcell hb
      obtain ⟨y0, y1⟩ := (HCA.out.below hb (by rw [HSZ.out]; omega)).two
      have HB := Lib.hid (BW.out.trans (hb.mono BW.out.size))
      have hz1 : w.heap.size + 2 ≤ w1.heap.size := by have := hb.size; rw [HSZ.out] at this; exact this
      clear hb
      go_wp2
      refine bodyPost_ret (v := .tuple #[.agg #[.int .i64 0, .slice none 0 0], .int .i64 1]) (by simp [results, Tryz.results9, go_sem, y0, y1, World.cell?_setCell_other]) rfl (HN.out _ ?_)
      exact (HB.out.setCell (by simp) _).setCell (by simp) _
    · rw [hc] at HQ
      have HC1 := Lib.hid hc
      have HLV := Lib.hid (show RdE w w.heap.size (.slice A N c) l from HL.out)
      by_cases hx : 40 < N
      · have HN := Lib.hid (fun w' hb => GivesBrC.no (w := w) (w' := w') (crC_full (l := l) hs hc (by rw [HLN.out]; exact hx)) (by decide) hb)
        have hx' : (40 : Int) < (N : Int) := by omega
        clear hs hc
        go_enter Tryz.func9, Tryz.ntmps9
        go_wp2_with fail
        refine (isStrands_any n _).mono ?_
        rintro e w1 ⟨rfl, rfl⟩
        rw [HI.out]
        go_wp2_with fail
        refine HQ.out.mono ?_
        rintro e w1 ⟨rfl, hb⟩
        have hbc := bcell hb
        obtain ⟨y0, y1⟩ := (HCA.out.below hb (by rw [HSZ.out]; omega)).two
        have HB := Lib.hid (BW.out.trans (hb.mono BW.out.size))
        have hz1 : w.heap.size + 2 ≤ w1.heap.size := by have := hb.size; rw [HSZ.out] at this; exact this
        clear hb
        go_wp2
        refine bodyPost_ret (v := .tuple #[.agg #[.int .i64 0, .slice none 0 0], .int .i64 5]) (by simp [results, Tryz.results9, go_sem, y0, y1, World.cell?_setCell_other]) rfl (HN.out _ ?_)
        exact (HB.out.setCell (by simp) _).setCell (by simp) _
      · have HN := Lib.hid (crC_ok (l := l) hs hc (by rw [HLN.out]; exact hx))
        have hx' : ¬ (40 : Int) < (N : Int) := by omega
        clear hs hc
        go_enter Tryz.func9, Tryz.ntmps9
        go_wp2_with fail
        refine (isStrands_any n _).mono ?_
        rintro e w1 ⟨rfl, rfl⟩
        rw [HI.out]
        go_wp2_with fail
        refine HQ.out.mono ?_
        rintro e w1 ⟨rfl, hb⟩
        have hbc := bcell hb
        have HCA1 := Lib.hid (HCA.out.below hb (by rw [HSZ.out]; omega))
        have HCN1 := Lib.hid ((hb.cell (p := ⟨w.heap.size, 0, none⟩) (by rw [HSZ.out]; show w.heap.size < _; omega)).trans HCN.out)
        have HB := Lib.hid (BW.out.trans (hb.mono BW.out.size))
        have hz1 : w.heap.size + 2 ≤ w1.heap.size := by have := hb.size; rw [HSZ.out] at this; exact this
        have HFR := Lib.hid (show ∀ o, w1.frozen? ⟨w.heap.size + 1, o, none⟩ = false from fun o => by rw [hbc.2 _ _ (by rw [HSZ.out]; omega)]; simp [go_sem])
        have hn0 := HCN1.out
        clear hb hbc
        go_wp2
        go_region_with ((go_at_call 29; refine (lettersOf_any n _ l _ ((HLV.out.below HB.out.drew).more HB.out.drew.size) h1 HC1.out hlen).mono ?_; rintro e w2 ⟨v2, rfl, ho, hb2⟩; obtain ⟨A2, c2, rfl, -⟩ := ho.cells; have hb3 : Below w1.heap.size w1 w2 := (Below.refl w1.heap.size w1).drew.trans hb2; have hz2 : w.heap.size + 2 ≤ w2.heap.size := Nat.le_trans hz1 hb3.size; obtain ⟨y0, y1⟩ := (HCA1.out.below hb3 (by omega)).two; have hfr2 : ∀ o, w2.frozen? ⟨w.heap.size + 1, o, none⟩ = false := fun o => ((bcell hb3).2 _ _ (by omega)).trans (HFR.out o); have hn2 : w2.cell? ⟨w.heap.size, 0, none⟩ = some (.int .i64 n) := (hb3.cell (p := ⟨w.heap.size, 0, none⟩) (by show w.heap.size < w1.heap.size; omega)).trans HCN1.out))
        all_goals
          have HO := Lib.hid (ho.wide (show w.heap.size + 2 ≤ _ from hz1) (Nat.le_refl _))
          have HB2 := Lib.hid (HB.out.trans (hb3.mono HB.out.size))
          clear ho hb2 hb3 hn2
          go_wp2
          refine bodyPost_ret (v := .tuple #[.agg #[.int .i64 n, .slice A2 (letW l).length c2], .int .i64 0]) (by simp [results, Tryz.results9, go_sem, y0, y1, World.cell?_setCell_other]) rfl (GivesBrC.yes HN.out ?_ ?_)
          · have ho2 := HO.out.only (((Only.refl (w.heap.size + 1) (w.heap.size + 2) w2).setCell (p := ⟨w.heap.size + 1, 0, none⟩) (by simp) (by simp) (.int .i64 n)).setCell (p := ⟨w.heap.size + 1, 1, none⟩) (by simp) (by simp) (.slice A2 (letW l).length c2)) (.inr (by omega)) (Nat.le_refl _)
            exact ho2.wide (lo' := w.heap.size) (by omega) (by simp [World.setCell])
          · exact (HB2.out.setCell (by simp) _).setCell (by simp) _

end Go.Proofs.YtgkapjjolhnliaaGreatDoor
