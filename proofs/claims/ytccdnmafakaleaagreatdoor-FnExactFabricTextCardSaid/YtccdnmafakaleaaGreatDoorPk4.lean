/-
  Texts joined: Count, Let, Bks0, Bld, Red.
-/
import Derived.Test.YtccdnmafakaleaaGreatDoorL10e
import Derived.Test.YtccdnmafakaleaaGreatDoorCntI
import Derived.Test.YtccdnmafakaleaaGreatDoorPk3
import Derived.Test.YtccdnmafakaleaaGreatDoorWords
import Derived.Test.YtccdnmafakaleaaGreatDoorPk2
import Derived.Test.YtccdnmafakaleaaGreatDoorSpot
/-
  l10Count; ValidEvents and StrandsOf of program and reference.
-/
namespace Go.Proofs.YtccdnmafakaleaaGreatDoor
set_option linter.unusedVariables false
set_option linter.unusedSimpArgs false
open Go.RowKit

set_option maxHeartbeats 4000000 in
set_option maxRecDepth 100000 in
theorem l10Count_any (v : Value) (l : List Ev) (w : World) (B : Nat) (hl : RdE w B v l) (hB : B ≤ w.heap.size) :
    Calls Tryz.prog 9 #[v] w fun e w' => e = .returned (.tuple #[.int .i64 ((cntE 0 l).getD 0), .bool (okEvs l)]) ∧ Below w.heap.size w w' := by
  obtain ⟨A, n, c, rfl, hln, hl, gl⟩ := hl
  have hok : okEvs l = ((cntE 0 l).isSome && decide ((n : Int) ≤ 2000)) := by unfold okEvs; rw [hl.out, Bool.eq_iff_iff]; simp; omega
  rw [hok]
  clear hok
  generalize hR : cntE 0 l = R
  have HR := Lib.hid hR
  clear hR
  go_enter Tryz.func9, Tryz.ntmps9
  go_wp2
  go_loopw [4, 5] (fun t i wr => ∃ (k : Nat) (m : Int), k ≤ n ∧ i = .int .i64 k ∧ t = .int .i64 m ∧ 0 ≤ m ∧ m ≤ 12 ∧ Hid (cntE 0 l = cntE m (l.drop k)) ∧ Below w.heap.size w wr) (fun _ i _ => n - (intOf i).toNat)
  case atStart => exact ⟨0, 0, Nat.zero_le _, rfl, rfl, by omega, by omega, rfl, Below.refl _ _⟩
  case round =>
    rename_i wr
    obtain ⟨k, m, hk, rfl, rfl, m0, m1, hd, hb⟩ := hrel
    by_cases hlt : k < n
    · obtain ⟨b, off, x, rfl, hbb, hlk, hc⟩ := gl k hlt
      have HC := Lib.hid (hc.below hb (Nat.lt_of_lt_of_le hbb hB))
      have HB := Lib.hid hb
      have Hl := Lib.hid hlk
      clear hc hb hlk gl
      rcases hv : valE m x
      · have HV := Lib.hid hv
        clear hv
        have HN := Lib.hid (HR.out.symm.trans (drop_cnt_no hd.out Hl.out (by rw [HV.out]; simp)))
        go_wp2_with fail
        refine (l10Event_any x m m0 m1 _ _ _ HC.out).mono ?_
        rintro e w1 ⟨q, rfl, hq, hb1⟩
        rw [HV.out]
        have HB1 := Lib.hid (HB.out.trans (hb1.mono HB.out.size))
        clear hb1 hq
        go_wp2
        go_ret2
        exact ⟨by rw [HN.out]; rfl, HB1.out⟩
      · have HV := Lib.hid hv
        clear hv
        obtain ⟨a0, a1⟩ := aft_bounds m0 m1 HV.out
        by_cases ha : aftE m x ≤ 12
        · have HD := Lib.hid (drop_cnt_yes hd.out Hl.out HV.out ha)
          go_wp2_with fail
          refine (l10Event_any x m m0 m1 _ _ _ HC.out).mono ?_
          rintro e w1 ⟨q, rfl, hq, hb1⟩
          rw [HV.out]
          obtain rfl := hq HV.out
          have HB1 := Lib.hid (HB.out.trans (hb1.mono HB.out.size))
          clear hb1 hq
          go_wp2
          exact ⟨⟨k + 1, _, by omega, by go_num, rfl, a0, ha, HD.out, HB1.out⟩, by simp [intOf]; omega⟩
        · have HN := Lib.hid (HR.out.symm.trans (drop_cnt_no hd.out Hl.out (fun h => ha h.2)))
          go_wp2_with fail
          refine (l10Event_any x m m0 m1 _ _ _ HC.out).mono ?_
          rintro e w1 ⟨q, rfl, hq, hb1⟩
          rw [HV.out]
          obtain rfl := hq HV.out
          have HB1 := Lib.hid (HB.out.trans (hb1.mono HB.out.size))
          clear hb1 hq
          go_wp2
          go_ret2
          exact ⟨by rw [HN.out]; rfl, HB1.out⟩
    · have HB := Lib.hid hb
      have HN := Lib.hid (show R = some m by rw [← HR.out, hd.out, List.drop_of_length_le (by have := hl.out; omega)]; rfl)
      clear hb gl
      go_wp2
      go_ret2
      exact ⟨by rw [HN.out]; rfl, HB.out⟩



end Go.Proofs.YtccdnmafakaleaaGreatDoor

/-
  Crossings as letters; what the counting of events says of each (plain).
-/
namespace Go.Proofs.YtccdnmafakaleaaGreatDoor
set_option linter.unusedVariables false
set_option linter.unusedSimpArgs false
open Go.RowKit

/-- The letter of a crossing. -/
def letX (e : Ev) : Int := e.c * (e.p + 1)
theorem LetsN.snoc {n : Nat} {w : List Int} {x : Int} (h : LetsN n w) (hx : Ltr n x) : LetsN n (w ++ [x]) := fun y hy => (List.mem_append.1 hy).elim (h y) (fun e => by simp at e; exact e ▸ hx)
theorem LetsN.nil (n : Nat) : LetsN n [] := fun y hy => by simp at hy
theorem letE_ltr {n : Int} {x : Ev} (h1 : n ≤ 12) (h : valE n x = true) (hk : x.k = 1) : Ltr n.toNat (letX x) ∧ 0 ≤ x.p ∧ x.p ≤ 10 ∧ (x.c = 1 ∨ x.c = -1) := by
  unfold valE at h
  simp [hk] at h
  obtain ⟨h2, h3, h4, h5⟩ := h
  refine ⟨?_, h2, by omega, h4⟩
  unfold letX
  rcases h4 with h4 | h4 <;> rw [h4] <;> constructor <;> omega
theorem letX_rng {n : Int} {e : Ev} (h1 : n ≤ 12) (h : valE n e = true) (hk : e.k = 1) : IntKind.i64.wrap (e.p + 1) = e.p + 1 ∧ IntKind.i64.wrap (e.c * (e.p + 1)) = letX e := by
  obtain ⟨h2, h3, h4, h5⟩ := letE_ltr h1 h hk
  unfold letX
  refine ⟨IntWalk.i64_in _ (by omega), ?_⟩
  rcases h5 with h5 | h5 <;> rw [h5] <;> exact IntWalk.i64_in _ (by omega)
/-- Where the counting goes through, the next event is valid. -/
theorem cnt_at {l : List Ev} {k : Nat} {m : Int} {x : Ev} (h : (cntE m (l.drop k)).isSome = true) (hx : l[k]? = some x) : valE m x = true ∧ aftE m x ≤ 12 ∧ (cntE (aftE m x) (l.drop (k + 1))).isSome = true := by
  rw [drop_of_get hx, cntE] at h
  by_cases hv : valE m x = true ∧ aftE m x ≤ 12
  · rw [if_pos hv] at h
    exact ⟨hv.1, hv.2, h⟩
  · rw [if_neg hv] at h
    simp at h
theorem okEvs_cnt' {l : List Ev} (h : okEvs l = true) : (cntE 0 (l.drop 0)).isSome = true ∧ l.length ≤ 2000 := by
  unfold okEvs at h
  simp at h
  exact ⟨by simpa using h.1, h.2⟩

end Go.Proofs.YtccdnmafakaleaaGreatDoor

/-
  The blocks of events: the plain law.
-/
namespace Go.Proofs.YtccdnmafakaleaaGreatDoor
set_option linter.unusedVariables false
set_option linter.unusedSimpArgs false
open Go.RowKit

/-! ### Words without letters that cancel -/
def redS (w : List Int) (x : Int) : List Int := if w.getLast? = some (-x) then w.dropLast else w ++ [x]
def red (w : List Int) : List Int := w.foldl redS []
theorem red_snoc (w : List Int) (x : Int) : red (w ++ [x]) = redS (red w) x := by simp [red, List.foldl_append]
theorem redS_len (w : List Int) (x : Int) : (redS w x).length ≤ w.length + 1 := by
  unfold redS
  split
  · simp; omega
  · simp
theorem red_len (w : List Int) : (red w).length ≤ w.length := by
  suffices h : ∀ (l acc : List Int), (l.foldl redS acc).length ≤ acc.length + l.length by simpa [red] using h w []
  intro l
  induction l with
  | nil => intro acc; simp
  | cons x t ih => intro acc; rw [List.foldl_cons]; have := ih (redS acc x); have := redS_len acc x; simp only [List.length_cons]; omega
theorem redS_mem {w : List Int} {x y : Int} (h : y ∈ redS w x) : y ∈ w ∨ y = x := by
  unfold redS at h
  split at h
  · exact .inl (List.dropLast_subset _ h)
  · simpa using h
theorem red_mem {w : List Int} {y : Int} (h : y ∈ red w) : y ∈ w := by
  suffices hh : ∀ (l acc : List Int), y ∈ l.foldl redS acc → y ∈ acc ∨ y ∈ l by simpa using hh w [] h
  intro l
  induction l with
  | nil => intro acc h; exact .inl h
  | cons x t ih =>
    intro acc h
    rcases ih _ h with h1 | h1
    · rcases redS_mem h1 with h2 | h2
      · exact .inl h2
      · exact .inr (by simp [h2])
    · exact .inr (by simp [h1])
theorem red_init {w : List Int} {y : Int} (h : red (w ++ [y]) = w ++ [y]) : red w = w := by
  rw [red_snoc] at h
  have hl := red_len w
  unfold redS at h
  split at h
  · have := congrArg List.length h
    simp at this
    omega
  · exact (List.append_inj' h rfl).1
theorem red_step {w : List Int} (h : red w = w) (x : Int) : red (w ++ [x]) = redS w x ∧ red (redS w x) = redS w x := by
  have h1 : red (w ++ [x]) = redS w x := by rw [red_snoc, h]
  refine ⟨h1, ?_⟩
  unfold redS
  split
  · rename_i hl
    obtain ⟨y, rfl⟩ : ∃ y, w = y ++ [-x] := by
      exact List.getLast?_eq_some_iff.1 hl
    rw [List.dropLast_concat]
    exact red_init h
  · rename_i hl
    rw [red_snoc, h]
    unfold redS
    rw [if_neg hl]

/-! ### Blocks -/
/-- A stitch behind the last block. -/
def addE (o : List Bk) (e : Ev) : List Bk := o.modify (o.length - 1) fun x => ⟨x.b, x.e ++ [e]⟩
theorem addE_len (o : List Bk) (e : Ev) : (addE o e).length = o.length := by simp [addE]
theorem addE_get (o : List Bk) (e : Ev) (k : Nat) : (addE o e)[k]? = if k = o.length - 1 then o[k]?.map (fun x => ⟨x.b, x.e ++ [e]⟩) else o[k]? := by
  unfold addE
  rw [List.getElem?_modify]
  by_cases h : k = o.length - 1
  · rw [if_pos h, h]; simp
  · have h2 : ¬ o.length - 1 = k := fun e => h e.symm
    simp [h, h2]
/-- The braid of a word closes. -/
noncomputable def clB (n : Int) (word : List Int) (o : List Bk) : Option (List Bk) :=
  if 40 < word.length then none else if eqW n.toNat word [] = true then some o else some (o ++ [⟨⟨n, word⟩, []⟩])
noncomputable def bkGo : Int → List Int → List Bk → List Ev → Option (List Bk)
  | n, word, o, [] => clB n word o
  | n, word, o, e :: l => if e.k = 1 then bkGo n (redS word (letX e)) o l else match clB n word o with
    | none => none
    | some o' => bkGo (aftE n e) [] (addE o' e) l
/-- The blocks of events; none where there are too many. -/
noncomputable def bkO (l : List Ev) : Option (List Bk) := match bkGo 0 [] [⟨⟨0, []⟩, []⟩] l with
  | none => none
  | some o => if o.length ≤ 60 then some o else none
noncomputable def bksL (l : List Ev) : List Bk := (bkO l).getD []
noncomputable def bksC (l : List Ev) : Int := if (bkO l).isSome = true then 0 else 5
theorem bks_none {l : List Ev} (h : bkO l = none) : bksL l = [] ∧ bksC l = 5 := by simp [bksL, bksC, h]
theorem bks_some {l : List Ev} {o : List Bk} (h : bkO l = some o) : bksL l = o ∧ bksC l = 0 := by simp [bksL, bksC, h]
theorem eqW_nil (n : Nat) : eqW n [] [] = true := by rw [eqW_iff]
theorem clB_nil (n : Int) (o : List Bk) : clB n [] o = some o := by simp [clB, eqW_nil]
theorem clB_full {n : Int} {word : List Int} {o : List Bk} (h : 40 < word.length) : clB n word o = none := by simp [clB, h]
theorem clB_triv {n : Int} {word : List Int} {o : List Bk} (h : ¬ 40 < word.length) (he : eqW n.toNat word [] = true) : clB n word o = some o := by simp [clB, h, he]
theorem clB_push {n : Int} {word : List Int} {o : List Bk} (h : ¬ 40 < word.length) (he : eqW n.toNat word [] = false) : clB n word o = some (o ++ [⟨⟨n, word⟩, []⟩]) := by simp [clB, h, he]
theorem clB_len {n : Int} {word : List Int} {o o' : List Bk} (h : clB n word o = some o') : o.length ≤ o'.length := by
  unfold clB at h
  split at h
  · cases h
  · split at h <;> injection h with h <;> subst h <;> simp
theorem bkGo_len : ∀ {l : List Ev} {n : Int} {word : List Int} {o o' : List Bk}, bkGo n word o l = some o' → o.length ≤ o'.length
  | [], n, word, o, o', h => clB_len h
  | e :: l, n, word, o, o', h => by
    rw [bkGo] at h
    split at h
    · exact bkGo_len h
    · split at h
      · cases h
      · rename_i o2 ho
        have h1 := bkGo_len h
        rw [addE_len] at h1
        exact Nat.le_trans (clB_len ho) h1
/-- How the walk goes on. -/
theorem bk_cross {R : Option (List Bk)} {n : Int} {word : List Int} {o : List Bk} {l : List Ev} {k : Nat} {e : Ev} (h : R = bkGo n word o (l.drop k)) (he : l[k]? = some e) (hk : e.k = 1) : R = bkGo n (redS word (letX e)) o (l.drop (k + 1)) := by
  rw [h, drop_of_get he, bkGo, if_pos hk]
theorem bk_none {R : Option (List Bk)} {n : Int} {word : List Int} {o : List Bk} {l : List Ev} {k : Nat} (h : R = bkGo n word o (l.drop k)) (hk : ∀ e, l[k]? = some e → e.k ≠ 1) (hc : clB n word o = none) : R = none := by
  by_cases hl : k < l.length
  · have he := List.getElem?_eq_getElem hl
    rw [h, drop_of_get he, bkGo, if_neg (hk _ he), hc]
  · rw [h, List.drop_of_length_le (by omega), bkGo, hc]
theorem bk_some {R : Option (List Bk)} {n : Int} {word : List Int} {o o' : List Bk} {l : List Ev} {k : Nat} {e : Ev} (h : R = bkGo n word o (l.drop k)) (he : l[k]? = some e) (hk : e.k ≠ 1) (hc : clB n word o = some o') : R = bkGo (aftE n e) [] (addE o' e) (l.drop (k + 1)) := by
  rw [h, drop_of_get he, bkGo, if_neg hk, hc]
theorem bk_end {R : Option (List Bk)} {n : Int} {word : List Int} {o : List Bk} {l : List Ev} {k : Nat} (h : R = bkGo n word o (l.drop k)) (hk : l.length ≤ k) : R = clB n word o := by
  rw [h, List.drop_of_length_le hk, bkGo]
/-- Too many blocks already. -/
theorem bkO_many {l : List Ev} {n : Int} {word : List Int} {o : List Bk} {k : Nat} {R : Option (List Bk)} (hR : bkGo 0 [] [⟨⟨0, []⟩, []⟩] l = R) (h : R = bkGo n word o (l.drop k)) (hl : 60 < o.length) : bkO l = none := by
  unfold bkO
  rw [hR]
  cases hr : R with
  | none => rfl
  | some o' =>
    rw [hr] at h
    have := bkGo_len h.symm
    show (if o'.length ≤ 60 then some o' else none) = none
    rw [if_neg (by omega)]
theorem bkO_none {l : List Ev} {R : Option (List Bk)} (hR : bkGo 0 [] [⟨⟨0, []⟩, []⟩] l = R) (h : R = none) : bkO l = none := by
  unfold bkO
  rw [hR, h]
theorem bkO_some {l : List Ev} {R : Option (List Bk)} {o : List Bk} (hR : bkGo 0 [] [⟨⟨0, []⟩, []⟩] l = R) (h : R = some o) (ho : o.length ≤ 60) : bkO l = some o := by
  unfold bkO
  rw [hR, h]
  exact if_pos ho
theorem clB_elen {n : Int} {word : List Int} {o o' : List Bk} {m : Nat} (h : clB n word o = some o') (he : ∀ x ∈ o, x.e.length ≤ m) : ∀ x ∈ o', x.e.length ≤ m := by
  unfold clB at h
  split at h
  · cases h
  · split at h <;> injection h with h <;> subst h
    · exact he
    · intro x hx
      rcases List.mem_append.1 hx with h1 | h1
      · exact he x h1
      · simp at h1; subst h1; simp
theorem addE_elen {o : List Bk} {m : Nat} {e : Ev} (h : ∀ x ∈ o, x.e.length ≤ m) : ∀ x ∈ addE o e, x.e.length ≤ m + 1 := by
  intro x hx
  obtain ⟨k, hk⟩ := List.getElem?_of_mem hx
  rw [addE_get] at hk
  split at hk
  · obtain ⟨y, hy, rfl⟩ := Option.map_eq_some_iff.1 hk
    have := h y (List.mem_of_getElem? hy)
    simp; omega
  · have := h x (List.mem_of_getElem? hk); omega
/-- What stands of a block while the events are read. -/
structure GoodB (m : Nat) (x : Bk) : Prop where
  n0 : 0 ≤ x.b.n
  n1 : x.b.n ≤ 12
  lets : LetsN x.b.n.toNat x.b.w
  wl : x.b.w.length ≤ 40
  el : x.e.length ≤ m
theorem GoodB.more {m m' : Nat} {x : Bk} (h : GoodB m x) (hm : m ≤ m') : GoodB m' x := ⟨h.n0, h.n1, h.lets, h.wl, by have := h.el; omega⟩
theorem good_cl {m : Nat} {n : Int} {word : List Int} {o o' : List Bk} (h : ∀ x ∈ o, GoodB m x) (n0 : 0 ≤ n) (n1 : n ≤ 12) (hw : LetsN n.toNat word) (hc : clB n word o = some o') : ∀ x ∈ o', GoodB m x := by
  unfold clB at hc
  split at hc
  · cases hc
  · split at hc <;> injection hc with hc <;> subst hc
    · exact h
    · intro x hx
      rcases List.mem_append.1 hx with h1 | h1
      · exact h x h1
      · simp at h1; subst h1; exact ⟨n0, n1, hw, by simp; omega, by simp⟩
theorem good_add {m : Nat} {o : List Bk} {e : Ev} (h : ∀ x ∈ o, GoodB m x) : ∀ x ∈ addE o e, GoodB (m + 1) x := by
  intro x hx
  obtain ⟨k, hk⟩ := List.getElem?_of_mem hx
  rw [addE_get] at hk
  split at hk
  · obtain ⟨y, hy, rfl⟩ := Option.map_eq_some_iff.1 hk
    have h1 := h y (List.mem_of_getElem? hy)
    exact ⟨h1.n0, h1.n1, h1.lets, h1.wl, by have := h1.el; simp; omega⟩
  · exact (h x (List.mem_of_getElem? hk)).more (by omega)
theorem LetsN.redS {n : Nat} {w : List Int} {x : Int} (h : LetsN n w) (hx : Ltr n x) : LetsN n (redS w x) := fun y hy => (redS_mem hy).elim (h y) (fun e => e ▸ hx)
theorem LetsN.red {n : Nat} {w : List Int} (h : LetsN n w) : LetsN n (red w) := fun y hy => h y (red_mem hy)

/-! ### Valid events -/
/-- What the blocks of valid events are. -/
theorem good_go : ∀ {l : List Ev} {n : Int} {word : List Int} {o o' : List Bk} {m : Nat}, (cntE n l).isSome = true → 0 ≤ n → n ≤ 12 → LetsN n.toNat word → (∀ x ∈ o, GoodB m x) → bkGo n word o l = some o' → (∀ x ∈ o', GoodB (m + l.length) x) ∧ o'.length ≤ o.length + l.length + 1
  | [], n, word, o, o', m, hc, n0, n1, hw, hg, h => by
    refine ⟨fun x hx => by simpa using good_cl hg n0 n1 hw h x hx, ?_⟩
    rw [bkGo] at h
    unfold clB at h
    split at h
    · cases h
    · split at h <;> injection h with h <;> subst h <;> simp
  | e :: l, n, word, o, o', m, hc, n0, n1, hw, hg, h => by
    obtain ⟨hv, ha, hc'⟩ := cnt_at (l := e :: l) (k := 0) (x := e) (by simpa using hc) (by simp)
    rw [bkGo] at h
    split at h
    · rename_i hk
      obtain ⟨h1, h2⟩ := good_go (m := m) (by have e1 : aftE n e = n := (by simp [aftE, hk]); rw [e1] at hc'; simpa using hc') n0 n1 (hw.redS (letE_ltr n1 hv hk).1) hg h
      exact ⟨fun x hx => (h1 x hx).more (by rw [List.length_cons]; omega), by simp only [List.length_cons]; omega⟩
    · split at h
      · cases h
      · rename_i o2 ho
        have hb := aft_bounds n0 n1 hv
        obtain ⟨h1, h2⟩ := good_go (m := m + 1) (by simpa using hc') hb.1 ha (LetsN.nil _) (good_add (good_cl hg n0 n1 hw ho)) h
        have hl : o2.length ≤ o.length + 1 := by
          unfold clB at ho
          split at ho
          · cases ho
          · split at ho <;> injection ho with ho <;> subst ho <;> simp
        rw [addE_len] at h2
        exact ⟨fun x hx => (h1 x hx).more (by simp; omega), by simp only [List.length_cons]; omega⟩
theorem good_bks {l : List Ev} {o : List Bk} (h : okEvs l = true) (ho : bkO l = some o) : (∀ x ∈ o, GoodB 2000 x) ∧ o.length ≤ 60 := by
  obtain ⟨h1, h2⟩ := okEvs_cnt' h
  unfold bkO at ho
  cases hr : bkGo 0 [] [⟨⟨0, []⟩, []⟩] l with
  | none => rw [hr] at ho; cases ho
  | some o2 =>
    rw [hr] at ho
    have ho' : (if o2.length ≤ 60 then some o2 else none) = some o := ho
    split at ho'
    · injection ho' with ho'
      subst ho'
      refine ⟨fun x hx => ((good_go (m := 0) (by simpa using h1) (by omega) (by omega) (LetsN.nil _) (fun y hy => ?_) hr).1 x hx).more (by omega), by assumption⟩
      simp at hy
      subst hy
      exact ⟨by simp, by simp, LetsN.nil _, by simp, by simp⟩
    · cases ho'

end Go.Proofs.YtccdnmafakaleaaGreatDoor

/-
  Blocks while they are built: the row of blocks, each block's word and stitches, and the next word, each a row of the call's own.
-/
namespace Go.Proofs.YtccdnmafakaleaaGreatDoor
set_option linter.unusedVariables false
set_option linter.unusedSimpArgs false
open Go.RowKit

theorem vI_snoc' (l : List Int) (x : Int) : vI (l ++ [x]) = vI l ++ [.int .i64 x] := by simp [vI]
theorem vE_snoc' (l : List Ev) (x : Ev) : vE (l ++ [x]) = vE l ++ x.cells := by simp [vS]

abbrev spE (v : Value) (l : List Ev) : Spot := ⟨45, 6, v, l.length, vE l⟩
abbrev spB (v : Value) (n : Nat) (xs : List Value) : Spot := ⟨41, 3, v, n, xs⟩
structure Bld (L : Spot) (w : World) (B : Nat) (v u : Value) (H : List Bk) (word : List Int) (S : Nat → Spot) (xs : List Value) : Prop where
  sp : Spots w B (2 * H.length + 3) S
  s0 : S 0 = spB v H.length xs
  s1 : S 1 = L
  sx : ∀ k x, H[k]? = some x → xs[k * 3]? = some (.int .i64 x.b.n) ∧ xs[k * 3 + 1]? = some (S (2 * k + 2)).v ∧ xs[k * 3 + 2]? = some (S (2 * k + 3)).v
  sw : ∀ k x, H[k]? = some x → ∃ s, S (2 * k + 2) = spI s x.b.w
  st : ∀ k x, H[k]? = some x → ∃ t, S (2 * k + 3) = spE t x.e
  sl : S (2 * H.length + 2) = spI u word
section
variable {L : Spot} {w w' : World} {B : Nat} {v u : Value} {H : List Bk} {word : List Int} {S : Nat → Spot} {xs : List Value}
theorem Bld.below (h : Bld L w B v u H word S xs) (hb : Below w.heap.size w w') : Bld L w' B v u H word S xs := ⟨h.sp.below hb, h.s0, h.s1, h.sx, h.sw, h.st, h.sl⟩
theorem Bld.alloc (h : Bld L w B v u H word S xs) (o : Obj) : Bld L (w.alloc o) B v u H word S xs := h.below ((Below.refl _ _).alloc (Nat.le_refl _) o)
theorem Bld.drew (h : Bld L w B v u H word S xs) : Bld L w.drew B v u H word S xs := ⟨h.sp.drew, h.s0, h.s1, h.sx, h.sw, h.st, h.sl⟩
theorem Bld.far (h : Bld L w B v u H word S xs) {p : Addr} (hp : p.block < B) (x : Value) : Bld L (w.setCell p x) B v u H word S xs := ⟨h.sp.far hp x, h.s0, h.s1, h.sx, h.sw, h.st, h.sl⟩
theorem Bld.wordRow (h : Bld L w B v u H word S xs) : w.ownsRow B 2 1 u word.length (vI word) := by
  have := h.sp.own (2 * H.length + 2) (by omega)
  rw [h.sl] at this
  exact this
theorem Bld.row (h : Bld L w B v u H word S xs) : w.ownsRow B 41 3 v H.length xs := by
  have := h.sp.own 0 (by omega)
  rw [h.s0] at this
  exact this
/-- The next word's row has changed or is another. -/
theorem Bld.setWord {S' : Nat → Spot} {u' : Value} {word' : List Int} (h : Bld L w B v u H word S xs) (h' : Spots w' B (2 * H.length + 3) (putS S (2 * H.length + 2) (spI u' word'))) : Bld L w' B v u' H word' (putS S (2 * H.length + 2) (spI u' word')) xs := by
  refine ⟨h', ?_, ?_, fun k x hx => ?_, fun k x hx => ?_, fun k x hx => ?_, putS_same _ _ _⟩
  · rw [putS_ne (by omega)]; exact h.s0
  · rw [putS_ne (by omega)]; exact h.s1
  · have hk := (List.getElem?_eq_some_iff.1 hx).1
    rw [putS_ne (by omega), putS_ne (by omega)]
    exact h.sx k x hx
  · have hk := (List.getElem?_eq_some_iff.1 hx).1
    rw [putS_ne (by omega)]
    exact h.sw k x hx
  · have hk := (List.getElem?_eq_some_iff.1 hx).1
    rw [putS_ne (by omega)]
    exact h.st k x hx
/-- A letter more. -/
theorem Bld.letter {u' : Value} {x : Int} (h : Bld L w B v u H word S xs) (hown : w'.ownsRow B 2 1 u' (word.length + 1) (vI word ++ [.int .i64 x])) (hg : w.grownBy w' u.ownBlock) (hat : u'.ownBlock = u.ownBlock ∨ u'.ownBlock = some w.heap.size) :
    ∃ S', Bld L w' B v u' H (word ++ [x]) S' xs := by
  have hv : (S (2 * H.length + 2)).v = u := by rw [h.sl]
  exact ⟨_, h.setWord (S' := S) (h.sp.app (by omega) (spI u' (word ++ [x])) (by show w'.ownsRow B 2 1 u' (word ++ [x]).length (vI (word ++ [x])); rw [List.length_append, vI_snoc']; exact hown) (by rw [hv]; exact hg) (by rw [hv]; exact hat))⟩
/-- Another word. -/
theorem Bld.newWord {u' : Value} {word' : List Int} (h : Bld L w B v u H word S xs) (hB : B ≤ w.heap.size) (hb : Below w.heap.size w w') (hown : w'.ownsRow w.heap.size 2 1 u' word'.length (vI word')) : ∃ S', Bld L w' B v u' H word' S' xs :=
  ⟨_, h.setWord (S' := S) (h.sp.putNew hb _ (spI u' word') hown hB)⟩
theorem Bld.noWord (h : Bld L w B v u H word S xs) : ∃ S', Bld L w B v (.slice none 0 0) H [] S' xs :=
  ⟨_, h.setWord (S' := S) (h.sp.putNone _ _ _)⟩
/-- A block more: the word moves into it. -/
theorem Bld.push {v' : Value} {n : Int} (h : Bld L w B v u H word S xs) (hown : w'.ownsRow B 41 3 v' (H.length + 1) (xs ++ [.int .i64 n, u, .slice none 0 0])) (hg : w.grownBy w' v.ownBlock) (hat : v'.ownBlock = v.ownBlock ∨ v'.ownBlock = some w.heap.size) :
    ∃ S', Bld L w' B v' (.slice none 0 0) (H ++ [⟨⟨n, word⟩, []⟩]) [] S' (xs ++ [.int .i64 n, u, .slice none 0 0]) := by
  have hv : (S 0).v = v := by rw [h.s0]
  have hxl : xs.length = H.length * 3 := h.row.1
  have h1 := h.sp.app (p := 0) (by omega) (spB v' (H.length + 1) (xs ++ [.int .i64 n, u, .slice none 0 0])) hown (by rw [hv]; exact hg) (by rw [hv]; exact hat)
  have h2 := (h1.addNone 45 6).addNone 2 1
  refine ⟨_, by simpa [Nat.mul_add] using h2, ?_, ?_, fun k x hx => ?_, fun k x hx => ?_, fun k x hx => ?_, ?_⟩
  · rw [putS_ne (by omega), putS_ne (by omega), putS_same]; simp
  · rw [putS_ne (by omega), putS_ne (by omega), putS_ne (by omega)]; exact h.s1
  · by_cases hk : k < H.length
    · rw [List.getElem?_append_left hk] at hx
      obtain ⟨h4, h5, h6⟩ := h.sx k x hx
      rw [List.getElem?_append_left (by omega), List.getElem?_append_left (by omega), List.getElem?_append_left (by omega), putS_ne (by omega), putS_ne (by omega), putS_ne (by omega), putS_ne (by omega), putS_ne (by omega), putS_ne (by omega)]
      exact ⟨h4, h5, h6⟩
    · have hk2 : k = H.length := by have := (List.getElem?_eq_some_iff.1 hx).1; simp at this; omega
      subst hk2
      rw [List.getElem?_append_right (Nat.le_refl _), Nat.sub_self] at hx
      injection hx with hx
      subst hx
      rw [List.getElem?_append_right (by omega), List.getElem?_append_right (by omega), List.getElem?_append_right (by omega), putS_ne (by omega), putS_ne (by omega), putS_ne (by omega), putS_ne (by omega), putS_same, h.sl, hxl, Nat.sub_self, show H.length * 3 + 1 - H.length * 3 = 1 by omega, show H.length * 3 + 2 - H.length * 3 = 2 by omega]
      exact ⟨rfl, rfl, rfl⟩
  · by_cases hk : k < H.length
    · rw [List.getElem?_append_left hk] at hx
      rw [putS_ne (by omega), putS_ne (by omega), putS_ne (by omega)]
      exact h.sw k x hx
    · have hk2 : k = H.length := by have := (List.getElem?_eq_some_iff.1 hx).1; simp at this; omega
      subst hk2
      rw [List.getElem?_append_right (Nat.le_refl _), Nat.sub_self] at hx
      injection hx with hx
      subst hx
      rw [putS_ne (by omega), putS_ne (by omega), putS_ne (by omega)]
      exact ⟨u, h.sl⟩
  · by_cases hk : k < H.length
    · rw [List.getElem?_append_left hk] at hx
      rw [putS_ne (by omega), putS_ne (by omega), putS_ne (by omega)]
      exact h.st k x hx
    · have hk2 : k = H.length := by have := (List.getElem?_eq_some_iff.1 hx).1; simp at this; omega
      subst hk2
      rw [List.getElem?_append_right (Nat.le_refl _), Nat.sub_self] at hx
      injection hx with hx
      subst hx
      rw [putS_ne (by omega), putS_same]
      exact ⟨_, rfl⟩
  · rw [show 2 * (H ++ [⟨⟨n, word⟩, []⟩] : List Bk).length + 2 = 2 * H.length + 3 + 1 by simp; omega, putS_same]
    rfl
/-- The last block: where its stitches' header lies and which rows these are. -/
theorem Bld.last (h : Bld L w B v u H word S xs) (hl : 0 < H.length) : ∃ g cap x t, v = .slice (some ⟨g, 0, none⟩) H.length cap ∧ B ≤ g ∧ g < w.heap.size ∧ H[H.length - 1]? = some x ∧ S (2 * (H.length - 1) + 3) = spE t x.e ∧
    w.ownsRow B 45 6 t x.e.length (vE x.e) ∧ w.cell? ⟨g, (H.length - 1) * 3 + 2, none⟩ = some t ∧ (∀ i, w.frozen? ⟨g, i, none⟩ = false) ∧ t.ownBlock ≠ some g ∧ H.length ≤ cap := by
  obtain ⟨x, hx⟩ : ∃ x, H[H.length - 1]? = some x := ⟨_, List.getElem?_eq_getElem (by omega)⟩
  obtain ⟨t, ht⟩ := h.st _ x hx
  have hrow := h.row
  rcases hrow.2 with ⟨-, h0⟩ | ⟨g, cap, cur, rfl, hb, hh, hn, hc, hs, hxs⟩
  · omega
  · have ho := h.sp.own (2 * (H.length - 1) + 3) (by omega)
    rw [ht] at ho
    refine ⟨g, cap, x, t, rfl, hb, (Array.getElem?_eq_some_iff.1 hh).1, hx, ht, ho, ?_, fun i => frozen_of_row w g i cur _ hh, fun e => ?_, hn⟩
    · obtain ⟨-, -, h3⟩ := h.sx _ x hx
      rw [ht] at h3
      rw [cell_of_row w g _ cur _ (0, 0) hh, ← Array.getElem?_toList, ← h3, ← hxs, List.getElem?_take, if_pos (by omega)]
    · refine h.sp.dis 0 (2 * (H.length - 1) + 3) g (by omega) (by omega) (by omega) ?_ ?_
      · rw [h.s0]; rfl
      · rw [ht]; exact e
/-- A stitch more. -/
theorem Bld.stitch {g cap : Nat} {t t' : Value} {x : Bk} {e : Ev} (h : Bld L w B (.slice (some ⟨g, 0, none⟩) H.length cap) u H word S xs) (hl : 0 < H.length) (hx : H[H.length - 1]? = some x) (ht : S (2 * (H.length - 1) + 3) = spE t x.e) (hown : w'.ownsRow B 45 6 t' (x.e.length + 1) (vE x.e ++ e.cells)) (hg : w.grownBy w' t.ownBlock) (hat : t'.ownBlock = t.ownBlock ∨ t'.ownBlock = some w.heap.size) :
    ∃ S' xs', Bld L (w'.setCell ⟨g, (H.length - 1) * 3 + 2, none⟩ t') B (.slice (some ⟨g, 0, none⟩) H.length cap) u (addE H e) word S' xs' := by
  have hv : (S (2 * (H.length - 1) + 3)).v = t := by rw [ht]
  have hxl : xs.length = H.length * 3 := h.row.1
  have h1 := h.sp.app (p := 2 * (H.length - 1) + 3) (by omega) (spE t' (x.e ++ [e])) (by show w'.ownsRow B 45 6 t' (x.e ++ [e]).length (vE (x.e ++ [e])); rw [List.length_append, vE_snoc']; exact hown) (by rw [hv]; exact hg) (by rw [hv]; exact hat)
  have h0 : putS S (2 * (H.length - 1) + 3) (spE t' (x.e ++ [e])) 0 = spB (.slice (some ⟨g, 0, none⟩) H.length cap) H.length xs := by rw [putS_ne (by omega)]; exact h.s0
  have h2 := h1.setCell (p := 0) (g := g) (i := (H.length - 1) * 3 + 2) (by omega) (by rw [h0]; rfl) t' (by rw [h0]; show _ < H.length * 3; omega)
  rw [h0] at h2
  refine ⟨_, xs.set ((H.length - 1) * 3 + 2) t', by rw [addE_len]; exact h2, by rw [putS_same, addE_len], by rw [putS_ne (by omega), putS_ne (by omega)]; exact h.s1, fun k y hy => ?_, fun k y hy => ?_, fun k y hy => ?_, ?_⟩
  · have hk : k < H.length := by have := (List.getElem?_eq_some_iff.1 hy).1; rwa [addE_len] at this
    rw [putS_ne (by omega), putS_ne (by omega), putS_ne (by omega)]
    rw [addE_get] at hy
    by_cases hkl : k = H.length - 1
    · rw [if_pos hkl] at hy
      obtain ⟨z, hz, rfl⟩ := Option.map_eq_some_iff.1 hy
      obtain ⟨h4, h5, h6⟩ := h.sx k z hz
      rw [hkl] at h4 h5 ⊢
      rw [putS_same, List.getElem?_set_ne (by omega), List.getElem?_set_ne (by omega), List.getElem?_set_self (by omega)]
      exact ⟨h4, h5, rfl⟩
    · rw [if_neg hkl] at hy
      obtain ⟨h4, h5, h6⟩ := h.sx k y hy
      rw [putS_ne (by omega), List.getElem?_set_ne (by omega), List.getElem?_set_ne (by omega), List.getElem?_set_ne (by omega)]
      exact ⟨h4, h5, h6⟩
  · have hk : k < H.length := by have := (List.getElem?_eq_some_iff.1 hy).1; rwa [addE_len] at this
    rw [putS_ne (by omega), putS_ne (by omega)]
    rw [addE_get] at hy
    by_cases hkl : k = H.length - 1
    · rw [if_pos hkl] at hy
      obtain ⟨z, hz, rfl⟩ := Option.map_eq_some_iff.1 hy
      exact h.sw k z hz
    · rw [if_neg hkl] at hy
      exact h.sw k y hy
  · have hk : k < H.length := by have := (List.getElem?_eq_some_iff.1 hy).1; rwa [addE_len] at this
    rw [addE_get] at hy
    by_cases hkl : k = H.length - 1
    · rw [if_pos hkl] at hy
      obtain ⟨z, hz, rfl⟩ := Option.map_eq_some_iff.1 hy
      have hzx : z = x := by rw [hkl, hx] at hz; injection hz with hz; exact hz.symm
      subst hzx
      rw [hkl, putS_ne (by omega), putS_same]
      exact ⟨t', rfl⟩
    · rw [if_neg hkl] at hy
      rw [putS_ne (by omega), putS_ne (by omega)]
      exact h.st k y hy
  · rw [addE_len, putS_ne (by omega), putS_ne (by omega)]
    exact h.sl
/-- The local beside the rows: another one. -/
theorem Bld.loc {L' : Spot} (h : Bld L w B v u H word S xs) (hB : B ≤ w.heap.size) (hb : Below w.heap.size w w') (hown : L'.owned w' w.heap.size) : ∃ S', Bld L' w' B v u H word S' xs := by
  refine ⟨_, h.sp.putNew hb 1 L' hown hB, ?_, putS_same _ _ _, fun k x hx => ?_, fun k x hx => ?_, fun k x hx => ?_, ?_⟩
  · rw [putS_ne (by omega)]; exact h.s0
  · rw [putS_ne (by omega), putS_ne (by omega)]; exact h.sx k x hx
  · rw [putS_ne (by omega)]; exact h.sw k x hx
  · rw [putS_ne (by omega)]; exact h.st k x hx
  · rw [putS_ne (by omega)]; exact h.sl
theorem Bld.local_ (h : Bld L w B v u H word S xs) : L.owned w B := by
  have := h.sp.own 1 (by omega)
  rw [h.s1] at this
  exact this
theorem Bld.local_ne (h : Bld L w B v u H word S xs) {g : Nat} (hg : L.v.ownBlock = some g) {j : Nat} (hj : j < 2 * H.length + 3) (h1 : j ≠ 1) : (S j).v.ownBlock ≠ some g :=
  h.sp.dis 1 j g (by omega) hj (fun e => h1 e.symm) (by rw [h.s1]; exact hg)
/-- The first state. -/
theorem Bld.start (hr : w.ownsRow B 41 3 v 1 [.int .i64 0, .slice none 0 0, .slice none 0 0]) : ∃ S, Bld (Spot.none_ 45 6) w B v (.slice none 0 0) [⟨⟨0, []⟩, []⟩] [] S [.int .i64 0, .slice none 0 0, .slice none 0 0] := by
  refine ⟨fun j => if j = 0 then spB v 1 [.int .i64 0, .slice none 0 0, .slice none 0 0] else if j = 1 then Spot.none_ 45 6 else if j = 3 then spE (.slice none 0 0) [] else spI (.slice none 0 0) [], ⟨fun j hj => ?_, fun i j g hi hj hij hg => ?_⟩, rfl, rfl, fun k x hx => ?_, fun k x hx => ?_, fun k x hx => ?_, rfl⟩
  · show Spot.owned (if j = 0 then _ else _) _ _
    split
    · exact hr
    · split
      · exact World.ownsRow_nil _ _ _ _
      · split <;> exact World.ownsRow_nil _ _ _ _
  · have hn : ∀ q, q ≠ 0 → (if q = 0 then spB v 1 [.int .i64 0, .slice none 0 0, .slice none 0 0] else if q = 1 then Spot.none_ 45 6 else if q = 3 then spE (.slice none 0 0) [] else spI (.slice none 0 0) []).v.ownBlock = none := fun q hq => by
      rw [if_neg hq]
      split
      · rfl
      · split <;> rfl
    have hg' : (if i = 0 then spB v 1 [.int .i64 0, .slice none 0 0, .slice none 0 0] else if i = 1 then Spot.none_ 45 6 else if i = 3 then spE (.slice none 0 0) [] else spI (.slice none 0 0) []).v.ownBlock = some g := hg
    show (if j = 0 then spB v 1 [.int .i64 0, .slice none 0 0, .slice none 0 0] else if j = 1 then Spot.none_ 45 6 else if j = 3 then spE (.slice none 0 0) [] else spI (.slice none 0 0) []).v.ownBlock ≠ some g
    by_cases h0 : i = 0
    · rw [hn j (by omega)]
      exact fun e => by cases e
    · rw [hn i h0] at hg'
      cases hg'
  · obtain rfl : k = 0 := by have := (List.getElem?_eq_some_iff.1 hx).1; simp at this; omega
    simp at hx
    subst hx
    exact ⟨rfl, rfl, rfl⟩
  · obtain rfl : k = 0 := by have := (List.getElem?_eq_some_iff.1 hx).1; simp at this; omega
    simp at hx
    subst hx
    exact ⟨_, rfl⟩
  · obtain rfl : k = 0 := by have := (List.getElem?_eq_some_iff.1 hx).1; simp at this; omega
    simp at hx
    subst hx
    exact ⟨_, rfl⟩
end

/-- The local's place is left out. -/
def ix (j : Nat) : Nat := if j = 0 then 0 else j + 1
theorem ix_lt {j n : Nat} (h : j < 2 * n + 1) : ix j < 2 * n + 3 := by unfold ix; split <;> omega
theorem ix_inj {i j : Nat} (h : ix i = ix j) : i = j := by unfold ix at h; split at h <;> split at h <;> omega
/-- A row of blocks of the call's own: all rows lie in windows of their own. Window 0 is the row of blocks, 2k + 1 and 2k + 2 are the word and the stitches of block k. -/
def OwBl (w : World) (lo hi : Nat) (v : Value) (l : List Bk) : Prop :=
  ∃ (a b : Nat → Nat) (f : Nat → Value), (∀ j, j < 2 * l.length + 1 → lo ≤ a j ∧ b j ≤ hi) ∧ (∀ i j, i < 2 * l.length + 1 → j < 2 * l.length + 1 → i ≠ j → b i ≤ a j ∨ b j ≤ a i) ∧
    OwC w (a 0) (b 0) 41 3 v l.length ((List.range (l.length * 3)).map f) ∧ ∀ k x, l[k]? = some x → f (k * 3) = .int .i64 x.b.n ∧
      OwC w (a (2 * k + 1)) (b (2 * k + 1)) 2 1 (f (k * 3 + 1)) x.b.w.length (vI x.b.w) ∧ OwC w (a (2 * k + 2)) (b (2 * k + 2)) 45 6 (f (k * 3 + 2)) x.e.length (vE x.e)
theorem OwBl.nil {w : World} {lo hi : Nat} (h : lo ≤ hi) {A : Option Addr} {c : Nat} : OwBl w lo hi (.slice A 0 c) [] :=
  ⟨fun _ => lo, fun _ => lo, fun _ => (.slice none 0 0), fun j _ => ⟨Nat.le_refl _, h⟩, fun i j _ _ _ => .inl (Nat.le_refl _), .nil, fun k x hx => by simp at hx⟩
theorem Bld.own {L : Spot} {w : World} {B : Nat} {v u : Value} {H : List Bk} {word : List Int} {S : Nat → Spot} {xs : List Value} (h : Bld L w B v u H word S xs) (hB : B ≤ w.heap.size) : OwBl w B w.heap.size v H := by
  have hxl : xs.length = H.length * 3 := h.row.1
  refine ⟨fun j => (S (ix j)).lo B, fun j => (S (ix j)).hi B, fun i => xs.getD i (.slice none 0 0), fun j hj => h.sp.window hB (ix_lt hj), fun i j hi hj hij => h.sp.apart (ix_lt hi) (ix_lt hj) (fun e => hij (ix_inj e)), ?_, fun k x hx => ?_⟩
  · have h1 := h.sp.owc (j := 0) (by omega)
    rw [h.s0] at h1
    show OwC w ((S 0).lo B) ((S 0).hi B) _ _ _ _ _
    rw [h.s0, show (List.range (H.length * 3)).map (fun i => xs.getD i (.slice none 0 0)) = xs from ?_]
    · exact h1
    · apply List.ext_getElem?
      intro i
      by_cases hi : i < H.length * 3
      · rw [List.getElem?_map, List.getElem?_range hi, List.getElem?_eq_getElem (by omega)]
        simp [List.getD_eq_getElem?_getD, List.getElem?_eq_getElem (show i < xs.length by omega)]
      · rw [List.getElem?_eq_none (by simp; omega), List.getElem?_eq_none (by omega)]
  · have hk := (List.getElem?_eq_some_iff.1 hx).1
    obtain ⟨h1, h2, h3⟩ := h.sx k x hx
    obtain ⟨s, hs⟩ := h.sw k x hx
    obtain ⟨t, ht⟩ := h.st k x hx
    have g1 := h.sp.owc (j := 2 * k + 2) (by omega)
    have g2 := h.sp.owc (j := 2 * k + 3) (by omega)
    simp only [ix, if_neg (show ¬ 2 * k + 1 = 0 by omega), if_neg (show ¬ 2 * k + 2 = 0 by omega), List.getD_eq_getElem?_getD, h1, h2, h3, Option.getD_some]
    refine ⟨trivial, ?_, ?_⟩
    · rw [hs] at g1 ⊢; exact g1
    · rw [ht] at g2 ⊢; exact g2
theorem OwBl.rd {w : World} {lo hi : Nat} {v : Value} {l : List Bk} (h : OwBl w lo hi v l) : RdBks w hi v l := by
  obtain ⟨a, b, f, h1, h2, h3, h4⟩ := h
  obtain ⟨A, c, rfl, hn, hc⟩ := h3.cells
  refine ⟨A, l.length, c, rfl, hn, rfl, fun k hk => ?_⟩
  obtain ⟨g, rfl, hg0, hg1, hfr, hcell⟩ := hc k hk
  have hx : l[k]? = some l[k] := List.getElem?_eq_getElem hk
  obtain ⟨h5, h6, h7⟩ := h4 k _ hx
  have hw0 := h1 0 (by omega)
  refine ⟨g, 0, l[k], [.int .i64 l[k].b.n, f (k * 3 + 1), f (k * 3 + 2)], rfl, by omega, hx, rfl, fun j u hu => ?_, ⟨_, _, rfl, (RdI.of_own h6).more (h1 _ (by omega)).2, (RdS.of_own Ev.len h7).more (h1 _ (by omega)).2⟩⟩
  have hj : j < 3 := (List.getElem?_eq_some_iff.1 hu).1
  rw [Nat.zero_add]
  refine hcell (k * 3 + j) u (by omega) ?_
  rw [List.getElem?_map, List.getElem?_range (by omega)]
  obtain rfl | rfl | rfl : j = 0 ∨ j = 1 ∨ j = 2 := by omega
  all_goals
    simp at hu
    subst hu
    simp [h5]
theorem OwBl.keep {w w' : World} {lo hi : Nat} {v : Value} {l : List Bk} (h : OwBl w lo hi v l) (hk : ∀ g, lo ≤ g → g < hi → w'.heap[g]? = w.heap[g]?) : OwBl w' lo hi v l := by
  obtain ⟨a, b, f, h1, h2, h3, h4⟩ := h
  have hw0 := h1 0 (by omega)
  refine ⟨a, b, f, h1, h2, h3.keep fun g hg0 hg1 => hk g (by omega) (by omega), fun k x hx => ?_⟩
  have hkl := (List.getElem?_eq_some_iff.1 hx).1
  obtain ⟨h5, h6, h7⟩ := h4 k x hx
  have g1 := h1 (2 * k + 1) (by omega)
  have g2 := h1 (2 * k + 2) (by omega)
  exact ⟨h5, h6.keep fun g hg0 hg1 => hk g (by omega) (by omega), h7.keep fun g hg0 hg1 => hk g (by omega) (by omega)⟩
theorem OwBl.below {w w' : World} {lo hi : Nat} {v : Value} {l : List Bk} (h : OwBl w lo hi v l) (hb : Below hi w w') : OwBl w' lo hi v l := h.keep fun g _ hg => hb.block g hg

end Go.Proofs.YtccdnmafakaleaaGreatDoor

/-
  Words without letters that cancel: reduced of the program, l03Reduce of the reference.
-/
namespace Go.Proofs.YtccdnmafakaleaaGreatDoor
set_option linter.unusedVariables false
set_option linter.unusedSimpArgs false
open Go.RowKit

theorem nil_or_snoc {α : Type} (l : List α) : l = [] ∨ ∃ ys y, l = ys ++ [y] := by
  rcases List.eq_nil_or_concat l with h | ⟨ys, y, h⟩
  · exact .inl h
  · exact .inr ⟨ys, y, by rw [h, List.concat_eq_append]⟩
/-- The last element taken off. -/
theorem own_init {w : World} {base e n cap g : Nat} {xs : List Value} {u : Value} (h : w.ownsRow base e 1 (.slice (some ⟨g, 0, none⟩) (n + 1) cap) (n + 1) (xs ++ [u])) : w.ownsRow base e 1 (.slice (some ⟨g, 0, none⟩) n cap) n xs := by
  have hl := h.1
  simp at hl
  rcases h.2 with ⟨e, _⟩ | ⟨g', cap', cur, e, hlo, hh, h1, h2, h3, h4⟩
  · cases e
  · injection e with e1 e2 e3
    injection e1 with e1
    injection e1 with e1 e4
    subst e1 e3
    refine ⟨by omega, .inr ⟨g, cap, cur, rfl, hlo, hh, by omega, h2, h3, ?_⟩⟩
    have h5 := congrArg (List.take n) h4
    rw [List.take_take, Nat.min_eq_left (by omega), List.take_append_of_le_length (by omega), List.take_of_length_le (l := xs) (by omega)] at h5
    simpa using h5
theorem own_last {w : World} {base e n : Nat} {v : Value} {xs : List Value} {u : Value} (h : w.ownsRow base e 1 v (n + 1) (xs ++ [u])) : ∃ g cap, v = .slice (some ⟨g, 0, none⟩) (n + 1) cap ∧ w.cell? ⟨g, n, none⟩ = some u ∧ n + 1 ≤ cap ∧ cap ≤ maxLen := by
  have hl := h.1
  simp at hl
  rcases h.2 with ⟨_, h0⟩ | ⟨g, cap, cur, rfl, hlo, hh, h1, h2, h3, h4⟩
  · omega
  · refine ⟨g, cap, rfl, ?_, h1, h2⟩
    have h5 := congrArg (fun l => l[n]?) h4
    simp only [List.getElem?_take, if_pos (show n < (n + 1) * 1 by omega), Array.getElem?_toList] at h5
    rw [cell_of_row w g n cur _ (0, 0) hh, h5, List.getElem?_append_right (by omega), show n - xs.length = 0 by omega]
    rfl
theorem red_take {l : List Int} {k : Nat} {x : Int} {acc : List Int} (h : acc = red (l.take k)) (hx : l[k]? = some x) : redS acc x = red (l.take (k + 1)) := by
  rw [take_next hx, red_snoc, h]
theorem redS_drop {ys : List Int} {y x : Int} (h : y = -x) : redS (ys ++ [y]) x = ys := by simp [redS, h]
theorem redS_app {ys : List Int} {y x : Int} (h : y ≠ -x) : redS (ys ++ [y]) x = ys ++ [y] ++ [x] := by simp [redS, h]
theorem redS_nil (x : Int) : redS [] x = [x] := by simp [redS]
theorem red_bd {l acc : List Int} {k : Nat} (h : acc = red (l.take k)) (hl : ∀ x ∈ l, -11 ≤ x ∧ x ≤ 11) : ∀ x ∈ acc, -11 ≤ x ∧ x ≤ 11 := fun x hx => by
  rw [h] at hx
  exact hl x (List.mem_of_mem_take (red_mem hx))

set_option maxHeartbeats 4000000 in
set_option maxRecDepth 100000 in
theorem reduced_any (v : Value) (l : List Int) (w : World) (hl : RdI w w.heap.size v l) (hlet : ∀ x ∈ l, -11 ≤ x ∧ x ≤ 11) (hlen : l.length ≤ 1048576) :
    Calls Tryz.prog 39 #[v] w fun e w' => ∃ v', e = .returned v' ∧ w'.ownsRow w.heap.size 2 1 v' (red l).length (vI (red l)) ∧ Below w.heap.size w w' := by
  obtain ⟨A, c, rfl⟩ := hl.len
  obtain ⟨i0, hi, hz0, hz1, hz2⟩ := info_parts info_int
  have HL := Lib.hid hl
  have HLT := Lib.hid hlet
  have HE := Lib.hid (show red l = red (l.take l.length) by rw [List.take_length])
  generalize hn : l.length = n at *
  have HN := Lib.hid hn
  generalize hY : red l = Y at *
  have hmk : ∀ W : World, (Instr.makeSlice 37 (.int .i64 0) (.int .i64 (n : Int))).run Tryz.prog W = .ok (.slice (some ⟨W.heap.size, 0, none⟩) 0 n) (W.alloc (.cells (madeCells #[.int .i64 0] n) 2)) := fun W => by
    have h := run_make (P := Tryz.prog) W 37 2 i0 _ Tryz.underlying37 hi hz0 .i64 .i64 0 (n : Int) (by omega) (by omega) (by rw [hz2]; omega) (by omega)
    simp only [hz1, Int.toNat_natCast, Nat.mul_one] at h
    exact h
  clear hl hlet hn hY
  go_enter Tryz.func39, Tryz.ntmps39
  go_wp2
  clear hmk
  go_loopw [3, 11] (fun t i wr => ∃ (k : Nat) (acc : List Int), k ≤ n ∧ i = .int .i64 k ∧ wr.ownsRow w.heap.size 2 1 t acc.length (vI acc) ∧ acc.length ≤ k ∧ Hid (acc = red (l.take k)) ∧ Below w.heap.size w wr) (fun _ i _ => n - (intOf i).toNat)
  case atStart => exact ⟨0, [], Nat.zero_le _, rfl, World.ownsRow_made _ _ _ (Nat.le_refl _) (by unfold maxLen; omega) (by simp [madeCells]), Nat.le_refl _, by simp [red, Hid], (Below.refl _ _).alloc (Nat.le_refl _) _⟩
  case round =>
    rename_i wr
    obtain ⟨k, acc, hk, rfl, hown, hak, hd, hb⟩ := hrel
    have HB := Lib.hid hb
    have HO := Lib.hid hown
    by_cases hlt : k < n
    · obtain ⟨b, off, x, rfl, hbb, hx, hc⟩ := (HL.out.below hb).at_ hlt
      obtain ⟨hx0, hx1⟩ := HLT.out x (List.mem_of_getElem? hx)
      have HD := Lib.hid (red_take hd.out hx)
      have HBD := Lib.hid (red_bd hd.out HLT.out)
      obtain ⟨At, ct, rfl⟩ := own_shape hown
      clear hb hown hx hd
      rcases nil_or_snoc acc with rfl | ⟨ys, y, rfl⟩
      · rw [redS_nil] at HD
        simp only [List.length_nil] at *
        go_wp2_with (at_builtin; refine wpList_append_own _ rfl _ _ 37 rfl w.heap.size 2 i0 _ 1 8 Tryz.underlying37 hi hz0 hz1 hz2 rfl (by decide) _ _ _ rfl (HO.out.alloc _) ⟨wr.heap.size, 0, none⟩ 1 1 [.int .i64 x] rfl rfl ?c1 ?c2 ?c3 ?c4 ?c5 ?_)
        case c1 => exact new_cells' _ _ (by simp)
        case c2 => intro u hu; simp at hu; subst hu; rfl
        case c3 => simp [maxLen]
        case c4 => simp
        case c5 => have := HB.out.size; simp; omega
        intro v' w2 hown2 hgrow2 _
        have HB1 := Lib.hid (below_append' (HB.out.alloc HB.out.size _) (by have := HB.out.size; simp; omega) HO.out (by simp) hgrow2)
        have HO1 : Hid (w2.ownsRow w.heap.size 2 1 v' [x].length (vI [x])) := hown2
        clear hgrow2 hown2 HB HO
        go_wp2
        exact ⟨⟨k + 1, [x], by omega, by go_num, HO1.out, by simp, HD.out, HB1.out⟩, by simp [intOf]; omega⟩
      · have HO' : Hid (wr.ownsRow w.heap.size 2 1 (.slice At (ys ++ [y]).length ct) (ys.length + 1) (vI ys ++ [.int .i64 y])) := by have h := HO.out; rw [vI_snoc', List.length_append] at h; rw [List.length_append]; exact h
        obtain ⟨y0, y1⟩ := HBD.out y (by simp)
        obtain ⟨g, cap, e, hcy, hcap, hcm⟩ := own_last HO'.out
        injection e with e1 e2 e3
        subst e1 e3
        have hal : ys.length + 1 ≤ k := by simpa using hak
        have hyl : (ys ++ [y]).length = ys.length + 1 := by simp
        rw [hyl] at HO' HO hak ⊢
        clear hak e2
        by_cases hxy : y = -x
        · rw [redS_drop hxy] at HD
          have hq : (y == -x) = true := by simpa using hxy
          have HO1 := Lib.hid (own_init HO'.out)
          clear hyl HO HO'
          go_wp2
          exact ⟨⟨k + 1, ys, by omega, by go_num, HO1.out, by omega, HD.out, HB.out⟩, by simp [intOf]; omega⟩
        · rw [redS_app hxy] at HD
          have hq : (y == -x) = false := by simpa using hxy
          clear HO hyl
          go_wp2_with (at_builtin; refine wpList_append_own _ rfl _ _ 37 rfl w.heap.size 2 i0 _ 1 8 Tryz.underlying37 hi hz0 hz1 hz2 rfl (by decide) _ _ _ rfl (HO'.out.alloc _) ⟨wr.heap.size, 0, none⟩ 1 1 [.int .i64 x] rfl rfl ?c1 ?c2 ?c3 ?c4 ?c5 ?_)
          case c1 => exact new_cells' _ _ (by simp)
          case c2 => intro u hu; simp at hu; subst hu; rfl
          case c3 => unfold maxLen; omega
          case c4 => omega
          case c5 => have := HB.out.size; simp; omega
          intro v' w2 hown2 hgrow2 _
          have HB1 := Lib.hid (below_append' (HB.out.alloc HB.out.size _) (by have := HB.out.size; simp; omega) HO'.out (by simp) hgrow2)
          have HO1 : Hid (w2.ownsRow w.heap.size 2 1 v' (ys ++ [y] ++ [x]).length (vI (ys ++ [y] ++ [x]))) := by unfold Hid; rw [vI_snoc', vI_snoc', List.length_append, List.length_append, List.append_assoc]; exact hown2
          clear hgrow2 hown2 HB HO'
          go_wp2
          exact ⟨⟨k + 1, ys ++ [y] ++ [x], by omega, by go_num, HO1.out, by simp; omega, HD.out, HB1.out⟩, by simp [intOf]; omega⟩
    · have HE2 := Lib.hid (show Y = acc by rw [HE.out, hd.out]; congr 2; omega)
      clear hb hown hd
      go_wp2
      go_ret
      exact ⟨_, rfl, by rw [HE2.out]; exact HO.out, HB.out⟩

set_option maxHeartbeats 4000000 in
set_option maxRecDepth 100000 in
theorem l03Reduce_any (v : Value) (l : List Int) (w : World) (hl : RdI w w.heap.size v l) (hlet : ∀ x ∈ l, -11 ≤ x ∧ x ≤ 11) (hlen : l.length ≤ 1048576) :
    Calls Tryz.prog 21 #[v] w fun e w' => ∃ v', e = .returned v' ∧ w'.ownsRow w.heap.size 2 1 v' (red l).length (vI (red l)) ∧ Below w.heap.size w w' := by
  obtain ⟨A, c, rfl⟩ := hl.len
  obtain ⟨i0, hi, hz0, hz1, hz2⟩ := info_parts info_int
  have HL := Lib.hid hl
  have HLT := Lib.hid hlet
  have HE := Lib.hid (show red l = red (l.take l.length) by rw [List.take_length])
  generalize hn : l.length = n at *
  have HN := Lib.hid hn
  generalize hY : red l = Y at *
  clear hl hlet hn hY
  go_enter Tryz.func21, Tryz.ntmps21
  go_wp2
  go_loopw [3, 4] (fun t i wr => ∃ (k : Nat) (acc : List Int), k ≤ n ∧ i = .int .i64 k ∧ wr.ownsRow w.heap.size 2 1 t acc.length (vI acc) ∧ acc.length ≤ k ∧ Hid (acc = red (l.take k)) ∧ Below w.heap.size w wr) (fun _ i _ => n - (intOf i).toNat)
  case atStart => exact ⟨0, [], Nat.zero_le _, rfl, World.ownsRow_lit _ _ _ (Nat.le_refl _) (by unfold maxLen; omega) rfl, Nat.le_refl _, by simp [red, Hid], (Below.refl _ _).alloc (Nat.le_refl _) _⟩
  case round =>
    rename_i wr
    obtain ⟨k, acc, hk, rfl, hown, hak, hd, hb⟩ := hrel
    have HB := Lib.hid hb
    have HO := Lib.hid hown
    by_cases hlt : k < n
    · obtain ⟨b, off, x, rfl, hbb, hx, hc⟩ := (HL.out.below hb).at_ hlt
      have hlw : b < wr.heap.size := Nat.lt_of_lt_of_le hbb hb.size
      obtain ⟨hx0, hx1⟩ := HLT.out x (List.mem_of_getElem? hx)
      have HD := Lib.hid (red_take hd.out hx)
      have HBD := Lib.hid (red_bd hd.out HLT.out)
      obtain ⟨At, ct, rfl⟩ := own_shape hown
      clear hb hown hx hd
      rcases nil_or_snoc acc with rfl | ⟨ys, y, rfl⟩
      · rw [redS_nil] at HD
        simp only [List.length_nil] at *
        go_wp2
        go_quiet (fail)
        go_wp2_with (at_builtin; refine wpList_append_own _ rfl _ _ 37 rfl w.heap.size 2 i0 _ 1 8 Tryz.underlying37 hi hz0 hz1 hz2 rfl (by decide) _ _ _ rfl (HO.out.alloc _) ⟨wr.heap.size, 0, none⟩ 1 1 [.int .i64 x] rfl rfl ?c1 ?c2 ?c3 ?c4 ?c5 ?_)
        case c1 => exact new_cells' _ _ (by simp [World.drewN])
        case c2 => intro u hu; simp at hu; subst hu; rfl
        case c3 => simp [maxLen]
        case c4 => simp
        case c5 => have := HB.out.size; simp; omega
        intro v' w2 hown2 hgrow2 _
        have HB1 := Lib.hid (below_append' ((below_drewN HB.out nq).alloc (by have := HB.out.size; simpa using this) _) (by have := HB.out.size; simp; omega) HO.out (by simp) hgrow2)
        have HO1 : Hid (w2.ownsRow w.heap.size 2 1 v' [x].length (vI [x])) := hown2
        clear hgrow2 hown2 HB HO
        go_wp2
        exact ⟨⟨k + 1, [x], by omega, by go_num, HO1.out, by simp, HD.out, HB1.out⟩, by simp [intOf]; omega⟩
      · have HO' : Hid (wr.ownsRow w.heap.size 2 1 (.slice At (ys ++ [y]).length ct) (ys.length + 1) (vI ys ++ [.int .i64 y])) := by have h := HO.out; rw [vI_snoc', List.length_append] at h; rw [List.length_append]; exact h
        obtain ⟨y0, y1⟩ := HBD.out y (by simp)
        obtain ⟨g, cap, e, hcy, hcap, hcm⟩ := own_last HO'.out
        injection e with e1 e2 e3
        subst e1 e3
        have hal : ys.length + 1 ≤ k := by simpa using hak
        have hyl : (ys ++ [y]).length = ys.length + 1 := by simp
        rw [hyl] at HO' HO hak ⊢
        clear hak e2
        by_cases hxy : y = -x
        · rw [redS_drop hxy] at HD
          have hq : (y == -x) = true := by simpa using hxy
          have HO1 := Lib.hid (own_init HO'.out)
          clear hyl HO HO'
          go_wp2
          go_quiet (fail)
          go_wp2
          exact ⟨⟨k + 1, ys, by omega, by go_num, HO1.out, by omega, HD.out, below_drewN HB.out nq⟩, by simp [intOf]; omega⟩
        · rw [redS_app hxy] at HD
          have hq : (y == -x) = false := by simpa using hxy
          clear HO hyl
          go_wp2
          go_quiet (fail)
          go_wp2_with (at_builtin; refine wpList_append_own _ rfl _ _ 37 rfl w.heap.size 2 i0 _ 1 8 Tryz.underlying37 hi hz0 hz1 hz2 rfl (by decide) _ _ _ rfl (HO'.out.alloc _) ⟨wr.heap.size, 0, none⟩ 1 1 [.int .i64 x] rfl rfl ?c1 ?c2 ?c3 ?c4 ?c5 ?_)
          case c1 => exact new_cells' _ _ (by simp [World.drewN])
          case c2 => intro u hu; simp at hu; subst hu; rfl
          case c3 => unfold maxLen; omega
          case c4 => omega
          case c5 => have := HB.out.size; simp; omega
          intro v' w2 hown2 hgrow2 _
          have HB1 := Lib.hid (below_append' ((below_drewN HB.out nq).alloc (by have := HB.out.size; simpa using this) _) (by have := HB.out.size; simp; omega) HO'.out (by simp) hgrow2)
          have HO1 : Hid (w2.ownsRow w.heap.size 2 1 v' (ys ++ [y] ++ [x]).length (vI (ys ++ [y] ++ [x]))) := by unfold Hid; rw [vI_snoc', vI_snoc', List.length_append, List.length_append, List.append_assoc]; exact hown2
          clear hgrow2 hown2 HB HO'
          go_wp2
          exact ⟨⟨k + 1, ys ++ [y] ++ [x], by omega, by go_num, HO1.out, by simp; omega, HD.out, HB1.out⟩, by simp [intOf]; omega⟩
    · have HE2 := Lib.hid (show Y = acc by rw [HE.out, hd.out]; congr 2; omega)
      clear hb hown hd
      go_wp2
      go_ret
      exact ⟨_, rfl, by rw [HE2.out]; exact HO.out, HB.out⟩

end Go.Proofs.YtccdnmafakaleaaGreatDoor
