/-
  WalesOf, of the program and of the reference; rows of rows as a result.
-/
import Derived.Test.YtbffmekhhfhacaaMcTop
import Derived.Test.YtbffmekhhfhacaaMcMark
namespace Go.Proofs.Ytbffmekhhfhacaa
set_option linter.unusedVariables false
set_option linter.unusedSimpArgs false
open Go.RowKit

/-- A row of headers of the call's own that grows, and the rows of its elements, in windows apart. -/
structure Rws (w : World) (lo : Nat) (v : Value) (l : List (List Int)) (a b : Nat → Nat) (f : Nat → Value) : Prop where
  own : w.ownsRow lo 25 1 v l.length ((List.range l.length).map f)
  row : ∀ k x, l[k]? = some x → OwC w (a k) (b k) 2 1 (f k) x.length (vI x)
  rng : ∀ k, k < l.length → lo ≤ a k ∧ b k ≤ w.heap.size
  ap : ∀ i j, i < l.length → j < l.length → i ≠ j → b i ≤ a j ∨ b j ≤ a i
  out : ∀ k g, k < l.length → v.ownBlock = some g → b k ≤ g ∨ g + 1 ≤ a k
theorem Rws.below {w w' : World} {lo : Nat} {v : Value} {l : List (List Int)} {a b : Nat → Nat} {f : Nat → Value} (h : Rws w lo v l a b f) (hb : Below w.heap.size w w') : Rws w' lo v l a b f :=
  ⟨own_below h.own hb, fun k x hx => (h.row k x hx).below (hb.mono (h.rng k (List.getElem?_eq_some_iff.1 hx).1).2), fun k hk => ⟨(h.rng k hk).1, Nat.le_trans (h.rng k hk).2 hb.size⟩, h.ap, h.out⟩
theorem Rws.nil {w : World} {lo : Nat} {v : Value} {a b : Nat → Nat} {f : Nat → Value} (h : w.ownsRow lo 25 1 v 0 []) : Rws w lo v [] a b f :=
  ⟨by simpa using h, fun k x hx => by simp at hx, fun k hk => absurd hk (by simp), fun i j hi => absurd hi (by simp), fun k g hk => absurd hk (by simp)⟩
/-- One more row: s has been made between w and w1, then a literal, then append. -/
theorem Rws.snoc {w w1 w2 : World} {lo : Nat} {v v' s : Value} {l : List (List Int)} {x : List Int} {a b : Nat → Nat} {f : Nat → Value} {o : Obj} (h : Rws w lo v l a b f) (hlo : lo ≤ w.heap.size) (hb : Below w.heap.size w w1)
    (hs : OwC w1 w.heap.size w1.heap.size 2 1 s x.length (vI x)) (hown : w2.ownsRow lo 25 1 v' (l.length + 1) ((List.range l.length).map f ++ [s]))
    (hg : (w1.alloc o).grownBy w2 v.ownBlock) (hat : v'.ownBlock = v.ownBlock ∨ v'.ownBlock = some (w1.heap.size + 1)) :
    Rws w2 lo v' (l ++ [x]) (fun k => if k < l.length then a k else w.heap.size) (fun k => if k < l.length then b k else w1.heap.size) (fun k => if k < l.length then f k else s) := by
  have z1 := hb.size
  have z2 := hg.size
  have ha1 : (w1.alloc o).heap.size = w1.heap.size + 1 := by simp
  rw [ha1] at z2
  have hvb : ∀ g, v.ownBlock = some g → g < w.heap.size := fun g hgv => (h.own.lt g hgv).2
  have hkeep : ∀ (g : Nat), g < w1.heap.size → v.ownBlock ≠ some g → w2.heap[g]? = w1.heap[g]? := fun g hg1 hne => by
    rw [hg.block g (by omega) (fun e => hne e.symm)]
    exact ((Below.refl w1.heap.size w1).alloc (Nat.le_refl _) o).block g hg1
  refine ⟨?_, fun k y hy => ?_, fun k hk => ?_, fun i j hi hj hij => ?_, fun k g hk hgv => ?_⟩
  · rw [List.length_append, List.length_cons, List.length_nil, List.range_succ, List.map_append]
    have e : (List.range l.length).map (fun k => if k < l.length then f k else s) = (List.range l.length).map f := List.map_congr_left fun k hk => by rw [if_pos (List.mem_range.1 hk)]
    rw [e]
    simpa using hown
  · by_cases hkl : k < l.length
    · rw [List.getElem?_append_left hkl] at hy
      simp only [hkl, if_true]
      refine ((h.row k y hy).below (hb.mono (h.rng k hkl).2)).keep fun g hg1 hg2 => hkeep g (by have := (h.rng k hkl).2; omega) fun e => ?_
      have := h.out k g hkl e
      omega
    · have hke : k = l.length := by
        have := (List.getElem?_eq_some_iff.1 hy).1
        simp at this
        omega
      subst hke
      simp at hy
      subst hy
      simp only [Nat.lt_irrefl, if_false]
      exact hs.keep fun g hg1 hg2 => hkeep g hg2 fun e => by have := hvb g e; omega
  · by_cases hkl : k < l.length
    · simp only [hkl, if_true]
      have := h.rng k hkl
      omega
    · simp only [hkl, if_false]
      omega
  · simp at hi hj
    by_cases h1 : i < l.length <;> by_cases h2 : j < l.length
    · simp only [h1, h2, if_true]; exact h.ap i j h1 h2 hij
    · simp only [h1, h2, if_true, if_false]; exact .inl (h.rng i h1).2
    · simp only [h1, h2, if_true, if_false]; exact .inr (h.rng j h2).2
    · omega
  · simp at hk
    by_cases hkl : k < l.length
    · simp only [hkl, if_true]
      rcases hat with hat | hat
      · exact h.out k g hkl (hat ▸ hgv)
      · rw [hat] at hgv; injection hgv with hgv; have := (h.rng k hkl).2; exact .inl (by omega)
    · simp only [hkl, if_false]
      rcases hat with hat | hat
      · have := hvb g (hat ▸ hgv); exact .inr (by omega)
      · rw [hat] at hgv; injection hgv with hgv; exact .inl (by omega)
theorem Rws.owN {w : World} {lo : Nat} {v : Value} {l : List (List Int)} {a b : Nat → Nat} {f : Nat → Value} (h : Rws w lo v l a b f) (hlo : lo ≤ w.heap.size) : OwLL w lo w.heap.size v l := by
  have hrow : ∀ k x, l[k]? = some x → oLL w (a k) (b k) ((List.range 1).map fun j => f (k * 1 + j)) x := fun k x hx => ⟨f k, by simp, h.row k x hx⟩
  rcases hv : v.ownBlock with _ | g
  · refine ⟨lo, lo, a, b, f, Nat.le_refl _, hlo, fun k hk => ⟨(h.rng k hk).1, (h.rng k hk).2, ?_⟩, h.ap, ?_, hrow⟩
    · have hn := h.own.2
      rcases hn with ⟨_, h0⟩ | ⟨g, cap, cur, rfl, _⟩
      · omega
      · cases hv
    · rw [Nat.mul_one]
      refine ⟨by simp, .inl ?_⟩
      rcases h.own.2 with ⟨h1, h0⟩ | ⟨g, cap, cur, rfl, _⟩
      · exact ⟨h0, none, 0, h1⟩
      · cases hv
  · obtain ⟨g0, g1⟩ := h.own.lt g hv
    refine ⟨g, g + 1, a, b, f, g0, g1, fun k hk => ⟨(h.rng k hk).1, (h.rng k hk).2, h.out k g hk hv⟩, h.ap, ?_, hrow⟩
    rw [Nat.mul_one]
    refine ⟨by simp, .inr ?_⟩
    rcases h.own.2 with ⟨h1, h0⟩ | ⟨g', cap, cur, hve, hb, hh, h3⟩
    · rw [h1] at hv; cases hv
    · subst hve
      have e : g' = g := Option.some.inj hv
      subst e
      exact ⟨g', cap, cur, rfl, Nat.le_refl _, Nat.lt_succ_self _, hh, h3⟩

/-- Lists that are told if the code is 0. -/
def okLL (c : Int) (l : List (List Int)) : List (List Int) := if c = 0 then l else []
theorem okLL_no {c : Int} {l : List (List Int)} (h : c ≠ 0) : okLL c l = [] := by unfold okLL; rw [if_neg h]
theorem okLL_yes {c : Int} {l : List (List Int)} (h : c = 0) : okLL c l = l := by unfold okLL; rw [if_pos h]
/-- Rows of rows of the call's own and a code. -/
def GivesLC (w : World) (l : List (List Int)) (code : Int) (e : Ending) (w' : World) : Prop := ∃ v, e = .returned (.tuple #[v, .int .i64 code]) ∧ OwLL w' w.heap.size w'.heap.size v l ∧ Below w.heap.size w w'
theorem GivesLC.nil {w w' : World} {code c : Int} {l : List (List Int)} (hc : c ≠ 0) (e : code = c) (hb : Below w.heap.size w w') : GivesLC w (okLL c l) code (.returned (.tuple #[.slice none 0 0, .int .i64 c])) w' := by
  subst e
  rw [okLL_no hc]
  exact ⟨_, rfl, Rws.owN (w := w') (Rws.nil (a := fun _ => 0) (b := fun _ => 0) (f := fun _ => undef) (World.ownsRow_nil _ _ _ _)) hb.size, hb⟩
theorem GivesLC.yes {w w' : World} {code c : Int} {v : Value} {l : List (List Int)} (hc : c = 0) (e : code = c) (ho : OwLL w' w.heap.size w'.heap.size v l) (hb : Below w.heap.size w w') : GivesLC w (okLL c l) code (.returned (.tuple #[v, .int .i64 0])) w' := by
  subst e
  subst hc
  rw [okLL_yes rfl]
  exact ⟨_, rfl, ho, hb⟩

/-- The loops that are a first parent, as bools. -/
def fpB (m : Mc) : List Bool := (List.range m.ls.length).map fun i : Nat => (fpL m.ls).contains (i : Int)
def walesL (m : Mc) : List (List Int) := walesGo m (fpB m) 0
theorem fp_take {l : List Inf} {k : Nat} {x : Inf} (hx : l[k]? = some x) : fpL (l.take (k + 1)) = fpL (l.take k) ++ (match x.ps with | [] => [] | p :: _ => [p]) := by
  unfold fpL
  rw [List.take_add_one, hx, List.filterMap_append]
  congr 1
  cases h : x.ps <;> simp [h]
theorem fp_drop {L acc : List Int} {l : List Inf} {k : Nat} {x : Inf} (h : L = acc ++ fpL (l.drop k)) (hx : l[k]? = some x) : L = (acc ++ (match x.ps with | [] => [] | p :: _ => [p])) ++ fpL (l.drop (k + 1)) := by
  rw [h, drop_of_get hx, List.append_assoc]
  congr 1
  unfold fpL
  cases h : x.ps <;> simp [List.filterMap_cons, h]
theorem wales_yes {m : Mc} {L acc : List (List Int)} {l : List Bool} {k : Nat} (h : L = acc ++ walesGo m (l.drop k) (k : Int)) (hx : l[k]? = some true) : L = acc ++ walesGo m (l.drop (k + 1)) ((k + 1 : Nat) : Int) := by
  rw [h, drop_of_get hx, walesGo, if_pos rfl]
  rfl
theorem wales_no {m : Mc} {L acc : List (List Int)} {l : List Bool} {k : Nat} (h : L = acc ++ walesGo m (l.drop k) (k : Int)) (hx : l[k]? = some false) : L = (acc ++ [waleL m (k : Int)]) ++ walesGo m (l.drop (k + 1)) ((k + 1 : Nat) : Int) := by
  rw [h, drop_of_get hx, walesGo, if_neg (by decide), List.append_assoc]
  rfl
theorem wales_sum_go (m : Mc) : ∀ (B : List Bool) (i : Int), 0 ≤ i → i + B.length ≤ 300 → sumL List.length (walesGo m B i) ≤ 302 * B.length
  | [], i, _, _ => by simp [walesGo, sumL]
  | b :: t, i, h0, h1 => by
    simp only [List.length_cons] at h1
    have ih := wales_sum_go m t (i + 1) (by omega) (by push_cast at h1 ⊢; omega)
    have hw := waleT_len m (i.toNat + 1) i
    rw [walesGo]
    split
    · simp only [List.length_cons]; omega
    · have e : sumL List.length (waleL m i :: walesGo m t (i + 1)) = (waleL m i).length + sumL List.length (walesGo m t (i + 1)) := by simp [sumL]
      rw [e]
      simp only [waleL, List.length_cons]
      push_cast at h1
      omega
theorem wales_sum (m : Mc) : sumL List.length (okLL (okC m) (walesL m)) ≤ 1048576 := by
  unfold okLL
  split
  · rename_i h
    have hok : okM m = true := by
      cases hk : okM m
      · rw [okC_no hk] at h; omega
      · rfl
    have h300 := ls_len hok
    have hl : (fpB m).length = m.ls.length := by simp [fpB]
    have := wales_sum_go m (fpB m) 0 (by omega) (by omega)
    unfold walesL
    omega
  · simp [sumL]
theorem fpB_get (m : Mc) {k : Nat} (hk : k < m.ls.length) : (fpB m)[k]? = some ((fpL m.ls).contains (k : Int)) := by simp [fpB, hk]
theorem fpB_len (m : Mc) : (fpB m).length = m.ls.length := by simp [fpB]
theorem sl_one (A : Option Addr) (n c : Nat) : ∀ u ∈ [Value.slice A n c], u.oneCell' = true := by
  intro u hu
  simp at hu
  subst hu
  rfl

set_option maxHeartbeats 8000000 in
set_option maxRecDepth 100000 in
theorem implWales_any (v : Value) (m : Mc) (w : World) (hl : RdM w w.heap.size v m) (hf : FitM m) :
    Calls Try.prog 30 #[v] w (GivesLC w (okLL (okC m) (walesL m)) (okC m)) := by
  obtain ⟨i0, hi, hz0, hz1, hz2⟩ := info_parts info_sl
  have hdr := hf.dr
  have hl0 := hl
  obtain ⟨f, b, cs, ls, d, rfl, h1, h2, h3, h4, h5, h6⟩ := hl
  obtain ⟨AF, cF, rfl⟩ := RdN.shape h1
  obtain ⟨AG, cG, rfl⟩ := RdN.shape h2
  obtain ⟨AC, cC, rfl⟩ := RdS.lens h3
  obtain ⟨AI, cI, rfl⟩ := RdN.shape h4
  obtain ⟨AD, cD, rfl⟩ := RdI.len h5
  have BW := Lib.hid (show Below w.heap.size w (w.alloc (.cells #[.int .i64 m.wd, .int .i64 m.rk, .slice AF m.fr.length cF, .slice AG m.bk.length cG, .slice AC m.cs.length cC, .slice AI m.ls.length cI, .slice AD m.dr.length cD] 34)) from (Below.refl _ _).alloc (Nat.le_refl _) _)
  have HP := Lib.hid (RdP.box (T := 34) h1 h2 h3 h4 h5 h6)
  have HM := Lib.hid (hl0.up BW.out BW.out.size)
  clear h1 h2 h3 h4 h5 h6 hl0
  have HQ := Lib.hid (validMachine_any _ m _ HM.out)
  cases hok : okM m
  · have HN := Lib.hid (fun w' hb => (show Below w.heap.size w w' → GivesLC w (okLL (okC m) (walesL m)) (okC m) (.returned (.tuple #[.slice none 0 0, .int .i64 1])) w' from fun hb => by rw [okC_no hok]; exact GivesLC.nil (by decide) rfl hb) hb)
    have HK := Lib.hid hok
    clear hok
    go_enter Try.func30, Try.ntmps30
    go_wp2_with fail
    refine HQ.out.mono ?_
    rintro e w1 ⟨rfl, hb⟩
    rw [HK.out]
    have HB := Lib.hid (BW.out.trans (hb.mono BW.out.size))
    clear hb
    go_wp2
    go_ret2
    exact HN.out _ HB.out
  have HOK := Lib.hid hok
  have h300 := ls_len hok
  clear hok
  go_enter Try.func30, Try.ntmps30
  go_wp2_with fail
  refine HQ.out.mono ?_
  rintro e w1 ⟨rfl, hb⟩
  rw [HOK.out]
  have HB := Lib.hid (BW.out.trans (hb.mono BW.out.size))
  have HP1 := Lib.hid (HP.out.below hb)
  clear hb HM HP HQ
  have hp1 := HP1.out
  obtain ⟨F, G, C, L, D, hc, h1, h2, h3, h4, h5, h6⟩ := hp1
  obtain ⟨AI', cI', rfl⟩ := RdN.shape h4
  obtain ⟨x0, x1, x2, x3, x4, x5, x6⟩ := hc.seven
  have HI := Lib.hid h4
  have HC := Lib.hid hc
  have hgl : w.heap.size < w1.heap.size := block_lt_of_cell x0
  have HOC := Lib.hid (okC_yes HOK.out)
  have HR0 := Lib.hid (World.rowIs_made w1 (.bool false) m.ls.length 4)
  have HLP := Lib.hid (fun (k : Nat) (x : Inf) (hx : m.ls[k]? = some x) => (ok_loop HOK.out hx).1)
  have HFG := Lib.hid (fun (k : Nat) (hk : k < m.ls.length) => fpB_get m hk)
  have HFL := Lib.hid (fpB_len m)
  have HWL := Lib.hid (show walesL m = [] ++ walesGo m ((fpB m).drop 0) ((0 : Nat) : Int) from rfl)
  have HFA := Lib.hid (show fpL (m.ls.take m.ls.length) = fpL m.ls by rw [List.take_length])
  have HWA := Lib.hid (fun (k : Int) (W : World) (hb : Below w1.heap.size w1 W) (h0 : 0 ≤ k) (h1 : k < m.ls.length) => wale_any m w.heap.size k W (HP1.out.below hb) HOK.out h0 h1)
  clear h1 h2 h3 h4 h5 h6 hc
  generalize walesL m = WL at *
  generalize hln : m.ls.length = n at *
  have HLN := Lib.hid hln
  have hmk : ∀ W : World, (Instr.makeSlice 77 (.int .i64 (n : Int)) (.int .i64 (n : Int))).run Try.prog W = .ok (.slice (some ⟨W.heap.size, 0, none⟩) n n) (W.alloc (.cells (madeCells #[.bool false] n) 4)) := fun W => run_make_row' (P := Try.prog) 77 4 (.bool false) 1 Try.underlying77 info_bool rfl .i64 .i64 n (by omega) (by omega) W
  clear hln
  go_wp2
  clear hmk x0 x1 x2 x3 x4 x5 x6
  go_loopw [20] (fun i wr => ∃ (k : Nat) (f : Nat → Value), k ≤ n ∧ i = .int .i64 k ∧ wr.rowIs w1.heap.size 4 n f ∧ Hid (∀ i, i < n → f i = .bool ((fpL (m.ls.take k)).contains (i : Int))) ∧ Hid (Below w1.heap.size w1 wr)) (fun i _ => n - (intOf i).toNat)
  case atStart => exact ⟨0, _, Nat.zero_le _, rfl, HR0.out, fun i hi => by simp [fpL], (Below.refl _ _).alloc (Nat.le_refl _) _⟩
  case round =>
    rename_i wr
    obtain ⟨k, f, hk, rfl, hrow, hf2, hbb⟩ := hrel
    have hw1r : w1.heap.size < wr.heap.size := rowIs_lt hrow
    by_cases hlt : k < n
    · obtain ⟨b, off, x, s, rfl, hb1, hlk, hcc, hs⟩ := (RdIs.below HI.out hbb.out).at_ hlt
      obtain ⟨A1, c1, rfl⟩ := hs.len
      obtain ⟨q0, q1, q2, q3, q4, q5⟩ := hcc.six
      have hfp := fp_take hlk
      have HBB := Lib.hid hbb.out
      cases hps : x.ps with
      | nil =>
        rw [hps] at hfp q5
        have HF2 := Lib.hid (show ∀ i, i < n → f i = .bool ((fpL (m.ls.take (k + 1))).contains (i : Int)) by rw [hfp]; simpa using hf2.out)
        have HROW := Lib.hid hrow
        clear hrow hlk hcc hs hps hfp hf2 hbb
        go_wp2
        exact ⟨⟨k + 1, f, by omega, by go_num, rowIs_below HROW.out ((Below.refl _ _).alloc (Nat.le_refl _) _), HF2.out, HBB.out.alloc (by omega) _⟩, by simp [intOf]; omega⟩
      | cons p t =>
        have hp := HLP.out k x hlk p (by rw [hps]; exact List.mem_cons_self)
        obtain ⟨pn, rfl⟩ := Int.eq_ofNat_of_zero_le hp.1
        have hpn : pn < n := by omega
        rw [hps] at hfp
        have HF2 := Lib.hid (show ∀ i, i < n → (fun j => if j = pn then Value.bool true else f j) i = .bool ((fpL (m.ls.take (k + 1))).contains (i : Int)) by rw [hfp]; exact seen_set hf2.out)
        have hn0 : 0 < x.ps.length := by rw [hps]; simp
        obtain ⟨b2, o2, p2, rfl, hb2, hp2, hc2⟩ := hs.at_ hn0
        have hpe : p2 = (pn : Int) := by rw [hps] at hp2; simp at hp2; exact hp2.symm
        subst hpe
        rw [Nat.add_zero] at hc2
        have hn1 : (0 : Int) < (x.ps.length : Int) := by omega
        have hb2r : b2 < wr.heap.size := block_lt_of_cell hc2
        have cp := hrow.cell (i := pn) hpn
        have fz := fun i => hrow.frozen i
        have HROW := Lib.hid hrow
        generalize x.ps.length = N at *
        clear hrow hlk hcc hs hps hfp hf2 hbb hp2
        go_wp2
        refine ⟨⟨k + 1, (fun j => if j = pn then Value.bool true else f j), ?_, by go_num, ?_, HF2.out, ?_⟩, ?_⟩
        · omega
        · first
            | exact rowIs_below (HROW.out.set pn _) ((Below.refl _ _).alloc (Nat.le_refl _) _)
            | exact (rowIs_below HROW.out ((Below.refl _ _).alloc (Nat.le_refl _) _)).set pn _
        · first
            | exact (HBB.out.setCell (p := ⟨w1.heap.size, pn, none⟩) (Nat.le_refl _) _).alloc (by simp [World.setCell]; omega) _
            | exact (HBB.out.alloc (by omega) _).setCell (p := ⟨w1.heap.size, pn, none⟩) (Nat.le_refl _) _
        · simp only [intOf]; omega
    · have hkn : k = n := by omega
      have HROW := Lib.hid (rowIs_congr (f' := fun i => .bool ((fpL m.ls).contains (i : Int))) hrow (fun i hi => by rw [hf2.out i hi, hkn, HFA.out]))
      have HBB := Lib.hid hbb.out
      clear hrow hf2 hbb hkn
      go_wp2
      go_loopw [7, 38] (fun t i wz => ∃ (q : Nat) (acc : List (List Int)) (a b : Nat → Nat) (g : Nat → Value) (wq : World), wq = wz ∧ q ≤ n ∧ i = .int .i64 q ∧ Hid (Rws wq wr.heap.size t acc a b g) ∧ acc.length ≤ q ∧ Hid (WL = acc ++ walesGo m ((fpB m).drop q) (q : Int)) ∧ Hid (Below wr.heap.size wr wq)) (fun _ i _ => n - (intOf i).toNat)
      case atStart => exact ⟨0, [], fun _ => 0, fun _ => 0, fun _ => undef, _, rfl, Nat.zero_le _, rfl, Rws.nil (World.ownsRow_lit _ #[] 0 (Nat.le_refl _) (by unfold maxLen; omega) rfl), Nat.le_refl _, HWL.out, (Below.refl _ _).alloc (Nat.le_refl _) _⟩
      case round =>
        obtain ⟨q, acc, a, b, g, wq, hwe, hq, rfl, hrws, haq, hd, hb⟩ := hrel
        subst hwe
        by_cases hlt2 : q < n
        · have cl := (rowIs_below HROW.out hb.out).cell (i := q) hlt2
          have hfg := HFG.out q hlt2
          have hbz := hb.out.size
          cases hv : (fpL m.ls).contains (q : Int)
          · rw [hv] at cl hfg
            have HD := Lib.hid (wales_no hd.out hfg)
            have HQ := Lib.hid (HWA.out (q : Int) wq (HBB.out.trans (hb.out.mono HBB.out.size)) (by omega) (by omega))
            have HRW := Lib.hid hrws.out
            have HB := Lib.hid hb.out
            clear hv hd hfg hrws hb
            go_wp2_with fail
            refine HQ.out.mono ?_
            rintro e w5 ⟨v5, rfl, ho5, hb5⟩
            obtain ⟨A5, c5, rfl, -⟩ := ho5.cells
            have HO5 := Lib.hid ho5
            have HB5 := Lib.hid (HB.out.trans (hb5.mono HB.out.size))
            have HBQ := Lib.hid hb5
            have HOW := Lib.hid (own_below HRW.out.own hb5)
            have hz5 := HB5.out.size
            clear ho5 hb5 HQ
            generalize hN5 : (waleL m (q : Int)).length = N5 at *
            go_wp2_with (at_builtin; refine wpList_append_own_at _ rfl _ _ 22 rfl wr.heap.size 25 i0 _ 1 24 Try.underlying22 hi hz0 hz1 hz2 rfl (by decide) _ _ _ rfl (HOW.out.alloc _) ⟨w5.heap.size, 0, none⟩ 1 1 [.slice A5 N5 c5] rfl rfl ?c1 ?c2 ?c3 ?c4 ?c5 ?_)
            case c1 => exact new_cells' _ _ rfl
            case c2 => exact sl_one _ _ _
            case c3 => unfold maxLen; omega
            case c4 => omega
            case c5 => simp; omega
            intro v' w6 hown6 hg6 _ hat6
            have HR6 := Lib.hid (HRW.out.snoc (x := waleL m (q : Int)) HB.out.size HBQ.out (by rw [hN5]; exact HO5.out) hown6 hg6 (by simpa using hat6))
            have HB6 := Lib.hid ((HB5.out.alloc hz5 _).grown hg6 (by simp; omega) (fun k hk => (HOW.out.lt k hk).1))
            clear hown6 hg6 hat6
            go_wp2
            exact ⟨⟨q + 1, acc ++ [waleL m (q : Int)], _, _, _, _, rfl, by omega, by go_num, HR6.out, by simp; omega, HD.out, HB6.out⟩, by simp [intOf]; omega⟩
          · rw [hv] at cl hfg
            have HD := Lib.hid (wales_yes hd.out hfg)
            clear hv hd hfg
            go_wp2
            exact ⟨⟨q + 1, acc, a, b, g, _, rfl, by omega, by go_num, hrws.out, by omega, HD.out, hb.out⟩, by simp [intOf]; omega⟩
        · have HD := Lib.hid (show WL = acc by rw [hd.out, List.drop_of_length_le (by rw [HFL.out]; omega)]; simp [walesGo])
          have HO := Lib.hid (hrws.out.owN hb.out.size)
          have HBW := Lib.hid (HB.out.trans ((HBB.out.trans (hb.out.mono HBB.out.size)).mono HB.out.size))
          have hlo : w.heap.size ≤ wr.heap.size := by have := HB.out.size; have := HBB.out.size; omega
          clear hd hrws hb
          go_wp2
          go_ret2
          exact GivesLC.yes HOC.out rfl (by rw [HD.out]; exact OwN.wide HO.out hlo (Nat.le_refl _)) HBW.out

theorem fpL_le : ∀ l : List Inf, (fpL l).length ≤ l.length := fun l => by unfold fpL; exact List.length_filterMap_le _ _
set_option maxHeartbeats 8000000 in
set_option maxRecDepth 100000 in
theorem specWales_any (v : Value) (m : Mc) (w : World) (hl : RdM w w.heap.size v m) (hf : FitM m) :
    Calls Try.prog 29 #[v] w (GivesLC w (okLL (okC m) (walesL m)) (okC m)) := by
  obtain ⟨i0, hi, hz0, hz1, hz2⟩ := info_parts info_sl
  obtain ⟨j0, hj, hy0, hy1, hy2⟩ := info_parts info_int
  have hdr := hf.dr
  have hl0 := hl
  obtain ⟨f, b, cs, ls, d, rfl, h1, h2, h3, h4, h5, h6⟩ := hl
  obtain ⟨AF, cF, rfl⟩ := RdN.shape h1
  obtain ⟨AG, cG, rfl⟩ := RdN.shape h2
  obtain ⟨AC, cC, rfl⟩ := RdS.lens h3
  obtain ⟨AI, cI, rfl⟩ := RdN.shape h4
  obtain ⟨AD, cD, rfl⟩ := RdI.len h5
  have BW := Lib.hid (show Below w.heap.size w (w.alloc (.cells #[.int .i64 m.wd, .int .i64 m.rk, .slice AF m.fr.length cF, .slice AG m.bk.length cG, .slice AC m.cs.length cC, .slice AI m.ls.length cI, .slice AD m.dr.length cD] 34)) from (Below.refl _ _).alloc (Nat.le_refl _) _)
  have HP := Lib.hid (RdP.box (T := 34) h1 h2 h3 h4 h5 h6)
  have HM := Lib.hid (hl0.up BW.out BW.out.size)
  clear h1 h2 h3 h4 h5 h6 hl0
  have HQ := Lib.hid (l07Ok_p m _ _ HP.out hdr)
  cases hok : okM m
  · have HN := Lib.hid (fun w' hb => (show Below w.heap.size w w' → GivesLC w (okLL (okC m) (walesL m)) (okC m) (.returned (.tuple #[.slice none 0 0, .int .i64 1])) w' from fun hb => by rw [okC_no hok]; exact GivesLC.nil (by decide) rfl hb) hb)
    have HK := Lib.hid hok
    clear hok
    go_enter Try.func29, Try.ntmps29
    go_wp2_with fail
    refine HQ.out.mono ?_
    rintro e w1 ⟨rfl, hb⟩
    rw [HK.out]
    have HB := Lib.hid (BW.out.trans (hb.mono BW.out.size))
    clear hb
    go_wp2
    go_ret2
    exact HN.out _ HB.out
  have HOK := Lib.hid hok
  have h300 := ls_len hok
  clear hok
  go_enter Try.func29, Try.ntmps29
  go_wp2_with fail
  refine HQ.out.mono ?_
  rintro e w1 ⟨rfl, hb⟩
  rw [HOK.out]
  have HB := Lib.hid (BW.out.trans (hb.mono BW.out.size))
  have HP1 := Lib.hid (HP.out.below hb)
  clear hb HM HP HQ
  have hp1 := HP1.out
  obtain ⟨F, G, C, L, D, hc, h1, h2, h3, h4, h5, h6⟩ := hp1
  obtain ⟨AI', cI', rfl⟩ := RdN.shape h4
  have HI := Lib.hid h4
  have HC := Lib.hid hc
  have hgl : w.heap.size < w1.heap.size := block_lt_of_cell hc.seven.1
  have HOC := Lib.hid (okC_yes HOK.out)
  have HFG := Lib.hid (fun (k : Nat) (hk : k < m.ls.length) => fpB_get m hk)
  have HFL := Lib.hid (fpB_len m)
  have HWL := Lib.hid (show walesL m = [] ++ walesGo m ((fpB m).drop 0) ((0 : Nat) : Int) from rfl)
  have HF0 := Lib.hid (show fpL m.ls = [] ++ fpL (m.ls.drop 0) from rfl)
  have hfl := fpL_le m.ls
  have HWA := Lib.hid (fun (k : Int) (W : World) (hb : Below w1.heap.size w1 W) (h0 : 0 ≤ k) (h1 : k < m.ls.length) => l11Wale_any m w.heap.size k W (HP1.out.below hb) HOK.out h0 h1)
  clear h1 h2 h3 h4 h5 h6 hc
  generalize walesL m = WL at *
  generalize hln : m.ls.length = n at *
  have HLN := Lib.hid hln
  generalize hFP : fpL m.ls = FP at *
  clear hln hFP
  go_wp2
  go_loopw [4, 5] (fun t i wr => ∃ (k : Nat) (acc : List Int), k ≤ n ∧ i = .int .i64 k ∧ wr.ownsRow w1.heap.size 2 1 t acc.length (vI acc) ∧ acc.length ≤ k ∧ Hid (FP = acc ++ fpL (m.ls.drop k)) ∧ Hid (Below w1.heap.size w1 wr)) (fun _ i _ => n - (intOf i).toNat)
  case atStart => exact ⟨0, [], Nat.zero_le _, rfl, World.ownsRow_lit _ _ _ (Nat.le_refl _) (by unfold maxLen; omega) rfl, Nat.le_refl _, HF0.out, (Below.refl _ _).alloc (Nat.le_refl _) _⟩
  case round =>
    rename_i wr
    obtain ⟨k, acc, hk, rfl, hown, hak, hd, hbb⟩ := hrel
    obtain ⟨x0, x1, x2, x3, x4, x5, x6⟩ := (HC.out.below hbb.out hgl).seven
    by_cases hlt : k < n
    · obtain ⟨b, off, x, s, rfl, hb1, hlk, hcc, hs⟩ := (RdIs.below HI.out hbb.out).at_ hlt
      obtain ⟨A1, c1, rfl⟩ := hs.len
      obtain ⟨q0, q1, q2, q3, q4, q5⟩ := hcc.six
      have hfp := fp_drop hd.out hlk
      have HBB := Lib.hid hbb.out
      have HO := Lib.hid hown
      cases hps : x.ps with
      | nil =>
        rw [hps] at hfp q5
        have HD := Lib.hid (show FP = acc ++ fpL (m.ls.drop (k + 1)) by rw [hfp]; simp)
        clear hown hlk hcc hs hps hfp hd hbb
        go_wp2
        exact ⟨⟨k + 1, acc, by omega, by go_num, HO.out, by omega, HD.out, HBB.out⟩, by simp [intOf]; omega⟩
      | cons p t =>
        rw [hps] at hfp
        have HD := Lib.hid (show FP = (acc ++ [p]) ++ fpL (m.ls.drop (k + 1)) by rw [hfp])
        have hn0 : 0 < x.ps.length := by rw [hps]; simp
        obtain ⟨b2, o2, p2, rfl, hb2, hp2, hc2⟩ := hs.at_ hn0
        have hpe : p2 = p := by rw [hps] at hp2; simp at hp2; exact hp2.symm
        subst hpe
        rw [Nat.add_zero] at hc2
        have hn1 : (0 : Int) < (x.ps.length : Int) := by omega
        have hbz := hbb.out.size
        generalize x.ps.length = N at *
        clear hown hlk hcc hs hps hfp hd hbb hp2
        go_wp2_with (at_builtin; refine wpList_append_own _ rfl _ _ 25 rfl w1.heap.size 2 j0 _ 1 8 Try.underlying25 hj hy0 hy1 hy2 rfl (by decide) _ _ _ rfl (HO.out.alloc _) ⟨wr.heap.size, 0, none⟩ 1 1 [.int .i64 p2] rfl rfl ?d1 ?d2 ?d3 ?d4 ?d5 ?_)
        case d1 => exact new_cells' _ _ rfl
        case d2 => exact int_one _
        case d3 => unfold maxLen; omega
        case d4 => omega
        case d5 => simp; omega
        intro v' w2 hown2 hgrow2 _
        have HB2 := Lib.hid (below_append' (HBB.out.alloc hbz _) (by simp; omega) HO.out (by simp) hgrow2)
        have HO2 : Hid (w2.ownsRow w1.heap.size 2 1 v' (acc ++ [p2]).length (vI (acc ++ [p2]))) := by unfold Hid; rw [vI_snoc, List.length_append]; exact hown2
        clear hgrow2 hown2
        go_wp2
        exact ⟨⟨k + 1, acc ++ [p2], by omega, by go_num, HO2.out, by simp; omega, HD.out, HB2.out⟩, by simp [intOf]; omega⟩
    · have HD0 := Lib.hid (show FP = acc by rw [hd.out, List.drop_of_length_le (by have := HLN.out; omega)]; simp [fpL])
      have hrd := RdI.of_own (OwC.of_own hown)
      rw [← HD0.out] at hrd
      have HRD := Lib.hid hrd
      have HBB := Lib.hid hbb.out
      clear hown hd hbb hrd
      go_wp2
      clear x0 x1 x2 x3 x4 x5 x6
      go_loopw [6, 7] (fun t i wz => ∃ (q : Nat) (acc : List (List Int)) (a b : Nat → Nat) (g : Nat → Value) (wq : World), wq = wz ∧ q ≤ n ∧ i = .int .i64 q ∧ Hid (Rws wq wr.heap.size t acc a b g) ∧ acc.length ≤ q ∧ Hid (WL = acc ++ walesGo m ((fpB m).drop q) (q : Int)) ∧ Hid (Below wr.heap.size wr wq)) (fun _ i _ => n - (intOf i).toNat)
      case atStart => exact ⟨0, [], fun _ => 0, fun _ => 0, fun _ => undef, _, rfl, Nat.zero_le _, rfl, Rws.nil (World.ownsRow_lit _ #[] 0 (Nat.le_refl _) (by unfold maxLen; omega) rfl), Nat.le_refl _, HWL.out, (Below.refl _ _).alloc (Nat.le_refl _) _⟩
      case round =>
        obtain ⟨q, acc2, a, b, g, wq, hwe, hq, rfl, hrws, haq, hd, hb⟩ := hrel
        subst hwe
        obtain ⟨x0, x1, x2, x3, x4, x5, x6⟩ := (HC.out.below (HBB.out.trans (hb.out.mono HBB.out.size)) hgl).seven
        by_cases hlt2 : q < n
        · have hfg := HFG.out q hlt2
          have hbz := hb.out.size
          have HH := Lib.hid (l00Has_any _ FP (q : Int) _ ((HRD.out.below hb.out).more hb.out.size))
          have HRW := Lib.hid hrws.out
          have HB := Lib.hid hb.out
          cases hv : FP.contains (q : Int)
          · rw [hv] at hfg HH
            have HD := Lib.hid (wales_no hd.out hfg)
            clear hv hd hfg hrws hb
            go_wp2_with fail
            refine HH.out.mono ?_
            rintro e w4 ⟨rfl, hb4⟩
            have HB4 := Lib.hid (HB.out.trans (hb4.mono HB.out.size))
            have HRW4 := Lib.hid (HRW.out.below hb4)
            have HQ := Lib.hid (HWA.out (q : Int) w4 (HBB.out.trans (HB4.out.mono HBB.out.size)) (by omega) (by omega))
            clear hb4
            go_wp2_with fail
            refine HQ.out.mono ?_
            rintro e w5 ⟨v5, rfl, ho5, hb5⟩
            obtain ⟨A5, c5, rfl, -⟩ := ho5.cells
            have HO5 := Lib.hid ho5
            have HB5 := Lib.hid (HB4.out.trans (hb5.mono HB4.out.size))
            have HBQ := Lib.hid hb5
            have HOW := Lib.hid (own_below HRW4.out.own hb5)
            have hz5 := HB5.out.size
            clear ho5 hb5 HQ
            generalize hN5 : (waleL m (q : Int)).length = N5 at *
            go_wp2_with (at_builtin; refine wpList_append_own_at _ rfl _ _ 22 rfl wr.heap.size 25 i0 _ 1 24 Try.underlying22 hi hz0 hz1 hz2 rfl (by decide) _ _ _ rfl (HOW.out.alloc _) ⟨w5.heap.size, 0, none⟩ 1 1 [.slice A5 N5 c5] rfl rfl ?c1 ?c2 ?c3 ?c4 ?c5 ?_)
            case c1 => exact new_cells' _ _ rfl
            case c2 => exact sl_one _ _ _
            case c3 => unfold maxLen; omega
            case c4 => omega
            case c5 => simp; omega
            intro v' w6 hown6 hg6 _ hat6
            have HR6 := Lib.hid (HRW4.out.snoc (x := waleL m (q : Int)) HB4.out.size HBQ.out (by rw [hN5]; exact HO5.out) hown6 hg6 (by simpa using hat6))
            have HB6 := Lib.hid ((HB5.out.alloc hz5 _).grown hg6 (by simp; omega) (fun k hk => (HOW.out.lt k hk).1))
            clear hown6 hg6 hat6
            go_wp2
            exact ⟨⟨q + 1, acc2 ++ [waleL m (q : Int)], _, _, _, _, rfl, by omega, by go_num, HR6.out, by simp; omega, HD.out, HB6.out⟩, by simp [intOf]; omega⟩
          · rw [hv] at hfg HH
            have HD := Lib.hid (wales_yes hd.out hfg)
            clear hv hd hfg hrws hb
            go_wp2_with fail
            refine HH.out.mono ?_
            rintro e w4 ⟨rfl, hb4⟩
            have HB4 := Lib.hid (HB.out.trans (hb4.mono HB.out.size))
            have HRW4 := Lib.hid (HRW.out.below hb4)
            clear hb4
            go_wp2
            exact ⟨⟨q + 1, acc2, a, b, g, _, rfl, by omega, by go_num, HRW4.out, by omega, HD.out, HB4.out⟩, by simp [intOf]; omega⟩
        · have HD := Lib.hid (show WL = acc2 by rw [hd.out, List.drop_of_length_le (by rw [HFL.out]; omega)]; simp [walesGo])
          have HO := Lib.hid (hrws.out.owN hb.out.size)
          have HBW := Lib.hid (HB.out.trans ((HBB.out.trans (hb.out.mono HBB.out.size)).mono HB.out.size))
          have hlo : w.heap.size ≤ wr.heap.size := by have := HB.out.size; have := HBB.out.size; omega
          clear hd hrws hb
          go_wp2
          go_ret2
          exact GivesLC.yes HOC.out rfl (by rw [HD.out]; exact OwN.wide HO.out hlo (Nat.le_refl _)) HBW.out

end Go.Proofs.Ytbffmekhhfhacaa
