/-
  What comes undone: undone, indicesOf of the program.
-/
import Derived.Test.YtogaellhkjjeaaaMcState
import Derived.StillTailTactics
namespace Go.Proofs.Ytogaellhkjjeaaa
set_option linter.unusedVariables false
set_option linter.unusedSimpArgs false
open Go.RowKit

set_option maxHeartbeats 4000000 in
set_option maxRecDepth 100000 in
theorem indicesOf_any (gl : Nat) (l : List Bool) (w : World) (hr : w.rowIs gl 4 l.length (fun i => .bool (l.getD i false))) (h300 : l.length ≤ 300) :
    Calls Try.prog 71 #[.slice (some ⟨gl, 0, none⟩) l.length l.length] w (GivesOw w 2 1 (idxT 0 l).length (vI (idxT 0 l))) := by
  obtain ⟨i0, hi, hz0, hz1, hz2⟩ := info_parts info_int
  have HR := Lib.hid hr
  generalize hY : idxT 0 l = Y at *
  have HY := Lib.hid hY
  generalize hln : l.length = n at *
  have HLN := Lib.hid hln
  clear hr hY hln
  go_enter Try.func71, Try.ntmps71
  go_wp2
  go_loopw [3, 9] (fun t i wr => ∃ (k : Nat) (acc : List Int), k ≤ n ∧ i = .int .i64 k ∧ wr.ownsRow w.heap.size 2 1 t acc.length (vI acc) ∧ acc.length ≤ k ∧ Hid (Y = acc ++ idxT (k : Int) (l.drop k)) ∧ Below w.heap.size w wr) (fun _ i _ => n - (intOf i).toNat)
  case atStart => exact ⟨0, [], Nat.zero_le _, rfl, World.ownsRow_lit _ _ _ (Nat.le_refl _) (by unfold maxLen; omega) rfl, Nat.le_refl _, by unfold Hid; rw [← HY.out]; rfl, (Below.refl _ _).alloc (Nat.le_refl _) _⟩
  case round =>
    rename_i wr
    obtain ⟨k, acc, hk, rfl, hown, hak, hd, hb⟩ := hrel
    by_cases hlt : k < n
    · have cl := (rowIs_below HR.out hb).cell (i := k) hlt
      have hlk : l[k]? = some (l.getD k false) := by rw [List.getD_eq_getElem?_getD, List.getElem?_eq_getElem (by have := HLN.out; omega)]; rfl
      have HB := Lib.hid hb
      have HO := Lib.hid hown
      cases hv : l.getD k false
      · rw [hv] at cl hlk
        have HD := Lib.hid (idxT_no hd.out hlk)
        clear hb hown hd hlk hv
        go_wp2
        exact ⟨⟨k + 1, acc, by omega, by go_num, HO.out, by omega, HD.out, HB.out⟩, by simp [intOf]; omega⟩
      · rw [hv] at cl hlk
        have HD := Lib.hid (idxT_yes hd.out hlk)
        clear hb hown hd hlk hv
        go_wp2_with (at_builtin; refine wpList_append_own _ rfl _ _ 27 rfl w.heap.size 2 i0 _ 1 8 Try.underlying27 hi hz0 hz1 hz2 rfl (by decide) _ _ _ rfl (HO.out.alloc _) ⟨wr.heap.size, 0, none⟩ 1 1 [.int .i64 (k : Int)] rfl rfl ?c1 ?c2 ?c3 ?c4 ?c5 ?_)
        case c1 => exact new_cells' _ _ rfl
        case c2 => exact int_one _
        case c3 => unfold maxLen; omega
        case c4 => omega
        case c5 => have := HB.out.size; simp; omega
        intro v' w2 hown2 hgrow2 _
        have HB1 := Lib.hid (below_append' (HB.out.alloc HB.out.size _) (by have := HB.out.size; simp; omega) HO.out (by simp) hgrow2)
        have HO1 : Hid (w2.ownsRow w.heap.size 2 1 v' (acc ++ [(k : Int)]).length (vI (acc ++ [(k : Int)]))) := by unfold Hid; rw [vI_snoc, List.length_append]; exact hown2
        clear hgrow2 hown2 HB HO
        go_wp2
        exact ⟨⟨k + 1, acc ++ [(k : Int)], by omega, by go_num, HO1.out, by simp; omega, HD.out, HB1.out⟩, by simp [intOf]; omega⟩
    · have HB := Lib.hid hb
      have HO := Lib.hid hown
      have HD := Lib.hid (show Y = acc by rw [hd.out, List.drop_of_length_le (by have := HLN.out; omega)]; simp [idxT])
      clear hb hown hd
      go_wp2
      go_ret
      exact ⟨_, rfl, by rw [HD.out]; exact OwC.of_own HO.out, HB.out⟩

def GivesBR (w : World) (n : Nat) (F : Nat → Bool) (e : Ending) (w' : World) : Prop := ∃ go, e = .returned (.slice (some ⟨go, 0, none⟩) n n) ∧ w.heap.size ≤ go ∧ w'.rowIs go 4 n (fun i => .bool (F i)) ∧ Below w.heap.size w w'
/-- The row that the closure reads: at least from place lo on it holds F. -/
def ClosR (w : World) (b go n : Nat) (F : Nat → Bool) (lo : Nat) : Prop := w.cell? ⟨b, 0, none⟩ = some (.slice (some ⟨go, 0, none⟩) n n) ∧ ∃ f, w.rowIs go 4 n f ∧ ∀ i, lo ≤ i → i < n → f i = .bool (F i)
set_option maxHeartbeats 4000000 in
theorem undClos_any (b go n lo k : Nat) (F : Nat → Bool) (w : World) (hw : ClosR w b go n F lo) (h1 : lo ≤ k) (h2 : k < n) :
    Calls Try.prog 139 #[.int .i64 (k : Int), .pointer (some ⟨b, 0, none⟩)] w fun e w' => e = .returned (.bool (!F k)) ∧ w = w' := by
  obtain ⟨hc, f, hr, hf⟩ := hw
  have cp := hr.cell (i := k) h2
  rw [hf k h1 h2] at cp
  go_enter Try.func139, Try.ntmps139
  go_wp2
  go_ret
  exact ⟨rfl, rfl⟩

set_option maxHeartbeats 4000000 in
theorem undIdx_any (b go n lo : Nat) (F : Nat → Bool) (v : Value) (l : List Int) (w : World) (hl : RdI w w.heap.size v l) (hw : ClosR w b go n F lo) (hin : ∀ k ∈ l, (lo : Int) ≤ k ∧ k < n) :
    Calls Try.prog 195 #[v, .func (.func 139) #[] #[.pointer (some ⟨b, 0, none⟩)]] w fun e w' => e = .returned (.int .i64 (idxOf (fun k : Int => !F k.toNat) l)) ∧ w = w' := by
  obtain ⟨A, N, c, rfl, hln, hl, gl⟩ := hl
  have HW := Lib.hid hw
  have HIN := Lib.hid hin
  clear hw hin
  go_enter Try.func195, Try.ntmps195
  go_wp2
  go_loopw [5, 8] (fun _ i wr => ∃ k : Nat, k ≤ N ∧ i = .int .i64 k ∧ Hid (idxOf (fun k : Int => !F k.toNat) l = idxFrom (fun k : Int => !F k.toNat) k (l.drop k)) ∧ w = wr) (fun _ i _ => N - (intOf i).toNat)
  case atStart => exact ⟨0, Nat.zero_le _, rfl, rfl, rfl⟩
  case round =>
    obtain ⟨k, hk, rfl, hd, rfl⟩ := hrel
    by_cases hlt : k < N
    · obtain ⟨b1, off, x, rfl, hbb, hlk, hc⟩ := gl k hlt
      have Hl := Lib.hid hlk
      obtain ⟨x0, x1⟩ := HIN.out x (List.mem_of_getElem? hlk)
      obtain ⟨xn, rfl⟩ := Int.eq_ofNat_of_zero_le (show 0 ≤ x by omega)
      have HQ := Lib.hid (undClos_any b go n lo xn F w HW.out (by omega) (by omega))
      clear hlk gl
      rcases hp : F xn
      · have HP := Lib.hid hp
        rw [hp] at HQ
        clear hp
        go_wp2_with (refine (HQ.out).mono ?_; rintro e w1 ⟨rfl, rfl⟩)
        go_ret
        exact ⟨ret_int (by rw [hd.out, drop_of_get Hl.out]; simp [idxFrom, HP.out]), by trivial⟩
      · have HP := Lib.hid hp
        rw [hp] at HQ
        clear hp
        go_wp2_with (refine (HQ.out).mono ?_; rintro e w1 ⟨rfl, rfl⟩)
        exact ⟨⟨k + 1, by omega, by go_num, by unfold Hid; rw [hd.out, drop_of_get Hl.out]; simp [idxFrom, HP.out], by trivial⟩, by simp [intOf]; omega⟩
    · have HL := Lib.hid (show idxOf (fun k : Int => !F k.toNat) l = -1 by rw [hd.out, List.drop_of_length_le (by have := hl.out; omega)]; rfl)
      clear gl hl
      go_wp2
      go_ret
      exact ⟨ret_int HL.out.symm, by trivial⟩

set_option maxHeartbeats 4000000 in
theorem undCont_any (b go n lo : Nat) (F : Nat → Bool) (v : Value) (l : List Int) (w : World) (hl : RdI w w.heap.size v l) (hw : ClosR w b go n F lo) (hin : ∀ k ∈ l, (lo : Int) ≤ k ∧ k < n) :
    Calls Try.prog 138 #[v, .func (.func 139) #[] #[.pointer (some ⟨b, 0, none⟩)]] w fun e w' => e = .returned (.bool (l.any (fun k : Int => !F k.toNat))) ∧ w = w' := by
  have hi := idxOf_any (fun k : Int => !F k.toNat) l
  have HQ := Lib.hid (undIdx_any b go n lo F v l w hl hw hin)
  generalize l.any (fun k : Int => !F k.toNat) = A at hi ⊢
  generalize idxOf (fun k : Int => !F k.toNat) l = I at hi HQ
  clear hl hw hin
  cases A
  · have h0 : (decide (0 ≤ I)) = false := by simpa using hi
    have HH := Lib.hid h0
    have h1 : I < 0 := by simpa using h0
    clear h0 hi
    go_enter Try.func138, Try.ntmps138
    go_wp2_with (refine HQ.out.mono ?_; rintro e w1 ⟨rfl, rfl⟩)
    go_ret
    exact ⟨ret_bool (by first | exact HH.out | rfl), by trivial⟩
  · have h0 : (decide (0 ≤ I)) = true := by simpa using hi
    have HH := Lib.hid h0
    have h1 : 0 ≤ I := by simpa using h0
    clear h0 hi
    go_enter Try.func138, Try.ntmps138
    go_wp2_with (refine HQ.out.mono ?_; rintro e w1 ⟨rfl, rfl⟩)
    go_ret
    exact ⟨ret_bool (by first | exact HH.out | rfl), by trivial⟩

/-- What is left of a region's walk, behind a name that is not laid open. -/
structure LaterS (P : Program) (ops : Array Oper) (w : World) (Q : Act → Prop) (l : List Oper) (a : Act) : Prop where
  out : wpStill P ops w Q l a
theorem lstep {P : Program} {ops : Array Oper} {w : World} {Q : Act → Prop} {a : Act} {o : Oper} {rest : List Oper}
    (h : ∀ K : Act → Prop, (∀ a, LaterS P ops w Q rest a → K a) → if Region.wanted o (yielded ops a.tmps) then o.still P a w K else K (a.put o.dst undef)) : LaterS P ops w Q (o :: rest) a :=
  ⟨wpStill_step fun K hK => h K fun a ha => hK a ha.out⟩
theorem lnil {P : Program} {ops : Array Oper} {w : World} {Q : Act → Prop} {a : Act} (h : Q a) : LaterS P ops w Q [] a := ⟨wpStill_nil h⟩

theorem undR_at {m : Mc} {H : Int → Bool} {n j : Nat} (hn : m.ls.length = n) (hj : j < n) : undR m H (n - j) = (!H (j : Int) && (chL m (j : Int)).all (fun k => (undR m H (n - (j + 1))).getD (k.toNat - (j + 1)) false)) :: undR m H (n - (j + 1)) := by
  rw [show n - j = (n - (j + 1)) + 1 by omega, undR]
  have e1 : (m.ls.length : Int) - (((n - (j + 1) : Nat) : Int) + 1) = (j : Int) := by omega
  have e2 : (m.ls.length : Int) - ((n - (j + 1) : Nat) : Int) = (j : Int) + 1 := by omega
  rw [e1, e2]
  congr 2
  refine congrArg (fun f => (chL m (j : Int)).all f) (funext fun k => ?_)
  rw [show (k - ((j : Int) + 1)).toNat = k.toNat - (j + 1) by omega]
theorem und_new {m : Mc} {H : Int → Bool} {n j : Nat} {f3 : Nat → Value} {b : Bool} (hn : m.ls.length = n) (hj : j < n) (hf : ∀ q, j + 1 ≤ q → q < n → f3 q = .bool ((undR m H (n - (j + 1))).getD (q - (j + 1)) false))
    (hb : b = (!H (j : Int) && (chL m (j : Int)).all (fun k => (undR m H (n - (j + 1))).getD (k.toNat - (j + 1)) false))) :
    ∀ q, j ≤ q → q < n → (fun i => if i = j then Value.bool b else f3 i) q = .bool ((undR m H (n - j)).getD (q - j) false) := by
  intro q h1 h2
  rw [undR_at hn hj, ← hb]
  by_cases e : q = j
  · subst e; simp
  · simp only [e, if_false]
    rw [hf q (by omega) h2, show q - j = (q - (j + 1)) + 1 by omega]
    rfl

set_option maxHeartbeats 8000000 in
set_option maxRecDepth 100000 in
theorem undone_any (m : Mc) (g gl : Nat) (H : Int → Bool) (w : World) (h : RdP w g m) (ok : okM m = true) (hr : w.rowIs gl 4 m.ls.length (fun i => .bool (H (i : Int)))) :
    Calls Try.prog 72 #[.pointer (some ⟨g, 0, none⟩), .slice (some ⟨gl, 0, none⟩) m.ls.length m.ls.length] w (GivesBR w m.ls.length (fun i => (undL m H).getD i false)) := by
  have h300 := ls_len ok
  have hgl := h.lt
  have hlr := rowIs_lt hr
  have HP := Lib.hid h
  have HOK := Lib.hid ok
  have HR := Lib.hid hr
  have HCR := Lib.hid (fun (c k : Int) (hk : k ∈ chL m c) => chL_rng ok hk)
  obtain ⟨F, G, C, L, D, hc, h1, h2, h3, h4, h5, h6⟩ := h
  obtain ⟨AI, cI, rfl⟩ := RdN.shape h4
  have HC := Lib.hid hc
  have HU := Lib.hid (show undL m H = undR m H m.ls.length from rfl)
  generalize hln : m.ls.length = n at *
  have HLN := Lib.hid hln
  have hmk : ∀ W : World, (Instr.makeSlice 94 (.int .i64 (n : Int)) (.int .i64 (n : Int))).run Try.prog W = .ok (.slice (some ⟨W.heap.size, 0, none⟩) n n) (W.alloc (.cells (madeCells #[.bool false] n) 4)) := fun W => run_make_row' (P := Try.prog) 94 4 (.bool false) 1 Try.underlying94 info_bool rfl .i64 .i64 n (by omega) (by omega) W
  clear h1 h2 h3 h4 h5 h6 hc hln ok hr
  go_enter Try.func72, Try.ntmps72
  go_wp2_with fail
  refine (children_any m g _ HP.out HOK.out).mono ?_
  rintro e w2 ⟨f, rfl, hm, hb2⟩
  rw [HLN.out] at hm
  rw [HLN.out]
  have HB2 := Lib.hid hb2
  have HM2 := Lib.hid hm
  have hwl2 : w.heap.size < w2.heap.size := rowIs_lt hm.row
  have HR2 := Lib.hid (rowIs_below HR.out hb2)
  obtain ⟨x0, x1, x2, x3, x4, x5, x6⟩ := (HC.out.below HB2.out hgl).seven
  have hg2 : g < w2.heap.size := by omega
  clear hm hb2
  go_wp2
  clear hmk x0 x1 x2 x3 x4 x5 x6
  go_loopw [7] (fun i wr => ∃ (j1 : Nat) (f3 : Nat → Value), j1 ≤ n ∧ i = .int .i64 ((j1 : Int) - 1) ∧ wr.rowIs w2.heap.size 4 n f3 ∧ Hid (∀ q, j1 ≤ q → q < n → f3 q = .bool ((undR m H (n - j1)).getD (q - j1) false)) ∧ Hid (wr.cell? ⟨w2.heap.size + 1, 0, none⟩ = some (.slice (some ⟨w2.heap.size, 0, none⟩) n n)) ∧ Hid (Below w2.heap.size w2 wr)) (fun i _ => (intOf i + 1).toNat)
  case atStart =>
    refine ⟨n, fun _ => .bool false, Nat.le_refl _, rfl, ?_, fun q h1 h2 => absurd h1 (by omega), ?_, ?_⟩
    · exact rowIs_below (World.rowIs_made _ _ _ _) ((Below.refl _ _).alloc (Nat.le_refl _) _)
    · unfold Hid; simp [go_sem]
    · exact ((Below.refl _ _).alloc (Nat.le_refl _) _).alloc (by simp) _
  case round =>
    rename_i wr
    obtain ⟨j1, f3, hj1, h7, hrow, hf, hcb, hbb⟩ := hrel
    by_cases hj0 : j1 = 0
    · subst hj0
      rw [show ((0 : Nat) : Int) - 1 = -1 by omega] at h7
      subst h7
      have cb := hcb.out
      have HROW := Lib.hid (rowIs_congr (f' := fun i => .bool ((undL m H).getD i false)) hrow (fun i hi => by rw [hf.out i (Nat.zero_le _) hi, HU.out]; simp))
      have HBW := Lib.hid (HB2.out.trans (hbb.out.mono HB2.out.size))
      clear hrow
      go_wp2
      go_ret
      exact ⟨_, rfl, by omega, HROW.out, HBW.out⟩
    · obtain ⟨j, rfl⟩ : ∃ j, j1 = j + 1 := ⟨j1 - 1, by omega⟩
      rw [show ((j + 1 : Nat) : Int) - 1 = (j : Int) by omega] at h7
      subst h7
      have hjn : j < n := by omega
      have cl := (rowIs_below (rowIs_below HR2.out (Below.refl _ _)) hbb.out).cell (i := j) hjn
      have cb := hcb.out
      have cp := hrow.cell (i := j) hjn
      have fz := fun i => hrow.frozen i
      have hjn' : (j : Int) < (n : Int) := by omega
      have HROW := Lib.hid hrow
      clear hrow hj0
      cases hH : H (j : Int)
      · rw [hH] at cl
        have hmat := HM2.out.below hbb.out
        have cm := hmat.row.cell (i := j) hjn
        obtain ⟨Ak, ck, hfk, -⟩ := (OwC.of_own (hmat.own j hjn)).cells
        rw [hfk] at cm
        have HRD := Lib.hid (show RdI wr wr.heap.size (.slice Ak (chL m (j : Int)).length ck) (chL m (j : Int)) from by rw [← hfk]; exact RdI.of_own (OwC.of_own (hmat.own j hjn)))
        have HIN := Lib.hid (HCR.out (j : Int))
        have hF : ClosR wr.drew (w2.heap.size + 1) w2.heap.size n (fun q => (undR m H (n - (j + 1))).getD (q - (j + 1)) false) (j + 1) := ⟨cb, f3, HROW.out, hf.out⟩
        have HQ := Lib.hid ((undCont_any (w2.heap.size + 1) w2.heap.size n (j + 1) (fun q => (undR m H (n - (j + 1))).getD (q - (j + 1)) false) _ _ wr.drew HRD.out hF (fun k hk => by have := HIN.out k hk; omega)).mono (fun e w' h => (⟨h.1, h.2.symm⟩ : _ ∧ w' = wr.drew)))
        have HBV := Lib.hid (show (!(chL m (j : Int)).any (fun k : Int => !(undR m H (n - (j + 1))).getD (k.toNat - (j + 1)) false)) = (!H (j : Int) && (chL m (j : Int)).all (fun k => (undR m H (n - (j + 1))).getD (k.toNat - (j + 1)) false)) by rw [hH, List.not_any_eq_all_not]; simp)
        clear hmat hfk hH hF
        generalize (chL m (j : Int)).any (fun k : Int => !(undR m H (n - (j + 1))).getD (k.toNat - (j + 1)) false) = B at HQ HBV
        have HNEW := Lib.hid (und_new HLN.out hjn hf.out HBV.out)
        go_wp2
        refine wp_region_still_tail 17 (by kernel_rfl) (by kernel_rfl) ?_
        simp only [List.take_succ_cons, List.take_zero, List.drop_succ_cons, List.drop_zero]
        refine LaterS.out ?_
        repeat (refine lstep (fun K hK => ?_); go_simp; refine hK _ ?_; clear hK K)
        refine lstep (fun K hK => ?_)
        go_simp
        refine ⟨_, HQ.out, hK _ ?_⟩
        clear hK K
        repeat (refine lstep (fun K hK => ?_); go_simp; refine hK _ ?_; clear hK K)
        refine lnil ?_
        change wpList _ _ _ _ _ wr.drew
        have HRD2 : Hid (wr.drew.rowIs w2.heap.size 4 n f3) := HROW.out
        have HCD2 : Hid (wr.drew.cell? ⟨w2.heap.size + 1, 0, none⟩ = some (.slice (some ⟨w2.heap.size, 0, none⟩) n n)) := cb
        have HBD2 := Lib.hid hbb.out.drew
        clear cl cb cp fz cm
        generalize wr.drew = wd at *
        have cp := HRD2.out.cell (i := j) hjn
        have fz := fun i => HRD2.out.frozen i
        go_wp2
        refine ⟨⟨j, (fun i => if i = j then Value.bool (!B) else f3 i), ?_, ?_, ?_, HNEW.out, ?_, ?_⟩, ?_⟩
        · omega
        · rfl
        · exact HRD2.out.set _ _
        · exact (World.cell?_setCell_other wd _ _ _ (by intro e; injection e with e; omega)).trans HCD2.out
        · exact HBD2.out.setCell (Nat.le_refl _) _
        · simp only [intOf]; omega
      · rw [hH] at cl
        have HBV := Lib.hid (show false = (!H (j : Int) && (chL m (j : Int)).all (fun k => (undR m H (n - (j + 1))).getD (k.toNat - (j + 1)) false)) by rw [hH]; rfl)
        have HNEW := Lib.hid (und_new HLN.out hjn hf.out HBV.out)
        clear hH
        go_wp2
        refine wp_region_still_tail 17 (by kernel_rfl) (by kernel_rfl) ?_
        simp only [List.take_succ_cons, List.take_zero, List.drop_succ_cons, List.drop_zero]
        refine LaterS.out ?_
        repeat (refine lstep (fun K hK => ?_); go_simp; refine hK _ ?_; clear hK K)
        refine lnil ?_
        change wpList _ _ _ _ _ wr.drew
        have HRD2 : Hid (wr.drew.rowIs w2.heap.size 4 n f3) := HROW.out
        have HCD2 : Hid (wr.drew.cell? ⟨w2.heap.size + 1, 0, none⟩ = some (.slice (some ⟨w2.heap.size, 0, none⟩) n n)) := cb
        have HBD2 := Lib.hid hbb.out.drew
        clear cl cb cp fz
        generalize wr.drew = wd at *
        have cp := HRD2.out.cell (i := j) hjn
        have fz := fun i => HRD2.out.frozen i
        go_wp2
        refine ⟨⟨j, (fun i => if i = j then Value.bool false else f3 i), ?_, ?_, ?_, HNEW.out, ?_, ?_⟩, ?_⟩
        · omega
        · rfl
        · exact HRD2.out.set _ _
        · exact (World.cell?_setCell_other wd _ _ _ (by intro e; injection e with e; omega)).trans HCD2.out
        · exact HBD2.out.setCell (Nat.le_refl _) _
        · simp only [intOf]; omega

end Go.Proofs.Ytogaellhkjjeaaa
