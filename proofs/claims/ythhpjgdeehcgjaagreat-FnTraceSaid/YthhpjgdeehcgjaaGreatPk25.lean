/-
  Texts joined: TrF, CntI, Ope, FtA.
-/
import Derived.Test.YthhpjgdeehcgjaaGreatPk23
import Derived.Test.YthhpjgdeehcgjaaGreatPk1
import Derived.Test.YthhpjgdeehcgjaaGreatPk15
import Derived.Test.YthhpjgdeehcgjaaGreatPk17
import Derived.Test.YthhpjgdeehcgjaaGreatPk16
import Derived.Test.YthhpjgdeehcgjaaGreatMcValid
import Derived.Test.YthhpjgdeehcgjaaGreatPk18
import Derived.Test.YthhpjgdeehcgjaaGreatPk24
import Derived.Test.YthhpjgdeehcgjaaGreatPk10
import Derived.Test.YthhpjgdeehcgjaaGreatWords
import Derived.Test.YthhpjgdeehcgjaaGreatAppend
/-
  Traces in plain Lean: the events of an operation are valid for the strands that lie there, and leave the strands that lie behind it.
-/
namespace Go.Proofs.YthhpjgdeehcgjaaGreat
set_option linter.unusedVariables false
set_option linter.unusedSimpArgs false
open Go.RowKit

theorem cnt_app : ∀ {a b : List Ev} {n k : Int}, cntE n a = some k → cntE n (a ++ b) = cntE k b
  | [], b, n, k, h => by
    rw [cntE, Option.some.injEq] at h
    rw [h]
    rfl
  | e :: t, b, n, k, h => by
    rw [cntE] at h
    rw [List.cons_append, cntE]
    split at h
    · rename_i hv
      rw [if_pos hv]
      exact cnt_app h
    · simp at h
theorem cnt_cr {n : Int} (h12 : n ≤ 12) : ∀ {L : List (Int × Int)}, (∀ c ∈ L, 0 ≤ c.1 ∧ c.1 + 2 ≤ n ∧ (c.2 = 1 ∨ c.2 = -1)) → cntE n (crEs L) = some n
  | [], _ => rfl
  | c :: t, h => by
    obtain ⟨h1, h2, h3⟩ := h c (by simp)
    have hv : valE n (crEv c) = true ∧ aftE n (crEv c) ≤ 12 := by
      refine ⟨?_, ?_⟩
      · obtain ⟨p, s⟩ := c
        have e : valE n (crEv (p, s)) = (decide (0 ≤ p) && (decide (p ≤ n - 2) && (decide (s = 1 ∨ s = -1) && true))) := by rw [valE_K]; rfl
        rw [e]
        simp only [Bool.and_eq_true, decide_eq_true_eq, and_true]
        have h1' : 0 ≤ p := h1
        have h2' : p + 2 ≤ n := h2
        exact ⟨h1', by omega, h3⟩
      · simp [aftE, crEv]
        omega
    rw [show crEs (c :: t) = crEv c :: crEs t from rfl, cntE, if_pos hv, show aftE n (crEv c) = n by simp [aftE, crEv]]
    exact cnt_cr h12 fun c' hc => h c' (by simp [hc])
theorem cnt_one {n t : Int} {e : Ev} (hv : valE n e = true) (h : t = aftDs n [e]) (ht : t ≤ 12) : cntE n [e] = some t := by
  have ha : aftE n e = t := h.symm
  rw [cntE, if_pos ⟨hv, by omega⟩, ha]
  rfl
/-- The events of an operation. -/
theorem cnt_do {m : Mc} {x : Opr} (ok : OkP m) (hop : okOpW m.wd x = true) (h0 : doCode m x = 0) (h12 : totN m ≤ 12) (h13 : totN (doTo m x) ≤ 12) : cntE (totN m) (evD m x) = some (totN (doTo m x) : Int) := by
  have ht := tot_do ok hop h0
  obtain ⟨hk0, hfw, htw⟩ := okOpW_iff.1 hop
  have hb : ndB x.fb x.fa = true → (x.fb = 1 ∨ x.fb = 2) ∧ befS m x.f + szN m x.f ≤ totN m := fun hf => by
    obtain ⟨a1, a2, a3⟩ := ndB_iff.1 hf
    exact ⟨a1, bef_tot ok ⟨a1, a2, hfw⟩⟩
  have h4 : szN m x.f ≤ 4 := ok.on4 x.f
  rcases okOp_kinds hk0 with ⟨hk, hd, hf, c1, c4, -⟩ | ⟨hk, hf, hto, hne, -⟩ | ⟨hk, hf, hto, hne, hd, c1, c4, -⟩ | ⟨hk, hf, -⟩ | ⟨hk, hr1, hr2, -⟩ | ⟨hk, -⟩ | ⟨hk, -⟩
  · obtain ⟨b1, b2⟩ := hb hf
    rcases hk with hk | hk | hk
    · rw [evD1 hk] at ht ⊢
      refine cnt_one ?_ ht (by omega)
      rw [valE_K]
      simp [valK, stitB, stit3, bedB, yarnB, dirB]
      omega
    · rw [evD2 hk] at ht ⊢
      refine cnt_one ?_ ht (by omega)
      rw [valE_K]
      simp [valK, stitB, stit3, bedB, yarnB, dirB]
      omega
    · rw [evD0 (by omega) (by omega) (by omega) (by omega) (by omega)] at ht ⊢
      rw [ht]
      rfl
  · rw [evD0 (by omega) (by omega) (by omega) (by omega) (by omega)] at ht ⊢
    rw [ht]
    rfl
  · obtain ⟨b1, b2⟩ := hb hf
    have hs : 0 < szN m x.f := by
      unfold doCode at h0
      rw [if_pos (.inr (.inr hk))] at h0
      unfold fmCode at h0
      split at h0
      · omega
      split at h0
      · omega
      rw [if_neg (by omega), if_neg (by omega)] at h0
      exact (mvCode_zero h0).2.1
    rw [evD5 hk] at ht ⊢
    refine cnt_one ?_ ht (by omega)
    rw [valE_K]
    rcases b1 with b1 | b1
    · simp [valK, stitB, stit3, bedB, yarnB, dirB, b1]
      omega
    · simp [valK, stitB, stit3, bedB, yarnB, dirB, b1]
      omega
  · obtain ⟨b1, b2⟩ := hb hf
    have hs : 0 < szN m x.f := by
      unfold doCode at h0
      rw [if_neg (by omega), if_neg (by omega), if_neg (by omega), if_pos hk] at h0
      unfold szN
      split at h0
      · omega
      · omega
    rw [evD6 hk] at ht ⊢
    refine cnt_one ?_ ht (by omega)
    rw [valE_K]
    simp [valK, plainB]
    omega
  · have hc := rkAll_in (r := x.r) (by omega) (by omega) (x.r - m.rk).natAbs ok rfl
    rw [evD7 hk] at ht ⊢
    rw [aftDs_cr] at ht
    rw [ht]
    exact cnt_cr (by omega) hc
  · rw [evD0 (by omega) (by omega) (by omega) (by omega) (by omega)] at ht ⊢
    rw [ht]
    rfl
  · rw [evD0 (by omega) (by omega) (by omega) (by omega) (by omega)] at ht ⊢
    rw [ht]
    rfl
/-- What is behind a trace that ends well: each step. -/
theorem tr_step {l : List Opr} {k : Nat} {x : Opr} {m : Mc} {acc : List Ev} {Y : List Ev × Int} (h : Y = trGo (l.drop k) m acc) (hx : l[k]? = some x) (h0 : Y.2 = 0) : doCode m x = 0 ∧ totN (doTo m x) ≤ 12 ∧ (acc ++ evD m x).length ≤ 2000 ∧ Y = trGo (l.drop (k + 1)) (doTo m x) (acc ++ evD m x) := by
  by_cases hc : doCode m x = 0
  · by_cases hf : 2000 < (acc ++ evD m x).length ∨ 12 < totN (doTo m x)
    · rw [tr_full h hx hc hf] at h0
      simp at h0
    · exact ⟨hc, by omega, by omega, tr_on h hx hc hf⟩
  · rw [tr_bad h hx hc] at h0
    exact absurd h0 hc
theorem tr_pre : ∀ {l : List Opr} {m : Mc} {acc : List Ev}, (trGo l m acc).2 = 0 → ∃ R, (trGo l m acc).1 = acc ++ R
  | [], m, acc, _ => ⟨[], by simp [trGo]⟩
  | x :: t, m, acc, h => by
    rw [trGo] at h ⊢
    split at h
    · rename_i hc
      rw [if_pos hc]
      split at h
      · simp at h
      · rename_i hf
        rw [if_neg hf]
        obtain ⟨R, hR⟩ := tr_pre h
        exact ⟨evD m x ++ R, by rw [hR, List.append_assoc]⟩
    · rename_i hc
      exact absurd h hc
theorem tr_part {l : List Opr} {k : Nat} {m : Mc} {acc : List Ev} {Y : List Ev × Int} (h : Y = trGo (l.drop k) m acc) (h0 : Y.2 = 0) : ∃ R, Y.1 = acc ++ R := by
  rw [h] at h0 ⊢
  exact tr_pre h0
theorem cut_mid {acc E R : List Ev} {n : Nat} (h : n = acc.length) : ((acc ++ E ++ R).drop n).take (acc.length + E.length - n) = E := by
  rw [h, List.append_assoc, List.drop_left, Nat.add_sub_cancel_left, List.take_left]

end Go.Proofs.YthhpjgdeehcgjaaGreat

/-
  ValidEvents and StrandsOf of the program.
-/
namespace Go.Proofs.YthhpjgdeehcgjaaGreat
set_option linter.unusedVariables false
set_option linter.unusedSimpArgs false
open Go.RowKit

def okEvs (l : List Ev) : Bool := (cntE 0 l).isSome && decide (l.length ≤ 2000)

set_option maxHeartbeats 1000000 in
theorem implValidEvents_any (v : Value) (l : List Ev) (w : World) (B : Nat) (hl : RdE w B v l) (hB : B ≤ w.heap.size) :
    Calls Tryz.prog 14 #[v] w fun e w' => e = .returned (.bool (okEvs l)) ∧ Below w.heap.size w w' := by
  have HL := Lib.hid hl
  obtain ⟨A, n, c, rfl, hln, hl, gl⟩ := hl
  have hok : okEvs l = ((cntE 0 l).isSome && decide ((n : Int) ≤ 2000)) := by unfold okEvs; rw [hl.out, Bool.eq_iff_iff]; simp; omega
  rw [hok]
  clear hok gl
  cases hR : cntE 0 l
  all_goals
    have HR := Lib.hid hR
    clear hR
    go_enter Tryz.func14, Tryz.ntmps14
    go_wp2_with fail
    refine (strandsAfter_any _ l 0 (by omega) (by omega) _ _ HL.out hB).mono ?_
    rintro e w1 ⟨he, hb1⟩
    rw [HR.out] at he
    unfold cntR at he
    subst he
    have HB1 := Lib.hid hb1
    clear hb1
    go_wp2
    go_ret
    exact ⟨rfl, HB1.out⟩

def str0 (l : List Ev) : Int := if okEvs l = true then (cntE 0 l).getD 0 else 0
def str1 (l : List Ev) : Int := if okEvs l = true then 0 else 1
def strandsR (l : List Ev) (e : Ending) : Prop := e = .returned (.tuple #[.int .i64 (str0 l), .int .i64 (str1 l)])

set_option maxHeartbeats 1000000 in
theorem implStrandsOf_any (v : Value) (l : List Ev) (w : World) (hl : RdE w w.heap.size v l) :
    Calls Tryz.prog 13 #[v] w fun e w' => strandsR l e ∧ Below w.heap.size w w' := by
  have HL := Lib.hid hl
  clear hl
  cases hok : okEvs l
  · have HO := Lib.hid hok
    clear hok
    go_enter Tryz.func13, Tryz.ntmps13
    go_wp2_with (go_at_call 14; refine (implValidEvents_any _ l _ _ HL.out (Nat.le_refl _)).mono ?_; rintro e w1 ⟨rfl, hb1⟩; rw [HO.out])
    go_ret2
    exact ⟨by unfold strandsR str0 str1; rw [HO.out]; rfl, hb1⟩
  · have HO := Lib.hid hok
    obtain ⟨m, hm⟩ : ∃ m, cntE 0 l = some m := by
      unfold okEvs at hok
      cases h : cntE 0 l
      · rw [h] at hok; simp at hok
      · exact ⟨_, rfl⟩
    have HM := Lib.hid hm
    clear hok hm
    go_enter Tryz.func13, Tryz.ntmps13
    go_wp2_with fail
    refine (implValidEvents_any _ l _ _ HL.out (Nat.le_refl _)).mono ?_
    rintro e w1 ⟨rfl, hb1⟩
    rw [HO.out]
    have HL1 := Lib.hid ((HL.out.below hb1).more hb1.size)
    have HB1 := Lib.hid hb1
    clear hb1
    go_wp2_with fail
    refine (strandsAfter_any _ l 0 (by omega) (by omega) _ _ HL1.out (Nat.le_refl _)).mono ?_
    rintro e w2 ⟨he, hb2⟩
    rw [HM.out] at he
    unfold cntR at he
    subst he
    have HB2 := Lib.hid (HB1.out.trans (hb2.mono HB1.out.size))
    clear hb2
    go_wp2
    go_ret2
    exact ⟨by unfold strandsR str0 str1; rw [HO.out, HM.out]; rfl, HB2.out⟩

end Go.Proofs.YthhpjgdeehcgjaaGreat

/-
  OpEvents, of the program and of the reference.
-/
namespace Go.Proofs.YthhpjgdeehcgjaaGreat
set_option linter.unusedVariables false
set_option linter.unusedSimpArgs false
open Go.RowKit

/-- The code of OpEvents, and its events. -/
def oeC (m : Mc) (x : Opr) : Int := if okM m = false then 1 else if okOpW m.wd x = false then 1 else doCode m x
def oeR (m : Mc) (x : Opr) : List Ev := if oeC m x = 0 then evD m x else []
theorem oeC_0 {m : Mc} {x : Opr} (h : okM m = false) : oeC m x = 1 := by unfold oeC; rw [if_pos h]
theorem oeC_1 {m : Mc} {x : Opr} (h : okOpW m.wd x = false) : oeC m x = 1 := by unfold oeC; split; rfl; rfl
theorem oeC_2 {m : Mc} {x : Opr} (h : okM m = true) (h1 : okOpW m.wd x = true) : oeC m x = doCode m x := by unfold oeC; rw [if_neg (by rw [h]; decide), if_neg (by rw [h1]; decide)]
theorem oeR_no {m : Mc} {x : Opr} (h : oeC m x ≠ 0) : oeR m x = [] := by unfold oeR; rw [if_neg h]
theorem oeR_yes {m : Mc} {x : Opr} (h : oeC m x = 0) : oeR m x = evD m x := by unfold oeR; rw [if_pos h]

set_option maxHeartbeats 8000000 in
set_option maxRecDepth 100000 in
theorem implOpEvents_any (v : Value) (m : Mc) (x : Opr) (w : World) (hl : RdM w w.heap.size v m) (hf : FitM m) : Calls Tryz.prog 8 #[v, x.v] w (GivesC w 47 6 (oeR m x).length (vE (oeR m x)) (oeC m x)) := by
  have hl0 := hl
  obtain ⟨f, b, cs, ls, d, rfl, h1, h2, h3, h4, h5, h6⟩ := hl
  obtain ⟨AF, cF, rfl⟩ := RdN.shape h1
  obtain ⟨AG, cG, rfl⟩ := RdN.shape h2
  obtain ⟨AC, cC, rfl⟩ := RdS.lens h3
  obtain ⟨AI, cI, rfl⟩ := RdN.shape h4
  obtain ⟨AD, cD, rfl⟩ := RdI.len h5
  have BW := Lib.hid (show Below w.heap.size w (w.alloc (.cells #[.int .i64 m.wd, .int .i64 m.rk, .slice AF m.fr.length cF, .slice AG m.bk.length cG, .slice AC m.cs.length cC, .slice AI m.ls.length cI, .slice AD m.dr.length cD] 34)) from (Below.refl _ _).alloc (Nat.le_refl _) _)
  have HP := Lib.hid (RdP.box (T := 34) h1 h2 h3 h4 h5 h6)
  have HM := Lib.hid (hl0.up BW.out BW.out.size)
  clear h1 h2 h3 h4 h5 h6 hl0
  have hbA := (Below.refl (w.alloc (.cells (mcV m.wd m.rk (.slice AF m.fr.length cF) (.slice AG m.bk.length cG) (.slice AC m.cs.length cC) (.slice AI m.ls.length cI) (.slice AD m.dr.length cD)) 34)).heap.size (w.alloc (.cells (mcV m.wd m.rk (.slice AF m.fr.length cF) (.slice AG m.bk.length cG) (.slice AC m.cs.length cC) (.slice AI m.ls.length cI) (.slice AD m.dr.length cD)) 34))).alloc (Nat.le_refl _) (.cells #[.int .i64 x.k, .int .i64 x.d, .int .i64 x.fb, .int .i64 x.fa, .int .i64 x.tb, .int .i64 x.ta, .int .i64 x.c, .int .i64 x.r] 41)
  have ho0 := Bx.new (w.alloc (.cells (mcV m.wd m.rk (.slice AF m.fr.length cF) (.slice AG m.bk.length cG) (.slice AC m.cs.length cC) (.slice AI m.ls.length cI) (.slice AD m.dr.length cD)) 34)) [.int .i64 x.k, .int .i64 x.d, .int .i64 x.fb, .int .i64 x.fa, .int .i64 x.tb, .int .i64 x.ta, .int .i64 x.c, .int .i64 x.r] 41
  rw [World.size_alloc] at ho0
  have HO0 := Lib.hid ho0
  have hx0 : CellsAt (w.alloc (.cells (mcV m.wd m.rk (.slice AF m.fr.length cF) (.slice AG m.bk.length cG) (.slice AC m.cs.length cC) (.slice AI m.ls.length cI) (.slice AD m.dr.length cD)) 34)) w.heap.size 0 (mcV m.wd m.rk (.slice AF m.fr.length cF) (.slice AG m.bk.length cG) (.slice AC m.cs.length cC) (.slice AI m.ls.length cI) (.slice AD m.dr.length cD)).toList := CellsAt.of_alloc
  have HX0 := Lib.hid (hx0.below hbA (by simp))
  have HP2 := Lib.hid (HP.out.below hbA)
  have HM2 := Lib.hid (HM.out.up hbA hbA.size)
  have HB2 := Lib.hid (BW.out.trans (hbA.mono BW.out.size))
  have HCC := Lib.hid (fun h => oeC_0 (m := m) (x := x) h)
  have HCW := Lib.hid (fun h => oeC_1 (m := m) (x := x) h)
  have HCO := Lib.hid (fun h h1 => oeC_2 (m := m) (x := x) h h1)
  have HRN := Lib.hid (fun h => oeR_no (m := m) (x := x) h)
  have HRY := Lib.hid (fun h => oeR_yes (m := m) (x := x) h)
  generalize oeC m x = cc at *
  generalize oeR m x = L at *
  clear ho0 hbA hf HP HM BW hx0
  cases hok : okM m
  · have hc := HCC.out hok
    have hL := HRN.out (by rw [hc]; decide)
    subst hc hL
    have HK := Lib.hid hok
    clear hok HCC HCW HCO HRN HRY
    go_enter Tryz.func8, Tryz.ntmps8
    go_wp2_with fail
    refine (validMachine_any _ m _ HM2.out).mono ?_
    rintro e w2 ⟨rfl, hb⟩
    rw [HK.out]
    have HB3 := Lib.hid (HB2.out.trans (hb.mono HB2.out.size))
    clear hb
    go_wp2
    refine bodyPost_ret (v := .tuple #[.slice none 0 0, .int .i64 1]) (by simp [results, Tryz.results8, go_sem]) rfl ?_
    exact ⟨_, rfl, OwC.nil, HB3.out⟩
  have HK := Lib.hid hok
  clear hok HCC
  cases hop : okOp x
  · have hc := HCW.out (by unfold okOpW; rw [hop]; rfl)
    have hL := HRN.out (by rw [hc]; decide)
    subst hc hL
    have HOP := Lib.hid hop
    clear hop HCW HCO HRN HRY
    go_enter Tryz.func8, Tryz.ntmps8
    go_wp2_with fail
    generalize (w.alloc (.cells (mcV m.wd m.rk (.slice AF m.fr.length cF) (.slice AG m.bk.length cG) (.slice AC m.cs.length cC) (.slice AI m.ls.length cI) (.slice AD m.dr.length cD)) 34)).alloc (.cells #[.int .i64 x.k, .int .i64 x.d, .int .i64 x.fb, .int .i64 x.fa, .int .i64 x.tb, .int .i64 x.ta, .int .i64 x.c, .int .i64 x.r] 41) = W1 at *
    refine (validMachine_any _ m _ HM2.out).mono ?_
    rintro e w2 ⟨rfl, hb⟩
    rw [HK.out]
    have HB3 := Lib.hid (HB2.out.trans (hb.mono HB2.out.size))
    obtain ⟨o0, o1, o2, o3, o4, o5, o6, o7⟩ := (HO0.out.below hb HO0.out.2.2).eight
    clear hb
    go_wp2_with fail
    refine (validOp_any x _).mono ?_
    rintro e w3 ⟨rfl, hb⟩
    rw [HOP.out]
    have HB4 := Lib.hid (HB3.out.trans (hb.mono HB3.out.size))
    clear hb o0 o1 o2 o3 o4 o5 o6 o7
    go_wp2
    refine bodyPost_ret (v := .tuple #[.slice none 0 0, .int .i64 1]) (by simp [results, Tryz.results8, go_sem]) rfl ?_
    exact ⟨_, rfl, OwC.nil, HB4.out⟩
  have HOP := Lib.hid hop
  have HCODE : Hid (∀ (W : World), RdP W w.heap.size m → Calls Tryz.prog 25 #[.pointer (some ⟨w.heap.size, 0, none⟩), x.v] W fun e w' => e = .returned (.int .i64 cc) ∧ Below W.heap.size W w') := fun W hW => by
    cases hw : okOpW m.wd x
    · have h1 := HCW.out hw
      rw [h1]
      have h2 : m.wd ≤ x.fa ∨ m.wd ≤ x.ta := by
        unfold okOpW at hw
        rw [hop] at hw
        simp at hw
        by_cases h3 : x.fa < m.wd
        · exact .inr (hw h3)
        · exact .inl (by omega)
      exact opCode_no m _ W hW x.k x.d x.fb x.fa x.tb x.ta x.c x.r h2
    · rw [HCO.out HK.out hw]
      exact opCode_any m _ W hW HK.out x hw
  have HEV : Hid (cc = 0 → ∀ (W : World), RdP W w.heap.size m → Calls Tryz.prog 26 #[.pointer (some ⟨w.heap.size, 0, none⟩), x.v] W (GivesOw W 47 6 L.length (vE L))) := fun h0 W hW => by
    cases hw : okOpW m.wd x
    · have h1 := HCW.out hw
      omega
    · rw [HRY.out h0]
      exact opEvents_any m _ W hW HK.out x hw
  have HN := Lib.hid (fun h => HRN.out h)
  clear hop HCW HCO HRN HRY
  go_enter Tryz.func8, Tryz.ntmps8
  go_wp2_with fail
  generalize (w.alloc (.cells (mcV m.wd m.rk (.slice AF m.fr.length cF) (.slice AG m.bk.length cG) (.slice AC m.cs.length cC) (.slice AI m.ls.length cI) (.slice AD m.dr.length cD)) 34)).alloc (.cells #[.int .i64 x.k, .int .i64 x.d, .int .i64 x.fb, .int .i64 x.fa, .int .i64 x.tb, .int .i64 x.ta, .int .i64 x.c, .int .i64 x.r] 41) = W1 at *
  refine (validMachine_any _ m _ HM2.out).mono ?_
  rintro e w2 ⟨rfl, hb⟩
  rw [HK.out]
  have HB3 := Lib.hid (HB2.out.trans (hb.mono HB2.out.size))
  have HO3 := Lib.hid (HO0.out.below hb HO0.out.2.2)
  have HP3 := Lib.hid (HP2.out.below hb)
  clear hb HB2 HO0 HP2 HM2 HX0
  obtain ⟨o0, o1, o2, o3, o4, o5, o6, o7⟩ := HO3.out.eight
  go_wp2_with fail
  refine (validOp_any x _).mono ?_
  rintro e w3 ⟨rfl, hb⟩
  rw [HOP.out]
  have HB4 := Lib.hid (HB3.out.trans (hb.mono HB3.out.size))
  have HO4 := Lib.hid (HO3.out.below hb HO3.out.2.2)
  have HP4 := Lib.hid (HP3.out.below hb)
  clear hb HB3 HO3 HP3 o0 o1 o2 o3 o4 o5 o6 o7
  obtain ⟨o0, o1, o2, o3, o4, o5, o6, o7⟩ := HO4.out.eight
  go_wp2_with fail
  refine (HCODE.out _ HP4.out).mono ?_
  rintro e w4 ⟨rfl, hb⟩
  have HB5 := Lib.hid (HB4.out.trans (hb.mono HB4.out.size))
  have HO5 := Lib.hid (HO4.out.below hb HO4.out.2.2)
  have HP5 := Lib.hid (HP4.out.below hb)
  clear hb HB4 HO4 HP4 o0 o1 o2 o3 o4 o5 o6 o7
  by_cases h0 : cc = 0
  · have HE := Lib.hid (HEV.out h0)
    subst h0
    clear HEV HCODE HN
    obtain ⟨o0, o1, o2, o3, o4, o5, o6, o7⟩ := HO5.out.eight
    go_wp2_with fail
    refine (HE.out _ HP5.out).mono ?_
    rintro e w5 ⟨v5, rfl, ho5, hb⟩
    have HFIN : Hid (GivesC w 47 6 L.length (vE L) 0 (.returned (.tuple #[v5, .int .i64 0])) w5) := ⟨v5, rfl, ho5.wide HB5.out.size (Nat.le_refl _), HB5.out.trans (hb.mono HB5.out.size)⟩
    clear ho5 hb
    go_wp2
    refine bodyPost_ret (v := .tuple #[v5, .int .i64 0]) (by simp [results, Tryz.results8, go_sem]) rfl ?_
    exact HFIN.out
  · have hc0 : (cc != 0) = true := by simpa using h0
    have hL := HN.out h0
    subst hL
    clear h0 HEV HCODE HN
    go_wp2
    refine bodyPost_ret (v := .tuple #[.slice none 0 0, .int .i64 cc]) (by simp [results, Tryz.results8, go_sem]) rfl ?_
    exact ⟨_, rfl, OwC.nil, HB5.out⟩

end Go.Proofs.YthhpjgdeehcgjaaGreat

/-
  SameEvents of the reference, and the law's comparison of numbers.
-/
namespace Go.Proofs.YthhpjgdeehcgjaaGreat
set_option linter.unusedVariables false
set_option linter.unusedSimpArgs false
open Go.RowKit

/- a loop that compares two slices of six-cell structs by '!=': specSameEvents theorem's name · spec.SameEvents function · [5] the counter's slots ·  kind of loop (for | range) -/
set_option maxHeartbeats 1000000 in
theorem specSameEvents_any (v u : Value) (l m : List Ev) (w : World) (B : Nat) (hl : RdE w B v l) (hm : RdE w B u m) (hB : B ≤ w.heap.size) :
    Calls Tryz.prog 11 #[v, u] w fun x w' => x = .returned (.bool (decide (l = m))) ∧ Below w.heap.size w w' := by
  obtain ⟨A, n, c, rfl, hln, hl, gl⟩ := hl
  obtain ⟨A', n', c', rfl, hmn, hm, gm⟩ := hm
  by_cases hlen : n = n'
  · subst hlen
    go_enter Tryz.func11, Tryz.ntmps11
    go_wp2
    go_loopw [5] (fun  i wr => ∃ k : Nat, k ≤ n ∧ i = .int .i64 k ∧ Hid (decide (l = m) = decide (l.drop k = m.drop k)) ∧ Below w.heap.size w wr) (fun  i _ => n - (intOf i).toNat)
    case atStart => exact ⟨0, Nat.zero_le _, rfl, rfl, Below.refl _ _⟩
    case round =>
      rename_i wr
      obtain ⟨k, hk, rfl, hd, hb⟩ := hrel
      by_cases hlt : k < n
      · obtain ⟨b, off, x, rfl, hbb, hlk, hc⟩ := gl k hlt
        obtain ⟨b', off', y, rfl, hbb', hmk, hc'⟩ := gm k hlt
        obtain ⟨e0, e1, e2, e3, e4, e5⟩ := (hc.below hb (Nat.lt_of_lt_of_le hbb hB)).grow6
        obtain ⟨f0, f1, f2, f3, f4, f5⟩ := (hc'.below hb (Nat.lt_of_lt_of_le hbb' hB)).grow6
        have HB := Lib.hid hb
        have Hl := Lib.hid hlk
        have Hm := Lib.hid hmk
        have hne := neq_ev x y
        clear hc hc' hlk hmk hb gl gm
        go_wp2
        refine wp_region_grow (by kernel_rfl) (by kernel_rfl) ?_
        repeat (go_big_quiet_step (fail))
        refine wpQuiet_nil ?_
        intro w1 hb1
        have HB1 := HB.out.trans (hb1.mono HB.out.size)
        go_wp2
        · go_ret
          exact ⟨ret_bool (by rw [hd.out, drop_of_get Hl.out, drop_of_get Hm.out]; simp_all), HB1⟩
        · exact ⟨⟨k + 1, by omega, by go_num, by unfold Hid; rw [hd.out, drop_of_get Hl.out, drop_of_get Hm.out]; simp_all, HB1⟩, by simp [intOf]; omega⟩
      · have HB := Lib.hid hb
        clear hb gl gm
        go_wp2
        go_ret
        exact ⟨ret_bool (by rw [hd.out, List.drop_of_length_le (by have := hl.out; omega), List.drop_of_length_le (by have := hm.out; omega)]; simp), HB.out⟩
  · have hd1 : ((n : Int) != (n' : Int)) = true := by simp; omega
    go_enter Tryz.func11, Tryz.ntmps11
    go_wp2
    go_ret
    exact ⟨ret_bool (by symm; simp; rintro rfl; exact hlen (hl.out.symm.trans hm.out)), Below.refl _ _⟩
/- as equalS, at slices of int64 -/
set_option maxHeartbeats 1000000 in
set_option maxRecDepth 100000 in
theorem d8Same_any (v u : Value) (l m : List Int) (w : World) (B : Nat) (hl : RdI w B v l) (hm : RdI w B u m) (hB : B ≤ w.heap.size) :
    Calls Tryz.prog 12 #[v, u] w fun x w' => x = .returned (.bool (decide (l = m))) ∧ Below w.heap.size w w' := by
  obtain ⟨A, n, c, rfl, hln, hl, gl⟩ := hl
  obtain ⟨A', n', c', rfl, hmn, hm, gm⟩ := hm
  by_cases hlen : n = n'
  · subst hlen
    go_enter Tryz.func12, Tryz.ntmps12
    go_wp2
    go_loopw [5] (fun  i wr => ∃ k : Nat, k ≤ n ∧ i = .int .i64 k ∧ Hid (decide (l = m) = decide (l.drop k = m.drop k)) ∧ Below w.heap.size w wr) (fun  i _ => n - (intOf i).toNat)
    case atStart => exact ⟨0, Nat.zero_le _, rfl, rfl, Below.refl _ _⟩
    case round =>
      rename_i wr
      obtain ⟨k, hk, rfl, hd, hb⟩ := hrel
      by_cases hlt : k < n
      · obtain ⟨b, off, x, rfl, hbb, hlk, hc⟩ := gl k hlt
        obtain ⟨b', off', y, rfl, hbb', hmk, hc'⟩ := gm k hlt
        have e0 := fun X => wgrow_cell (x := X) ((hb.cell (p := ⟨b, off + k, none⟩) (Nat.lt_of_lt_of_le hbb hB)).trans hc)
        have e1 := fun X => wgrow_cell (x := X) ((hb.cell (p := ⟨b', off' + k, none⟩) (Nat.lt_of_lt_of_le hbb' hB)).trans hc')
        have HB := Lib.hid hb
        have Hl := Lib.hid hlk
        have Hm := Lib.hid hmk
        clear hc hc' hlk hmk hb gl gm
        go_wp2
        refine wp_region_grow (by kernel_rfl) (by kernel_rfl) ?_
        repeat (go_big_quiet_step (fail))
        refine wpQuiet_nil ?_
        intro w1 hb1
        have HB1 := HB.out.trans (hb1.mono HB.out.size)
        go_wp2
        · go_ret
          exact ⟨ret_bool (by rw [hd.out, drop_of_get Hl.out, drop_of_get Hm.out]; simp_all), HB1⟩
        · exact ⟨⟨k + 1, by omega, by go_num, by unfold Hid; rw [hd.out, drop_of_get Hl.out, drop_of_get Hm.out]; simp_all, HB1⟩, by simp [intOf]; omega⟩
      · go_wp2
        go_ret
        exact ⟨ret_bool (by rw [hd.out, List.drop_of_length_le (by have := hl.out; omega), List.drop_of_length_le (by have := hm.out; omega)]; simp), hb⟩
  · have hd1 : ((n : Int) != (n' : Int)) = true := by simp; omega
    go_enter Tryz.func12, Tryz.ntmps12
    go_wp2
    go_ret
    exact ⟨ret_bool (by symm; simp; rintro rfl; exact hlen (hl.out.symm.trans hm.out)), Below.refl _ _⟩

end Go.Proofs.YthhpjgdeehcgjaaGreat
