/-
  Valid operations in a row, of program and reference.
-/
import Derived.Test.YtolcgopfbbmjgaaOpW1
import Derived.Test.YtolcgopfbbmjgaaOpW2
import Derived.Test.YtolcgopfbbmjgaaOpW3
import Derived.Test.YtolcgopfbbmjgaaOpW4
namespace Go.Proofs.Ytolcgopfbbmjgaa
set_option linter.unusedVariables false
set_option linter.unusedSimpArgs false
open Go.RowKit

set_option maxHeartbeats 1000000 in
set_option maxRecDepth 100000 in
theorem l07Op_0 (k d fb fa tb ta c r : Int) (b o : Nat) (w : World) (hc : CellsAt w b o (⟨k, d, fb, fa, tb, ta, c, r⟩ : Opr).cells) (h1 : (k == 1) = false) (h2 : (k == 2) = false) (h3 : (k == 3) = false) (h4 : (k == 4) = false) (h5 : (k == 5) = false) (h6 : (k == 6) = false) (h7 : (k == 7) = false) (h8 : (k == 8) = false) (h9 : (k == 9) = false) :
    Calls Try.prog 47 #[.pointer (some ⟨b, o, none⟩)] w fun e w' => e = .returned (.bool false) ∧ Below w.heap.size w w' := by
  obtain ⟨f0, f1, f2, f3, f4, f5, f6, f7⟩ := hc.eight
  have hbw : b < w.heap.size := block_lt_of_cell f0
  clear hc
  go_enter Try.func47, Try.ntmps47
  go_wp2
  go_ret
  exact ⟨rfl, (Below.refl _ _).alloc (Nat.le_refl _) _⟩
theorem l07Op_any (x : Opr) (b o : Nat) (w : World) (hc : CellsAt w b o x.cells) : Calls Try.prog 47 #[.pointer (some ⟨b, o, none⟩)] w fun e w' => e = .returned (.bool (okOp x)) ∧ Below w.heap.size w w' := by
  obtain ⟨k, d, fb, fa, tb, ta, c, r⟩ := x
  by_cases h1 : k = 1 ∨ k = 2 ∨ k = 3
  · refine (l07Op_1 k h1 d fb fa tb ta c r b o w hc).mono ?_
    rintro e w' ⟨rfl, hb⟩
    refine ⟨ret_bool ?_, hb⟩
    rw [show okOp ⟨k, d, fb, fa, tb, ta, c, r⟩ = _ from if_pos h1]
    generalize dirM d = B1; generalize ndB fb fa = B2; generalize inB 1 c 4 = B3; generalize (decide (tb = 0) && decide (ta = 0)) = B4; generalize decide (r = 0) = B5
    cases B1 <;> cases B2 <;> cases B3 <;> cases B4 <;> cases B5 <;> rfl
  have hn : k ≠ 1 ∧ k ≠ 2 ∧ k ≠ 3 := by omega
  by_cases h4 : k = 4
  · subst h4
    refine (l07Op_4 d fb fa tb ta c r b o w hc).mono ?_
    rintro e w' ⟨rfl, hb⟩
    refine ⟨ret_bool ?_, hb⟩
    show _ = ((ndB fb fa && (ndB tb ta && decide (fb ≠ tb))) && (decide (d = 0) && (decide (c = 0) && decide (r = 0))))
    generalize ndB fb fa = B1; generalize ndB tb ta = B2; generalize decide (fb ≠ tb) = B3; generalize decide (d = 0) = B4; generalize decide (c = 0) = B5; generalize decide (r = 0) = B6
    cases B1 <;> cases B2 <;> cases B3 <;> cases B4 <;> cases B5 <;> cases B6 <;> rfl
  by_cases h5 : k = 5
  · subst h5
    refine (l07Op_5 d fb fa tb ta c r b o w hc).mono ?_
    rintro e w' ⟨rfl, hb⟩
    refine ⟨ret_bool ?_, hb⟩
    show _ = ((ndB fb fa && (ndB tb ta && decide (fb ≠ tb))) && (dirM d && (inB 1 c 4 && decide (r = 0))))
    generalize ndB fb fa = B1; generalize ndB tb ta = B2; generalize decide (fb ≠ tb) = B3; generalize dirM d = B4; generalize inB 1 c 4 = B5; generalize decide (r = 0) = B6
    cases B1 <;> cases B2 <;> cases B3 <;> cases B4 <;> cases B5 <;> cases B6 <;> rfl
  by_cases h6 : k = 6
  · subst h6
    refine (l07Op_6 d fb fa tb ta c r b o w hc).mono ?_
    rintro e w' ⟨rfl, hb⟩
    refine ⟨ret_bool ?_, hb⟩
    show _ = (ndB fb fa && decide ((⟨6, d, fb, fa, tb, ta, c, r⟩ : Opr) = ⟨6, 0, fb, fa, 0, 0, 0, 0⟩))
    generalize ndB fb fa = B1
    rw [Bool.eq_iff_iff]
    cases B1 <;> simp
    intro _
    exact ⟨fun ⟨⟨a, b⟩, c, d⟩ => ⟨a, b, c, d⟩, fun ⟨a, b, c, d⟩ => ⟨⟨a, b⟩, c, d⟩⟩
  by_cases h7 : k = 7
  · subst h7
    refine (l07Op_7 d fb fa tb ta c r b o w hc).mono ?_
    rintro e w' ⟨rfl, hb⟩
    exact ⟨ret_bool (Bool.and_comm _ _), hb⟩
  by_cases h8 : k = 8
  · subst h8
    refine (l07Op_8 d fb fa tb ta c r b o w hc).mono ?_
    rintro e w' ⟨rfl, hb⟩
    refine ⟨ret_bool ?_, hb⟩
    show _ = (dirM d && (inB 1 c 4 && decide ((⟨8, d, fb, fa, tb, ta, c, r⟩ : Opr) = ⟨8, d, 0, 0, 0, 0, c, 0⟩)))
    generalize dirM d = B1; generalize inB 1 c 4 = B2; generalize decide ((⟨8, d, fb, fa, tb, ta, c, r⟩ : Opr) = ⟨8, d, 0, 0, 0, 0, c, 0⟩) = B3
    cases B1 <;> cases B2 <;> cases B3 <;> rfl
  by_cases h9 : k = 9
  · subst h9
    refine (l07Op_9 d fb fa tb ta c r b o w hc).mono ?_
    rintro e w' ⟨rfl, hb⟩
    exact ⟨ret_bool (Bool.and_comm _ _), hb⟩
  have e : okOp ⟨k, d, fb, fa, tb, ta, c, r⟩ = false := by unfold okOp; simp [hn.1, hn.2.1, hn.2.2, h4, h5, h6, h7, h8, h9]
  rw [e]
  exact l07Op_0 k d fb fa tb ta c r b o w hc (by simpa using hn.1) (by simpa using hn.2.1) (by simpa using hn.2.2) (by simpa using h4) (by simpa using h5) (by simpa using h6) (by simpa using h7) (by simpa using h8) (by simpa using h9)

/-- Is an operation valid for a width? -/
def okOpW (wd : Int) (o : Opr) : Bool := okOp o && (decide (o.fa < wd) && decide (o.ta < wd))
def opsB (wd : Int) (l : List Opr) : Bool := inB 1 wd 24 && (decide (l.length ≤ 1500) && l.all (okOpW wd))

set_option maxHeartbeats 1000000 in
set_option maxRecDepth 100000 in
theorem opClos_any (n : Int) (x : Opr) (g : Nat) (w : World) (hc : w.cell? ⟨g, 0, none⟩ = some (.int .i64 n)) (hg : g < w.heap.size) :
    Calls Try.prog 60 #[x.v, .pointer (some ⟨g, 0, none⟩)] w fun e w' => e = .returned (.bool (!okOpW n x)) ∧ Below w.heap.size w w' := by
  have HQ := Lib.hid (fun w' => validOp_any x w')
  have HC := Lib.hid hc
  have HE := Lib.hid (show (!okOpW n x) = (!okOp x || (decide (n ≤ x.fa) || decide (n ≤ x.ta))) by
    unfold okOpW
    have e1 : decide (x.fa < n) = !decide (n ≤ x.fa) := by rw [Bool.eq_iff_iff]; simp
    have e2 : decide (x.ta < n) = !decide (n ≤ x.ta) := by rw [Bool.eq_iff_iff]; simp
    rw [e1, e2]
    cases okOp x <;> cases decide (n ≤ x.fa) <;> cases decide (n ≤ x.ta) <;> rfl)
  rw [HE.out]
  clear hc HE
  obtain ⟨k, d, fb, fa, tb, ta, c, r⟩ := x
  simp only at HQ ⊢
  have HCA := Lib.hid (CellsAt.of_alloc (w := w) (us := [.int .i64 k, .int .i64 d, .int .i64 fb, .int .i64 fa, .int .i64 tb, .int .i64 ta, .int .i64 c, .int .i64 r]) (t := 55))
  have HB0 := Lib.hid (show Below w.heap.size w (w.alloc (.cells #[.int .i64 k, .int .i64 d, .int .i64 fb, .int .i64 fa, .int .i64 tb, .int .i64 ta, .int .i64 c, .int .i64 r] 55)) from (Below.refl _ _).alloc (Nat.le_refl _) _)
  generalize okOp ⟨k, d, fb, fa, tb, ta, c, r⟩ = B1 at *
  cases B1
  · go_enter Try.func60, Try.ntmps60
    go_wp2_with fail
    refine (HQ.out _).mono ?_
    rintro e w1 ⟨rfl, hb⟩
    have HB := Lib.hid (HB0.out.trans (hb.mono HB0.out.size))
    clear hb
    go_wp2
    go_ret
    exact ⟨ret_bool (by simp), HB.out⟩
  · by_cases h1 : n ≤ fa
    all_goals by_cases h2 : n ≤ ta
    all_goals
      go_enter Try.func60, Try.ntmps60
      go_wp2_with fail
      refine (HQ.out _).mono ?_
      rintro e w1 ⟨rfl, hb⟩
      have HB := Lib.hid (HB0.out.trans (hb.mono HB0.out.size))
      obtain ⟨y0, y1, y2, y3, y4, y5, y6, y7⟩ := (HCA.out.below hb (by simp)).eight
      have hcg : w1.cell? ⟨g, 0, none⟩ = some (.int .i64 n) := (HB.out.cell (p := ⟨g, 0, none⟩) hg).trans HC.out
      clear hb
      go_wp2
      go_ret
      exact ⟨ret_bool (by simp [h1, h2]), HB.out⟩
set_option maxHeartbeats 1000000 in
set_option maxRecDepth 100000 in
theorem opIdx_any (n : Int) (g : Nat) (v : Value) (l : List Opr) (w : World) (hl : RdO w w.heap.size v l) (hc : w.cell? ⟨g, 0, none⟩ = some (.int .i64 n)) :
    Calls Try.prog 72 #[v, .func (.func 60) #[] #[.pointer (some ⟨g, 0, none⟩)]] w fun e w' => e = .returned (.int .i64 (idxOf (fun x => !okOpW n x) l)) ∧ Below w.heap.size w w' := by
  obtain ⟨A, N, c, rfl, hln, hl, gl⟩ := hl
  have hg := block_lt_of_cell hc
  have HC := Lib.hid hc
  clear hc
  go_enter Try.func72, Try.ntmps72
  go_wp2
  go_loopw [5, 8] (fun _ i wr => ∃ k : Nat, k ≤ N ∧ i = .int .i64 k ∧ Hid (idxOf (fun x => !okOpW n x) l = idxFrom (fun x => !okOpW n x) k (l.drop k)) ∧ Below w.heap.size w wr) (fun _ i _ => N - (intOf i).toNat)
  case atStart => exact ⟨0, Nat.zero_le _, rfl, rfl, Below.refl _ _⟩
  case round =>
    rename_i wr
    obtain ⟨k, hk, rfl, hd, hb⟩ := hrel
    by_cases hlt : k < N
    · obtain ⟨b, off, x, rfl, hbb, hlk, hcc⟩ := gl k hlt
      obtain ⟨c0, c1, c2, c3, c4, c5, c6, c7⟩ := (hcc.below hb hbb).eight
      have HB := Lib.hid hb
      have Hl := Lib.hid hlk
      have HQ := Lib.hid (opClos_any n x g wr ((hb.cell (p := ⟨g, 0, none⟩) hg).trans HC.out) (by have := hb.size; omega))
      clear hb hlk gl hcc
      rcases hp : (!okOpW n x)
      · have HP := Lib.hid hp
        go_wp2_with fail
        refine HQ.out.mono ?_
        rintro e w1 ⟨rfl, hb1⟩
        rw [HP.out]
        have HB1 := HB.out.trans (hb1.mono HB.out.size)
        go_wp2
        exact ⟨⟨k + 1, by omega, by go_num, by unfold Hid; rw [hd.out, drop_of_get Hl.out]; simp [idxFrom, HP.out], HB1⟩, by simp [intOf]; omega⟩
      · have HP := Lib.hid hp
        go_wp2_with fail
        refine HQ.out.mono ?_
        rintro e w1 ⟨rfl, hb1⟩
        rw [HP.out]
        go_wp2
        go_ret
        exact ⟨ret_int (by rw [hd.out, drop_of_get Hl.out]; simp [idxFrom, HP.out]), HB.out.trans (hb1.mono HB.out.size)⟩
    · have HB := Lib.hid hb
      clear hb gl
      go_wp2
      go_ret
      exact ⟨ret_int (by rw [hd.out, List.drop_of_length_le (by have := hl.out; omega)]; rfl), HB.out⟩

set_option maxHeartbeats 1000000 in
set_option maxRecDepth 100000 in
theorem opCont_any (n : Int) (g : Nat) (v : Value) (l : List Opr) (w : World) (hl : RdO w w.heap.size v l) (hc : w.cell? ⟨g, 0, none⟩ = some (.int .i64 n)) :
    Calls Try.prog 59 #[v, .func (.func 60) #[] #[.pointer (some ⟨g, 0, none⟩)]] w fun e w' => e = .returned (.bool (!(l.all (okOpW n)))) ∧ Below w.heap.size w w' := by
  have hi := idxOf_any (fun x => !okOpW n x) l
  have HX := Lib.hid (opIdx_any n g v l w hl hc)
  have hx : (!(l.all (okOpW n))) = l.any (fun x => !okOpW n x) := by rw [List.not_all_eq_any_not]
  rw [hx]
  clear hl hc hx
  generalize hA : l.any (fun x => !okOpW n x) = A at hi ⊢
  generalize hI : idxOf (fun x => !okOpW n x) l = I at hi HX
  clear hI hA
  cases A
  · have h1 : ¬ 0 ≤ I := by simpa using hi
    clear hi
    go_enter Try.func59, Try.ntmps59
    go_wp2_with fail
    refine HX.out.mono ?_
    rintro e w1 ⟨rfl, hb1⟩
    go_wp2
    go_ret
    exact ⟨ret_bool (by simp [h1]), hb1⟩
  · have h1 : 0 ≤ I := by simpa using hi
    clear hi
    go_enter Try.func59, Try.ntmps59
    go_wp2_with fail
    refine HX.out.mono ?_
    rintro e w1 ⟨rfl, hb1⟩
    go_wp2
    go_ret
    exact ⟨ret_bool (by simp [h1]), hb1⟩

set_option maxHeartbeats 2000000 in
set_option maxRecDepth 100000 in
theorem validFor_any (n : Int) (v : Value) (l : List Opr) (w : World) (hl : RdO w w.heap.size v l) :
    Calls Try.prog 37 #[.int .i64 n, v] w fun e w' => e = .returned (.bool (opsB n l)) ∧ Below w.heap.size w w' := by
  obtain ⟨A, N, c, rfl, hln, hl', gl⟩ := hl
  have hl : RdO w w.heap.size (.slice A N c) l := ⟨A, N, c, rfl, hln, hl', gl⟩
  have HB0 := Lib.hid (show Below w.heap.size w (w.alloc (.cells #[.int .i64 n] 2)) from (Below.refl _ _).alloc (Nat.le_refl _) _)
  have HQ := Lib.hid (opCont_any n w.heap.size (.slice A N c) l (w.alloc (.cells #[.int .i64 n] 2)) (RdS.more (RdS.below hl HB0.out) HB0.out.size) (by simp [go_sem]))
  have HE := Lib.hid (show opsB n l = (inB 1 n 24 && (decide ((N : Int) ≤ 1500) && l.all (okOpW n))) by
    unfold opsB
    rw [hl'.out, show decide (N ≤ 1500) = decide ((N : Int) ≤ 1500) by rw [Bool.eq_iff_iff]; simp; omega])
  rw [HE.out]
  clear hl hl' gl HE
  generalize l.all (okOpW n) = R at *
  have H1 := Lib.hid (fun w' => within_s n 1 24 w')
  generalize inB 1 n 24 = B1 at *
  cases B1
  · go_enter Try.func37, Try.ntmps37
    go_wp2_with fail
    refine (H1.out _).mono ?_
    rintro e w1 ⟨rfl, rfl⟩
    go_wp2
    go_ret
    exact ⟨rfl, HB0.out⟩
  by_cases hN : (N : Int) ≤ 1500
  · have hd : decide ((N : Int) ≤ 1500) = true := by simpa using hN
    rw [hd]
    clear hd
    go_enter Try.func37, Try.ntmps37
    go_wp2_with fail
    refine (H1.out _).mono ?_
    rintro e w1 ⟨rfl, rfl⟩
    go_wp2_with fail
    refine HQ.out.mono ?_
    rintro e w1 ⟨rfl, hb⟩
    have HB := Lib.hid (HB0.out.trans (hb.mono HB0.out.size))
    clear hb
    go_wp2
    go_ret
    exact ⟨ret_bool (by simp), HB.out⟩
  · have hd : decide ((N : Int) ≤ 1500) = false := by simpa using hN
    rw [hd]
    clear hd
    go_enter Try.func37, Try.ntmps37
    go_wp2_with fail
    refine (H1.out _).mono ?_
    rintro e w1 ⟨rfl, rfl⟩
    go_wp2
    go_ret
    exact ⟨ret_bool (by simp), HB0.out⟩

theorem l07Fits_any (x : Opr) (wd : Int) (b o : Nat) (w : World) (hc : CellsAt w b o x.cells) : Calls Try.prog 48 #[.pointer (some ⟨b, o, none⟩), .int .i64 wd] w fun e w' => e = .returned (.bool (decide (x.fa < wd) && decide (x.ta < wd))) ∧ w = w' := by
  obtain ⟨f0, f1, f2, f3, f4, f5, f6, f7⟩ := hc.eight
  clear hc
  by_cases h1 : x.fa < wd
  all_goals by_cases h2 : x.ta < wd
  all_goals
    go_enter Try.func48, Try.ntmps48
    go_wp2
    go_ret
    exact ⟨ret_bool (by simp [h1, h2]), rfl⟩
theorem all_next {l : List Opr} {p : Opr → Bool} {k : Nat} {x : Opr} {R : Bool} (h : R = (l.drop k).all p) (hx : l[k]? = some x) : R = (p x && (l.drop (k + 1)).all p) := by rw [h, drop_of_get hx]; rfl
set_option maxHeartbeats 2000000 in
set_option maxRecDepth 100000 in
theorem l07Ops_any (n : Int) (v : Value) (l : List Opr) (w : World) (hl : RdO w w.heap.size v l) :
    Calls Try.prog 29 #[.int .i64 n, v] w fun e w' => e = .returned (.bool (opsB n l)) ∧ Below w.heap.size w w' := by
  obtain ⟨A, N, c, rfl, hln, hl', gl⟩ := hl
  have HE := Lib.hid (show opsB n l = (inB 1 n 24 && (decide ((N : Int) ≤ 1500) && l.all (okOpW n))) by
    unfold opsB
    rw [hl'.out, show decide (N ≤ 1500) = decide ((N : Int) ≤ 1500) by rw [Bool.eq_iff_iff]; simp; omega])
  rw [HE.out]
  have HLN := Lib.hid hl'.out
  have GL := Lib.hid gl
  clear gl hl' HE
  generalize hR : l.all (okOpW n) = R
  have HR := Lib.hid (show R = (l.drop 0).all (okOpW n) by rw [← hR]; rfl)
  have H1 := Lib.hid (fun w' => l00In_s n 1 24 w')
  generalize inB 1 n 24 = B1 at *
  clear hR
  go_enter Try.func29, Try.ntmps29
  go_wp2
  go_loopw [5] (fun i wr => ∃ (k : Nat), k ≤ N ∧ i = .int .i64 k ∧ Hid (R = (l.drop k).all (okOpW n)) ∧ Hid (Below w.heap.size w wr)) (fun i _ => N - (intOf i).toNat)
  case atStart => exact ⟨0, Nat.zero_le _, rfl, HR.out, Below.refl _ _⟩
  case round =>
    rename_i wr
    obtain ⟨k, hk, rfl, HD, HB⟩ := hrel
    by_cases hlt : k < N
    · obtain ⟨b, off, x, rfl, hbb, hlk, hc⟩ := GL.out k hlt
      have hcw := hc.below HB.out hbb
      have HQ := Lib.hid (l07Op_any x b (off + k * 8) wr hcw)
      have HCW := Lib.hid hcw
      have hblt : b < wr.heap.size := Nat.lt_of_lt_of_le hbb HB.out.size
      have hn := all_next HD.out hlk
      unfold okOpW at hn
      have HN := Lib.hid hn
      clear hcw hlk hc hn
      generalize okOp x = B2 at *
      cases B2
      · have HF := Lib.hid (show R = false by rw [HN.out]; rfl)
        go_wp2_with fail
        refine HQ.out.mono ?_
        rintro e w1 ⟨rfl, hb1⟩
        have HB1 := Lib.hid (HB.out.trans (hb1.mono HB.out.size))
        clear hb1
        go_wp2
        go_ret
        exact ⟨ret_bool (by rw [HF.out]; simp), HB1.out⟩
      · have HQ2 := Lib.hid (fun (w1 : World) (hb1 : Below wr.heap.size wr w1) => l07Fits_any x n b (off + k * 8) w1 (HCW.out.below hb1 hblt))
        generalize (decide (x.fa < n) && decide (x.ta < n)) = B3 at *
        cases B3
        · have HF := Lib.hid (show R = false by rw [HN.out]; rfl)
          go_wp2_with fail
          refine HQ.out.mono ?_
          rintro e w1 ⟨rfl, hb1⟩
          have HB1 := Lib.hid (HB.out.trans (hb1.mono HB.out.size))
          have HQ3 := Lib.hid (HQ2.out _ hb1)
          clear hb1
          go_wp2_with fail
          refine HQ3.out.mono ?_
          rintro e w2 ⟨rfl, rfl⟩
          go_wp2
          go_ret
          exact ⟨ret_bool (by rw [HF.out]; simp), HB1.out⟩
        · have HT := Lib.hid (show R = (l.drop (k + 1)).all (okOpW n) by rw [HN.out]; rfl)
          go_wp2_with fail
          refine HQ.out.mono ?_
          rintro e w1 ⟨rfl, hb1⟩
          have HB1 := Lib.hid (HB.out.trans (hb1.mono HB.out.size))
          have HQ3 := Lib.hid (HQ2.out _ hb1)
          clear hb1
          go_wp2_with fail
          refine HQ3.out.mono ?_
          rintro e w2 ⟨rfl, rfl⟩
          go_wp2
          exact ⟨⟨k + 1, by omega, by go_num, HT.out, HB1.out⟩, by simp [intOf]; omega⟩
    · have HT := Lib.hid (show R = true by rw [HD.out, List.drop_of_length_le (by have := HLN.out; omega)]; rfl)
      cases B1
      · go_wp2_with fail
        refine (H1.out _).mono ?_
        rintro e w1 ⟨rfl, rfl⟩
        go_wp2
        go_ret
        exact ⟨rfl, HB.out⟩
      · go_wp2_with fail
        refine (H1.out _).mono ?_
        rintro e w1 ⟨rfl, rfl⟩
        go_wp2
        go_ret
        exact ⟨ret_bool (by rw [HT.out]; simp), HB.out⟩

end Go.Proofs.Ytolcgopfbbmjgaa
