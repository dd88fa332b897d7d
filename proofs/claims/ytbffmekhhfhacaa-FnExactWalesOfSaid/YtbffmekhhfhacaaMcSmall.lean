/-
  Small questions that program and reference ask of numbers and lists; validity of a loop's description, as plain data.
-/
import Derived.Test.YtbffmekhhfhacaaMc
import Derived.Test.YtbffmekhhfhacaaWords
namespace Go.Proofs.Ytbffmekhhfhacaa
set_option linter.unusedVariables false
set_option linter.unusedSimpArgs false
open Go.RowKit

def inB (lo n hi : Int) : Bool := decide (lo ≤ n) && decide (n ≤ hi)
def bedM (b : Int) : Bool := decide (b = 1 ∨ b = 2)
def dirM (d : Int) : Bool := decide (d = 1 ∨ d = -1)
theorem inB_iff {lo n hi : Int} : inB lo n hi = true ↔ lo ≤ n ∧ n ≤ hi := by simp [inB]

/-- What a question gives that makes nothing that is seen. -/
def Says (w : World) (b : Bool) (e : Ending) (w' : World) : Prop := e = .returned (.bool b) ∧ Below w.heap.size w w'

theorem within_s (n lo hi : Int) (w : World) : Calls Try.prog 103 #[.int .i64 n, .int .i64 lo, .int .i64 hi] w fun e w' => e = .returned (.bool (inB lo n hi)) ∧ w = w' := by
  unfold inB
  go_enter Try.func103, Try.ntmps103
  go_wp2
  all_goals go_ret
  all_goals exact ⟨ret_bool (by simp [*]; try omega), rfl⟩
theorem within_b (n lo hi : Int) (w : World) : Calls Try.prog 103 #[.int .i64 n, .int .i64 lo, .int .i64 hi] w fun e w' => e = .returned (.bool (inB lo n hi)) ∧ Below w.heap.size w w' :=
  (within_s n lo hi w).mono fun e w' ⟨h1, h2⟩ => ⟨h1, by rw [h2]; exact Below.refl _ _⟩
theorem l00In_s (n lo hi : Int) (w : World) : Calls Try.prog 97 #[.int .i64 n, .int .i64 lo, .int .i64 hi] w fun e w' => e = .returned (.bool (inB lo n hi)) ∧ w = w' := by
  unfold inB
  go_enter Try.func97, Try.ntmps97
  go_wp2
  all_goals go_ret
  all_goals exact ⟨ret_bool (by simp [*]; try omega), rfl⟩
theorem l00In_b (n lo hi : Int) (w : World) : Calls Try.prog 97 #[.int .i64 n, .int .i64 lo, .int .i64 hi] w fun e w' => e = .returned (.bool (inB lo n hi)) ∧ Below w.heap.size w w' :=
  (l00In_s n lo hi w).mono fun e w' ⟨h1, h2⟩ => ⟨h1, by rw [h2]; exact Below.refl _ _⟩
theorem isRack_s (b : Int) (w : World) : Calls Try.prog 104 #[.int .i64 b] w fun e w' => e = .returned (.bool (inB (-3) b 3)) ∧ w = w' := by
  go_enter Try.func104, Try.ntmps104
  go_wp2_with fail
  refine (within_s _ _ _ _).mono ?_
  rintro e w1 ⟨rfl, rfl⟩
  go_wp2
  go_ret
  exact ⟨rfl, rfl⟩
theorem isRack_b (b : Int) (w : World) : Calls Try.prog 104 #[.int .i64 b] w fun e w' => e = .returned (.bool (inB (-3) b 3)) ∧ Below w.heap.size w w' :=
  (isRack_s b w).mono fun e w' ⟨h1, h2⟩ => ⟨h1, by rw [h2]; exact Below.refl _ _⟩
theorem isCarrier_s (b : Int) (w : World) : Calls Try.prog 67 #[.int .i64 b] w fun e w' => e = .returned (.bool (inB 1 b 4)) ∧ w = w' := by
  go_enter Try.func67, Try.ntmps67
  go_wp2_with fail
  refine (within_s _ _ _ _).mono ?_
  rintro e w1 ⟨rfl, rfl⟩
  go_wp2
  go_ret
  exact ⟨rfl, rfl⟩
theorem isCarrier_b (b : Int) (w : World) : Calls Try.prog 67 #[.int .i64 b] w fun e w' => e = .returned (.bool (inB 1 b 4)) ∧ Below w.heap.size w w' :=
  (isCarrier_s b w).mono fun e w' ⟨h1, h2⟩ => ⟨h1, by rw [h2]; exact Below.refl _ _⟩
theorem l07Yarn_s (b : Int) (w : World) : Calls Try.prog 60 #[.int .i64 b] w fun e w' => e = .returned (.bool (inB 1 b 4)) ∧ w = w' := by
  go_enter Try.func60, Try.ntmps60
  go_wp2_with fail
  refine (l00In_s _ _ _ _).mono ?_
  rintro e w1 ⟨rfl, rfl⟩
  go_wp2
  go_ret
  exact ⟨rfl, rfl⟩
theorem l07Yarn_b (b : Int) (w : World) : Calls Try.prog 60 #[.int .i64 b] w fun e w' => e = .returned (.bool (inB 1 b 4)) ∧ Below w.heap.size w w' :=
  (l07Yarn_s b w).mono fun e w' ⟨h1, h2⟩ => ⟨h1, by rw [h2]; exact Below.refl _ _⟩
theorem isBed_s (b : Int) (w : World) : Calls Try.prog 121 #[.int .i64 b] w fun e w' => e = .returned (.bool (bedM b)) ∧ w = w' := by
  go_enter Try.func121, Try.ntmps121
  go_wp2
  all_goals go_ret
  all_goals exact ⟨ret_bool (by rw [Bool.eq_iff_iff]; simp [bedM]; try simp_all), rfl⟩
theorem isBed_b (b : Int) (w : World) : Calls Try.prog 121 #[.int .i64 b] w fun e w' => e = .returned (.bool (bedM b)) ∧ Below w.heap.size w w' :=
  (isBed_s b w).mono fun e w' ⟨h1, h2⟩ => ⟨h1, by rw [h2]; exact Below.refl _ _⟩
theorem isDirection_s (b : Int) (w : World) : Calls Try.prog 122 #[.int .i64 b] w fun e w' => e = .returned (.bool (dirM b)) ∧ w = w' := by
  go_enter Try.func122, Try.ntmps122
  go_wp2
  all_goals go_ret
  all_goals exact ⟨ret_bool (by rw [Bool.eq_iff_iff]; simp [dirM]; try simp_all), rfl⟩
theorem isDirection_b (b : Int) (w : World) : Calls Try.prog 122 #[.int .i64 b] w fun e w' => e = .returned (.bool (dirM b)) ∧ Below w.heap.size w w' :=
  (isDirection_s b w).mono fun e w' ⟨h1, h2⟩ => ⟨h1, by rw [h2]; exact Below.refl _ _⟩
theorem l07Dir_s (b : Int) (w : World) : Calls Try.prog 119 #[.int .i64 b] w fun e w' => e = .returned (.bool (dirM b)) ∧ w = w' := by
  go_enter Try.func119, Try.ntmps119
  go_wp2
  all_goals go_ret
  all_goals exact ⟨ret_bool (by rw [Bool.eq_iff_iff]; simp [dirM]; try simp_all), rfl⟩
theorem l07Dir_b (b : Int) (w : World) : Calls Try.prog 119 #[.int .i64 b] w fun e w' => e = .returned (.bool (dirM b)) ∧ Below w.heap.size w w' :=
  (l07Dir_s b w).mono fun e w' ⟨h1, h2⟩ => ⟨h1, by rw [h2]; exact Below.refl _ _⟩
theorem l01Bed_s (b : Int) (w : World) : Calls Try.prog 118 #[.int .i64 b] w fun e w' => e = .returned (.bool (bedM b)) ∧ w = w' := by
  go_enter Try.func118, Try.ntmps118
  go_wp2_with fail
  refine (l00In_s _ _ _ _).mono ?_
  rintro e w1 ⟨rfl, rfl⟩
  go_wp2
  go_ret
  exact ⟨ret_bool (by rw [Bool.eq_iff_iff]; simp [bedM, inB]; omega), rfl⟩
theorem l01Bed_b (b : Int) (w : World) : Calls Try.prog 118 #[.int .i64 b] w fun e w' => e = .returned (.bool (bedM b)) ∧ Below w.heap.size w w' :=
  (l01Bed_s b w).mono fun e w' ⟨h1, h2⟩ => ⟨h1, by rw [h2]; exact Below.refl _ _⟩

/-! ### Is a number in a list -/
theorem RdI.len_le {w : World} {B : Nat} {v : Value} {l : List Int} (h : RdI w B v l) : l.length ≤ 9223372036854775807 := by
  obtain ⟨A, n, c, rfl, hn, hl, _⟩ := h
  rw [hl.out]; exact hn
theorem RdI.at_ {w : World} {B : Nat} {A : Option Addr} {n c : Nat} {l : List Int} (h : RdI w B (.slice A n c) l) {k : Nat} (hk : k < n) :
    ∃ b off x, A = some ⟨b, off, none⟩ ∧ b < B ∧ l[k]? = some x ∧ w.cell? ⟨b, off + k, none⟩ = some (.int .i64 x) := by
  obtain ⟨A', n', c', e, hn, hl, h⟩ := h
  injection e with e1 e2 e3
  subst e1 e2 e3
  exact h k hk

set_option maxHeartbeats 1000000 in
theorem l00Has_any (v : Value) (l : List Int) (x : Int) (w : World) (hl : RdI w w.heap.size v l) :
    Calls Try.prog 79 #[v, .int .i64 x] w fun e w' => e = .returned (.bool (l.contains x)) ∧ Below w.heap.size w w' := by
  obtain ⟨A, cp, rfl⟩ := hl.len
  have hbig := hl.len_le
  have HL := Lib.hid hl
  clear hl
  generalize hR : l.contains x = R
  have HR := Lib.hid hR
  clear hR
  generalize hln : l.length = n at *
  have HLN := Lib.hid hln
  clear hln
  go_enter Try.func79, Try.ntmps79
  go_wp2
  go_loopw [5] (fun i wr => ∃ k : Nat, k ≤ n ∧ i = .int .i64 k ∧ Hid (R = (l.drop k).contains x) ∧ Below w.heap.size w wr) (fun i _ => n - (intOf i).toNat)
  case atStart => exact ⟨0, Nat.zero_le _, rfl, HR.out.symm, Below.refl _ _⟩
  case round =>
    rename_i wr
    obtain ⟨k, hk, rfl, hd, hb⟩ := hrel
    by_cases hlt : k < n
    · obtain ⟨b, off, y, rfl, hbb, hlk, hc⟩ := (HL.out.below hb).at_ hlt
      have HB := Lib.hid hb
      by_cases hy : y = x
      · have HT := Lib.hid (show R = true by rw [hd.out, drop_of_get hlk]; simp [hy])
        subst hy
        clear hb hlk hd
        go_wp2
        go_ret
        exact ⟨ret_bool HT.out.symm, HB.out⟩
      · have HT := Lib.hid (show R = (l.drop (k + 1)).contains x by rw [hd.out, drop_of_get hlk]; simp [show ¬ x = y from fun e => hy e.symm])
        have e0 : (y == x) = false := by simpa using hy
        clear hb hlk hd hy
        go_wp2
        exact ⟨⟨k + 1, by omega, by go_num, HT.out, HB.out⟩, by simp [intOf]; omega⟩
    · have HB := Lib.hid hb
      have HT := Lib.hid (show R = false by rw [hd.out, List.drop_of_length_le (by have := HLN.out; omega)]; rfl)
      clear hb
      go_wp2
      go_ret
      exact ⟨ret_bool HT.out.symm, HB.out⟩

set_option maxHeartbeats 1000000 in
theorem indexI_any (v : Value) (l : List Int) (x : Int) (w : World) (hl : RdI w w.heap.size v l) :
    Calls Try.prog 94 #[v, .int .i64 x] w fun e w' => e = .returned (.int .i64 (idxOf (fun y => y == x) l)) ∧ Below w.heap.size w w' := by
  obtain ⟨A, cp, rfl⟩ := hl.len
  have hbig := hl.len_le
  have HL := Lib.hid hl
  clear hl
  generalize hR : idxOf (fun y => y == x) l = R
  have HR := Lib.hid hR
  clear hR
  generalize hln : l.length = n at *
  have HLN := Lib.hid hln
  clear hln
  go_enter Try.func94, Try.ntmps94
  go_wp2
  go_loopw [5, 8] (fun _ i wr => ∃ k : Nat, k ≤ n ∧ i = .int .i64 k ∧ Hid (R = idxFrom (fun y => y == x) k (l.drop k)) ∧ Below w.heap.size w wr) (fun _ i _ => n - (intOf i).toNat)
  case atStart => exact ⟨0, Nat.zero_le _, rfl, HR.out.symm, Below.refl _ _⟩
  case round =>
    rename_i wr
    obtain ⟨k, hk, rfl, hd, hb⟩ := hrel
    by_cases hlt : k < n
    · obtain ⟨b, off, y, rfl, hbb, hlk, hc⟩ := (HL.out.below hb).at_ hlt
      have HB := Lib.hid hb
      by_cases hy : y = x
      · have HT := Lib.hid (show R = (k : Int) by rw [hd.out, drop_of_get hlk]; simp [hy, idxFrom])
        subst hy
        clear hb hlk hd
        go_wp2
        go_ret
        exact ⟨ret_int HT.out.symm, HB.out⟩
      · have HT := Lib.hid (show R = idxFrom (fun y => y == x) (k + 1) (l.drop (k + 1)) by rw [hd.out, drop_of_get hlk]; simp [hy, idxFrom])
        have e0 : (x == y) = false := by simpa using fun e => hy e.symm
        clear hb hlk hd hy
        go_wp2
        exact ⟨⟨k + 1, by omega, by go_num, HT.out, HB.out⟩, by simp [intOf]; omega⟩
    · have HB := Lib.hid hb
      have HT := Lib.hid (show R = -1 by rw [hd.out, List.drop_of_length_le (by have := HLN.out; omega)]; rfl)
      clear hb
      go_wp2
      go_ret
      exact ⟨ret_int HT.out.symm, HB.out⟩
theorem idx_contains (l : List Int) (x : Int) : decide (0 ≤ idxOf (fun y => y == x) l) = l.contains x := by
  rw [Bool.eq_iff_iff]
  have h := idxOf_any (fun y => y == x) l
  simp only [decide_eq_true_eq]
  rw [h]
  simp [List.any_eq_true]
theorem containsI_any (v : Value) (l : List Int) (x : Int) (w : World) (hl : RdI w w.heap.size v l) :
    Calls Try.prog 92 #[v, .int .i64 x] w fun e w' => e = .returned (.bool (l.contains x)) ∧ Below w.heap.size w w' := by
  have hi := idx_contains l x
  have HX := Lib.hid (indexI_any v l x w hl)
  clear hl
  generalize idxOf (fun y => y == x) l = I at hi HX
  rw [← hi]
  clear hi
  go_enter Try.func92, Try.ntmps92
  go_wp2_with fail
  refine HX.out.mono ?_
  rintro e w1 ⟨rfl, hb1⟩
  go_wp2
  all_goals go_ret
  all_goals exact ⟨ret_bool (by simp), hb1⟩

/-! ### Validity as plain data -/
/-- Numbers from 0 and below n, none among those before it. -/
def parsB (n : Int) : List Int → List Int → Bool
  | _, [] => true
  | pre, x :: t => inB 0 x (n - 1) && (!(pre.contains x) && parsB n (pre ++ [x]) t)
theorem pars_yes {n : Int} {l : List Int} {k : Nat} {x : Int} {R : Bool} (h : R = parsB n (l.take k) (l.drop k)) (hx : l[k]? = some x) (h1 : inB 0 x (n - 1) = true) (h2 : (l.take k).contains x = false) : R = parsB n (l.take (k + 1)) (l.drop (k + 1)) := by
  rw [h, drop_of_get hx, parsB, h1, h2, List.take_add_one, hx]; rfl
theorem pars_no1 {n : Int} {l : List Int} {k : Nat} {x : Int} {R : Bool} (h : R = parsB n (l.take k) (l.drop k)) (hx : l[k]? = some x) (h1 : inB 0 x (n - 1) = false) : R = false := by
  rw [h, drop_of_get hx, parsB, h1]; rfl
theorem pars_no2 {n : Int} {l : List Int} {k : Nat} {x : Int} {R : Bool} (h : R = parsB n (l.take k) (l.drop k)) (hx : l[k]? = some x) (h1 : (l.take k).contains x = true) : R = false := by
  rw [h, drop_of_get hx, parsB, h1]; simp
def kindM (k : Int) : Bool := decide (k = 1 ∨ k = 2 ∨ k = 5)
/-- The head of a loop's description: all but its parents. -/
def headI (wd : Int) (x : Inf) : Bool := inB 1 x.y 4 && (bedM x.b && (inB 0 x.p (wd - 1) && dirM x.d))
def tailI (x : Inf) : Bool := (!(x.k == 2) || decide (x.ps.length = 0)) && (!(x.k == 5) || decide (0 < x.ps.length))
def okInf (wd i : Int) (x : Inf) : Bool := kindM x.k && (headI wd x && (decide (x.ps.length ≤ 4) && (parsB i [] x.ps && tailI x)))

end Go.Proofs.Ytbffmekhhfhacaa
