/-
  Is a number in a list: of the program and of the reference.
-/
import Derived.Test.YtccdnmafakaleaaGreatDoorNst
import Derived.Test.YtccdnmafakaleaaGreatDoorWords
namespace Go.Proofs.YtccdnmafakaleaaGreatDoor
set_option linter.unusedVariables false
set_option linter.unusedSimpArgs false
open Go.RowKit

theorem RdI.len_le {w : World} {B : Nat} {v : Value} {l : List Int} (h : RdI w B v l) : l.length ≤ 9223372036854775807 := by
  obtain ⟨A, n, c, rfl, hn, hl, _⟩ := h
  rw [hl.out]; exact hn
theorem RdI.at_ {w : World} {B : Nat} {A : Option Addr} {n c : Nat} {l : List Int} (h : RdI w B (.slice A n c) l) {k : Nat} (hk : k < n) :
    ∃ b off x, A = some ⟨b, off, none⟩ ∧ b < B ∧ l[k]? = some x ∧ w.cell? ⟨b, off + k, none⟩ = some (.int .i64 x) := by
  obtain ⟨A', n', c', e, hn, hl, h⟩ := h
  injection e with e1 e2 e3
  subst e1 e2 e3
  exact h k hk


set_option maxHeartbeats 1000000 in
theorem l00Has_any (v : Value) (l : List Int) (x : Int) (w : World) (hl : RdI w w.heap.size v l) :
    Calls Tryz.prog 78 #[v, .int .i64 x] w fun e w' => e = .returned (.bool (l.contains x)) ∧ Below w.heap.size w w' := by
  obtain ⟨A, cp, rfl⟩ := hl.len
  have hbig := hl.len_le
  have HL := Lib.hid hl
  clear hl
  generalize hR : l.contains x = R
  have HR := Lib.hid hR
  clear hR
  generalize hln : l.length = n at *
  have HLN := Lib.hid hln
  clear hln
  go_enter Tryz.func78, Tryz.ntmps78
  go_wp2
  go_loopw [5] (fun i wr => ∃ k : Nat, k ≤ n ∧ i = .int .i64 k ∧ Hid (R = (l.drop k).contains x) ∧ Below w.heap.size w wr) (fun i _ => n - (intOf i).toNat)
  case atStart => exact ⟨0, Nat.zero_le _, rfl, HR.out.symm, Below.refl _ _⟩
  case round =>
    rename_i wr
    obtain ⟨k, hk, rfl, hd, hb⟩ := hrel
    by_cases hlt : k < n
    · obtain ⟨b, off, y, rfl, hbb, hlk, hc⟩ := (HL.out.below hb).at_ hlt
      have HB := Lib.hid hb
      by_cases hy : y = x
      · have HT := Lib.hid (show R = true by rw [hd.out, drop_of_get hlk]; simp [hy])
        subst hy
        clear hb hlk hd
        go_wp2
        go_ret
        exact ⟨ret_bool HT.out.symm, HB.out⟩
      · have HT := Lib.hid (show R = (l.drop (k + 1)).contains x by rw [hd.out, drop_of_get hlk]; simp [show ¬ x = y from fun e => hy e.symm])
        have e0 : (y == x) = false := by simpa using hy
        clear hb hlk hd hy
        go_wp2
        exact ⟨⟨k + 1, by omega, by go_num, HT.out, HB.out⟩, by simp [intOf]; omega⟩
    · have HB := Lib.hid hb
      have HT := Lib.hid (show R = false by rw [hd.out, List.drop_of_length_le (by have := HLN.out; omega)]; rfl)
      clear hb
      go_wp2
      go_ret
      exact ⟨ret_bool HT.out.symm, HB.out⟩

set_option maxHeartbeats 1000000 in
theorem indexI_any (v : Value) (l : List Int) (x : Int) (w : World) (hl : RdI w w.heap.size v l) :
    Calls Tryz.prog 102 #[v, .int .i64 x] w fun e w' => e = .returned (.int .i64 (idxOf (fun y => y == x) l)) ∧ Below w.heap.size w w' := by
  obtain ⟨A, cp, rfl⟩ := hl.len
  have hbig := hl.len_le
  have HL := Lib.hid hl
  clear hl
  generalize hR : idxOf (fun y => y == x) l = R
  have HR := Lib.hid hR
  clear hR
  generalize hln : l.length = n at *
  have HLN := Lib.hid hln
  clear hln
  go_enter Tryz.func102, Tryz.ntmps102
  go_wp2
  go_loopw [5, 8] (fun _ i wr => ∃ k : Nat, k ≤ n ∧ i = .int .i64 k ∧ Hid (R = idxFrom (fun y => y == x) k (l.drop k)) ∧ Below w.heap.size w wr) (fun _ i _ => n - (intOf i).toNat)
  case atStart => exact ⟨0, Nat.zero_le _, rfl, HR.out.symm, Below.refl _ _⟩
  case round =>
    rename_i wr
    obtain ⟨k, hk, rfl, hd, hb⟩ := hrel
    by_cases hlt : k < n
    · obtain ⟨b, off, y, rfl, hbb, hlk, hc⟩ := (HL.out.below hb).at_ hlt
      have HB := Lib.hid hb
      by_cases hy : y = x
      · have HT := Lib.hid (show R = (k : Int) by rw [hd.out, drop_of_get hlk]; simp [hy, idxFrom])
        subst hy
        clear hb hlk hd
        go_wp2
        go_ret
        exact ⟨ret_int HT.out.symm, HB.out⟩
      · have HT := Lib.hid (show R = idxFrom (fun y => y == x) (k + 1) (l.drop (k + 1)) by rw [hd.out, drop_of_get hlk]; simp [hy, idxFrom])
        have e0 : (x == y) = false := by simpa using fun e => hy e.symm
        clear hb hlk hd hy
        go_wp2
        exact ⟨⟨k + 1, by omega, by go_num, HT.out, HB.out⟩, by simp [intOf]; omega⟩
    · have HB := Lib.hid hb
      have HT := Lib.hid (show R = -1 by rw [hd.out, List.drop_of_length_le (by have := HLN.out; omega)]; rfl)
      clear hb
      go_wp2
      go_ret
      exact ⟨ret_int HT.out.symm, HB.out⟩
theorem idx_contains (l : List Int) (x : Int) : decide (0 ≤ idxOf (fun y => y == x) l) = l.contains x := by
  rw [Bool.eq_iff_iff]
  have h := idxOf_any (fun y => y == x) l
  simp only [decide_eq_true_eq]
  rw [h]
  simp [List.any_eq_true]
theorem containsI_any (v : Value) (l : List Int) (x : Int) (w : World) (hl : RdI w w.heap.size v l) :
    Calls Tryz.prog 100 #[v, .int .i64 x] w fun e w' => e = .returned (.bool (l.contains x)) ∧ Below w.heap.size w w' := by
  have hi := idx_contains l x
  have HX := Lib.hid (indexI_any v l x w hl)
  clear hl
  generalize idxOf (fun y => y == x) l = I at hi HX
  rw [← hi]
  clear hi
  go_enter Tryz.func100, Tryz.ntmps100
  go_wp2_with fail
  refine HX.out.mono ?_
  rintro e w1 ⟨rfl, hb1⟩
  go_wp2
  all_goals go_ret
  all_goals exact ⟨ret_bool (by simp), hb1⟩

end Go.Proofs.YtccdnmafakaleaaGreatDoor
