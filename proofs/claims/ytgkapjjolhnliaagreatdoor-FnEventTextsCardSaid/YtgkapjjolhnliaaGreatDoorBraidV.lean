/-
  Valid braids: ValidBraid and l03Ok.
-/
import Derived.Test.YtgkapjjolhnliaaGreatDoorBraid
import Derived.Test.YtgkapjjolhnliaaGreatDoorStitch
namespace Go.Proofs.YtgkapjjolhnliaaGreatDoor
set_option linter.unusedVariables false
set_option linter.unusedSimpArgs false
open Go.RowKit

/- slices.IndexFunc and slices.ContainsFunc over []int64 at the closure impl.areLetters$1 with one captured variable: letter name · slices.IndexFunc[[]int64,int64], slices.ContainsFunc[[]int64,int64] the instances -/
set_option maxHeartbeats 1000000 in
set_option maxRecDepth 100000 in
theorem letter_index (cap : Value) (p : Int → Bool) (v : Value) (l : List Int) (w : World) (hl : RdI w w.heap.size v l)
    (hf : ∀ x W, Below w.heap.size w W → Calls Tryz.prog 67 #[.int .i64 x, cap] W fun e w' => e = .returned (.bool (p x)) ∧ Below W.heap.size W w') :
    Calls Tryz.prog 79 #[v, .func (.func 67) #[] #[cap]] w fun e w' => e = .returned (.int .i64 (idxOf p l)) ∧ Below w.heap.size w w' := by
  obtain ⟨A, n, c, rfl, hln, hl, gl⟩ := hl
  have HF := Lib.hid hf
  clear hf
  go_enter Tryz.func79, Tryz.ntmps79
  go_wp2
  go_loopw [5, 8] (fun _ i wr => ∃ k : Nat, k ≤ n ∧ i = .int .i64 k ∧ Hid (idxOf p l = idxFrom p k (l.drop k)) ∧ Below w.heap.size w wr) (fun _ i _ => n - (intOf i).toNat)
  case atStart => exact ⟨0, Nat.zero_le _, rfl, rfl, Below.refl _ _⟩
  case round =>
    rename_i wr
    obtain ⟨k, hk, rfl, hd, hb⟩ := hrel
    by_cases hlt : k < n
    · obtain ⟨b, off, x, rfl, hbb, hlk, hc⟩ := gl k hlt
      have hc1 : wr.cell? ⟨b, off + k, none⟩ = some (.int .i64 x) := (hb.cell (p := ⟨b, off + k, none⟩) hbb).trans hc
      have HB := Lib.hid hb
      have Hl := Lib.hid hlk
      clear hb hlk gl hc
      rcases hp : p x
      · have HP := Lib.hid hp
        go_wp2_with fail
        refine (HF.out x _ HB.out).mono ?_
        rintro e w1 ⟨rfl, hb1⟩
        rw [HP.out]
        go_wp2
        have HB1 := HB.out.trans (hb1.mono HB.out.size)
        exact ⟨⟨k + 1, by omega, by go_num, by unfold Hid; rw [hd.out, drop_of_get Hl.out]; simp [idxFrom, HP.out], HB1⟩, by simp [intOf]; omega⟩
      · have HP := Lib.hid hp
        go_wp2_with fail
        refine (HF.out x _ HB.out).mono ?_
        rintro e w1 ⟨rfl, hb1⟩
        rw [HP.out]
        go_wp2
        go_ret
        exact ⟨ret_int (by rw [hd.out, drop_of_get Hl.out]; simp [idxFrom, HP.out]), HB.out.trans (hb1.mono HB.out.size)⟩
    · have HB := Lib.hid hb
      clear hb gl
      go_wp2
      go_ret
      exact ⟨ret_int (by rw [hd.out, List.drop_of_length_le (by have := hl.out; omega)]; rfl), HB.out⟩

set_option maxHeartbeats 1000000 in
set_option maxRecDepth 100000 in
theorem letter_contains (cap : Value) (p : Int → Bool) (v : Value) (l : List Int) (w : World) (hl : RdI w w.heap.size v l)
    (hf : ∀ x W, Below w.heap.size w W → Calls Tryz.prog 67 #[.int .i64 x, cap] W fun e w' => e = .returned (.bool (p x)) ∧ Below W.heap.size W w') :
    Calls Tryz.prog 66 #[v, .func (.func 67) #[] #[cap]] w fun e w' => e = .returned (.bool (l.any p)) ∧ Below w.heap.size w w' := by
  have hi := idxOf_any p l
  have HX := Lib.hid (letter_index cap p v l w hl hf)
  clear hl hf
  generalize hA : l.any p = A at hi ⊢
  generalize hI : idxOf p l = I at hi HX
  clear hI hA
  cases A
  · have h1 : ¬ 0 ≤ I := by simpa using hi
    clear hi
    go_enter Tryz.func66, Tryz.ntmps66
    go_wp2_with fail
    refine HX.out.mono ?_
    rintro e w1 ⟨rfl, hb1⟩
    go_wp2
    go_ret
    exact ⟨ret_bool (by simp [h1]), hb1⟩
  · have h1 : 0 ≤ I := by simpa using hi
    clear hi
    go_enter Tryz.func66, Tryz.ntmps66
    go_wp2_with fail
    refine HX.out.mono ?_
    rintro e w1 ⟨rfl, hb1⟩
    go_wp2
    go_ret
    exact ⟨ret_bool (by simp [h1]), hb1⟩

def badL (n k : Int) : Bool := decide (k = 0) || !(decide (1 - n ≤ k) && decide (k ≤ n - 1))
def okBr (b : Br) : Bool := (decide (0 ≤ b.n) && decide (b.n ≤ 12)) && (decide (b.w.length ≤ 40) && !(b.w.any (badL b.n)))

set_option maxHeartbeats 1000000 in
theorem letterBad_any (n x : Int) (h0 : 0 ≤ n) (h1 : n ≤ 12) (g : Nat) (w : World) (hc : w.cell? ⟨g, 0, none⟩ = some (.int .i64 n)) :
    Calls Tryz.prog 67 #[.int .i64 x, .pointer (some ⟨g, 0, none⟩)] w fun e w' => e = .returned (.bool (badL n x)) ∧ Below w.heap.size w w' := by
  unfold badL
  by_cases hx : x = 0
  · subst hx
    go_enter Tryz.func67, Tryz.ntmps67
    go_wp2
    go_ret
    exact ⟨rfl, Below.refl _ _⟩
  · have e0 : (x == 0) = false := by simpa using hx
    have e1 : decide (x = 0) = false := by simpa using hx
    rw [e1]
    clear e1 hx
    generalize hB : (decide (1 - n ≤ x) && decide (x ≤ n - 1)) = B
    have HB := Lib.hid hB
    clear hB
    go_enter Tryz.func67, Tryz.ntmps67
    go_wp2_with fail
    refine (within_any _ _ _ _).mono ?_
    rintro e w1 ⟨rfl, rfl⟩
    rw [HB.out]
    go_wp2
    go_ret
    exact ⟨ret_bool (by simp), Below.refl _ _⟩

set_option maxHeartbeats 1000000 in
theorem areLetters_any (n : Int) (v : Value) (l : List Int) (h0 : 0 ≤ n) (h1 : n ≤ 12) (w : World) (hl : RdI w w.heap.size v l) :
    Calls Tryz.prog 47 #[.int .i64 n, v] w fun e w' => e = .returned (.bool (!(l.any (badL n)))) ∧ Below w.heap.size w w' := by
  have HL := Lib.hid hl
  clear hl
  have hA := Lib.hid (rfl : l.any (badL n) = l.any (badL n))
  generalize hq : l.any (badL n) = q at hA ⊢
  have HQ := Lib.hid hq
  clear hA hq
  go_enter Tryz.func47, Tryz.ntmps47
  go_wp2_with fail
  refine (letter_contains _ (badL n) _ l _ (HL.out.up ((Below.refl _ _).alloc (Nat.le_refl _) _) (by simp)) (fun x W hW => letterBad_any n x h0 h1 w.heap.size W ?_)).mono ?_
  · rw [(bcell hW).1 _ _ (by simp)]; simp [go_sem]
  rintro e w1 ⟨rfl, hb⟩
  rw [HQ.out]
  have HB := Lib.hid (((Below.refl _ _).alloc (Nat.le_refl _) _).trans (hb.mono (by simp)))
  clear hb
  go_wp2
  go_ret
  exact ⟨rfl, HB.out⟩

theorem isStrands_any (n : Int) (w : World) : Calls Tryz.prog 26 #[.int .i64 n] w fun e w' => e = .returned (.bool (decide (0 ≤ n) && decide (n ≤ 12))) ∧ w = w' := by
  go_enter Tryz.func26, Tryz.ntmps26
  go_wp2_with (go_at_call 41; refine (within_any _ _ _ _).mono ?_; rintro e w' ⟨rfl, rfl⟩)
  go_ret
  exact ⟨rfl, rfl⟩

set_option maxHeartbeats 2000000 in
theorem validBraid_any (v : Value) (b : Br) (w : World) (hl : RdBr w w.heap.size v b) :
    Calls Tryz.prog 30 #[v] w fun e w' => e = .returned (.bool (okBr b)) ∧ Below w.heap.size w w' := by
  obtain ⟨s, rfl, hs⟩ := hl
  obtain ⟨n, wd⟩ := b
  simp only at hs ⊢
  have hlen : ∃ A n c, s = .slice A n c ∧ wd.length = n := by
    obtain ⟨A, n, c, rfl, _, hl, _⟩ := hs
    exact ⟨A, n, c, rfl, hl.out⟩
  obtain ⟨A0, n0, c0, rfl, hn0⟩ := hlen
  have HS := Lib.hid hs
  clear hs
  have hok : okBr ⟨n, wd⟩ = ((decide (0 ≤ n) && decide (n ≤ 12)) && (decide ((n0 : Int) ≤ 40) && !(wd.any (badL n)))) := by
    unfold okBr
    simp only [hn0]
    rw [show decide ((n0 : Int) ≤ 40) = decide (n0 ≤ 40) by simp; omega]
  rw [hok]
  clear hok hn0
  cases hr : (decide (0 ≤ n) && decide (n ≤ 12))
  · have HR := Lib.hid hr
    clear hr
    go_enter Tryz.func30, Tryz.ntmps30
    go_wp2_with fail
    refine (isStrands_any _ _).mono ?_
    rintro e w1 ⟨rfl, rfl⟩
    rw [HR.out]
    go_wp2
    go_ret
    exact ⟨rfl, (Below.refl _ _).alloc (Nat.le_refl _) _⟩
  · obtain ⟨h0, h1⟩ : 0 ≤ n ∧ n ≤ 12 := by simpa using hr
    have HR := Lib.hid hr
    clear hr
    by_cases h40 : (n0 : Int) ≤ 40
    · have e40 : decide ((n0 : Int) ≤ 40) = true := by simpa using h40
      rw [e40]
      clear e40
      have hA := Lib.hid (rfl : wd.any (badL n) = wd.any (badL n))
      generalize hq : wd.any (badL n) = q at hA ⊢
      have HQ := Lib.hid hq
      clear hA hq
      go_enter Tryz.func30, Tryz.ntmps30
      go_wp2_with fail
      refine (isStrands_any _ _).mono ?_
      rintro e w1 ⟨rfl, rfl⟩
      rw [HR.out]
      go_wp2_with fail
      refine (areLetters_any n _ wd h0 h1 _ (HS.out.up ((Below.refl _ _).alloc (Nat.le_refl _) _) (by simp))).mono ?_
      rintro e w1 ⟨rfl, hb⟩
      rw [HQ.out]
      have HB := Lib.hid (((Below.refl _ _).alloc (Nat.le_refl _) _).trans (hb.mono (by simp)))
      clear hb
      go_wp2
      go_ret
      exact ⟨rfl, HB.out⟩
    · have e40 : decide ((n0 : Int) ≤ 40) = false := by simpa using h40
      rw [e40]
      clear e40
      go_enter Tryz.func30, Tryz.ntmps30
      go_wp2_with fail
      refine (isStrands_any _ _).mono ?_
      rintro e w1 ⟨rfl, rfl⟩
      rw [HR.out]
      go_wp2
      go_ret
      exact ⟨rfl, (Below.refl _ _).alloc (Nat.le_refl _) _⟩

end Go.Proofs.YtgkapjjolhnliaaGreatDoor
