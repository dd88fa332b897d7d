/-
  MadeBy of program and reference, and what they call.
-/
import Derived.Test.YtmgicdcpeblpnaaStitch
import Derived.Test.YtmgicdcpeblpnaaInt
import Derived.Test.YtmgicdcpeblpnaaWords
namespace Go.Proofs.Ytmgicdcpeblpnaa
set_option linter.unusedVariables false
set_option linter.unusedSimpArgs false
open Go.RowKit

theorem notStitch_any (k : Int) (w : World) :
    Calls Try.prog 98 #[.int .i64 k] w fun e w' => e = .returned (.bool (!okKind k)) ∧ Below w.heap.size w w' := by
  go_enter Try.func98, Try.ntmps98
  go_wp2_with (go_at_call 99; refine (isStitch_any _ _).mono ?_; rintro e w' ⟨rfl, rfl⟩)
  all_goals go_ret
  all_goals exact ⟨rfl, Below.refl _ _⟩

/- slices.IndexFunc and slices.ContainsFunc over []int64 at the closure impl.areStitches$1: stitch name · slices.IndexFunc[[]int64,int64] IndexFunc's instance · slices.ContainsFunc[[]int64,int64] ContainsFunc's instance · impl.areStitches$1 the closure · (fun k => !okKind k) its predicate · notStitch_any its contract -/
set_option maxHeartbeats 1000000 in
theorem stitch_index (v : Value) (l : List Int) (w : World) (hl : RdI w w.heap.size v l) :
    Calls Try.prog 117 #[v, .func (.func 98) #[] #[]] w fun e w' => e = .returned (.int .i64 (idxOf (fun k => !okKind k) l)) ∧ Below w.heap.size w w' := by
  obtain ⟨A, n, c, rfl, hln, hl, gl⟩ := hl
  go_enter Try.func117, Try.ntmps117
  go_wp2
  go_loopw [5, 8] (fun _ i wr => ∃ k : Nat, k ≤ n ∧ i = .int .i64 k ∧ Hid (idxOf (fun k => !okKind k) l = idxFrom (fun k => !okKind k) k (l.drop k)) ∧ Below w.heap.size w wr) (fun _ i _ => n - (intOf i).toNat)
  case atStart => exact ⟨0, Nat.zero_le _, rfl, rfl, Below.refl _ _⟩
  case round =>
    rename_i wr
    obtain ⟨k, hk, rfl, hd, hb⟩ := hrel
    by_cases hlt : k < n
    · obtain ⟨b, off, x, rfl, hbb, hlk, hc⟩ := gl k hlt
      have hc1 : wr.cell? ⟨b, off + k, none⟩ = some (.int .i64 x) := (hb.cell (p := ⟨b, off + k, none⟩) hbb).trans hc
      have HB := Lib.hid hb
      have Hl := Lib.hid hlk
      clear hb hlk gl hc
      rcases hp : (fun k => !okKind k) x
      · have HP := Lib.hid hp
        go_wp2_with (go_at_call 98; refine (notStitch_any _ _).mono ?_; rintro e w1 ⟨rfl, hb1⟩)
        have HB1 := HB.out.trans (hb1.mono HB.out.size)
        exact ⟨⟨k + 1, by omega, by go_num, by unfold Hid; rw [hd.out, drop_of_get Hl.out]; simp [idxFrom, HP.out], HB1⟩, by simp [intOf]; omega⟩
      · have HP := Lib.hid hp
        go_wp2_with (go_at_call 98; refine (notStitch_any _ _).mono ?_; rintro e w1 ⟨rfl, hb1⟩)
        go_ret
        exact ⟨ret_int (by rw [hd.out, drop_of_get Hl.out]; simp [idxFrom, HP.out]), HB.out.trans (hb1.mono HB.out.size)⟩
    · have HB := Lib.hid hb
      clear hb gl
      go_wp2
      go_ret
      exact ⟨ret_int (by rw [hd.out, List.drop_of_length_le (by have := hl.out; omega)]; rfl), HB.out⟩

set_option maxHeartbeats 1000000 in
theorem stitch_contains (v : Value) (l : List Int) (w : World) (hl : RdI w w.heap.size v l) :
    Calls Try.prog 97 #[v, .func (.func 98) #[] #[]] w fun e w' => e = .returned (.bool (l.any (fun k => !okKind k))) ∧ Below w.heap.size w w' := by
  have hi := idxOf_any (fun k => !okKind k) l
  generalize hA : l.any (fun k => !okKind k) = A at hi ⊢
  generalize hI : idxOf (fun k => !okKind k) l = I at hi
  have HI := Lib.hid hI
  clear hI hA
  cases A
  · have h0 : (decide (0 ≤ I)) = false := by simpa using hi
    have HH := Lib.hid h0
    have h1 : I < 0 := by simpa using h0
    clear h0 hi
    go_enter Try.func97, Try.ntmps97
    go_wp2_with (go_at_call 117; refine (stitch_index _ _ _ hl).mono ?_; rintro e w1 ⟨rfl, hb1⟩; rw [HI.out])
    go_ret
    exact ⟨ret_bool (by first | exact HH.out | rfl), hb1⟩
  · have h0 : (decide (0 ≤ I)) = true := by simpa using hi
    have HH := Lib.hid h0
    have h1 : 0 ≤ I := by simpa using h0
    clear h0 hi
    go_enter Try.func97, Try.ntmps97
    go_wp2_with (go_at_call 117; refine (stitch_index _ _ _ hl).mono ?_; rintro e w1 ⟨rfl, hb1⟩; rw [HI.out])
    go_ret
    exact ⟨ret_bool (by first | exact HH.out | rfl), hb1⟩

def okStitches (l : List Int) : Bool := decide (l.length ≤ 16) && !(l.any fun k => !okKind k)

set_option maxHeartbeats 1000000 in
theorem areStitches_any (v : Value) (l : List Int) (w : World) (hl : RdI w w.heap.size v l) :
    Calls Try.prog 54 #[v] w fun e w' => e = .returned (.bool (okStitches l)) ∧ Below w.heap.size w w' := by
  have hrd := hl
  obtain ⟨A, n, c, rfl, hln, hl, gl⟩ := hl
  have HR := Lib.hid hrd
  have hok : okStitches l = (decide (n ≤ 16) && !(l.any fun k => !okKind k)) := by unfold okStitches; rw [hl.out]
  rw [hok]
  clear hok hrd gl
  by_cases h16 : n ≤ 16
  · have hd : decide ((n : Int) ≤ 16) = true := by simp; omega
    go_enter Try.func54, Try.ntmps54
    go_wp2_with (go_at_call 97; refine (stitch_contains _ _ _ HR.out).mono ?_; rintro e w1 ⟨rfl, hb1⟩)
    all_goals go_ret
    all_goals exact ⟨ret_bool (by simp [h16]), hb1⟩
  · have hd : decide ((n : Int) ≤ 16) = false := by simp; omega
    go_enter Try.func54, Try.ntmps54
    go_wp2
    go_ret
    exact ⟨ret_bool (by simp [h16]), Below.refl _ _⟩

set_option maxHeartbeats 1000000 in
theorem l14Ok_any (v : Value) (l : List Int) (w : World) (hl : RdI w w.heap.size v l) :
    Calls Try.prog 52 #[v] w fun e w' => e = .returned (.bool (okStitches l)) ∧ Below w.heap.size w w' := by
  obtain ⟨A, n, c, rfl, hln, hl, gl⟩ := hl
  have hok : okStitches l = (decide (n ≤ 16) && !(l.any fun k => !okKind k)) := by unfold okStitches; rw [hl.out]
  rw [hok]
  clear hok
  go_enter Try.func52, Try.ntmps52
  go_wp2
  go_loopw [3] (fun i wr => ∃ k : Nat, k ≤ n ∧ i = .int .i64 k ∧ Hid ((l.any fun k => !okKind k) = (l.drop k).any fun k => !okKind k) ∧ Below w.heap.size w wr) (fun i _ => n - (intOf i).toNat)
  case atStart => exact ⟨0, Nat.zero_le _, rfl, rfl, Below.refl _ _⟩
  case round =>
    rename_i wr
    obtain ⟨k, hk, rfl, hd, hb⟩ := hrel
    by_cases hlt : k < n
    · obtain ⟨b, off, x, rfl, hbb, hlk, hc⟩ := gl k hlt
      have hc1 : wr.cell? ⟨b, off + k, none⟩ = some (.int .i64 x) := (hb.cell (p := ⟨b, off + k, none⟩) hbb).trans hc
      have HB := Lib.hid hb
      have Hl := Lib.hid hlk
      clear hb hlk gl hc
      rcases hp : okKind x
      · have HP := Lib.hid hp
        go_wp2_with (go_at_call 96; refine (l14Kind_any _ _).mono ?_; rintro e w1 ⟨rfl, rfl⟩)
        go_ret
        exact ⟨ret_bool (by rw [hd.out, drop_of_get Hl.out]; simp [HP.out]), HB.out⟩
      · have HP := Lib.hid hp
        go_wp2_with (go_at_call 96; refine (l14Kind_any _ _).mono ?_; rintro e w1 ⟨rfl, rfl⟩)
        exact ⟨⟨k + 1, by omega, by go_num, by unfold Hid; rw [hd.out, drop_of_get Hl.out]; simp [HP.out], HB.out⟩, by simp [intOf]; omega⟩
    · have HB := Lib.hid hb
      clear hb gl
      go_wp2
      go_ret
      exact ⟨ret_bool (by rw [hd.out, List.drop_of_length_le (by have := hl.out; omega)]; by_cases h : n ≤ 16 <;> simp [h] <;> omega), HB.out⟩

def guardSum (f : Int → Int) (l : List Int) : Int := if okStitches l = true then sumW f 0 l else -1


/- a sum over a list: implSumTaken name · impl.takenBy function · impl.ColumnsTaken callee · implTaken_any its contract · (f: colTaken) -/
set_option maxHeartbeats 2000000 in
theorem implSumTaken_any (v : Value) (l : List Int) (w : World) (hl : RdI w w.heap.size v l) :
    Calls Try.prog 55 #[v] w fun e w' => e = .returned (.int .i64 (sumW colTaken 0 l)) ∧ Below w.heap.size w w' := by
  obtain ⟨A, n, c, rfl, hln, hl, gl⟩ := hl
  go_enter Try.func55, Try.ntmps55
  go_wp2
  go_loopw [3, 8] (fun t i wr => ∃ (k : Nat) (acc : Int), k ≤ n ∧ i = .int .i64 k ∧ t = .int .i64 acc ∧ Hid (sumW colTaken 0 l = sumW colTaken acc (l.drop k)) ∧ Below w.heap.size w wr) (fun _ i _ => n - (intOf i).toNat)
  case atStart => exact ⟨0, 0, Nat.zero_le _, rfl, rfl, rfl, Below.refl _ _⟩
  case round =>
    rename_i wr
    obtain ⟨k, acc, hk, rfl, rfl, hd, hb⟩ := hrel
    by_cases hlt : k < n
    · obtain ⟨b, off, x, rfl, hbb, hlk, hc⟩ := gl k hlt
      have hc1 : wr.cell? ⟨b, off + k, none⟩ = some (.int .i64 x) := (hb.cell (p := ⟨b, off + k, none⟩) hbb).trans hc
      have HB := Lib.hid hb
      have Hl := Lib.hid hlk
      clear hb hlk gl hc
      go_wp2_with (go_at_call 100; refine (implTaken_any _ _).mono ?_; rintro e w2 ⟨rfl, hb2⟩)
      have HB1 := HB.out.trans (hb2.mono HB.out.size)
      exact ⟨⟨k + 1, _, by omega, by go_num, rfl, by unfold Hid; rw [hd.out, drop_of_get Hl.out]; rfl, HB1⟩, by simp [intOf]; omega⟩
    · have HB := Lib.hid hb
      clear hb gl
      go_wp2
      go_ret
      exact ⟨ret_int (by rw [hd.out, List.drop_of_length_le (by have := hl.out; omega)]; rfl), HB.out⟩
/- A sum over a list behind a guard: specTakenBy name · spec.TakenBy function · spec.l14Ok guard · l14Ok_any its contract · spec.ColumnsTaken callee · specTaken_any its contract · colTaken 'f · slots' -/
set_option maxHeartbeats 2000000 in
theorem specTakenBy_any (v : Value) (l : List Int) (w : World) (hl : RdI w w.heap.size v l) :
    Calls Try.prog 14 #[v] w fun e w' => e = .returned (.int .i64 (guardSum colTaken l)) ∧ Below w.heap.size w w' := by
  have hrd := hl
  obtain ⟨A, n, c, rfl, hln, hl, gl⟩ := hl
  rcases hok : okStitches l
  · have HO := Lib.hid hok
    rw [show guardSum colTaken l = -1 from by simp [guardSum, hok]]
    clear hok
    go_enter Try.func14, Try.ntmps14
    go_wp2_with (go_at_call 52; refine (l14Ok_any _ _ _ hrd).mono ?_; rintro e w1 ⟨rfl, hb1⟩; rw [HO.out])
    go_ret
    exact ⟨rfl, hb1⟩
  · have HO := Lib.hid hok
    rw [show guardSum colTaken l = sumW colTaken 0 l from by simp [guardSum, hok]]
    clear hok
    go_enter Try.func14, Try.ntmps14
    go_wp2_with (go_at_call 52; refine (l14Ok_any _ _ _ hrd).mono ?_; rintro e w1 ⟨rfl, hb1⟩; rw [HO.out])
    clear hrd
    go_loopw [3, 4] (fun t i wr => ∃ (k : Nat) (acc : Int), k ≤ n ∧ i = .int .i64 k ∧ t = .int .i64 acc ∧ Hid (sumW colTaken 0 l = sumW colTaken acc (l.drop k)) ∧ Below w.heap.size w wr) (fun _ i _ => n - (intOf i).toNat)
    case atStart => exact ⟨0, 0, Nat.zero_le _, rfl, rfl, rfl, hb1⟩
    case round =>
      rename_i wr
      obtain ⟨k, acc, hk, rfl, rfl, hd, hb⟩ := hrel
      by_cases hlt : k < n
      · obtain ⟨b, off, x, rfl, hbb, hlk, hc⟩ := gl k hlt
        have hc1 : wr.cell? ⟨b, off + k, none⟩ = some (.int .i64 x) := (hb.cell (p := ⟨b, off + k, none⟩) hbb).trans hc
        have HB := Lib.hid hb
        have Hl := Lib.hid hlk
        clear hb hlk gl hc hb1
        go_wp2_with (go_at_call 53; refine (specTaken_any _ _).mono ?_; rintro e w2 ⟨rfl, hb2⟩)
        have HB1 := HB.out.trans (hb2.mono HB.out.size)
        exact ⟨⟨k + 1, _, by omega, by go_num, rfl, by unfold Hid; rw [hd.out, drop_of_get Hl.out]; rfl, HB1⟩, by simp [intOf]; omega⟩
      · have HB := Lib.hid hb
        clear hb gl hb1
        go_wp2
        go_ret
        exact ⟨ret_int (by rw [hd.out, List.drop_of_length_le (by have := hl.out; omega)]; rfl), HB.out⟩

set_option maxHeartbeats 2000000 in
theorem implTakenBy_any (v : Value) (l : List Int) (w : World) (hl : RdI w w.heap.size v l) :
    Calls Try.prog 16 #[v] w fun e w' => e = .returned (.int .i64 (guardSum colTaken l)) ∧ Below w.heap.size w w' := by
  rcases hok : okStitches l
  · have HO := Lib.hid hok
    rw [show guardSum colTaken l = -1 from by simp [guardSum, hok]]
    clear hok
    have HL := Lib.hid hl
    clear hl
    go_enter Try.func16, Try.ntmps16
    go_wp2_with (go_at_call 54; refine (areStitches_any _ _ _ HL.out).mono ?_; rintro e w1 ⟨rfl, hb1⟩; rw [HO.out])
    go_ret
    exact ⟨rfl, hb1⟩
  · have HO := Lib.hid hok
    rw [show guardSum colTaken l = sumW colTaken 0 l from by simp [guardSum, hok]]
    clear hok
    have HL := Lib.hid hl
    clear hl
    go_enter Try.func16, Try.ntmps16
    go_wp2_with fail
    refine (areStitches_any _ _ _ HL.out).mono ?_
    rintro e w1 ⟨rfl, hb1⟩
    rw [HO.out]
    have HL1 := Lib.hid ((HL.out.below hb1).more hb1.size)
    have HB := Lib.hid hb1
    clear hb1
    go_wp2_with fail
    refine (implSumTaken_any _ _ _ HL1.out).mono ?_
    rintro e w2 ⟨rfl, hb2⟩
    go_wp2
    go_ret
    exact ⟨rfl, HB.out.trans (hb2.mono HB.out.size)⟩

end Go.Proofs.Ytmgicdcpeblpnaa
