/-
  MadeBy of program and reference, and what they call.
-/
import Derived.Test.YtmjjlajpcbickaaStitch
import Derived.Test.YtmjjlajpcbickaaInt
import Derived.Test.YtmjjlajpcbickaaWords
namespace Go.Proofs.Ytmjjlajpcbickaa
open Go.RowKit

theorem notStitch_any (k : Int) (w : World) :
    Calls Try.prog 37 #[.int .i64 k] w fun e w' => e = .returned (.bool (!okKind k)) ∧ Below w.heap.size w w' := by
  go_enter Try.func37, Try.ntmps37
  go_wp2_with (go_at_call 27; refine (isStitch_any _ _).mono ?_; rintro e w' ⟨rfl, rfl⟩)
  all_goals go_ret
  all_goals exact ⟨rfl, Below.refl _ _⟩

/- slices.IndexFunc and slices.ContainsFunc over []int64 at the closure impl.areStitches$1: stitch name · slices.IndexFunc[[]int64,int64] IndexFunc's instance · slices.ContainsFunc[[]int64,int64] ContainsFunc's instance · impl.areStitches$1 the closure · (fun k => !okKind k) its predicate · notStitch_any its contract -/
set_option maxHeartbeats 1000000 in
theorem stitch_index (v : Value) (l : List Int) (w : World) (hl : RdI w w.heap.size v l) :
    Calls Try.prog 38 #[v, .func (.func 37) #[] #[]] w fun e w' => e = .returned (.int .i64 (idxOf (fun k => !okKind k) l)) ∧ Below w.heap.size w w' := by
  obtain ⟨A, n, c, rfl, hln, hl, gl⟩ := hl
  go_enter Try.func38, Try.ntmps38
  go_wp2
  go_loopw [5, 8] (fun _ i wr => ∃ k : Nat, k ≤ n ∧ i = .int .i64 k ∧ Hid (idxOf (fun k => !okKind k) l = idxFrom (fun k => !okKind k) k (l.drop k)) ∧ Below w.heap.size w wr) (fun _ i _ => n - (intOf i).toNat)
  case atStart => exact ⟨0, Nat.zero_le _, rfl, rfl, Below.refl _ _⟩
  case round =>
    rename_i wr
    obtain ⟨k, hk, rfl, hd, hb⟩ := hrel
    by_cases hlt : k < n
    · obtain ⟨b, off, x, rfl, hbb, hlk, hc⟩ := gl k hlt
      have hc1 : wr.cell? ⟨b, off + k, none⟩ = some (.int .i64 x) := (hb.cell (p := ⟨b, off + k, none⟩) hbb).trans hc
      have HB := Lib.hid hb
      have Hl := Lib.hid hlk
      clear hb hlk gl hc
      rcases hp : (fun k => !okKind k) x
      · have HP := Lib.hid hp
        go_wp2_with (go_at_call 37; refine (notStitch_any _ _).mono ?_; rintro e w1 ⟨rfl, hb1⟩)
        have HB1 := HB.out.trans (hb1.mono HB.out.size)
        exact ⟨⟨k + 1, by omega, by go_num, by unfold Hid; rw [hd.out, drop_of_get Hl.out]; simp [idxFrom, HP.out], HB1⟩, by simp [intOf]; omega⟩
      · have HP := Lib.hid hp
        go_wp2_with (go_at_call 37; refine (notStitch_any _ _).mono ?_; rintro e w1 ⟨rfl, hb1⟩)
        go_ret
        exact ⟨ret_int (by rw [hd.out, drop_of_get Hl.out]; simp [idxFrom, HP.out]), HB.out.trans (hb1.mono HB.out.size)⟩
    · have HB := Lib.hid hb
      clear hb gl
      go_wp2
      go_ret
      exact ⟨ret_int (by rw [hd.out, List.drop_of_length_le (by have := hl.out; omega)]; rfl), HB.out⟩

set_option maxHeartbeats 1000000 in
theorem stitch_contains (v : Value) (l : List Int) (w : World) (hl : RdI w w.heap.size v l) :
    Calls Try.prog 36 #[v, .func (.func 37) #[] #[]] w fun e w' => e = .returned (.bool (l.any (fun k => !okKind k))) ∧ Below w.heap.size w w' := by
  have hi := idxOf_any (fun k => !okKind k) l
  generalize hA : l.any (fun k => !okKind k) = A at hi ⊢
  generalize hI : idxOf (fun k => !okKind k) l = I at hi
  have HI := Lib.hid hI
  clear hI hA
  cases A
  · have h0 : (decide (0 ≤ I)) = false := by simpa using hi
    have HH := Lib.hid h0
    have h1 : I < 0 := by simpa using h0
    clear h0 hi
    go_enter Try.func36, Try.ntmps36
    go_wp2_with (go_at_call 38; refine (stitch_index _ _ _ hl).mono ?_; rintro e w1 ⟨rfl, hb1⟩; rw [HI.out])
    go_ret
    exact ⟨ret_bool (by first | exact HH.out | rfl), hb1⟩
  · have h0 : (decide (0 ≤ I)) = true := by simpa using hi
    have HH := Lib.hid h0
    have h1 : 0 ≤ I := by simpa using h0
    clear h0 hi
    go_enter Try.func36, Try.ntmps36
    go_wp2_with (go_at_call 38; refine (stitch_index _ _ _ hl).mono ?_; rintro e w1 ⟨rfl, hb1⟩; rw [HI.out])
    go_ret
    exact ⟨ret_bool (by first | exact HH.out | rfl), hb1⟩

def okStitches (l : List Int) : Bool := decide (l.length ≤ 16) && !(l.any fun k => !okKind k)

set_option maxHeartbeats 1000000 in
theorem areStitches_any (v : Value) (l : List Int) (w : World) (hl : RdI w w.heap.size v l) :
    Calls Try.prog 30 #[v] w fun e w' => e = .returned (.bool (okStitches l)) ∧ Below w.heap.size w w' := by
  have hrd := hl
  obtain ⟨A, n, c, rfl, hln, hl, gl⟩ := hl
  have HR := Lib.hid hrd
  have hok : okStitches l = (decide (n ≤ 16) && !(l.any fun k => !okKind k)) := by unfold okStitches; rw [hl.out]
  rw [hok]
  clear hok hrd gl
  by_cases h16 : n ≤ 16
  · have hd : decide ((n : Int) ≤ 16) = true := by simp; omega
    go_enter Try.func30, Try.ntmps30
    go_wp2_with (go_at_call 36; refine (stitch_contains _ _ _ HR.out).mono ?_; rintro e w1 ⟨rfl, hb1⟩)
    all_goals go_ret
    all_goals exact ⟨ret_bool (by simp [h16]), hb1⟩
  · have hd : decide ((n : Int) ≤ 16) = false := by simp; omega
    go_enter Try.func30, Try.ntmps30
    go_wp2
    go_ret
    exact ⟨ret_bool (by simp [h16]), Below.refl _ _⟩

set_option maxHeartbeats 1000000 in
theorem l14Ok_any (v : Value) (l : List Int) (w : World) (hl : RdI w w.heap.size v l) :
    Calls Try.prog 29 #[v] w fun e w' => e = .returned (.bool (okStitches l)) ∧ Below w.heap.size w w' := by
  obtain ⟨A, n, c, rfl, hln, hl, gl⟩ := hl
  have hok : okStitches l = (decide (n ≤ 16) && !(l.any fun k => !okKind k)) := by unfold okStitches; rw [hl.out]
  rw [hok]
  clear hok
  go_enter Try.func29, Try.ntmps29
  go_wp2
  go_loopw [3] (fun i wr => ∃ k : Nat, k ≤ n ∧ i = .int .i64 k ∧ Hid ((l.any fun k => !okKind k) = (l.drop k).any fun k => !okKind k) ∧ Below w.heap.size w wr) (fun i _ => n - (intOf i).toNat)
  case atStart => exact ⟨0, Nat.zero_le _, rfl, rfl, Below.refl _ _⟩
  case round =>
    rename_i wr
    obtain ⟨k, hk, rfl, hd, hb⟩ := hrel
    by_cases hlt : k < n
    · obtain ⟨b, off, x, rfl, hbb, hlk, hc⟩ := gl k hlt
      have hc1 : wr.cell? ⟨b, off + k, none⟩ = some (.int .i64 x) := (hb.cell (p := ⟨b, off + k, none⟩) hbb).trans hc
      have HB := Lib.hid hb
      have Hl := Lib.hid hlk
      clear hb hlk gl hc
      rcases hp : okKind x
      · have HP := Lib.hid hp
        go_wp2_with (go_at_call 26; refine (l14Kind_any _ _).mono ?_; rintro e w1 ⟨rfl, rfl⟩)
        go_ret
        exact ⟨ret_bool (by rw [hd.out, drop_of_get Hl.out]; simp [HP.out]), HB.out⟩
      · have HP := Lib.hid hp
        go_wp2_with (go_at_call 26; refine (l14Kind_any _ _).mono ?_; rintro e w1 ⟨rfl, rfl⟩)
        exact ⟨⟨k + 1, by omega, by go_num, by unfold Hid; rw [hd.out, drop_of_get Hl.out]; simp [HP.out], HB.out⟩, by simp [intOf]; omega⟩
    · have HB := Lib.hid hb
      clear hb gl
      go_wp2
      go_ret
      exact ⟨ret_bool (by rw [hd.out, List.drop_of_length_le (by have := hl.out; omega)]; by_cases h : n ≤ 16 <;> simp [h] <;> omega), HB.out⟩

def guardSum (f : Int → Int) (l : List Int) : Int := if okStitches l = true then sumW f 0 l else -1

/- A sum over a list behind a guard: implMadeBy name · impl.MadeBy function · impl.areStitches guard · areStitches_any its contract · impl.ColumnsMade callee · implMade_any its contract · colMade 'f · slots' -/
set_option maxHeartbeats 2000000 in
theorem implMadeBy_any (v : Value) (l : List Int) (w : World) (hl : RdI w w.heap.size v l) :
    Calls Try.prog 19 #[v] w fun e w' => e = .returned (.int .i64 (guardSum colMade l)) ∧ Below w.heap.size w w' := by
  have hrd := hl
  obtain ⟨A, n, c, rfl, hln, hl, gl⟩ := hl
  rcases hok : okStitches l
  · have HO := Lib.hid hok
    rw [show guardSum colMade l = -1 from by simp [guardSum, hok]]
    clear hok
    go_enter Try.func19, Try.ntmps19
    go_wp2_with (go_at_call 30; refine (areStitches_any _ _ _ hrd).mono ?_; rintro e w1 ⟨rfl, hb1⟩; rw [HO.out])
    go_ret
    exact ⟨rfl, hb1⟩
  · have HO := Lib.hid hok
    rw [show guardSum colMade l = sumW colMade 0 l from by simp [guardSum, hok]]
    clear hok
    go_enter Try.func19, Try.ntmps19
    go_wp2_with (go_at_call 30; refine (areStitches_any _ _ _ hrd).mono ?_; rintro e w1 ⟨rfl, hb1⟩; rw [HO.out])
    clear hrd
    go_loopw [3, 11] (fun t i wr => ∃ (k : Nat) (acc : Int), k ≤ n ∧ i = .int .i64 k ∧ t = .int .i64 acc ∧ Hid (sumW colMade 0 l = sumW colMade acc (l.drop k)) ∧ Below w.heap.size w wr) (fun _ i _ => n - (intOf i).toNat)
    case atStart => exact ⟨0, 0, Nat.zero_le _, rfl, rfl, rfl, hb1⟩
    case round =>
      rename_i wr
      obtain ⟨k, acc, hk, rfl, rfl, hd, hb⟩ := hrel
      by_cases hlt : k < n
      · obtain ⟨b, off, x, rfl, hbb, hlk, hc⟩ := gl k hlt
        have hc1 : wr.cell? ⟨b, off + k, none⟩ = some (.int .i64 x) := (hb.cell (p := ⟨b, off + k, none⟩) hbb).trans hc
        have HB := Lib.hid hb
        have Hl := Lib.hid hlk
        clear hb hlk gl hc hb1
        go_wp2_with (go_at_call 10; refine (implMade_any _ _).mono ?_; rintro e w2 ⟨rfl, hb2⟩)
        have HB1 := HB.out.trans (hb2.mono HB.out.size)
        exact ⟨⟨k + 1, _, by omega, by go_num, rfl, by unfold Hid; rw [hd.out, drop_of_get Hl.out]; rfl, HB1⟩, by simp [intOf]; omega⟩
      · have HB := Lib.hid hb
        clear hb gl hb1
        go_wp2
        go_ret
        exact ⟨ret_int (by rw [hd.out, List.drop_of_length_le (by have := hl.out; omega)]; rfl), HB.out⟩
/- A sum over a list behind a guard: specMadeBy name · spec.MadeBy function · spec.l14Ok guard · l14Ok_any its contract · spec.ColumnsMade callee · specMade_any its contract · colMade 'f · slots' -/
set_option maxHeartbeats 2000000 in
theorem specMadeBy_any (v : Value) (l : List Int) (w : World) (hl : RdI w w.heap.size v l) :
    Calls Try.prog 17 #[v] w fun e w' => e = .returned (.int .i64 (guardSum colMade l)) ∧ Below w.heap.size w w' := by
  have hrd := hl
  obtain ⟨A, n, c, rfl, hln, hl, gl⟩ := hl
  rcases hok : okStitches l
  · have HO := Lib.hid hok
    rw [show guardSum colMade l = -1 from by simp [guardSum, hok]]
    clear hok
    go_enter Try.func17, Try.ntmps17
    go_wp2_with (go_at_call 29; refine (l14Ok_any _ _ _ hrd).mono ?_; rintro e w1 ⟨rfl, hb1⟩; rw [HO.out])
    go_ret
    exact ⟨rfl, hb1⟩
  · have HO := Lib.hid hok
    rw [show guardSum colMade l = sumW colMade 0 l from by simp [guardSum, hok]]
    clear hok
    go_enter Try.func17, Try.ntmps17
    go_wp2_with (go_at_call 29; refine (l14Ok_any _ _ _ hrd).mono ?_; rintro e w1 ⟨rfl, hb1⟩; rw [HO.out])
    clear hrd
    go_loopw [3, 4] (fun t i wr => ∃ (k : Nat) (acc : Int), k ≤ n ∧ i = .int .i64 k ∧ t = .int .i64 acc ∧ Hid (sumW colMade 0 l = sumW colMade acc (l.drop k)) ∧ Below w.heap.size w wr) (fun _ i _ => n - (intOf i).toNat)
    case atStart => exact ⟨0, 0, Nat.zero_le _, rfl, rfl, rfl, hb1⟩
    case round =>
      rename_i wr
      obtain ⟨k, acc, hk, rfl, rfl, hd, hb⟩ := hrel
      by_cases hlt : k < n
      · obtain ⟨b, off, x, rfl, hbb, hlk, hc⟩ := gl k hlt
        have hc1 : wr.cell? ⟨b, off + k, none⟩ = some (.int .i64 x) := (hb.cell (p := ⟨b, off + k, none⟩) hbb).trans hc
        have HB := Lib.hid hb
        have Hl := Lib.hid hlk
        clear hb hlk gl hc hb1
        go_wp2_with (go_at_call 9; refine (specMade_any _ _).mono ?_; rintro e w2 ⟨rfl, hb2⟩)
        have HB1 := HB.out.trans (hb2.mono HB.out.size)
        exact ⟨⟨k + 1, _, by omega, by go_num, rfl, by unfold Hid; rw [hd.out, drop_of_get Hl.out]; rfl, HB1⟩, by simp [intOf]; omega⟩
      · have HB := Lib.hid hb
        clear hb gl hb1
        go_wp2
        go_ret
        exact ⟨ret_int (by rw [hd.out, List.drop_of_length_le (by have := hl.out; omega)]; rfl), HB.out⟩

end Go.Proofs.Ytmjjlajpcbickaa
