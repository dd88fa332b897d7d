/-
  StitchesText of program and reference.
-/
import Derived.Test.YtmgicdcpeblpnaaMade
import Derived.Test.YtmgicdcpeblpnaaSym
namespace Go.Proofs.Ytmgicdcpeblpnaa
set_option linter.unusedVariables false
set_option linter.unusedSimpArgs false
open Go.RowKit

def textB : ByteArray → List Int → ByteArray
  | acc, [] => acc
  | acc, x :: xs => textB (acc ++ symB x) xs
def stText (l : List Int) : ByteArray := if okStitches l = true then textB ⟨#[]⟩ l else ⟨#[]⟩
theorem symB_size (x : Int) : (symB x).size ≤ 1 := by
  unfold symB
  split
  · exact Nat.le_refl _
  · exact Nat.zero_le _

/- a text out of symbols: implTextIn name · impl.stitchesText function · impl.SymbolOf callee · implSym_any its contract · x (unused) -/
set_option maxHeartbeats 2000000 in
theorem implTextIn_any (v : Value) (l : List Int) (w : World) (hl : RdI w w.heap.size v l) (hs : l.length ≤ 16) :
    Calls Try.prog 57 #[v] w fun e w' => e = .returned (.string (textB ⟨#[]⟩ l)) ∧ Below w.heap.size w w' := by
  obtain ⟨A, n, c, rfl, hln, hl, gl⟩ := hl
  have hn : n ≤ 16 := by have := hl.out; omega
  clear hs
  go_enter Try.func57, Try.ntmps57
  go_wp2
  go_loopw [3, 8] (fun t i wr => ∃ (k : Nat) (acc : ByteArray), k ≤ n ∧ i = .int .i64 k ∧ t = .string acc ∧ acc.size ≤ k ∧ Hid (textB ⟨#[]⟩ l = textB acc (l.drop k)) ∧ Below w.heap.size w wr) (fun _ i _ => n - (intOf i).toNat)
  case atStart => exact ⟨0, ⟨#[]⟩, Nat.zero_le _, rfl, rfl, Nat.le_refl _, rfl, Below.refl _ _⟩
  case round =>
    rename_i wr
    obtain ⟨k, acc, hk, rfl, rfl, hak, hd, hb⟩ := hrel
    by_cases hlt : k < n
    · obtain ⟨b, off, x, rfl, hbb, hlk, hc⟩ := gl k hlt
      have hc1 : wr.cell? ⟨b, off + k, none⟩ = some (.int .i64 x) := (hb.cell (p := ⟨b, off + k, none⟩) hbb).trans hc
      have HB := Lib.hid hb
      have Hl := Lib.hid hlk
      clear hb hlk gl hc
      go_wp2_with fail
      refine (implSym_any _ _).mono ?_
      rintro e w2 ⟨rfl, hb2⟩
      have HB1 := Lib.hid (HB.out.trans (hb2.mono HB.out.size))
      have hsz := symB_size x
      clear hb2
      generalize hsy : symB x = sy at hsz ⊢
      have HS := Lib.hid hsy
      clear hsy
      go_wp2
      exact ⟨⟨k + 1, acc ++ sy, by omega, by go_num, rfl, by rw [ByteArray.size_append]; omega, by unfold Hid; rw [hd.out, drop_of_get Hl.out, textB, HS.out], HB1.out⟩, by simp [intOf]; omega⟩
    · have HB := Lib.hid hb
      have HN := Lib.hid (show textB ⟨#[]⟩ l = acc by rw [hd.out, List.drop_of_length_le (by have := hl.out; omega)]; rfl)
      clear hb gl
      go_wp2
      go_ret
      exact ⟨by rw [HN.out]; rfl, HB.out⟩
/- a text out of symbols: specTextIn name · spec.l14Text function · spec.SymbolOf callee · specSym_any its contract · x (unused) -/
set_option maxHeartbeats 2000000 in
theorem specTextIn_any (v : Value) (l : List Int) (w : World) (hl : RdI w w.heap.size v l) (hs : l.length ≤ 16) :
    Calls Try.prog 56 #[v] w fun e w' => e = .returned (.string (textB ⟨#[]⟩ l)) ∧ Below w.heap.size w w' := by
  obtain ⟨A, n, c, rfl, hln, hl, gl⟩ := hl
  have hn : n ≤ 16 := by have := hl.out; omega
  clear hs
  go_enter Try.func56, Try.ntmps56
  go_wp2
  go_loopw [3, 4] (fun t i wr => ∃ (k : Nat) (acc : ByteArray), k ≤ n ∧ i = .int .i64 k ∧ t = .string acc ∧ acc.size ≤ k ∧ Hid (textB ⟨#[]⟩ l = textB acc (l.drop k)) ∧ Below w.heap.size w wr) (fun _ i _ => n - (intOf i).toNat)
  case atStart => exact ⟨0, ⟨#[]⟩, Nat.zero_le _, rfl, rfl, Nat.le_refl _, rfl, Below.refl _ _⟩
  case round =>
    rename_i wr
    obtain ⟨k, acc, hk, rfl, rfl, hak, hd, hb⟩ := hrel
    by_cases hlt : k < n
    · obtain ⟨b, off, x, rfl, hbb, hlk, hc⟩ := gl k hlt
      have hc1 : wr.cell? ⟨b, off + k, none⟩ = some (.int .i64 x) := (hb.cell (p := ⟨b, off + k, none⟩) hbb).trans hc
      have HB := Lib.hid hb
      have Hl := Lib.hid hlk
      clear hb hlk gl hc
      go_wp2_with fail
      refine (specSym_any _ _).mono ?_
      rintro e w2 ⟨rfl, hb2⟩
      have HB1 := Lib.hid (HB.out.trans (hb2.mono HB.out.size))
      have hsz := symB_size x
      clear hb2
      generalize hsy : symB x = sy at hsz ⊢
      have HS := Lib.hid hsy
      clear hsy
      go_wp2
      exact ⟨⟨k + 1, acc ++ sy, by omega, by go_num, rfl, by rw [ByteArray.size_append]; omega, by unfold Hid; rw [hd.out, drop_of_get Hl.out, textB, HS.out], HB1.out⟩, by simp [intOf]; omega⟩
    · have HB := Lib.hid hb
      have HN := Lib.hid (show textB ⟨#[]⟩ l = acc by rw [hd.out, List.drop_of_length_le (by have := hl.out; omega)]; rfl)
      clear hb gl
      go_wp2
      go_ret
      exact ⟨by rw [HN.out]; rfl, HB.out⟩
/- implText name · impl.StitchesText function · impl.areStitches guard · areStitches_any its contract · impl.stitchesText callee · implTextIn_any its contract -/
set_option maxHeartbeats 2000000 in
theorem implText_any (v : Value) (l : List Int) (w : World) (hl : RdI w w.heap.size v l) :
    Calls Try.prog 19 #[v] w fun e w' => e = .returned (.string (stText l)) ∧ Below w.heap.size w w' := by
  have HL := Lib.hid hl
  clear hl
  rcases hok : okStitches l
  · have HO := Lib.hid hok
    rw [show stText l = ⟨#[]⟩ from by simp [stText, hok]]
    clear hok
    go_enter Try.func19, Try.ntmps19
    go_wp2_with (go_at_call 54; refine (areStitches_any _ _ _ HL.out).mono ?_; rintro e w1 ⟨rfl, hb1⟩; rw [HO.out])
    go_ret
    exact ⟨rfl, hb1⟩
  · have HO := Lib.hid hok
    have hs : Hid (l.length ≤ 16) := by unfold okStitches at hok; simp at hok; exact hok.1
    rw [show stText l = textB ⟨#[]⟩ l from by simp [stText, hok]]
    clear hok
    go_enter Try.func19, Try.ntmps19
    go_wp2_with fail
    refine (areStitches_any _ _ _ HL.out).mono ?_
    rintro e w1 ⟨rfl, hb1⟩
    rw [HO.out]
    have HL1 := Lib.hid ((HL.out.below hb1).more hb1.size)
    have HB := Lib.hid hb1
    clear hb1
    go_wp2_with fail
    refine (implTextIn_any _ _ _ HL1.out hs.out).mono ?_
    rintro e w2 ⟨rfl, hb2⟩
    go_wp2
    go_ret
    exact ⟨rfl, HB.out.trans (hb2.mono HB.out.size)⟩
/- specText name · spec.StitchesText function · spec.l14Ok guard · l14Ok_any its contract · spec.l14Text callee · specTextIn_any its contract -/
set_option maxHeartbeats 2000000 in
theorem specText_any (v : Value) (l : List Int) (w : World) (hl : RdI w w.heap.size v l) :
    Calls Try.prog 18 #[v] w fun e w' => e = .returned (.string (stText l)) ∧ Below w.heap.size w w' := by
  have HL := Lib.hid hl
  clear hl
  rcases hok : okStitches l
  · have HO := Lib.hid hok
    rw [show stText l = ⟨#[]⟩ from by simp [stText, hok]]
    clear hok
    go_enter Try.func18, Try.ntmps18
    go_wp2_with (go_at_call 52; refine (l14Ok_any _ _ _ HL.out).mono ?_; rintro e w1 ⟨rfl, hb1⟩; rw [HO.out])
    go_ret
    exact ⟨rfl, hb1⟩
  · have HO := Lib.hid hok
    have hs : Hid (l.length ≤ 16) := by unfold okStitches at hok; simp at hok; exact hok.1
    rw [show stText l = textB ⟨#[]⟩ l from by simp [stText, hok]]
    clear hok
    go_enter Try.func18, Try.ntmps18
    go_wp2_with fail
    refine (l14Ok_any _ _ _ HL.out).mono ?_
    rintro e w1 ⟨rfl, hb1⟩
    rw [HO.out]
    have HL1 := Lib.hid ((HL.out.below hb1).more hb1.size)
    have HB := Lib.hid hb1
    clear hb1
    go_wp2_with fail
    refine (specTextIn_any _ _ _ HL1.out hs.out).mono ?_
    rintro e w2 ⟨rfl, hb2⟩
    go_wp2
    go_ret
    exact ⟨rfl, HB.out.trans (hb2.mono HB.out.size)⟩

end Go.Proofs.Ytmgicdcpeblpnaa
