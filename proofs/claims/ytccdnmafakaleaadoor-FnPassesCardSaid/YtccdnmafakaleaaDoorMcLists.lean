/-
  slices.Concat at slices of slices; the loops on a bed as one list (l07Lists); numbers that rise (l00Rises).
-/
import Derived.Test.YtccdnmafakaleaaDoorMcInfo0
import Derived.Test.YtccdnmafakaleaaDoorAppend
import Derived.Test.YtccdnmafakaleaaDoorOwn
namespace Go.Proofs.YtccdnmafakaleaaDoor
set_option linter.unusedVariables false
set_option linter.unusedSimpArgs false
open Go.RowKit

def risB : List Int → Bool
  | a :: b :: t => decide (a < b) && risB (b :: t)
  | _ => true
def rngB (lo hi : Int) (l : List Int) : Bool := l.all fun x => inB lo x hi

/-- Rising from the element before place k on. -/
def risAt (l : List Int) (k : Nat) : Bool := if k = 0 then risB l else risB (l.drop (k - 1))
theorem risAt_zero (l : List Int) : risAt l 0 = risB l := rfl
theorem risAt_one {l : List Int} {x : Int} (hx : l[0]? = some x) : risAt l 0 = risAt l 1 := by
  unfold risAt; simp
theorem risAt_next {l : List Int} {k : Nat} {x y : Int} (h0 : 0 < k) (hx : l[k - 1]? = some x) (hy : l[k]? = some y) : risAt l k = (decide (x < y) && risAt l (k + 1)) := by
  unfold risAt
  rw [if_neg (by omega), if_neg (by omega), drop_of_get hx, show k - 1 + 1 = k by omega, drop_of_get hy, show k + 1 - 1 = k by omega, drop_of_get hy, risB]
theorem risAt_end {l : List Int} {k : Nat} (h : l.length ≤ k) : risAt l k = true := by
  unfold risAt
  by_cases h0 : k = 0
  · rw [if_pos h0]
    have : l = [] := List.eq_nil_of_length_eq_zero (by omega)
    rw [this]; rfl
  · rw [if_neg h0]
    have hl : (l.drop (k - 1)).length ≤ 1 := by simp; omega
    match hm : l.drop (k - 1), hl with
    | [], _ => rfl
    | [a], _ => rfl

set_option maxHeartbeats 4000000 in
set_option maxRecDepth 100000 in
theorem l00Rises_any (v : Value) (l : List Int) (lo hi : Int) (w : World) (hl : RdI w w.heap.size v l) :
    Calls Tryd.prog 57 #[v, .int .i64 lo, .int .i64 hi] w fun e w' => e = .returned (.bool (rngB lo hi l && risB l)) ∧ Below w.heap.size w w' := by
  obtain ⟨A, cp, rfl⟩ := hl.len
  have hbig := hl.len_le
  have HL := Lib.hid hl
  clear hl
  generalize hR : (rngB lo hi l && risB l) = R
  have HR := Lib.hid hR
  clear hR
  generalize hln : l.length = n at *
  have HLN := Lib.hid hln
  clear hln
  go_enter Tryd.func57, Tryd.ntmps57
  go_wp2
  go_loopw [7] (fun i wr => ∃ k : Nat, k ≤ n ∧ i = .int .i64 k ∧ Hid (R = (rngB lo hi (l.drop k) && risAt l k)) ∧ Below w.heap.size w wr) (fun i _ => n - (intOf i).toNat)
  case atStart => exact ⟨0, Nat.zero_le _, rfl, HR.out.symm, Below.refl _ _⟩
  case round =>
    rename_i wr
    obtain ⟨k, hk, rfl, hd, hb⟩ := hrel
    by_cases hlt : k < n
    · obtain ⟨b, off, y, rfl, hbb, hlk, hc⟩ := (HL.out.below hb).at_ hlt
      have e0 := fun X => wgrow_cell (x := X) hc
      have HB := Lib.hid hb
      cases h1 : inB lo y hi
      · have HT := Lib.hid (show R = false by rw [hd.out, drop_of_get hlk]; simp [rngB, h1])
        have H1 := Lib.hid h1
        clear hb hd h1
        go_wp2
        refine wp_region_grow (by kernel_rfl) (by kernel_rfl) ?_
        repeat (go_big_quiet_step ((go_at_call 54; exact calls_grow ((l00In_b y lo hi _).mono fun e w' ⟨h1, h2⟩ => ⟨by rw [h1, H1.out], h2⟩))))
        refine wpQuiet_nil ?_
        intro w2 hb2
        have HB2 := Lib.hid (HB.out.trans (hb2.mono HB.out.size))
        clear hb2
        go_wp2
        go_ret
        exact ⟨ret_bool HT.out.symm, HB2.out⟩
      · have H1 := Lib.hid h1
        by_cases hk0 : k = 0
        · have HT := Lib.hid (show R = (rngB lo hi (l.drop (k + 1)) && risAt l (k + 1)) by subst hk0; rw [hd.out, risAt_one hlk, drop_of_get hlk]; simp [rngB, h1])
          have hg : decide (0 < k) = false := by simp; omega
          clear hb hd h1 hk0
          go_wp2
          refine wp_region_grow (by kernel_rfl) (by kernel_rfl) ?_
          repeat (go_big_quiet_step ((go_at_call 54; exact calls_grow ((l00In_b y lo hi _).mono fun e w' ⟨h1, h2⟩ => ⟨by rw [h1, H1.out], h2⟩))))
          refine wpQuiet_nil ?_
          intro w2 hb2
          have HB2 := Lib.hid (HB.out.trans (hb2.mono HB.out.size))
          clear hb2
          go_wp2
          exact ⟨⟨k + 1, by omega, by go_num, HT.out, HB2.out⟩, by simp [intOf]; omega⟩
        · obtain ⟨b', off', x, e', hbb', hlk', hc'⟩ := (HL.out.below hb).at_ (show k - 1 < n by omega)
          injection e' with e'
          injection e' with e1 e2
          subst e1 e2
          have hkc : ((k - 1 : Nat) : Int) = (k : Int) - 1 := by omega
          have f0 := fun X => wgrow_cell (x := X) hc'
          have hw1 : IntKind.i64.wrap ((k : Int) - 1) = (k : Int) - 1 := IntWalk.i64_in _ (by omega)
          have hnx := risAt_next (by omega) hlk' hlk
          have hg : decide (0 < k) = true := by simp; omega
          by_cases hxy : x < y
          · have HT := Lib.hid (show R = (rngB lo hi (l.drop (k + 1)) && risAt l (k + 1)) by rw [hd.out, hnx, drop_of_get hlk]; simp [rngB, h1, hxy])
            have e1 : decide (y ≤ x) = false := by simp; omega
            clear hb hd h1 hnx
            go_wp2
            refine wp_region_grow (by kernel_rfl) (by kernel_rfl) ?_
            repeat (go_big_quiet_step ((go_at_call 54; exact calls_grow ((l00In_b y lo hi _).mono fun e w' ⟨h1, h2⟩ => ⟨by rw [h1, H1.out], h2⟩))))
            refine wpQuiet_nil ?_
            intro w2 hb2
            have HB2 := Lib.hid (HB.out.trans (hb2.mono HB.out.size))
            clear hb2
            go_wp2
            exact ⟨⟨k + 1, by omega, by go_num, HT.out, HB2.out⟩, by simp [intOf]; omega⟩
          · have HT := Lib.hid (show R = false by rw [hd.out, hnx]; simp [hxy])
            have e1 : decide (y ≤ x) = true := by simp; omega
            clear hb hd h1 hnx
            go_wp2
            refine wp_region_grow (by kernel_rfl) (by kernel_rfl) ?_
            repeat (go_big_quiet_step ((go_at_call 54; exact calls_grow ((l00In_b y lo hi _).mono fun e w' ⟨h1, h2⟩ => ⟨by rw [h1, H1.out], h2⟩))))
            refine wpQuiet_nil ?_
            intro w2 hb2
            have HB2 := Lib.hid (HB.out.trans (hb2.mono HB.out.size))
            clear hb2
            go_wp2
            go_ret
            exact ⟨ret_bool HT.out.symm, HB2.out⟩
    · have HB := Lib.hid hb
      have HT := Lib.hid (show R = true by rw [hd.out, List.drop_of_length_le (by have := HLN.out; omega), risAt_end (by have := HLN.out; omega)]; rfl)
      clear hb
      go_wp2
      go_ret
      exact ⟨ret_bool HT.out.symm, HB.out⟩

end Go.Proofs.YtccdnmafakaleaaDoor
