/-
  SameBlocks of the program and of the reference.
-/
import Derived.Test.YtjhhbdehgklneaaBlkS
namespace Go.Proofs.Ytjhhbdehgklneaa
set_option linter.unusedVariables false
set_option linter.unusedSimpArgs false
open Go.RowKit

set_option maxHeartbeats 1000000 in
theorem implSameBlocks_any (v u : Value) (l m : List Bk) (w : World) (hl : RdBks w w.heap.size v l) (hm : RdBks w w.heap.size u m) :
    Calls Try.prog 18 #[v, u] w fun x w' => x = .returned (.bool (decide (l = m))) ∧ Below w.heap.size w w' := by
  have HQ := Lib.hid (eqfBlk_any v u l m w hl hm)
  obtain ⟨A, n, c, rfl, hln, hl, gl⟩ := hl
  obtain ⟨A', n', c', rfl, hmn, hm, gm⟩ := hm
  clear hl hm gl gm
  go_enter Try.func18, Try.ntmps18
  go_wp2_with fail
  refine HQ.out.mono ?_
  rintro e w1 ⟨rfl, hb⟩
  have HB := Lib.hid hb
  clear hb
  go_wp2
  go_ret
  exact ⟨rfl, HB.out⟩

set_option maxHeartbeats 4000000 in
set_option maxRecDepth 100000 in
theorem specSameBlocks_any (v u : Value) (l m : List Bk) (w : World) (hl : RdBks w w.heap.size v l) (hm : RdBks w w.heap.size u m) :
    Calls Try.prog 16 #[v, u] w fun x w' => x = .returned (.bool (decide (l = m))) ∧ Below w.heap.size w w' := by
  obtain ⟨A, cp, rfl⟩ := RdN.shape hl
  obtain ⟨A', cp', rfl⟩ := RdN.shape hm
  have hbig := RdN.le hl
  have hbig' := RdN.le hm
  have HL := Lib.hid hl
  have HM := Lib.hid hm
  clear hl hm
  generalize hln : l.length = n at *
  generalize hmn : m.length = n' at *
  have HLN := Lib.hid hln
  have HMN := Lib.hid hmn
  clear hln hmn
  by_cases hlen : n = n'
  · subst hlen
    go_enter Try.func16, Try.ntmps16
    go_wp2
    go_loopw [5] (fun i wr => ∃ k : Nat, k ≤ n ∧ i = .int .i64 k ∧ Hid (decide (l = m) = decide (l.drop k = m.drop k)) ∧ Below w.heap.size w wr) (fun i _ => n - (intOf i).toNat)
    case atStart => exact ⟨0, Nat.zero_le _, rfl, rfl, Below.refl _ _⟩
    case round =>
      rename_i wr
      obtain ⟨k, hk, rfl, hd, hb⟩ := hrel
      by_cases hlt : k < n
      · obtain ⟨b, off, x, A0, n0, c0, A1, n1, c1, rfl, hbb, hlk, hc, hs, ht⟩ := (RdBks.below HL.out hb).at_ hlt
        obtain ⟨b', off', y, A2, n2, c2, A3, n3, c3, rfl, hbb', hmk, hc', hp, hq⟩ := (RdBks.below HM.out hb).at_ hlt
        have HS := fun X => Lib.hid (hs.up (B := w.heap.size) (below_wgrow wr X |>.mono hb.size) (Nat.le_trans hb.size (below_wgrow wr X).size))
        have HP := fun X => Lib.hid (hp.up (B := w.heap.size) (below_wgrow wr X |>.mono hb.size) (Nat.le_trans hb.size (below_wgrow wr X).size))
        have HT := fun X => Lib.hid (show RdE (wgrow wr X) (wgrow wr X).heap.size _ _ from (ht.below (below_wgrow wr X |>.mono hb.size)).more (Nat.le_trans hb.size (below_wgrow wr X).size))
        have HU := fun X => Lib.hid (show RdE (wgrow wr X) (wgrow wr X).heap.size _ _ from (hq.below (below_wgrow wr X |>.mono hb.size)).more (Nat.le_trans hb.size (below_wgrow wr X).size))
        obtain ⟨e0, e1, e2⟩ := hc.grow3
        obtain ⟨f0, f1, f2⟩ := hc'.grow3
        have HB := Lib.hid hb
        have Hl := Lib.hid hlk
        have Hm := Lib.hid hmk
        clear hc hc' hlk hmk hb hs ht hp hq
        have HQ1 := fun X => Lib.hid (specSameBraid_any _ _ x.b y.b _ ⟨_, rfl, (HS X).out⟩ ⟨_, rfl, (HP X).out⟩)
        have HQ2 := fun X => Lib.hid (specSameEvents_any _ _ x.e y.e _ _ (HT X).out (HU X).out (Nat.le_refl _))
        clear HS HP HT HU
        cases h1 : decide (x.b = y.b)
        · have HN : Hid (decide (l = m) = false) := by
            unfold Hid
            rw [hd.out, drop_of_get Hl.out, drop_of_get Hm.out]
            have h2 := of_decide_eq_false h1
            simp
            rintro rfl
            exact absurd rfl h2
          rw [h1] at HQ1
          clear h1
          go_wp2
          refine wp_region_grow (by kernel_rfl) (by kernel_rfl) ?_
          repeat (go_big_quiet_step ((first | (go_at_call 37; exact calls_grow (HQ1 _).out) | (go_at_call 38; exact calls_grow (HQ2 _).out))))
          refine wpQuiet_nil ?_
          intro w1 hb1
          have HB1 := HB.out.trans (hb1.mono HB.out.size)
          go_wp2
          go_ret
          exact ⟨ret_bool HN.out.symm, HB1⟩
        · cases h2 : decide (x.e = y.e)
          · have HN : Hid (decide (l = m) = false) := by
              unfold Hid
              rw [hd.out, drop_of_get Hl.out, drop_of_get Hm.out]
              have h3 := of_decide_eq_false h2
              simp
              rintro rfl
              exact absurd rfl h3
            rw [h1] at HQ1
            rw [h2] at HQ2
            clear h1 h2
            go_wp2
            refine wp_region_grow (by kernel_rfl) (by kernel_rfl) ?_
            repeat (go_big_quiet_step ((first | (go_at_call 37; exact calls_grow (HQ1 _).out) | (go_at_call 38; exact calls_grow (HQ2 _).out))))
            refine wpQuiet_nil ?_
            intro w1 hb1
            have HB1 := HB.out.trans (hb1.mono HB.out.size)
            go_wp2
            go_ret
            exact ⟨ret_bool HN.out.symm, HB1⟩
          · have HN : Hid (decide (l = m) = decide (l.drop (k + 1) = m.drop (k + 1))) := by
              unfold Hid
              rw [hd.out, drop_of_get Hl.out, drop_of_get Hm.out]
              have h3 := of_decide_eq_true h1
              have h4 := of_decide_eq_true h2
              have h5 : x = y := by
                obtain ⟨x1, x2⟩ := x
                obtain ⟨y1, y2⟩ := y
                simp only at h3 h4
                subst h3 h4
                rfl
              subst h5
              simp
            rw [h1] at HQ1
            rw [h2] at HQ2
            clear h1 h2
            go_wp2
            refine wp_region_grow (by kernel_rfl) (by kernel_rfl) ?_
            repeat (go_big_quiet_step ((first | (go_at_call 37; exact calls_grow (HQ1 _).out) | (go_at_call 38; exact calls_grow (HQ2 _).out))))
            refine wpQuiet_nil ?_
            intro w1 hb1
            have HB1 := HB.out.trans (hb1.mono HB.out.size)
            go_wp2
            exact ⟨⟨k + 1, by omega, by go_num, HN.out, HB1⟩, by simp [intOf]; omega⟩
      · have HB := Lib.hid hb
        clear hb
        go_wp2
        go_ret
        exact ⟨ret_bool (by rw [hd.out, List.drop_of_length_le (by have := HLN.out; omega), List.drop_of_length_le (by have := HMN.out; omega)]; simp), HB.out⟩
  · have hd1 : ((n : Int) != (n' : Int)) = true := by simp; omega
    have HN := Lib.hid (show decide (l = m) = false by simp; rintro rfl; exact hlen (HLN.out.symm.trans HMN.out))
    go_enter Try.func16, Try.ntmps16
    go_wp2
    go_ret
    exact ⟨ret_bool HN.out.symm, Below.refl _ _⟩

end Go.Proofs.Ytjhhbdehgklneaa
