/-
  Blocks equal, of the program and of the reference.
-/
import Derived.Test.YtfeonaocmnpkcaaGarR
import Derived.Test.YtfeonaocmnpkcaaBlkI
import Derived.Test.YtfeonaocmnpkcaaBraidE
namespace Go.Proofs.Ytfeonaocmnpkcaa
set_option linter.unusedVariables false
set_option linter.unusedSimpArgs false
open Go.RowKit

noncomputable def eqBk (a b : Bk) : Bool := eqBr a.b b.b && decide (a.e = b.e)

set_option maxHeartbeats 2000000 in
set_option maxRecDepth 100000 in
theorem implEqualBlocks_any (v u : Value) (a b : Bk) (w : World) (hl : RdBkV w w.heap.size v a) (hm : RdBkV w w.heap.size u b) :
    Calls Try.prog 11 #[v, u] w fun e w' => e = .returned (.bool (eqBk a b)) ∧ Below w.heap.size w w' := by
  obtain ⟨s, t, rfl, hs, ht⟩ := hl
  obtain ⟨p, q, rfl, hp, hq⟩ := hm
  obtain ⟨A0, n0, c0, rfl⟩ := hs.shape
  obtain ⟨A1, n1, c1, rfl⟩ := ht.shape'
  obtain ⟨A2, n2, c2, rfl⟩ := hp.shape
  obtain ⟨A3, n3, c3, rfl⟩ := hq.shape'
  obtain ⟨ab, ae⟩ := a
  obtain ⟨bb, be⟩ := b
  have HS := Lib.hid hs
  have HT := Lib.hid ht
  have HP := Lib.hid hp
  have HQ := Lib.hid hq
  clear hs ht hp hq
  dsimp only at HS HT HP HQ
  have HB0 := Lib.hid (show Below w.heap.size w ((w.alloc (.cells #[.int .i64 ab.n, .slice A0 n0 c0, .slice A1 n1 c1] 33)).alloc (.cells #[.int .i64 bb.n, .slice A2 n2 c2, .slice A3 n3 c3] 33)) from ((Below.refl _ _).alloc (Nat.le_refl _) _).alloc (by simp) _)
  have hca : CellsAt ((w.alloc (.cells #[.int .i64 ab.n, .slice A0 n0 c0, .slice A1 n1 c1] 33)).alloc (.cells #[.int .i64 bb.n, .slice A2 n2 c2, .slice A3 n3 c3] 33)) w.heap.size 0 [.int .i64 ab.n, .slice A0 n0 c0, .slice A1 n1 c1] := by
    intro j u hu; rcases j with _ | _ | _ | j <;> simp at hu <;> subst hu <;> simp [go_sem]
  have hcb : CellsAt ((w.alloc (.cells #[.int .i64 ab.n, .slice A0 n0 c0, .slice A1 n1 c1] 33)).alloc (.cells #[.int .i64 bb.n, .slice A2 n2 c2, .slice A3 n3 c3] 33)) (w.heap.size + 1) 0 [.int .i64 bb.n, .slice A2 n2 c2, .slice A3 n3 c3] := by
    intro j u hu; rcases j with _ | _ | _ | j <;> simp at hu <;> subst hu <;> simp [go_sem]
  have HCA := Lib.hid hca
  have HCB := Lib.hid hcb
  clear hca hcb
  have HK := Lib.hid (equalBraids_any _ _ ab bb _ ⟨_, rfl, HS.out.up HB0.out HB0.out.size⟩ ⟨_, rfl, HP.out.up HB0.out HB0.out.size⟩)
  have HR : Hid (eqBk ⟨ab, ae⟩ ⟨bb, be⟩ = (eqBr ab bb && decide (ae = be))) := rfl
  generalize eqBk ⟨ab, ae⟩ ⟨bb, be⟩ = R at *
  cases h : eqBr ab bb
  · rw [h] at HK HR
    clear h
    go_enter Try.func11, Try.ntmps11
    go_wp2_with fail
    refine HK.out.mono ?_
    rintro e w1 ⟨rfl, hb⟩
    have HB := Lib.hid (HB0.out.trans (hb.mono HB0.out.size))
    clear hb
    go_wp2
    go_ret
    exact ⟨ret_bool (by rw [HR.out]; rfl), HB.out⟩
  · rw [h] at HK HR
    clear h
    go_enter Try.func11, Try.ntmps11
    go_wp2_with fail
    refine HK.out.mono ?_
    rintro e w1 ⟨rfl, hb⟩
    obtain ⟨y0, y1, y2⟩ := (HCA.out.below hb (by simp; try omega)).three
    obtain ⟨x0, x1, x2⟩ := (HCB.out.below hb (by simp; try omega)).three
    have HB := Lib.hid (HB0.out.trans (hb.mono HB0.out.size))
    clear hb
    go_wp2_with fail
    refine (eqlEvents_any _ _ ae be _ _ ((HT.out.below HB.out).more HB.out.size) ((HQ.out.below HB.out).more HB.out.size) (Nat.le_refl _)).mono ?_
    rintro e w2 ⟨rfl, hb⟩
    have HB2 := Lib.hid (HB.out.trans (hb.mono HB.out.size))
    clear hb
    go_wp2
    go_ret
    exact ⟨ret_bool (by rw [HR.out]; simp), HB2.out⟩

set_option maxHeartbeats 4000000 in
set_option maxRecDepth 100000 in
theorem l13Equal_any (a b : Bk) (n m : Nat) (hn : a.b.n = n) (hm : b.b.n = m) (hn12 : n ≤ 12) (hla : LetsN n a.b.w) (hlb : LetsN m b.b.w) (hal : a.b.w.length ≤ 40) (hbl : b.b.w.length ≤ 40) (g1 g2 : Nat) (s t p q : Value) (w : World)
    (hc1 : CellsAt w g1 0 [.int .i64 (n : Int), s, t]) (hc2 : CellsAt w g2 0 [.int .i64 (m : Int), p, q]) (hs : RdI w w.heap.size s a.b.w) (ht : RdE w w.heap.size t a.e) (hp : RdI w w.heap.size p b.b.w) (hq : RdE w w.heap.size q b.e) :
    Calls Try.prog 31 #[.pointer (some ⟨g1, 0, none⟩), .pointer (some ⟨g2, 0, none⟩)] w fun e w' => e = .returned (.bool (decide (n = m) && (decide (a.e = b.e) && eqW n a.b.w b.b.w))) ∧ Below w.heap.size w w' := by
  obtain ⟨A0, n0, c0, rfl⟩ := hs.shape
  obtain ⟨A1, n1, c1, rfl⟩ := ht.shape'
  obtain ⟨A2, n2, c2, rfl⟩ := hp.shape
  obtain ⟨A3, n3, c3, rfl⟩ := hq.shape'
  obtain ⟨e0, e1, e2⟩ := hc1.grow3
  obtain ⟨f0, f1, f2⟩ := hc2.grow3
  have HQ1 := fun X => Lib.hid (specSameEvents_any _ _ a.e b.e (wgrow w X) _ (show RdE (wgrow w X) (wgrow w X).heap.size _ _ from (ht.below (below_wgrow w X)).more (below_wgrow w X).size) ((hq.below (below_wgrow w X)).more (below_wgrow w X).size) (Nat.le_refl _))
  by_cases hnm : n = m
  · subst hnm
    have HQ2 := fun X => Lib.hid (l04Equal_any n hn12 a.b.w b.b.w hla hlb (by omega) (by omega) _ _ (wgrow w X) (hs.up (below_wgrow w X) (below_wgrow w X).size) (hp.up (below_wgrow w X) (below_wgrow w X).size))
    have hnn : ((n : Int) == (n : Int)) = true := by simp
    clear hc1 hc2 hs ht hp hq hla hlb hal hbl hn hm
    simp only [decide_true, Bool.true_and]
    generalize eqW n a.b.w b.b.w = E at *
    generalize decide (a.e = b.e) = D at *
    cases D
    · go_enter Try.func31, Try.ntmps31
      go_wp2
      refine wp_region_grow (by kernel_rfl) (by kernel_rfl) ?_
      repeat (go_big_quiet_step ((first | (go_at_call 53; exact calls_grow (HQ1 _).out) | (go_at_call 54; exact calls_grow (HQ2 _).out))))
      refine wpQuiet_nil ?_
      intro w1 hb1
      go_wp2
      go_ret
      exact ⟨ret_bool (by simp), hb1⟩
    · go_enter Try.func31, Try.ntmps31
      go_wp2
      refine wp_region_grow (by kernel_rfl) (by kernel_rfl) ?_
      repeat (go_big_quiet_step ((first | (go_at_call 53; exact calls_grow (HQ1 _).out) | (go_at_call 54; exact calls_grow (HQ2 _).out))))
      refine wpQuiet_nil ?_
      intro w1 hb1
      go_wp2
      go_ret
      exact ⟨ret_bool (by simp), hb1⟩
  · have hd : ((n : Int) == (m : Int)) = false := by simp; omega
    have hd2 : decide (n = m) = false := by simpa using hnm
    rw [hd2]
    clear hc1 hc2 hs ht hp hq hla hlb hal hbl hn hm hnm hd2
    go_enter Try.func31, Try.ntmps31
    go_wp2
    refine wp_region_grow (by kernel_rfl) (by kernel_rfl) ?_
    repeat (go_big_quiet_step (fail))
    refine wpQuiet_nil ?_
    intro w1 hb1
    go_wp2
    go_ret
    exact ⟨ret_bool (by simp), hb1⟩

end Go.Proofs.Ytfeonaocmnpkcaa
