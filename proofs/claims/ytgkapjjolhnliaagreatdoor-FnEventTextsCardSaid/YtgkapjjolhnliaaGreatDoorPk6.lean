/-
  Texts joined: Fev.
-/
import Derived.Test.YtgkapjjolhnliaaGreatDoorPk4
import Derived.Test.YtgkapjjolhnliaaGreatDoorPk5
import Derived.Test.YtgkapjjolhnliaaGreatDoorPk2
import Derived.Test.YtgkapjjolhnliaaGreatDoorPk3
/-
  The law FnEventTexts: its walk.
-/
namespace Go.Proofs.YtgkapjjolhnliaaGreatDoor
set_option linter.unusedVariables false
set_option linter.unusedSimpArgs false
open Go.RowKit Go.Shelf

/-- Behind the crossings' braid: its box. -/
structure FinC (w5 wx : World) (g : Nat) (b : Br) (A : Option Addr) (n c : Nat) : Prop where
  below : Below w5.heap.size w5 wx
  box : Bx wx g [.int .i64 b.n, .slice A n c]
  row : RdI wx wx.heap.size (.slice A n c) b.w
abbrev zBr : List Value := [.int .i64 0, .slice none 0 0]
theorem fin_new {w5 w8 : World} {b : Br} {A : Option Addr} {n c lo : Nat} (t : TypeId) (hr : OwC w8 lo w8.heap.size 2 1 (.slice A n c) b.w.length (vI b.w)) (hB : Below w5.heap.size w5 w8) :
    FinC w5 (w8.alloc (.cells #[.int .i64 b.n, .slice A n c] t)) w8.heap.size b A n c :=
  ⟨hB.alloc hB.size _, Bx.new w8 [.int .i64 b.n, .slice A n c] t, ((RdI.of_own hr).below ((Below.refl _ _).alloc (Nat.le_refl _) _)).more (by simp)⟩
theorem fin_set {w5 w8 : World} {b : Br} {A : Option Addr} {n c lo gz : Nat} (bz : Bx w8 gz zBr) (hr : OwC w8 lo w8.heap.size 2 1 (.slice A n c) b.w.length (vI b.w)) (hlo : gz < lo) (hg : w5.heap.size ≤ gz) (hB : Below w5.heap.size w5 w8) :
    FinC w5 ((w8.setCell ⟨gz, 0, none⟩ (.int .i64 b.n)).setCell ⟨gz, 1, none⟩ (.slice A n c)) gz b A n c := by
  refine ⟨(hB.setCell (p := ⟨gz, 0, none⟩) hg _).setCell (p := ⟨gz, 1, none⟩) hg _, (bz.set (i := 0) (by simp) _).set (i := 1) (by simp) _, ?_⟩
  have h2 : ∀ g, lo ≤ g → ((w8.setCell ⟨gz, 0, none⟩ (.int .i64 b.n)).setCell ⟨gz, 1, none⟩ (.slice A n c)).heap[g]? = w8.heap[g]? := fun g h1 => by
    have h3 : g ≠ gz := by omega
    rw [Below.heap_setCell _ _ _ _ (by exact h3), Below.heap_setCell _ _ _ _ (by exact h3)]
  have := RdI.of_own (hr.keep (fun g h1 _ => h2 g h1))
  simpa using this
set_option maxHeartbeats 8000000 in
set_option maxRecDepth 100000 in
theorem fnEventTexts_any (v0 : Value) (W : World) (hb0 : RdB W W.heap.size v0) (B0 : Nat) (hB : B0 ≤ W.heap.size) (hL : LibW B0 W) : Calls Tryz.prog 3 #[v0] W fun e W' => e = .returned (.bool true) ∧ Below W.heap.size W W' := by
  have HB0 := Lib.hid hb0
  have HLW := Lib.hid (fun (X : World) (h : Below W.heap.size W X) => hL.on (h.mono hB))
  have HSZ := Lib.hid (fun (X : World) (h : Below W.heap.size W X) => Nat.le_trans hB h.size)
  clear hL hB
  obtain ⟨A0, n0, c0, rfl, hn0, -⟩ := hb0
  by_cases hl0 : (1048576 : Int) < (n0 : Int)
  · have hd0 : decide ((1048576 : Int) < (n0 : Int)) = true := by simpa using hl0
    go_enter Tryz.func3, Tryz.ntmps3
    go_wp2
    go_ret
    exact ⟨rfl, Below.refl _ _⟩
  have hd0 : decide ((1048576 : Int) < (n0 : Int)) = false := by simpa using hl0
  go_enter Tryz.func3, Tryz.ntmps3
  go_wp2_with fail
  refine (e8Events_any W _ HB0.out).mono ?_
  rintro e w1 ⟨va, a, rfl, hra, hoka, hla, hb1'⟩
  have RA := Lib.hid hra
  have OKA := Lib.hid (ok_val hoka)
  have B1 := Lib.hid hb1'
  have V1 := Lib.hid (HB0.out.up hb1')
  clear hoka hb1' HB0
  obtain ⟨Aa, na, ca, rfl, hnaa, hlaa, gl⟩ := hra
  have HLA := Lib.hid hlaa.out
  have hna : na ≤ 18 := by rw [← HLA.out]; exact hla
  have GL := Lib.hid gl
  clear hlaa hla gl
  go_wp2_with fail
  go_loopw [4] (fun v4 wr => ∃ (k : Nat) (wq : World), wq = wr ∧ v4 = .int .i64 (k : Int) ∧ k ≤ na ∧ Hid (Below w1.heap.size w1 wq)) (fun v4 _ => na - (intOf v4).toNat)
  case atStart => exact ⟨0, _, rfl, rfl, Nat.zero_le _, Below.refl _ _⟩
  case round =>
    obtain ⟨k, wq, hwq, rfl, hk, HQ⟩ := hrel
    subst hwq
    have HBQ := Lib.hid (B1.out.trans (HQ.out.mono B1.out.size))
    by_cases hlt : k < na
    · obtain ⟨b, off, x, rfl, hbb, hlk, hc⟩ := GL.out k hlt
      have HVX := Lib.hid (OKA.out x (List.mem_of_getElem? hlk))
      have hcq := hc.below HQ.out hbb
      have HCQ := Lib.hid hcq
      have hbq : b < wq.heap.size := Nat.lt_of_lt_of_le hbb HQ.out.size
      have HT := Lib.hid (fun (X : World) (hX : Below W.heap.size W X) => implEventText_any x B0 X (HSZ.out X hX) (HLW.out X hX).tab)
      rw [tx_val HVX.out] at HT
      have hf := val_facts HVX.out
      have HEL := evT_len x ⟨by omega, by omega⟩ hf.2.2.1 ⟨by omega, by omega⟩
      have HRD := Lib.hid (fun (X : World) (hX : Below W.heap.size W X) => implReadEvent_any ⟨(evT x).toArray⟩ (by show (evT x).toArray.size ≤ _; simp; omega) B0 X (HSZ.out X hX) (HLW.out X hX))
      have HNE := Lib.hid (neq_ev x x)
      obtain ⟨c0', c1', c2', c3', c4', c5'⟩ := hcq.six
      clear hlk hc hcq hf HEL
      obtain ⟨ek, ep, ec, eb, ey, ed⟩ := x
      go_upto_region 8 with (first
        | (go_at_call 6; refine (HT.out _ HBQ.out).mono ?_; rintro e2 w2 ⟨rfl, hb2⟩; have HB2 := Lib.hid (HBQ.out.trans (hb2.mono HBQ.out.size)))
        | (go_at_call 5; refine (HRD.out _ HB2.out).mono ?_; rintro e3 w3 ⟨⟨v, rfl, hv⟩, hb3⟩; obtain rfl := rd_back HVX.out hv))
      have hb23 := hb2.trans (hb3.mono hb2.size)
      have HC4 := Lib.hid ((HCQ.out.below hb23 hbq).alloc (Nat.lt_of_lt_of_le hbq hb23.size) (.cells #[.int .i64 ek, .int .i64 ep, .int .i64 ec, .int .i64 eb, .int .i64 ey, .int .i64 ed] 26))
      have HX4 := Lib.hid (Bx.new w3 [.int .i64 ek, .int .i64 ep, .int .i64 ec, .int .i64 eb, .int .i64 ey, .int .i64 ed] 26)
      have HQ4 := Lib.hid (HQ.out.trans ((hb23.alloc hb23.size (.cells #[.int .i64 ek, .int .i64 ep, .int .i64 ec, .int .i64 eb, .int .i64 ey, .int .i64 ed] 26)).mono HQ.out.size))
      clear hb2 hb3 hb23 hv c0' c1' c2' c3' c4' c5' HBQ HB2 HT HRD hbq hbb HCQ
      generalize w3.alloc (.cells #[.int .i64 ek, .int .i64 ep, .int .i64 ec, .int .i64 eb, .int .i64 ey, .int .i64 ed] 26) = w4 at *
      generalize w3.heap.size = g5 at *
      obtain ⟨c0, c1, c2, c3, c4, c5⟩ := HC4.out.six
      obtain ⟨x0, x1, x2, x3, x4, x5⟩ := HX4.out.six
      have hne := HNE.out
      go_region
      all_goals go_wp2_with fail
      all_goals exact ⟨⟨k + 1, _, rfl, by go_num, by omega, HQ4.out.drew⟩, by simp [intOf]; omega⟩
    · obtain rfl : k = na := by omega
      clear hlt hk
      go_wp2_with fail
      refine (implStitchesOf_any _ a _ ((RA.out.below HQ.out).more HQ.out.size) (by rw [HLA.out]; omega)).mono ?_
      rintro e w2 ⟨v2, rfl, ho2, hb2⟩
      have RF := Lib.hid (RdS.of_own Ev.len ho2)
      obtain ⟨Af, nf, cf, rfl, hnf, hlf, gf⟩ := id RF.out
      have HLF := Lib.hid hlf.out
      have GF := Lib.hid gf
      have HNF : Hid ((nf : Int) ≤ (k : Int)) := by
        have h1 := HLF.out
        have h2 := HLA.out
        have h3 : (stOf a).length ≤ a.length := List.length_filter_le _ _
        unfold Hid
        omega
      have hnf2 : nf ≤ 18 := by have := HNF.out; omega
      have Q2 := Lib.hid (HQ.out.trans (hb2.mono HQ.out.size))
      clear ho2 hb2 hlf gf HBQ GL
      go_wp2_with fail
      go_loopw [8] (fun v8 wr => ∃ (j : Nat) (wq : World), wq = wr ∧ v8 = .int .i64 (j : Int) ∧ j ≤ nf ∧ Hid (Below w2.heap.size w2 wq)) (fun v8 _ => nf - (intOf v8).toNat)
      case atStart => exact ⟨0, _, rfl, rfl, Nat.zero_le _, Below.refl _ _⟩
      case round =>
        obtain ⟨j, wq2, hwq2, rfl, hj, HQ3⟩ := hrel
        subst hwq2
        by_cases hlt2 : j < nf
        · obtain ⟨b, off, x, rfl, hbb, hlk, hc⟩ := GF.out j hlt2
          have hxk := st_kind (List.mem_of_getElem? hlk)
          obtain ⟨c0, c1, c2, c3, c4, c5⟩ := (hc.below HQ3.out hbb).six
          clear hlk hc
          go_wp2_with fail
          exact ⟨⟨j + 1, _, rfl, by go_num, by omega, HQ3.out⟩, by simp [intOf]; omega⟩
        · obtain rfl : j = nf := by omega
          have B3 := Lib.hid (B1.out.trans ((Q2.out.trans (HQ3.out.mono Q2.out.size)).mono B1.out.size))
          have V3 := Lib.hid (V1.out.up (Q2.out.trans (HQ3.out.mono Q2.out.size)))
          clear hlt2 hj GF RF RA V1 HQ Q2 HQ3
          go_wp2_with fail
          refine (e8Braids_any _ _ V3.out).mono ?_
          rintro e w4 ⟨va, vb, b, b2, rfl, ⟨s, rfl, hs⟩, ⟨s2, rfl, hs2⟩, hok, hl8, hb4⟩
          obtain ⟨A4, n4, c4, rfl⟩ := hs.shape
          obtain ⟨A5, n5, c5, rfl⟩ := hs2.shape
          have HS := Lib.hid hs
          have HOK := Lib.hid hok
          have B4 := Lib.hid (B3.out.trans (hb4.mono B3.out.size))
          clear hs hs2 hok hb4 B3 V3
          go_upto_region 17 with fail
          have HX9 := Lib.hid ((Bx.new w4 [.int .i64 b.n, .slice A4 n4 c4] 33).alloc (.cells #[.int .i64 b2.n, .slice A5 n5 c5] 33))
          have hb45 : Below w4.heap.size w4 ((w4.alloc (.cells #[.int .i64 b.n, .slice A4 n4 c4] 33)).alloc (.cells #[.int .i64 b2.n, .slice A5 n5 c5] 33)) := ((Below.refl _ _).alloc (Nat.le_refl _) _).alloc (by simp) _
          have HS5 := Lib.hid ((HS.out.below hb45).more hb45.size)
          have B5 := Lib.hid (B4.out.trans (hb45.mono B4.out.size))
          have hg9 : w4.heap.size < ((w4.alloc (.cells #[.int .i64 b.n, .slice A4 n4 c4] 33)).alloc (.cells #[.int .i64 b2.n, .slice A5 n5 c5] 33)).heap.size := by simp; omega
          clear hb45 HS B4
          generalize (w4.alloc (.cells #[.int .i64 b.n, .slice A4 n4 c4] 33)).alloc (.cells #[.int .i64 b2.n, .slice A5 n5 c5] 33) = w5 at *
          generalize w4.heap.size = g9 at *
          obtain ⟨hcb1, hcb2⟩ := cross_back HOK.out
          have HBE := Lib.hid (fun (X : World) (hX : Below w5.heap.size w5 X) => implBraidEvents_any (.agg #[.int .i64 b.n, .slice A4 n4 c4]) b X ⟨_, rfl, (HS5.out.below hX).more hX.size⟩ (by omega))
          have HCR := Lib.hid (fun (X : World) (v : Value) (hX : RdE X X.heap.size v (braidL b)) => implCross_any b.n v (braidL b) X hX (by unfold braidL letsE; split <;> simp <;> omega))
          rw [hcb1, hcb2] at HCR
          obtain ⟨f0, f1⟩ := HX9.out.two
          clear hcb1 hcb2
          go_cut [11, 12] (fun s11 s12 wx => ∃ (g11 : Nat) (A : Option Addr) (n c : Nat) (wq : World), wq = wx ∧ s11 = .pointer (some ⟨g11, 0, none⟩) ∧ s12 = .int .i64 0 ∧ Hid (FinC w5 wx g11 b A n c))
          case first =>
            have HW5 := Lib.hid (Below.refl w5.heap.size w5)
            have f0b : ∀ o, (w5.alloc o).cell? ⟨g9, 0, none⟩ = some (.int .i64 b.n) := fun o => (World.cell?_alloc_lt w5 o ⟨g9, 0, none⟩ hg9).trans f0
            have f1b : ∀ o, (w5.alloc o).cell? ⟨g9, 1, none⟩ = some (.slice A4 n4 c4) := fun o => (World.cell?_alloc_lt w5 o ⟨g9, 1, none⟩ hg9).trans f1
            go_region_with (first
              | (go_at_call 10; refine (HBE.out _ (by first | exact HW5.out.drew | exact (HW5.out.alloc (Nat.le_refl _) _).drew | exact HW5.out | exact HW5.out.alloc (Nat.le_refl _) _)).mono ?_; rintro e w6 ⟨v6, rfl, how6, hb6⟩; (first | (have HB6 := Lib.hid (show Below w5.heap.size w5 w6 from HW5.out.drew.trans hb6); have HZ6 : True := trivial) | (have HB6 := Lib.hid (show Below w5.heap.size w5 w6 from (HW5.out.alloc (Nat.le_refl _) _).drew.trans (hb6.mono (by show w5.heap.size ≤ (w5.alloc _).heap.size; rw [World.size_alloc]; exact Nat.le_succ _))); have HZ6 := Lib.hid ((Bx.new w5 zBr 33).drew.below hb6 (by show _ < (w5.alloc _).heap.size; rw [World.size_alloc]; exact Nat.lt_succ_self _)))); have HR6 := Lib.hid (RdS.of_own Ev.len how6); obtain ⟨f0', f1'⟩ := (HX9.out.below HB6.out hg9).two; have f0c : ∀ o, (w6.alloc o).cell? ⟨g9, 0, none⟩ = some (.int .i64 b.n) := fun o => (World.cell?_alloc_lt w6 o ⟨g9, 0, none⟩ (block_lt_of_cell f0')).trans f0'; obtain ⟨A6, n6, c6, rfl, -⟩ := HR6.out)
              | (go_at_call 9; first
                | (refine (HCR.out w6 _ HR6.out).mono ?_; rintro e w8 ⟨v8, rfl, ⟨s8, rfl, how8⟩, hb8⟩; obtain ⟨A8, c8, rfl, -⟩ := how8.cells; have HB8 := Lib.hid (HB6.out.trans (hb8.mono HB6.out.size)); first | (have bz := HZ6.out.below hb8 HZ6.out.2.2; obtain ⟨z0, z1⟩ := bz.two; have zf := bz.2.1; have HFIN := Lib.hid (fin_set bz how8 HZ6.out.2.2 (Nat.le_refl _) HB8.out)) | (have HFIN := Lib.hid (fin_new 33 how8 HB8.out)))
                | (refine (HCR.out (w6.alloc _) _ ((RdS.below HR6.out ((Below.refl _ _).alloc (Nat.le_refl _) _)).more (by rw [World.size_alloc]; exact Nat.le_succ _))).mono ?_; rintro e w8 ⟨v8, rfl, ⟨s8, rfl, how8⟩, hb8⟩; obtain ⟨A8, c8, rfl, -⟩ := how8.cells; have HB8 := Lib.hid ((HB6.out.alloc HB6.out.size _).trans (hb8.mono (by rw [World.size_alloc]; exact Nat.le_trans HB6.out.size (Nat.le_succ _)))); have bz := (Bx.new w6 zBr 33).below hb8 (by rw [World.size_alloc]; exact Nat.lt_succ_self _); obtain ⟨z0, z1⟩ := bz.two; have zf := bz.2.1; have HFIN := Lib.hid (fin_set bz how8 (by rw [World.size_alloc]; exact Nat.lt_succ_self _) HB6.out.size HB8.out))))
            all_goals
              go_wp2_with fail
              go_meet
              exact ⟨_, _, _, _, _, rfl, rfl, rfl, HFIN.out⟩
          case rest =>
            obtain ⟨g11, A, n, c, wq5, hwq5, rfl, rfl, HF⟩ := hcut
            subst hwq5
            obtain ⟨f0', f1'⟩ := (HX9.out.below HF.out.below hg9).two
            obtain ⟨h0, h1⟩ := HF.out.box.two
            have HSM := Lib.hid (specSameBraid_any _ _ b b _ ⟨_, rfl, (HS5.out.below HF.out.below).more HF.out.below.size⟩ ⟨_, rfl, HF.out.row⟩)
            have hjk := HNF.out
            have BF := Lib.hid (B5.out.trans (HF.out.below.mono B5.out.size))
            clear f0 f1 HBE HCR
            go_wp2_with (go_at_call 11; refine HSM.out.mono ?_; rintro e w9 ⟨rfl, hb9⟩)
            go_ret
            exact ⟨by simp, BF.out.trans (hb9.mono BF.out.size)⟩

end Go.Proofs.YtgkapjjolhnliaaGreatDoor
