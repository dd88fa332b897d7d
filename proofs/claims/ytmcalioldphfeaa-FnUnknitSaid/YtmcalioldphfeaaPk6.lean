/-
  Texts joined: UkA, UkB, UkC, UkD, UkF.
-/
import Derived.Test.YtmcalioldphfeaaPk5
import Derived.Test.YtmcalioldphfeaaPk1
import Derived.Test.YtmcalioldphfeaaPk2
import Derived.StillTailTactics
import Derived.Test.YtmcalioldphfeaaCont
/-
  The reference's words for taking back: the needle that faces, loops off the needles, what lies behind.
-/
namespace Go.Proofs.Ytmcalioldphfeaa
set_option linter.unusedVariables false
set_option linter.unusedSimpArgs false
open Go.RowKit

set_option maxHeartbeats 4000000 in
set_option maxRecDepth 100000 in
theorem l12Facing_any {w : World} {B g : Nat} {m : Mc} {S : Nat → Spot} (h : MSt w B g m S) (n : Int × Int) (hb : n.1 = 1 ∨ n.1 = 2) (h0 : 0 ≤ n.2) (h1 : n.2 ≤ 100) (hr : -3 ≤ m.rk ∧ m.rk ≤ 3) (hw : 0 ≤ m.wd ∧ m.wd ≤ 100) :
    Calls Try.prog 91 #[.pointer (some ⟨g, 0, none⟩), .agg #[.int .i64 n.1, .int .i64 n.2]] w fun e w' => e = .returned (.tuple #[.agg #[.int .i64 (fcN m n).1, .int .i64 (fcN m n).2], .bool (fcIn m n)]) ∧ Below w.heap.size w w' := by
  obtain ⟨b, a⟩ := n
  have h0' : 0 ≤ a := h0
  have h1' : a ≤ 100 := h1
  obtain ⟨r0, r1⟩ := hr
  obtain ⟨w0, w1⟩ := hw
  have hgw : g < w.heap.size := (h.sp.lt h.gbox).2
  have x0 : w.cell? ⟨g, 0, none⟩ = some (.int .i64 m.wd) := h.cells.seven.1
  have x1 : w.cell? ⟨g, 1, none⟩ = some (.int .i64 m.rk) := h.cells.seven.2.1
  have hfN : Hid (fcN m (b, a) = if b = 2 then (1, a + m.rk) else (2, a - m.rk)) := rfl
  have hfI : Hid (fcIn m (b, a) = inB 0 (fcN m (b, a)).2 (m.wd - 1)) := rfl
  generalize fcN m (b, a) = F at *
  generalize fcIn m (b, a) = I at *
  generalize m.rk = rk at *
  generalize m.wd = wd at *
  clear h h0 h1
  have hb' : b = 1 ∨ b = 2 := hb
  have HB0 := Lib.hid (((Below.refl w.heap.size w).alloc (Nat.le_refl _) (.cells #[.int .i64 b, .int .i64 a] 45)).alloc (by simp) (.cells #[.int .i64 0, .int .i64 0] 45))
  have N0 := (Bx.new w [.int .i64 b, .int .i64 a] 45).alloc (.cells #[.int .i64 0, .int .i64 0] 45)
  have Z0 := Bx.new (w.alloc (.cells #[.int .i64 b, .int .i64 a] 45)) [.int .i64 0, .int .i64 0] 45
  rw [World.size_alloc] at Z0
  have hz0 : ((w.alloc (.cells #[.int .i64 b, .int .i64 a] 45)).alloc (.cells #[.int .i64 0, .int .i64 0] 45)).heap.size = w.heap.size + 2 := by simp
  clear hb
  go_enter Try.func91, Try.ntmps91
  go_wp2
  generalize (w.alloc (.cells #[.int .i64 b, .int .i64 a] 45)).alloc (.cells #[.int .i64 0, .int .i64 0] 45) = W0 at *
  have x0a := HB0.out.cell (p := ⟨g, 0, none⟩) hgw
  rw [x0] at x0a
  have x1a := HB0.out.cell (p := ⟨g, 1, none⟩) hgw
  rw [x1] at x1a
  have x0b : ∀ o, (W0.alloc o).cell? ⟨g, 0, none⟩ = some (.int .i64 wd) := fun o => (((Below.refl W0.heap.size W0).alloc (Nat.le_refl _) o).cell (p := ⟨g, 0, none⟩) (by show g < _; omega)).trans x0a
  have x1b : ∀ o, (W0.alloc o).cell? ⟨g, 1, none⟩ = some (.int .i64 rk) := fun o => (((Below.refl W0.heap.size W0).alloc (Nat.le_refl _) o).cell (p := ⟨g, 1, none⟩) (by show g < _; omega)).trans x1a
  have n0 := N0.1 0 _ rfl
  have n1 := N0.1 1 _ rfl
  rw [Nat.zero_add] at n0 n1
  have n0b : ∀ o, (W0.alloc o).cell? ⟨w.heap.size, 0, none⟩ = some (.int .i64 b) := fun o => (((Below.refl W0.heap.size W0).alloc (Nat.le_refl _) o).cell (p := ⟨w.heap.size, 0, none⟩) (by show w.heap.size < _; omega)).trans n0
  have n1b : ∀ o, (W0.alloc o).cell? ⟨w.heap.size, 1, none⟩ = some (.int .i64 a) := fun o => (((Below.refl W0.heap.size W0).alloc (Nat.le_refl _) o).cell (p := ⟨w.heap.size, 1, none⟩) (by show w.heap.size < _; omega)).trans n1
  clear x0 x1
  rcases hb' with rfl | rfl
  · go_region
    have B1 := (Bx.new W0 [.int .i64 1, .int .i64 (a + rk)] 45).drew
    rw [hz0] at B1
    have HB1 := Lib.hid ((HB0.out.alloc HB0.out.size (.cells #[.int .i64 1, .int .i64 (a + rk)] 45)).drew)
    have N1 := (N0.alloc (.cells #[.int .i64 1, .int .i64 (a + rk)] 45)).drew
    have Z1 := (Z0.alloc (.cells #[.int .i64 1, .int .i64 (a + rk)] 45)).drew
    have x0c : ((W0.alloc (.cells #[.int .i64 1, .int .i64 (a + rk)] 45)).drew).cell? ⟨g, 0, none⟩ = some (.int .i64 wd) := x0b _
    have x1c : ((W0.alloc (.cells #[.int .i64 1, .int .i64 (a + rk)] 45)).drew).cell? ⟨g, 1, none⟩ = some (.int .i64 rk) := x1b _
    generalize ((W0.alloc (.cells #[.int .i64 1, .int .i64 (a + rk)] 45)).drew) = W1 at *
    clear x0a x1a x0b x1b n0 n1 n0b n1b HB0 N0 Z0 hz0
    obtain ⟨n0, n1⟩ := N1.two
    obtain ⟨b0, b1⟩ := B1.two
    have bf := B1.2.1
    have hne1 : w.heap.size + 2 ≠ w.heap.size := by omega
    have hne2 : w.heap.size + 2 ≠ w.heap.size + 1 := by omega
    have hne3 : w.heap.size + 2 ≠ g := by omega
    have B2 := Lib.hid ((B1.set (i := 0) (by simp) (.int .i64 2)).set (i := 1) (by simp) (.int .i64 (a - rk)))
    have Z2 := Lib.hid ((Z1.far (g' := w.heap.size + 2) (by omega) 0 (.int .i64 2)).far (g' := w.heap.size + 2) (by omega) 1 (.int .i64 (a - rk)))
    have HB2 := Lib.hid ((HB1.out.setCell (p := ⟨w.heap.size + 2, 0, none⟩) (by show w.heap.size ≤ w.heap.size + 2; omega) (.int .i64 2)).setCell (p := ⟨w.heap.size + 2, 1, none⟩) (by show w.heap.size ≤ w.heap.size + 2; omega) (.int .i64 (a - rk)))
    have x0d : ((W1.setCell ⟨w.heap.size + 2, 0, none⟩ (.int .i64 2)).setCell ⟨w.heap.size + 2, 1, none⟩ (.int .i64 (a - rk))).cell? ⟨g, 0, none⟩ = some (.int .i64 wd) := by rw [far_cell hne3, far_cell hne3]; exact x0c
    clear HB1 N1 Z1
    go_wp2
    go_region
    have x0e : ((W1.setCell ⟨w.heap.size + 2, 0, none⟩ (.int .i64 2)).setCell ⟨w.heap.size + 2, 1, none⟩ (.int .i64 (a - rk))).drew.cell? ⟨g, 0, none⟩ = some (.int .i64 wd) := x0d
    replace B2 := Lib.hid B2.out.drew
    replace Z2 := Lib.hid Z2.out.drew
    replace HB2 := Lib.hid HB2.out.drew
    generalize ((W1.setCell ⟨w.heap.size + 2, 0, none⟩ (.int .i64 2)).setCell ⟨w.heap.size + 2, 1, none⟩ (.int .i64 (a - rk))).drew = W2 at *
    clear x0c x1c n0 n1 b0 b1 bf B1 x0d hne3
    obtain ⟨b0, b1⟩ := B2.out.two
    have zf := Z2.out.2.1
    obtain ⟨z0, z1⟩ := Z2.out.two
    have HQ := Lib.hid (fun W => l00In_s (a - rk) 0 (wd - 1) W)
    have HF : F = (2, a - rk) := hfN.out.trans (if_neg (by omega))
    have HI : I = inB 0 (a - rk) (wd - 1) := by rw [hfI.out, HF]
    subst HF HI
    clear hfN hfI
    have HFIN : Hid (Below w.heap.size w (((W2).setCell ⟨w.heap.size + 1, 0, none⟩ (.int .i64 2)).setCell ⟨w.heap.size + 1, 1, none⟩ (.int .i64 (a - rk))).drew) := ((HB2.out.setCell (by show w.heap.size ≤ w.heap.size + 1; omega) _).setCell (by show w.heap.size ≤ w.heap.size + 1; omega) _).drew
    have ZA := Z2.out.set (i := 0) (by simp) (.int .i64 2)
    have ZB := ZA.set (i := 1) (by simp) (.int .i64 (a - rk))
    have c0 := Lib.hid (Bx.two (u0 := .int .i64 2) (u1 := .int .i64 0) ZA).1
    have c1 := Lib.hid (Bx.two (u0 := .int .i64 2) (u1 := .int .i64 (a - rk)) ZB).2
    clear ZA ZB
    go_wp2
    have hwr : IntKind.i64.wrap (wd - 1) = wd - 1 := wrap_sm (by omega) (by omega)
    go_region_with ((go_at_call 59; refine (HQ.out _).mono ?_; rintro e w5 ⟨rfl, rfl⟩))
    all_goals
      go_wp2
      refine bodyPost_ret (v := .tuple #[.agg #[.int .i64 2, .int .i64 (a - rk)], .bool (inB 0 (a - rk) (wd - 1))]) (by simp [results, Try.results91, go_sem, c0.out, c1.out]) rfl ?_
      exact ⟨rfl, HFIN.out⟩
  · go_region
    have B1 := (Bx.new W0 [.int .i64 1, .int .i64 (a + rk)] 45).drew
    rw [hz0] at B1
    have HB1 := Lib.hid ((HB0.out.alloc HB0.out.size (.cells #[.int .i64 1, .int .i64 (a + rk)] 45)).drew)
    have N1 := (N0.alloc (.cells #[.int .i64 1, .int .i64 (a + rk)] 45)).drew
    have Z1 := (Z0.alloc (.cells #[.int .i64 1, .int .i64 (a + rk)] 45)).drew
    have x0c : ((W0.alloc (.cells #[.int .i64 1, .int .i64 (a + rk)] 45)).drew).cell? ⟨g, 0, none⟩ = some (.int .i64 wd) := x0b _
    have x1c : ((W0.alloc (.cells #[.int .i64 1, .int .i64 (a + rk)] 45)).drew).cell? ⟨g, 1, none⟩ = some (.int .i64 rk) := x1b _
    generalize ((W0.alloc (.cells #[.int .i64 1, .int .i64 (a + rk)] 45)).drew) = W1 at *
    clear x0a x1a x0b x1b n0 n1 n0b n1b HB0 N0 Z0 hz0
    obtain ⟨n0, n1⟩ := N1.two
    obtain ⟨b0, b1⟩ := B1.two
    have bf := B1.2.1
    have hne1 : w.heap.size + 2 ≠ w.heap.size := by omega
    have hne2 : w.heap.size + 2 ≠ w.heap.size + 1 := by omega
    have hne3 : w.heap.size + 2 ≠ g := by omega
    have x0e := x0c
    have B2 := Lib.hid B1
    have Z2 := Lib.hid Z1
    have HB2 := HB1
    clear HB1 N1 Z1
    go_wp2
    clear x0c x1c n0 n1 b0 b1 bf B1 hne3
    obtain ⟨b0, b1⟩ := B2.out.two
    have zf := Z2.out.2.1
    obtain ⟨z0, z1⟩ := Z2.out.two
    have HQ := Lib.hid (fun W => l00In_s (a + rk) 0 (wd - 1) W)
    have HF : F = (1, a + rk) := hfN.out.trans (if_pos trivial)
    have HI : I = inB 0 (a + rk) (wd - 1) := by rw [hfI.out, HF]
    subst HF HI
    clear hfN hfI
    have HFIN : Hid (Below w.heap.size w (((W1).setCell ⟨w.heap.size + 1, 0, none⟩ (.int .i64 1)).setCell ⟨w.heap.size + 1, 1, none⟩ (.int .i64 (a + rk))).drew) := ((HB2.out.setCell (by show w.heap.size ≤ w.heap.size + 1; omega) _).setCell (by show w.heap.size ≤ w.heap.size + 1; omega) _).drew
    have ZA := Z2.out.set (i := 0) (by simp) (.int .i64 1)
    have ZB := ZA.set (i := 1) (by simp) (.int .i64 (a + rk))
    have c0 := Lib.hid (Bx.two (u0 := .int .i64 1) (u1 := .int .i64 0) ZA).1
    have c1 := Lib.hid (Bx.two (u0 := .int .i64 1) (u1 := .int .i64 (a + rk)) ZB).2
    clear ZA ZB
    have hwr : IntKind.i64.wrap (wd - 1) = wd - 1 := wrap_sm (by omega) (by omega)
    go_region_with ((go_at_call 59; refine (HQ.out _).mono ?_; rintro e w5 ⟨rfl, rfl⟩))
    all_goals
      go_wp2
      refine bodyPost_ret (v := .tuple #[.agg #[.int .i64 1, .int .i64 (a + rk)], .bool (inB 0 (a + rk) (wd - 1))]) (by simp [results, Try.results91, go_sem, c0.out, c1.out]) rfl ?_
      exact ⟨rfl, HFIN.out⟩

end Go.Proofs.Ytmcalioldphfeaa

/-
  The reference's l12Off: loops that are neither on needles nor dropped.
-/
namespace Go.Proofs.Ytmcalioldphfeaa
set_option linter.unusedVariables false
set_option linter.unusedSimpArgs false
open Go.RowKit

theorem off_yes {m : Mc} {l : List Int} {k : Nat} {y : Int} {R : Bool} (h : R = offB m (l.drop k)) (hy : l[k]? = some y) (h1 : (liveL m).contains y = false) (h2 : m.dr.contains y = false) : R = offB m (l.drop (k + 1)) := by
  rw [h, drop_of_get hy]
  unfold offB
  rw [List.all_cons, h1, h2]
  rfl
theorem off_no {m : Mc} {l : List Int} {k : Nat} {y : Int} {R : Bool} (h : R = offB m (l.drop k)) (hy : l[k]? = some y) (h1 : (liveL m).contains y = true ∨ m.dr.contains y = true) : R = false := by
  rw [h, drop_of_get hy]
  unfold offB
  rw [List.all_cons]
  rcases h1 with h1 | h1 <;> rw [h1] <;> simp
set_option maxHeartbeats 4000000 in
set_option maxRecDepth 100000 in
theorem l12Off_any (m : Mc) (g : Nat) (v : Value) (l : List Int) (w : World) (h : RdP w g m) (ok : okM m = true) (hl : RdI w w.heap.size v l) (hlen : l.length ≤ 1048576) :
    Calls Try.prog 87 #[.pointer (some ⟨g, 0, none⟩), v] w fun e w' => e = .returned (.bool (offB m l)) ∧ Below w.heap.size w w' := by
  obtain ⟨A, cp, rfl⟩ := hl.len
  have HL := Lib.hid hl
  have HLV := Lib.hid (l07Live_any m g w h ok)
  have hgl := h.lt
  obtain ⟨F, G, C, L, D, hc, h1, h2, h3, h4, h5, h6⟩ := h
  obtain ⟨AD, cD, rfl⟩ := RdI.len h5
  have HC := Lib.hid hc
  have HD := Lib.hid h5
  generalize hR : offB m l = R
  have HR := Lib.hid hR
  generalize hln : l.length = n at *
  have HLN := Lib.hid hln
  generalize m.dr.length = dn at *
  clear hl hR hln hc h1 h2 h3 h4 h5 h6 ok
  go_enter Try.func87, Try.ntmps87
  go_wp2_with fail
  refine HLV.out.mono ?_
  rintro e w1 ⟨v1, rfl, ho1, hb1⟩
  obtain ⟨A1, c1, rfl, -⟩ := ho1.cells
  have HB1 := Lib.hid hb1
  have HO1 := Lib.hid (RdI.of_own ho1)
  generalize (liveL m).length = vn at *
  clear ho1 hb1 HLV
  go_wp2
  go_loopw [6] (fun i wr => ∃ k : Nat, k ≤ n ∧ i = .int .i64 k ∧ Hid (R = offB m (l.drop k)) ∧ Below w1.heap.size w1 wr) (fun i _ => n - (intOf i).toNat)
  case atStart => exact ⟨0, Nat.zero_le _, rfl, HR.out.symm, Below.refl _ _⟩
  case round =>
    rename_i wr
    obtain ⟨k, hk, rfl, hd, hb⟩ := hrel
    have HB := Lib.hid (HB1.out.trans (hb.mono HB1.out.size))
    have HX := Lib.hid hb
    clear hb
    by_cases hlt : k < n
    · obtain ⟨b, off, y, rfl, hbb, hlk, hcp⟩ := (HL.out.below HB.out).at_ hlt
      have e0 := fun X => wgrow_cell (x := X) hcp
      have d6 : ∀ X, (wgrow wr X).cell? ⟨g, 6, none⟩ = some (.slice AD dn cD) := fun X => by
        have h9 := (HC.out.below HB.out hgl).grow X 6 _ rfl
        rw [Nat.zero_add] at h9
        exact h9
      have HSK := fun X => Lib.hid (HO1.out.up' (HX.out.trans ((below_wgrow wr X).mono HX.out.size)) (Nat.le_trans HX.out.size (below_wgrow wr X).size))
      have HSD := fun X => Lib.hid (HD.out.up' (HB.out.trans ((below_wgrow wr X).mono HB.out.size)) (Nat.le_trans HB.out.size (below_wgrow wr X).size))
      cases hv : (liveL m).contains y
      · cases hw : m.dr.contains y
        · have HT := Lib.hid (off_yes hd.out hlk hv hw)
          have H1 := Lib.hid hv
          have H2 := Lib.hid hw
          clear hv hw hlk hd
          go_wp2
          refine wp_region_grow (by kernel_rfl) (by kernel_rfl) ?_
          iterate 6 (go_big_quiet_step ((go_at_call 84; exact calls_grow ((l00Has_any (.slice A1 vn c1) (liveL m) y _ (HSK _).out).mono fun e w' ⟨h1, h2⟩ => ⟨by rw [h1, H1.out], h2⟩))))
          repeat (go_big_quiet_step ((go_at_call 84; exact calls_grow ((l00Has_any (.slice AD dn cD) m.dr y _ (HSD _).out).mono fun e w' ⟨h1, h2⟩ => ⟨by rw [h1, H2.out], h2⟩))))
          refine wpQuiet_nil ?_
          intro w3 hb3
          have HB3 := Lib.hid (HX.out.trans (hb3.mono HX.out.size))
          clear hb3 hcp
          go_wp2
          exact ⟨⟨k + 1, by omega, by go_num, HT.out, HB3.out⟩, by simp [intOf]; omega⟩
        · have HT := Lib.hid (off_no hd.out hlk (.inr hw))
          have H1 := Lib.hid hv
          have H2 := Lib.hid hw
          clear hv hw hlk hd
          go_wp2
          refine wp_region_grow (by kernel_rfl) (by kernel_rfl) ?_
          iterate 6 (go_big_quiet_step ((go_at_call 84; exact calls_grow ((l00Has_any (.slice A1 vn c1) (liveL m) y _ (HSK _).out).mono fun e w' ⟨h1, h2⟩ => ⟨by rw [h1, H1.out], h2⟩))))
          repeat (go_big_quiet_step ((go_at_call 84; exact calls_grow ((l00Has_any (.slice AD dn cD) m.dr y _ (HSD _).out).mono fun e w' ⟨h1, h2⟩ => ⟨by rw [h1, H2.out], h2⟩))))
          refine wpQuiet_nil ?_
          intro w3 hb3
          have HB3 := Lib.hid (HB.out.trans (hb3.mono HB.out.size))
          clear hb3 hcp
          go_wp2
          go_ret
          exact ⟨ret_bool HT.out.symm, HB3.out⟩
      · have HT := Lib.hid (off_no hd.out hlk (.inl hv))
        have H1 := Lib.hid hv
        clear hv hlk hd
        go_wp2
        refine wp_region_grow (by kernel_rfl) (by kernel_rfl) ?_
        repeat (go_big_quiet_step ((go_at_call 84; exact calls_grow ((l00Has_any (.slice A1 vn c1) (liveL m) y _ (HSK _).out).mono fun e w' ⟨h1, h2⟩ => ⟨by rw [h1, H1.out], h2⟩))))
        refine wpQuiet_nil ?_
        intro w3 hb3
        have HB3 := Lib.hid (HB.out.trans (hb3.mono HB.out.size))
        clear hb3 hcp
        go_wp2
        go_ret
        exact ⟨ret_bool HT.out.symm, HB3.out⟩
    · have hkn : k = n := by omega
      have HT := Lib.hid (show R = true by rw [hd.out, List.drop_of_length_le (by have := HLN.out; omega)]; rfl)
      clear hd
      subst hkn
      go_wp2
      go_ret
      exact ⟨ret_bool HT.out.symm, HB.out⟩

end Go.Proofs.Ytmcalioldphfeaa

/-
  The reference's l12Back: what lies on the needle that faces, without what a split has put there.
-/
namespace Go.Proofs.Ytmcalioldphfeaa
set_option linter.unusedVariables false
set_option linter.unusedSimpArgs false
open Go.RowKit

/- as equalS, at slices of int64 -/
set_option maxHeartbeats 1000000 in
set_option maxRecDepth 100000 in
theorem eqlInts_any (v u : Value) (l m : List Int) (w : World) (B : Nat) (hl : RdI w B v l) (hm : RdI w B u m) (hB : B ≤ w.heap.size) :
    Calls Try.prog 163 #[v, u] w fun x w' => x = .returned (.bool (decide (l = m))) ∧ Below w.heap.size w w' := by
  obtain ⟨A, n, c, rfl, hln, hl, gl⟩ := hl
  obtain ⟨A', n', c', rfl, hmn, hm, gm⟩ := hm
  by_cases hlen : n = n'
  · subst hlen
    go_enter Try.func163, Try.ntmps163
    go_wp2
    go_loopw [5, 13] (fun _ i wr => ∃ k : Nat, k ≤ n ∧ i = .int .i64 k ∧ Hid (decide (l = m) = decide (l.drop k = m.drop k)) ∧ Below w.heap.size w wr) (fun _ i _ => n - (intOf i).toNat)
    case atStart => exact ⟨0, Nat.zero_le _, rfl, rfl, Below.refl _ _⟩
    case round =>
      rename_i wr
      obtain ⟨k, hk, rfl, hd, hb⟩ := hrel
      by_cases hlt : k < n
      · obtain ⟨b, off, x, rfl, hbb, hlk, hc⟩ := gl k hlt
        obtain ⟨b', off', y, rfl, hbb', hmk, hc'⟩ := gm k hlt
        have e0 := fun X => wgrow_cell (x := X) ((hb.cell (p := ⟨b, off + k, none⟩) (Nat.lt_of_lt_of_le hbb hB)).trans hc)
        have e1 := fun X => wgrow_cell (x := X) ((hb.cell (p := ⟨b', off' + k, none⟩) (Nat.lt_of_lt_of_le hbb' hB)).trans hc')
        have HB := Lib.hid hb
        have Hl := Lib.hid hlk
        have Hm := Lib.hid hmk
        clear hc hc' hlk hmk hb gl gm
        go_wp2
        refine wp_region_grow (by kernel_rfl) (by kernel_rfl) ?_
        repeat (go_big_quiet_step (fail))
        refine wpQuiet_nil ?_
        intro w1 hb1
        have HB1 := HB.out.trans (hb1.mono HB.out.size)
        go_wp2
        · go_ret
          exact ⟨ret_bool (by rw [hd.out, drop_of_get Hl.out, drop_of_get Hm.out]; simp_all), HB1⟩
        · exact ⟨⟨k + 1, by omega, by go_num, by unfold Hid; rw [hd.out, drop_of_get Hl.out, drop_of_get Hm.out]; simp_all, HB1⟩, by simp [intOf]; omega⟩
      · go_wp2
        go_ret
        exact ⟨ret_bool (by rw [hd.out, List.drop_of_length_le (by have := hl.out; omega), List.drop_of_length_le (by have := hm.out; omega)]; simp), hb⟩
  · have hd1 : ((n : Int) != (n' : Int)) = true := by simp; omega
    go_enter Try.func163, Try.ntmps163
    go_wp2
    go_ret
    exact ⟨ret_bool (by symm; simp; rintro rfl; exact hlen (hl.out.symm.trans hm.out)), Below.refl _ _⟩
/- as equalS, at slices of int64 -/
set_option maxHeartbeats 1000000 in
set_option maxRecDepth 100000 in
theorem specSame_any (v u : Value) (l m : List Int) (w : World) (B : Nat) (hl : RdI w B v l) (hm : RdI w B u m) (hB : B ≤ w.heap.size) :
    Calls Try.prog 68 #[v, u] w fun x w' => x = .returned (.bool (decide (l = m))) ∧ Below w.heap.size w w' := by
  obtain ⟨A, n, c, rfl, hln, hl, gl⟩ := hl
  obtain ⟨A', n', c', rfl, hmn, hm, gm⟩ := hm
  by_cases hlen : n = n'
  · subst hlen
    go_enter Try.func68, Try.ntmps68
    go_wp2
    go_loopw [5] (fun  i wr => ∃ k : Nat, k ≤ n ∧ i = .int .i64 k ∧ Hid (decide (l = m) = decide (l.drop k = m.drop k)) ∧ Below w.heap.size w wr) (fun  i _ => n - (intOf i).toNat)
    case atStart => exact ⟨0, Nat.zero_le _, rfl, rfl, Below.refl _ _⟩
    case round =>
      rename_i wr
      obtain ⟨k, hk, rfl, hd, hb⟩ := hrel
      by_cases hlt : k < n
      · obtain ⟨b, off, x, rfl, hbb, hlk, hc⟩ := gl k hlt
        obtain ⟨b', off', y, rfl, hbb', hmk, hc'⟩ := gm k hlt
        have e0 := fun X => wgrow_cell (x := X) ((hb.cell (p := ⟨b, off + k, none⟩) (Nat.lt_of_lt_of_le hbb hB)).trans hc)
        have e1 := fun X => wgrow_cell (x := X) ((hb.cell (p := ⟨b', off' + k, none⟩) (Nat.lt_of_lt_of_le hbb' hB)).trans hc')
        have HB := Lib.hid hb
        have Hl := Lib.hid hlk
        have Hm := Lib.hid hmk
        clear hc hc' hlk hmk hb gl gm
        go_wp2
        refine wp_region_grow (by kernel_rfl) (by kernel_rfl) ?_
        repeat (go_big_quiet_step (fail))
        refine wpQuiet_nil ?_
        intro w1 hb1
        have HB1 := HB.out.trans (hb1.mono HB.out.size)
        go_wp2
        · go_ret
          exact ⟨ret_bool (by rw [hd.out, drop_of_get Hl.out, drop_of_get Hm.out]; simp_all), HB1⟩
        · exact ⟨⟨k + 1, by omega, by go_num, by unfold Hid; rw [hd.out, drop_of_get Hl.out, drop_of_get Hm.out]; simp_all, HB1⟩, by simp [intOf]; omega⟩
      · go_wp2
        go_ret
        exact ⟨ret_bool (by rw [hd.out, List.drop_of_length_le (by have := hl.out; omega), List.drop_of_length_le (by have := hm.out; omega)]; simp), hb⟩
  · have hd1 : ((n : Int) != (n' : Int)) = true := by simp; omega
    go_enter Try.func68, Try.ntmps68
    go_wp2
    go_ret
    exact ⟨ret_bool (by symm; simp; rintro rfl; exact hlen (hl.out.symm.trans hm.out)), Below.refl _ _⟩
theorem RdI.drop {w : World} {B : Nat} {b off n c : Nat} {l : List Int} (h : RdI w B (.slice (some ⟨b, off, none⟩) n c) l) {k : Nat} (hk : k ≤ n) (c' : Nat) : RdI w B (.slice (some ⟨b, off + k, none⟩) (n - k) c') (l.drop k) := by
  obtain ⟨A', n', c1, e, hn, hl, h⟩ := h
  injection e with e1 e2 e3
  subst e1 e2 e3
  refine ⟨_, n - k, c', rfl, by omega, by unfold Hid; have := hl.out; simp; omega, fun j hj => ?_⟩
  obtain ⟨b1, off1, x, h1, h2, h3, h4⟩ := h (k + j) (by omega)
  injection h1 with h1
  injection h1 with q1 q2
  subst q1 q2
  exact ⟨b, off + k, x, rfl, h2, by rw [List.getElem?_drop]; exact h3, by rw [Nat.add_assoc]; exact h4⟩
/-- A slice from a place on: at the end of the capacity it points to the row's start. -/
theorem RdI.dropC {w : World} {B b n c : Nat} {l : List Int} (h : RdI w B (.slice (some ⟨b, 0, none⟩) n c) l) {k : Nat} (hk : k ≤ n) (hc : n ≤ c) : RdI w B (.slice (if c = k then some ⟨b, 0, none⟩ else some ⟨b, k, none⟩) (n - k) (c - k)) (l.drop k) := by
  by_cases e : c = k
  · rw [if_pos e]
    have hln := h.reads.2
    refine ⟨_, n - k, c - k, rfl, by omega, by unfold Hid; simp; omega, fun j hj => by omega⟩
  · rw [if_neg e]
    have h9 := RdI.drop h hk (c - k)
    rwa [Nat.zero_add] at h9
def BackV (w : World) (m : Mc) (n : Int × Int) (ps : List Int) (e : Ending) (w' : World) : Prop := ∃ u, e = .returned (.tuple #[u, .bool (holdB m n ps)]) ∧ (holdB m n ps = true → w'.ownsRow w.heap.size 2 1 u (ukRest m n ps).length (vI (ukRest m n ps))) ∧ Below w.heap.size w w'
set_option maxHeartbeats 4000000 in
set_option maxRecDepth 100000 in
theorem l12Back_any {w : World} {B g : Nat} {m : Mc} {S : Nat → Spot} (h : MSt w B g m S) (ok : OkP m) (n : Int × Int) (hb : n.1 = 1 ∨ n.1 = 2) (h0 : 0 ≤ n.2) (h1 : n.2 ≤ 100) (v : Value) (ps : List Int) (hl : RdI w w.heap.size v ps) (hlen : ps.length ≤ 4) :
    Calls Try.prog 88 #[.pointer (some ⟨g, 0, none⟩), .agg #[.int .i64 n.1, .int .i64 n.2], v] w (BackV w m n ps) := by
  obtain ⟨nb, na⟩ := n
  obtain ⟨Ap, cp, rfl⟩ := hl.len
  have HL := Lib.hid hl
  have HOK := Lib.hid ok
  have hW : Below w.heap.size w (w.alloc (.cells #[.int .i64 nb, .int .i64 na] 45)) := (Below.refl _ _).alloc (Nat.le_refl _) _
  have HB0 := Lib.hid hW
  have HM0 := Lib.hid (h.below hW)
  have HF := Lib.hid (l12Facing_any HM0.out (nb, na) hb h0 h1 ok.rk ⟨by have := ok.wd; omega, by have := ok.wd; omega⟩)
  have HFC := Lib.hid (fun hi => ok.fc (n := (nb, na)) hb hi)
  have HFB := Lib.hid (fc_cases m (nb, na) hb).1
  have HH : Hid (holdB m (nb, na) ps = (fcIn m (nb, na) && (decide (ps.length ≤ (onL m (fcN m (nb, na))).length) && decide (ukPut m (nb, na) ps = ps)))) := rfl
  have HPUT : Hid (ukPut m (nb, na) ps = if (fcN m (nb, na)).1 = 2 then (onL m (fcN m (nb, na))).take ps.length else (onL m (fcN m (nb, na))).drop ((onL m (fcN m (nb, na))).length - ps.length)) := rfl
  have HRST : Hid (ukRest m (nb, na) ps = if (fcN m (nb, na)).1 = 2 then (onL m (fcN m (nb, na))).drop ps.length else (onL m (fcN m (nb, na))).take ((onL m (fcN m (nb, na))).length - ps.length)) := rfl
  clear hl h hW ok
  generalize hfc : fcN m (nb, na) = F at *
  obtain ⟨fb, fa⟩ := F
  clear hfc
  generalize hpl : ps.length = pn at *
  have HPL := Lib.hid hpl
  clear hpl
  cases hI : fcIn m (nb, na)
  · have HH2 := Lib.hid (show holdB m (nb, na) ps = false by rw [HH.out, hI, Bool.false_and])
    rw [hI] at HF
    clear hI HFC HH
    go_enter Try.func88, Try.ntmps88
    go_wp2_with fail
    refine HF.out.mono ?_
    rintro e w1 ⟨rfl, hb1⟩
    have HB1 := Lib.hid (HB0.out.trans (hb1.mono HB0.out.size))
    clear hb1 HF
    go_wp2
    go_ret2
    refine ⟨.slice none 0 0, by rw [HH2.out]; rfl, fun h9 => absurd (HH2.out.symm.trans h9) (by decide), HB1.out.alloc (Nat.le_trans (Nat.le_refl _) HB1.out.size) _⟩
  · rw [hI] at HF
    have HN := Lib.hid (HFC.out hI)
    have HH2 := Lib.hid (HH.out.trans (by rw [hI, Bool.true_and]))
    clear hI HFC HH
    have hl4 := HOK.out.on4 (fb, fa)
    go_enter Try.func88, Try.ntmps88
    go_wp2_with fail
    refine HF.out.mono ?_
    rintro e w1 ⟨rfl, hb1⟩
    have HB1 := Lib.hid (HB0.out.trans (hb1.mono HB0.out.size))
    have HM1 := Lib.hid (HM0.out.below hb1)
    have HWA := Lib.hid ((Below.refl w1.heap.size w1).alloc (Nat.le_refl _) (.cells #[.int .i64 fb, .int .i64 fa] 45))
    have HB2 := Lib.hid (HB1.out.trans (HWA.out.mono HB1.out.size))
    have HM2 := Lib.hid (HM1.out.below HWA.out)
    have HX := Lib.hid (Bx.new w1 [.int .i64 fb, .int .i64 fa] 45)
    have HQ := Lib.hid (l07On_any HM2.out (fb, fa) HN.out)
    clear hb1 HF HM0 HB0 HWA
    go_wp2_with fail
    refine HQ.out.mono ?_
    rintro e w2 ⟨rfl, hb2⟩
    have HM3 := Lib.hid (HM2.out.below hb2)
    have HB3 := Lib.hid (HB2.out.trans (hb2.mono HB2.out.size))
    obtain ⟨z0, z1⟩ := (HX.out.below hb2 HX.out.2.2).two
    obtain ⟨hrd, ⟨A, c, hv, hnc⟩, hown⟩ := HM3.out.onR HN.out
    have hown2 := hown.2
    rw [hv] at hrd hown2 ⊢
    have HRD := Lib.hid hrd
    have HOW := Lib.hid hown2
    have HLS := Lib.hid (HL.out.up' HB3.out HB3.out.size)
    generalize hLn : (onL m (fb, fa)).length = ln at *
    have HLN := Lib.hid hLn
    clear hLn hrd hown hown2 hv hb2 HQ
    by_cases hlt : ln < pn
    · have HH3 := Lib.hid (HH2.out.trans (show (decide (pn ≤ ln) && _) = false by rw [decide_eq_false (by omega)]; rfl))
      clear HH2
      go_wp2
      go_ret2
      refine ⟨.slice none 0 0, by rw [HH3.out]; rfl, fun h9 => absurd (HH3.out.symm.trans h9) (by decide), HB3.out⟩
    · have HH3 := Lib.hid (HH2.out.trans (by rw [decide_eq_true (by omega), Bool.true_and]))
      clear HH2
      have hple : (pn : Int) ≤ (ln : Int) := by omega
      have hp0 : (0 : Int) ≤ (pn : Int) := by omega
      have hpc : (pn : Int) ≤ (c : Int) := by omega
      have hlc : (ln : Int) ≤ (c : Int) := by omega
      rcases HOW.out with ⟨hnil, hn0⟩ | ⟨b, cap, cur, hbv, hbB, hh, hnc2, _⟩
      · injection hnil with e1 e2 e3
        subst e1 e3 hn0
        obtain rfl : pn = 0 := by omega
        have hL0 : onL m (fb, fa) = [] := List.eq_nil_of_length_eq_zero HLN.out
        have HHF := Lib.hid (show holdB m (nb, na) ps = decide (ps = []) by rw [HH3.out, HPUT.out, hL0]; simp)
        have HRF := Lib.hid (show ukRest m (nb, na) ps = [] by rw [HRST.out, hL0]; simp)
        have HNL : ∀ X : World, RdI X X.heap.size (.slice none 0 0) [] := fun X => ⟨none, 0, 0, rfl, by omega, rfl, fun k hk => absurd hk (by omega)⟩
        have HQO := Lib.hid (l00OwnR_any (.slice none 0 0) [] w2.drew (HNL _) (by simp))
        have HNX := Lib.hid (HNL w2)
        clear hlt HH3 HPUT HRST HFB hL0 HNL HRD HOW
        by_cases hb2 : fb = 2
        · subst hb2
          go_wp2
          go_region_held3 (fun _ => True)
            (trivial)
            (first
              | (go_at_call 85; refine (HQO.out).mono ?_; rintro e w4 ⟨v4, rfl, ho4, hb4⟩; obtain ⟨A4, c4, rfl⟩ := row_A ho4; have hb4' : Below w2.heap.size w2 w4 := (Below.refl w2.heap.size w2).drew.trans hb4)
              | (go_at_call 68; refine (specSame_any _ _ [] ps _ w2.heap.size (HNX.out.below hb4') (HLS.out.below hb4') hb4'.size).mono ?_; rintro e w5 ⟨rfl, hb5⟩))
          have HB5 := Lib.hid (HB3.out.trans ((hb4'.trans (hb5.mono hb4'.size)).mono HB3.out.size))
          have HO5 := Lib.hid (own_base (own_below ho4 hb5) (show w.heap.size ≤ w2.heap.size from HB3.out.size))
          clear ho4 hb4 hb4' hb5
          go_wp2
          go_ret2
          refine ⟨.slice A4 _ c4, by rw [HHF.out]; rfl, fun _ => by rw [HRF.out]; exact HO5.out, HB5.out⟩
        · have hb2' : (fb == 2) = false := by simpa using hb2
          clear hb2
          go_wp2
          go_region_held3 (fun _ => True)
            (trivial)
            (first
              | (go_at_call 85; refine (HQO.out).mono ?_; rintro e w4 ⟨v4, rfl, ho4, hb4⟩; obtain ⟨A4, c4, rfl⟩ := row_A ho4; have hb4' : Below w2.heap.size w2 w4 := (Below.refl w2.heap.size w2).drew.trans hb4)
              | (go_at_call 68; refine (specSame_any _ _ [] ps _ w2.heap.size (HNX.out.below hb4') (HLS.out.below hb4') hb4'.size).mono ?_; rintro e w5 ⟨rfl, hb5⟩))
          have HB5 := Lib.hid (HB3.out.trans ((hb4'.trans (hb5.mono hb4'.size)).mono HB3.out.size))
          have HO5 := Lib.hid (own_base (own_below ho4 hb5) (show w.heap.size ≤ w2.heap.size from HB3.out.size))
          clear ho4 hb4 hb4' hb5
          go_wp2
          go_ret2
          refine ⟨.slice A4 _ c4, by rw [HHF.out]; rfl, fun _ => by rw [HRF.out]; exact HO5.out, HB5.out⟩
      · injection hbv with e1 e2 e3
        subst e1 e3
        by_cases hb2 : fb = 2
        · subst hb2
          clear hlt
          have HHF := Lib.hid (show holdB m (nb, na) ps = decide ((onL m (2, fa)).take pn = ps) by rw [HH3.out, HPUT.out]; rfl)
          have HRF := Lib.hid (show ukRest m (nb, na) ps = (onL m (2, fa)).drop pn by rw [HRST.out]; rfl)
          clear HH3 HPUT HRST HFB
          obtain ⟨ad, had, hrdd⟩ : ∃ ad, (if c = pn then some (⟨b, 0, none⟩ : Addr) else some ⟨b, pn, none⟩) = ad ∧ RdI w2 w2.heap.size (.slice ad (ln - pn) (c - pn)) ((onL m (2, fa)).drop pn) := ⟨_, rfl, RdI.dropC HRD.out (by omega) (by omega)⟩
          have HAD := Lib.hid hrdd
          clear hrdd
          have HQO := Lib.hid (l00OwnR_any (.slice ad (ln - pn) (c - pn)) ((onL m (2, fa)).drop pn) w2.drew HAD.out (by rw [List.length_drop, HLN.out]; omega))
          have HTK := Lib.hid (RdI.take HRD.out (k := pn) (by omega))
          go_wp2
          go_region_held3 (fun _ => True)
            (trivial)
            (first
              | (go_at_call 85; refine (HQO.out).mono ?_; rintro e w4 ⟨v4, rfl, ho4, hb4⟩; obtain ⟨A4, c4, rfl⟩ := row_A ho4; have hb4' : Below w2.heap.size w2 w4 := (Below.refl w2.heap.size w2).drew.trans hb4)
              | (go_at_call 68; refine (specSame_any _ _ ((onL m (2, fa)).take pn) ps _ w2.heap.size (HTK.out.below hb4') (HLS.out.below hb4') hb4'.size).mono ?_; rintro e w5 ⟨rfl, hb5⟩))
          have HB5 := Lib.hid (HB3.out.trans ((hb4'.trans (hb5.mono hb4'.size)).mono HB3.out.size))
          have HO5 := Lib.hid (own_base (own_below ho4 hb5) (show w.heap.size ≤ w2.heap.size from HB3.out.size))
          clear ho4 hb4 hb4' hb5
          go_wp2
          go_ret2
          refine ⟨.slice A4 _ c4, by rw [HHF.out]; rfl, fun _ => by (rw [HRF.out]; have h9 := HO5.out; simp only [List.length_drop, List.length_take] at h9 ⊢; exact h9), HB5.out⟩
        · obtain ⟨q, hq⟩ : ∃ q : Nat, q + pn = ln := ⟨ln - pn, by omega⟩
          have hqi : (ln : Int) - (pn : Int) = (q : Int) := by omega
          have hq0 : (0 : Int) ≤ (q : Int) := by omega
          have hql : (q : Int) ≤ (ln : Int) := by omega
          have hqc : (q : Int) ≤ (c : Int) := by omega
          have hb2' : (fb == 2) = false := by simpa using hb2
          have HHF := Lib.hid (show holdB m (nb, na) ps = decide ((onL m (fb, fa)).drop q = ps) by rw [HH3.out, HPUT.out, if_neg (show ¬ (fb, fa).1 = 2 from hb2), show ln - pn = q by omega])
          have HRF := Lib.hid (show ukRest m (nb, na) ps = (onL m (fb, fa)).take q by rw [HRST.out, if_neg (show ¬ (fb, fa).1 = 2 from hb2), show ln - pn = q by omega])
          clear hlt HH3 HPUT HRST HFB
          have HQO := Lib.hid (l00OwnR_any (.slice (some ⟨b, 0, none⟩) q c) ((onL m (fb, fa)).take q) w2.drew (RdI.take HRD.out (by omega)) (by rw [List.length_take, HLN.out]; omega))
          obtain ⟨ad, had, hrdd⟩ : ∃ ad, (if c = q then some (⟨b, 0, none⟩ : Addr) else some ⟨b, q, none⟩) = ad ∧ RdI w2 w2.heap.size (.slice ad (ln - q) (c - q)) ((onL m (fb, fa)).drop q) := ⟨_, rfl, RdI.dropC HRD.out (by omega) (by omega)⟩
          have HTK := Lib.hid hrdd
          clear hrdd
          clear hb2
          go_wp2
          go_region_held3 (fun _ => True)
            (trivial)
            (first
              | (go_at_call 85; refine (HQO.out).mono ?_; rintro e w4 ⟨v4, rfl, ho4, hb4⟩; obtain ⟨A4, c4, rfl⟩ := row_A ho4; have hb4' : Below w2.heap.size w2 w4 := (Below.refl w2.heap.size w2).drew.trans hb4)
              | (go_at_call 68; refine (specSame_any _ _ ((onL m (fb, fa)).drop q) ps _ w2.heap.size (HTK.out.below hb4') (HLS.out.below hb4') hb4'.size).mono ?_; rintro e w5 ⟨rfl, hb5⟩))
          have HB5 := Lib.hid (HB3.out.trans ((hb4'.trans (hb5.mono hb4'.size)).mono HB3.out.size))
          have HO5 := Lib.hid (own_base (own_below ho4 hb5) (show w.heap.size ≤ w2.heap.size from HB3.out.size))
          clear ho4 hb4 hb4' hb5
          go_wp2
          go_ret2
          refine ⟨.slice A4 _ c4, by rw [HHF.out]; rfl, fun _ => by (rw [HRF.out]; have h9 := HO5.out; simp only [List.length_drop, List.length_take] at h9 ⊢; exact h9), HB5.out⟩

end Go.Proofs.Ytmcalioldphfeaa

/-
  The list of loops of a machine of one's own, cut within its box.
-/
namespace Go.Proofs.Ytmcalioldphfeaa
set_option linter.unusedVariables false
set_option linter.unusedSimpArgs false
open Go.RowKit

/-- The first rows of an own row are an own row. -/
theorem own_cut {w : World} {B E sz n k b cap : Nat} {xs : List Value} (h : w.ownsRow B E sz (.slice (some ⟨b, 0, none⟩) n cap) n xs) (hk : k ≤ n) : w.ownsRow B E sz (.slice (some ⟨b, 0, none⟩) k cap) k (xs.take (k * sz)) := by
  have hle : k * sz ≤ n * sz := Nat.mul_le_mul_right _ hk
  refine ⟨by rw [List.length_take, h.1]; omega, ?_⟩
  rcases h.2 with ⟨e, _⟩ | ⟨g, cap', cur, e, hb, hh, hn, hc, hs, hx⟩
  · cases e
  · injection e with e1 e2 e3
    injection e1 with e1
    injection e1 with e1 _
    subst e1 e3
    exact .inr ⟨b, cap, cur, rfl, hb, hh, by omega, hc, hs, by rw [← hx, List.take_take, Nat.min_eq_left hle]⟩
/-- The list of loops is cut. -/
theorem MSt.cutL {w : World} {B g b cap k : Nat} {m : Mc} {S : Nat → Spot} (h : MSt w B g m S) (hv : (S 4).v = .slice (some ⟨b, 0, none⟩) m.ls.length cap) (hk : k ≤ m.ls.length) :
    MSt (w.setCell ⟨g, 5, none⟩ (.slice (some ⟨b, 0, none⟩) k cap)) B g { m with ls := m.ls.take k } (putS (putS S 4 ⟨102, 6, .slice (some ⟨b, 0, none⟩) k cap, k, (S 4).xs.take (k * 6)⟩) 0 { S 0 with xs := (S 0).xs.set 5 (.slice (some ⟨b, 0, none⟩) k cap) }) := by
  obtain ⟨xs, e4, hx⟩ := h.ls
  have hxs : (S 4).xs = xs := by rw [e4]
  have hob : (S 4).v.ownBlock = some b := by rw [hv]; rfl
  have how := h.owned e4
  rw [hv] at how
  have hcut := own_cut how hk
  have hsp1 : SpotsT w B (putS S 4 ⟨102, 6, .slice (some ⟨b, 0, none⟩) k cap, k, (S 4).xs.take (k * 6)⟩) := h.sp.put 4 _ (by rw [hxs]; exact hcut) (fun q hq => .inl (by rw [hob]; exact hq))
  have e0 : (putS S 4 ⟨102, 6, .slice (some ⟨b, 0, none⟩) k cap, k, (S 4).xs.take (k * 6)⟩) 0 = S 0 := putS_ne (by omega)
  have hsp2 := hsp1.setCell (p := 0) (g := g) (i := 5) (by rw [e0]; exact h.gbox) (.slice (some ⟨b, 0, none⟩) k cap) (by rw [e0, h.box]; simp)
  rw [e0] at hsp2
  generalize hS' : (putS (putS S 4 ⟨102, 6, .slice (some ⟨b, 0, none⟩) k cap, k, (S 4).xs.take (k * 6)⟩) 0 { S 0 with xs := (S 0).xs.set 5 (.slice (some ⟨b, 0, none⟩) k cap) }) = S' at hsp2
  have ev : ∀ j, j ≠ 0 → j ≠ 4 → S' j = S j := fun j h1 h2 => by rw [← hS', putS_ne h1, putS_ne h2]
  have ez : S' 0 = { S 0 with xs := (S 0).xs.set 5 (.slice (some ⟨b, 0, none⟩) k cap) } := by rw [← hS', putS_same]
  have e4' : S' 4 = ⟨102, 6, .slice (some ⟨b, 0, none⟩) k cap, k, (S 4).xs.take (k * 6)⟩ := by rw [← hS', putS_ne (by omega), putS_same]
  have hlk : (m.ls.take k).length = k := by rw [List.length_take]; omega
  have hget : ∀ j x, (m.ls.take k)[j]? = some x → j < k ∧ m.ls[j]? = some x := fun j x hj => by
    rw [List.getElem?_take] at hj
    split at hj
    · rename_i h9; exact ⟨h9, hj⟩
    · cases hj
  refine ⟨hsp2, ?_, ?_, ?_, ?_, ?_, ?_, fun j l hl => ?_, fun j l hl => ?_, fun j x hj => ?_⟩
  · rw [ez, ev 1 (by omega) (by omega), ev 2 (by omega) (by omega), ev 3 (by omega) (by omega), e4', ev 5 (by omega) (by omega), h.box]
    rfl
  · rw [ev 1 (by omega) (by omega)]
    obtain ⟨ys, e, hy⟩ := h.fr
    exact ⟨ys, e, fun j hj => by rw [ev _ (by unfold iF; omega) (by unfold iF; omega)]; exact hy j hj⟩
  · rw [ev 2 (by omega) (by omega)]
    obtain ⟨ys, e, hy⟩ := h.bk
    exact ⟨ys, e, fun j hj => by rw [ev _ (by unfold iB; omega) (by unfold iB; omega)]; exact hy j hj⟩
  · rw [ev 3 (by omega) (by omega)]; exact h.cs
  · rw [e4', hxs]
    refine ⟨xs.take (k * 6), ?_, fun j x hj i u hu => ?_⟩
    · show (⟨102, 6, .slice (some ⟨b, 0, none⟩) k cap, k, xs.take (k * 6)⟩ : Spot) = ⟨102, 6, .slice (some ⟨b, 0, none⟩) k cap, (m.ls.take k).length, xs.take (k * 6)⟩
      rw [hlk]
    · obtain ⟨h1, h2⟩ := hget j x hj
      have hi : i < 6 := (List.getElem?_eq_some_iff.1 hu).1
      rw [ev _ (by unfold iP; omega) (by unfold iP; omega)] at hu
      rw [List.getElem?_take, if_pos (by omega)]
      exact hx j x h2 i u hu
  · rw [ev 5 (by omega) (by omega)]; exact h.dr
  · rw [ev _ (by unfold iF; omega) (by unfold iF; omega)]; exact h.fl j l hl
  · rw [ev _ (by unfold iB; omega) (by unfold iB; omega)]; exact h.bl j l hl
  · rw [ev _ (by unfold iP; omega) (by unfold iP; omega)]; exact h.pl j x (hget j x hj).2

end Go.Proofs.Ytmcalioldphfeaa

/-
  While a loop is taken back: the machine of one's own, its last loop's parents, and the boxes of the walk.
-/
namespace Go.Proofs.Ytmcalioldphfeaa
set_option linter.unusedVariables false
set_option linter.unusedSimpArgs false
open Go.RowKit

section
variable {w w' : World} {B g : Nat} {m : Mc} {S : Nat → Spot}
/-- A needle's header, and what is known of the rows behind its store. -/
theorem MSt.nd2 (h : MSt w B g m S) {n : Int × Int} (hn : ndIn m n) : ∃ b c L, bedV S n.1 = .slice (some ⟨b, 0, none⟩) L c ∧ n.2 < (L : Int) ∧ blk S b ∧ b < w.heap.size ∧ B ≤ b ∧ w.cell? ⟨b, n.2.toNat, none⟩ = some (S (iN n)).v ∧ (∀ o, w.frozen? ⟨b, o, none⟩ = false) ∧ S (iN n) = spI (S (iN n)).v (onL m n) ∧
    ∀ (w' : World) (l' : List Int) (v' : Value), SpotsT w' B (putS S (iN n) (spI v' l')) → ∃ S', MSt (w'.setCell ⟨b, n.2.toNat, none⟩ v') B g (setL m n l') S' ∧ (∀ w0 S0, Mv w0 S0 w' (putS S (iN n) (spI v' l')) → Mv w0 S0 (w'.setCell ⟨b, n.2.toNat, none⟩ v') S') ∧ (∀ j, j ≠ iN n → (S' j).v = (S j).v) ∧ (S' (iN n)).v = v' := by
  obtain ⟨h1, h2, h3, h4⟩ := hn
  by_cases e : n.1 = 2
  · obtain ⟨b, c, hv, hB, hb, hc, ho⟩ := h.gB (by omega)
    obtain ⟨g1, g2, g3⟩ := h.listB h4 ho
    have ei : iN n = iB n.2.toNat := by unfold iN; rw [if_pos e]
    have eo : onL m n = m.bk[n.2.toNat] := by unfold onL; rw [if_pos e, List.getD_eq_getElem?_getD, List.getElem?_eq_getElem h4]; rfl
    refine ⟨b, c, m.bk.length, by unfold bedV; rw [if_pos e]; exact hv, by omega, ⟨2, ho⟩, hb, hB, by rw [ei]; exact g1, g2, by rw [ei, eo]; exact g3, fun w' l' v' hsp => ?_⟩
    rw [ei] at hsp
    refine ⟨_, by unfold setL; rw [if_pos e]; exact h.setB h4 ho hsp, fun w0 S0 hm => ?_, fun j hj => ?_, ?_⟩
    · rw [ei] at hm
      have e2 : putS S (iB n.2.toNat) (spI v' l') 2 = S 2 := putS_ne (fun e => by unfold iB at e; omega)
      have := hm.setCell (p := 2) (g := b) (i := n.2.toNat) (by rw [e2]; exact ho) v' ((S 2).xs.set n.2.toNat v')
      rw [e2] at this
      exact this
    · rw [ei] at hj
      by_cases e3 : j = 2
      · subst e3; rw [putS_same]
      · rw [putS_ne e3, putS_ne hj]
    · rw [ei, putS_ne (fun e => by unfold iB at e; omega), putS_same]
  · obtain ⟨b, c, hv, hB, hb, hc, ho⟩ := h.gF (by omega)
    obtain ⟨g1, g2, g3⟩ := h.listF h3 ho
    have ei : iN n = iF n.2.toNat := by unfold iN; rw [if_neg e]
    have eo : onL m n = m.fr[n.2.toNat] := by unfold onL; rw [if_neg e, List.getD_eq_getElem?_getD, List.getElem?_eq_getElem h3]; rfl
    refine ⟨b, c, m.fr.length, by unfold bedV; rw [if_neg e]; exact hv, by omega, ⟨1, ho⟩, hb, hB, by rw [ei]; exact g1, g2, by rw [ei, eo]; exact g3, fun w' l' v' hsp => ?_⟩
    rw [ei] at hsp
    refine ⟨_, by unfold setL; rw [if_neg e]; exact h.setF h3 ho hsp, fun w0 S0 hm => ?_, fun j hj => ?_, ?_⟩
    · rw [ei] at hm
      have e2 : putS S (iF n.2.toNat) (spI v' l') 1 = S 1 := putS_ne (fun e => by unfold iF at e; omega)
      have := hm.setCell (p := 1) (g := b) (i := n.2.toNat) (by rw [e2]; exact ho) v' ((S 1).xs.set n.2.toNat v')
      rw [e2] at this
      exact this
    · rw [ei] at hj
      by_cases e3 : j = 1
      · subst e3; rw [putS_same]
      · rw [putS_ne e3, putS_ne hj]
    · rw [ei, putS_ne (fun e => by unfold iF at e; omega), putS_same]
/-- A carrier is moved; no header turns. -/
theorem MSt.setCp2 {b : Nat} (h : MSt w B g m S) {c : Int} (h1 : 1 ≤ c) (h4 : c - 1 < (m.cs.length : Int)) (ho : (S 3).v.ownBlock = some b) (p : Int) :
    ∃ S', MSt (w.setCell ⟨b, (c - 1).toNat * 2 + 1, none⟩ (.int .i64 p)) B g (setC m c ⟨(carAt m c).i, p⟩) S' ∧ Mv w S (w.setCell ⟨b, (c - 1).toNat * 2 + 1, none⟩ (.int .i64 p)) S' ∧ ∀ j, (S' j).v = (S j).v := by
  have hk : (c - 1).toNat < m.cs.length := by omega
  have hx : m.cs[(c - 1).toNat]? = some (carAt m c) := by unfold carAt; rw [List.getD_eq_getElem?_getD, List.getElem?_eq_getElem hk]; rfl
  have hxs : (S 3).xs = vS Car.cells m.cs := by rw [h.cs]
  have hnz : (S 3).n * (S 3).sz = m.cs.length * 2 := by rw [h.cs]
  have hsp := h.sp.setCell (p := 3) (g := b) (i := (c - 1).toNat * 2 + 1) ho (.int .i64 p) (by rw [hnz]; omega)
  refine ⟨_, h.setCs (cs' := m.cs.set (c - 1).toNat ⟨(carAt m c).i, p⟩) (xs' := (S 3).xs.set ((c - 1).toNat * 2 + 1) (.int .i64 p)) (by rw [List.length_set]) (by rw [hxs]; exact vS_carp hx p) hsp, (Mv.refl w S).setCell ho _ _, fun j => ?_⟩
  by_cases e : j = 3
  · subst e; rw [putS_same]
  · rw [putS_ne e]
end
set_option maxHeartbeats 1000000 in
theorem l07Set_v {w : World} {B g : Nat} {m : Mc} {S : Nat → Spot} (h : MSt w B g m S) (n : Int × Int) (hn : ndIn m n) (v : Value) (l : List Int) (hsp : SpotsT w B (putS S (iN n) (spI v l))) :
    Calls Try.prog 90 #[.pointer (some ⟨g, 0, none⟩), .agg #[.int .i64 n.1, .int .i64 n.2], v] w fun e w' => e = .returned (.tuple #[]) ∧ ∃ S', MSt w' B g (setL m n l) S' ∧ Mv w (putS S (iN n) (spI v l)) w' S' ∧ (∀ j, j ≠ iN n → (S' j).v = (S j).v) ∧ (S' (iN n)).v = v := by
  obtain ⟨Av, cv, rfl, -⟩ : ∃ A c, v = .slice A l.length c ∧ True := by
    have h1 := hsp.own (iN n)
    rw [putS_same] at h1
    obtain ⟨A, c, h2, -⟩ := (OwC.of_own h1).cells
    exact ⟨A, c, h2, trivial⟩
  obtain ⟨nb, na⟩ := n
  have hW : Below w.heap.size w (w.alloc (.cells #[.int .i64 nb, .int .i64 na] 45)) := (Below.refl _ _).alloc (Nat.le_refl _) _
  have HM := Lib.hid (h.below hW)
  obtain ⟨b, c, L, hv, hlt, -, hbw, -, hcell, hfr, -, hset⟩ := HM.out.nd2 hn
  have HSET := Lib.hid (hset _ l _ (hsp.below hW))
  have HMV := Lib.hid ((Mv.refl w (putS S (iN (nb, na)) (spI (.slice Av l.length cv) l))).below_ hW)
  obtain ⟨hb12, h0, -⟩ := hn
  have hb12' : nb = 1 ∨ nb = 2 := hb12
  have h0' : 0 ≤ na := h0
  have hlt' : na < (L : Int) := hlt
  obtain ⟨ka, rfl⟩ := Int.eq_ofNat_of_zero_le h0'
  have hcell' : (w.alloc (.cells #[.int .i64 nb, .int .i64 (ka : Int)] 45)).cell? ⟨b, ka, none⟩ = some (S (iN (nb, (ka : Int)))).v := hcell
  have hfr' := hfr ka
  have HQ := Lib.hid (l07Bed_s HM.out nb hb12')
  have hv' : bedV S nb = _ := hv
  rw [hv'] at HQ
  generalize (S (iN (nb, (ka : Int)))).v = R at *
  clear h hv hlt h0 h0' hb12 hcell hv' hW hb12' hset hfr hsp
  go_enter Try.func90, Try.ntmps90
  go_wp2_with fail
  refine (HQ.out).mono ?_
  rintro e w1 ⟨rfl, rfl⟩
  go_wp2
  go_end0
  obtain ⟨S', k1, k2, k3, k4⟩ := HSET.out
  exact ⟨rfl, S', k1, k2 _ _ HMV.out, k3, k4⟩

/-- While a loop is taken back: w0, S0 the world and the rows at the start; L the boxes. -/
structure UkS (w0 : World) (S0 : Nat → Spot) (B g : Nat) (m : Mc) (Q : Nat) (vp : Value) (L : List (Nat × List Value)) (wx : World) (S : Nat → Spot) : Prop where
  ms : MSt wx B g m S
  mv : Mv w0 S0 wx S
  vp : (S (iP Q)).v = vp
  bx : ∀ p ∈ L, Bx wx p.1 p.2 ∧ ¬ blk S p.1
  lo : B ≤ w0.heap.size ∧ w0.heap.size ≤ wx.heap.size
section
variable {w0 wx wy : World} {S0 S S' : Nat → Spot} {B g Q : Nat} {m m' : Mc} {vp : Value} {L : List (Nat × List Value)}
theorem UkS.below (h : UkS w0 S0 B g m Q vp L wx S) (hb : Below wx.heap.size wx wy) : UkS w0 S0 B g m Q vp L wy S :=
  ⟨h.ms.below hb, h.mv.below_ hb, h.vp, fun p hp => ⟨(h.bx p hp).1.below hb (h.bx p hp).1.2.2, (h.bx p hp).2⟩, h.lo.1, Nat.le_trans h.lo.2 hb.size⟩
theorem UkS.box (h : UkS w0 S0 B g m Q vp L wx S) (us : List Value) (t : TypeId) : UkS w0 S0 B g m Q vp ((wx.heap.size, us) :: L) (wx.alloc (.cells us.toArray t)) S := by
  have hb : Below wx.heap.size wx (wx.alloc (.cells us.toArray t)) := (Below.refl _ _).alloc (Nat.le_refl _) _
  have h1 := h.below hb
  refine ⟨h1.ms, h1.mv, h1.vp, fun p hp => ?_, h1.lo⟩
  rcases List.mem_cons.1 hp with rfl | hp
  · exact ⟨Bx.new wx us t, fun e => by have h9 := (h.ms.sp.ge e).2; exact Nat.lt_irrefl _ h9⟩
  · exact h1.bx p hp
theorem UkS.drew (h : UkS w0 S0 B g m Q vp L wx S) : UkS w0 S0 B g m Q vp L wx.drew S := h.below (Below.refl _ _).drew
theorem UkS.drewN (h : UkS w0 S0 B g m Q vp L wx S) (n : Nat) : UkS w0 S0 B g m Q vp L (wx.drewN n) S := h.below (below_drewN (Below.refl _ _) n)
/-- One row is exchanged. -/
theorem UkS.set {p : Nat} {v : Value} {l : List Int} (h : UkS w0 S0 B g m Q vp L wx S) (hm : MSt wy B g m' S') (hv : Mv wx (putS S p (spI v l)) wy S') (hs : ∀ j, j ≠ p → (S' j).v = (S j).v) (hp : p ≠ iP Q) (hn : ∀ q, v.ownBlock = some q → (blk S q ∨ w0.heap.size ≤ q) ∧ ∀ r ∈ L, q ≠ r.1) : UkS w0 S0 B g m' Q vp L wy S' := by
  have hnb : ∀ r ∈ L, ¬ blk (putS S p (spI v l)) r.1 := fun r hr e => by
    rcases blk_put e with h1 | h1
    · exact (h.bx r hr).2 h1
    · exact (hn _ h1).2 r hr rfl
  refine ⟨hm, (h.mv.put p _ (fun q hq => (hn q hq).1)).trans hv, (hs _ (fun e => hp e.symm)).trans h.vp, fun r hr => ⟨?_, hv.nblk (hnb r hr) (h.bx r hr).1.2.2⟩, h.lo.1, Nat.le_trans h.lo.2 hv.size⟩
  exact (h.bx r hr).1.keep (hv.only.block _ (h.bx r hr).1.2.2 (hnb r hr)) hv.size
/-- Nothing but contents turns. -/
theorem UkS.same (h : UkS w0 S0 B g m Q vp L wx S) (hm : MSt wy B g m' S') (hv : Mv wx S wy S') (hs : ∀ j, (S' j).v = (S j).v) : UkS w0 S0 B g m' Q vp L wy S' := by
  refine ⟨hm, h.mv.trans hv, (hs _).trans h.vp, fun r hr => ⟨?_, hv.nblk (h.bx r hr).2 (h.bx r hr).1.2.2⟩, h.lo.1, Nat.le_trans h.lo.2 hv.size⟩
  exact (h.bx r hr).1.keep (hv.only.block _ (h.bx r hr).1.2.2 (h.bx r hr).2) hv.size
/-- The last loop's parents, read. -/
theorem UkS.ps (h : UkS w0 S0 B g m Q vp L wx S) {x : Inf} (hx : m.ls[Q]? = some x) : RdI wx wx.heap.size vp x.ps ∧ wx.ownsRow B 2 1 vp x.ps.length (vI x.ps) := by
  have h1 := h.ms.pl Q x hx
  have h2 := h.ms.sp.own (iP Q)
  rw [h.vp] at h1
  rw [h1] at h2
  exact ⟨(spI_rd (h.ms.sp.own (iP Q)) h1).1, h2⟩
theorem UkS.k0 {b : Nat} {us : List Value} (h : UkS w0 S0 B g m Q vp ((b, us) :: L) wx S) : Bx wx b us ∧ ¬ blk S b := h.bx (b, us) (List.mem_cons_self ..)
theorem UkS.k1 {b : Nat} {us : List Value} {p : Nat × List Value} (h : UkS w0 S0 B g m Q vp (p :: (b, us) :: L) wx S) : Bx wx b us ∧ ¬ blk S b := h.bx (b, us) (List.mem_cons_of_mem _ (List.mem_cons_self ..))
theorem UkS.k2 {b : Nat} {us : List Value} {p p' : Nat × List Value} (h : UkS w0 S0 B g m Q vp (p :: p' :: (b, us) :: L) wx S) : Bx wx b us ∧ ¬ blk S b := h.bx (b, us) (List.mem_cons_of_mem _ (List.mem_cons_of_mem _ (List.mem_cons_self ..)))
theorem UkS.b (h : UkS w0 S0 B g m Q vp L wx S) {b : Nat} {us : List Value} (hb : (b, us) ∈ L) : Bx wx b us := (h.bx _ hb).1
theorem UkS.nb (h : UkS w0 S0 B g m Q vp L wx S) {b : Nat} {us : List Value} (hb : (b, us) ∈ L) : ¬ blk S b := (h.bx _ hb).2
end

theorem unk_none {m : Mc} (h : m.ls.length = 0) : unkC m = 7 := by
  unfold unkC
  rw [List.eq_nil_of_length_eq_zero h]
  rfl
theorem unk_bad {m : Mc} {x : Inf} (h : m.ls.getLast? = some x) (hs : stB m x = false) : unkC m = 6 := by unfold unkC; rw [h]; show (if stB m x = false then _ else _) = _; rw [if_pos hs]
theorem unk_car {m : Mc} {x : Inf} (h : m.ls.getLast? = some x) (hs : stB m x = true) (hc : crB m x = false) : unkC m = 9 := by unfold unkC; rw [h]; show (if stB m x = false then _ else _) = _; rw [if_neg (by rw [hs]; decide), if_pos hc]
theorem unk_ok {m : Mc} {x : Inf} (h : m.ls.getLast? = some x) (hs : stB m x = true) (hc : crB m x = true) : unkC m = 0 := by unfold unkC; rw [h]; show (if stB m x = false then _ else _) = _; rw [if_neg (by rw [hs]; decide), if_neg (by rw [hc]; decide)]
theorem unk_to {m : Mc} {x : Inf} (h : m.ls.getLast? = some x) : unkM m = cutLs (unkL (setC m x.y ⟨(carAt m x.y).i, ukFrom m x⟩) x) := by unfold unkM; rw [h]
/-- The code, but for what a split has left behind. -/
def st1 (m : Mc) (x : Inf) : Bool := decide ((onL m x.n).getLast? = some ((m.ls.length : Int) - 1)) && ((decide (x.k = 2) || decide ((onL m x.n).length ≤ 1)) && (!decide (x.k = 1) || offB m x.ps))
theorem stB_st1 (m : Mc) (x : Inf) : stB m x = (st1 m x && (!decide (x.k = 5) || holdB m x.n x.ps)) := by
  unfold stB st1
  simp only [Bool.and_assoc]
/-- The parts of the last loop in a machine of one's own. -/
theorem MSt.lastL {w : World} {B g : Nat} {m : Mc} {S : Nat → Spot} (h : MSt w B g m S) {n : Nat} {x : Inf} (hx : m.ls[n]? = some x) : ∃ b cap, (S 4).v = .slice (some ⟨b, 0, none⟩) m.ls.length cap ∧ m.ls.length ≤ cap ∧ b < w.heap.size ∧ blk S b ∧ CellsAt w b (n * 6) [.int .i64 x.k, .int .i64 x.y, .int .i64 x.b, .int .i64 x.p, .int .i64 x.d, (S (iP n)).v] ∧ ∃ A c, (S (iP n)).v = .slice A x.ps.length c := by
  obtain ⟨xs, e4, hx4⟩ := h.ls
  have hn := (List.getElem?_eq_some_iff.1 hx).1
  obtain ⟨b, cap, hv, hB, hb, hc, ho⟩ := row_slice (h.owned e4) (by omega)
  have how := h.owned e4
  rw [hv] at how
  refine ⟨b, cap, hv, hc, hb, ⟨4, ho⟩, fun j u hu => (own_cellx how (hx4 n x hx j u hu)).1, ?_⟩
  have h1 := h.sp.own (iP n)
  rw [h.pl n x hx] at h1
  exact row_A h1

/-- The list of loops is cut. -/
theorem MSt.cutL2 {w : World} {B g b cap k : Nat} {m : Mc} {S : Nat → Spot} (h : MSt w B g m S) (hv : (S 4).v = .slice (some ⟨b, 0, none⟩) m.ls.length cap) (hk : k ≤ m.ls.length) :
    ∃ S', MSt (w.setCell ⟨g, 5, none⟩ (.slice (some ⟨b, 0, none⟩) k cap)) B g { m with ls := m.ls.take k } S' ∧ Mv w S (w.setCell ⟨g, 5, none⟩ (.slice (some ⟨b, 0, none⟩) k cap)) S' := by
  have h1 := h.cutL hv hk
  refine ⟨_, h1, ?_⟩
  have e0 : (putS S 4 ⟨102, 6, .slice (some ⟨b, 0, none⟩) k cap, k, (S 4).xs.take (k * 6)⟩) 0 = S 0 := putS_ne (by omega)
  have h2 := ((Mv.refl w S).put 4 ⟨102, 6, .slice (some ⟨b, 0, none⟩) k cap, k, (S 4).xs.take (k * 6)⟩ (fun q hq => .inl ⟨4, by rw [hv]; exact hq⟩)).setCell (p := 0) (g := g) (i := 5) (by rw [e0]; exact h.gbox) (.slice (some ⟨b, 0, none⟩) k cap) ((S 0).xs.set 5 (.slice (some ⟨b, 0, none⟩) k cap))
  rw [e0] at h2
  exact h2
theorem setL_ls (m : Mc) (n : Int × Int) (l : List Int) : (setL m n l).ls = m.ls := by unfold setL; split <;> rfl
theorem setC_ls (m : Mc) (c : Int) (a : Car) : (setC m c a).ls = m.ls := rfl
theorem S1_blk {S S1 : Nat → Spot} (h : ∀ j, (S1 j).v = (S j).v) {k : Nat} (hk : blk S1 k) : blk S k := by
  obtain ⟨j, hj⟩ := hk
  exact ⟨j, by rw [← h j]; exact hj⟩
theorem st1_nil {m : Mc} {x : Inf} (h : (onL m x.n).length = 0) : st1 m x = false := by
  unfold st1
  rw [List.eq_nil_of_length_eq_zero h]
  rfl
theorem st1_of {m : Mc} {x : Inf} {n p : Nat} {y : Int} (hn : m.ls.length = n + 1) (hp : (onL m x.n).length = p + 1) (hy : (onL m x.n)[p]? = some y) : st1 m x = (decide (y = (n : Int)) && ((decide (x.k = 2) || decide (p + 1 ≤ 1)) && (!decide (x.k = 1) || offB m x.ps))) := by
  unfold st1
  rw [List.getLast?_eq_getElem?, hp, Nat.add_sub_cancel, hy, hn]
  congr 1
  simp

end Go.Proofs.Ytmcalioldphfeaa
