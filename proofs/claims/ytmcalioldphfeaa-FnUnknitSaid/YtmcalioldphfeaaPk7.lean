/-
  Texts joined: UkG, McKids, McState, UkH, UkI.
-/
import Derived.Test.YtmcalioldphfeaaPk6
import Derived.Deep.CutBlock
import Derived.Deep.RegionWith
import Derived.Test.YtmcalioldphfeaaPk2
import Derived.Test.YtmcalioldphfeaaSpot
/-
  The program's facing, on and holdsParents on a machine of one's own.
-/
namespace Go.Proofs.Ytmcalioldphfeaa
set_option linter.unusedVariables false
set_option linter.unusedSimpArgs false
open Go.RowKit

theorem implOther_s (b : Int) (hb : b = 1 ∨ b = 2) (w : World) : Calls Try.prog 146 #[.int .i64 b] w fun e w' => e = .returned (.int .i64 (3 - b)) ∧ w = w' := by
  rcases hb with rfl | rfl
  · go_enter Try.func146, Try.ntmps146
    go_wp2
    go_ret
    exact ⟨rfl, rfl⟩
  · go_enter Try.func146, Try.ntmps146
    go_wp2
    go_ret
    exact ⟨rfl, rfl⟩
set_option maxHeartbeats 4000000 in
set_option maxRecDepth 100000 in
theorem facing_any {w : World} {B g : Nat} {m : Mc} {S : Nat → Spot} (h : MSt w B g m S) (n : Int × Int) (hb : n.1 = 1 ∨ n.1 = 2) (h0 : 0 ≤ n.2) (h1 : n.2 ≤ 100) (hr : -3 ≤ m.rk ∧ m.rk ≤ 3) (hw : 0 ≤ m.wd ∧ m.wd ≤ 100) :
    Calls Try.prog 104 #[.pointer (some ⟨g, 0, none⟩), .agg #[.int .i64 n.1, .int .i64 n.2]] w fun e w' => e = .returned (.tuple #[.agg #[.int .i64 (fcN m n).1, .int .i64 (fcN m n).2], .bool (fcIn m n)]) ∧ Below w.heap.size w w' := by
  obtain ⟨b, a⟩ := n
  have h0' : 0 ≤ a := h0
  have h1' : a ≤ 100 := h1
  obtain ⟨r0, r1⟩ := hr
  obtain ⟨w0, w1⟩ := hw
  have hgw : g < w.heap.size := (h.sp.lt h.gbox).2
  have x0 : w.cell? ⟨g, 0, none⟩ = some (.int .i64 m.wd) := h.cells.seven.1
  have x1 : w.cell? ⟨g, 1, none⟩ = some (.int .i64 m.rk) := h.cells.seven.2.1
  have hfN : Hid (fcN m (b, a) = if b = 2 then (1, a + m.rk) else (2, a - m.rk)) := rfl
  have hfI : Hid (fcIn m (b, a) = inB 0 (fcN m (b, a)).2 (m.wd - 1)) := rfl
  generalize fcN m (b, a) = F at *
  generalize fcIn m (b, a) = I at *
  generalize m.rk = rk at *
  generalize m.wd = wd at *
  clear h h0 h1
  have hb' : b = 1 ∨ b = 2 := hb
  have HOB := Lib.hid (fun W => implOther_s b hb' W)
  have HB0 := Lib.hid (((Below.refl w.heap.size w).alloc (Nat.le_refl _) (.cells #[.int .i64 b, .int .i64 a] 45)).alloc (by simp) (.cells #[.int .i64 0, .int .i64 0] 45))
  have N0 := Lib.hid ((Bx.new w [.int .i64 b, .int .i64 a] 45).alloc (.cells #[.int .i64 0, .int .i64 0] 45))
  have hZ0 := Bx.new (w.alloc (.cells #[.int .i64 b, .int .i64 a] 45)) [.int .i64 0, .int .i64 0] 45
  rw [World.size_alloc] at hZ0
  have Z0 := Lib.hid hZ0
  have hz0 : ((w.alloc (.cells #[.int .i64 b, .int .i64 a] 45)).alloc (.cells #[.int .i64 0, .int .i64 0] 45)).heap.size = w.heap.size + 2 := by simp
  clear hb hZ0
  go_enter Try.func104, Try.ntmps104
  go_upto_region 1 with fail
  generalize (w.alloc (.cells #[.int .i64 b, .int .i64 a] 45)).alloc (.cells #[.int .i64 0, .int .i64 0] 45) = W0 at *
  have x0a := HB0.out.cell (p := ⟨g, 0, none⟩) hgw
  rw [x0] at x0a
  have x1a := HB0.out.cell (p := ⟨g, 1, none⟩) hgw
  rw [x1] at x1a
  have hx0 := Lib.hid x0a
  have hx1 := Lib.hid x1a
  have hg2 : g < W0.heap.size := by omega
  clear x0 x1 x0a x1a
  obtain ⟨o1, ho1⟩ : ∃ o : Obj, o = .cells #[.int .i64 (3 - b), .int .i64 (a - rk)] 45 := ⟨_, rfl⟩
  go_cut [6] (fun s6 wx => s6 = .pointer (some ⟨w.heap.size + 2, 0, none⟩) ∧ wx = (W0.alloc (.cells #[.int .i64 (3 - b), .int .i64 (a - rk)] 45)).drew)
  case first =>
    have x1a := hx1.out
    obtain ⟨n0, n1⟩ := N0.out.two
    have hwr2 : IntKind.i64.wrap (a - rk) = a - rk := wrap_sm (by omega) (by omega)
    have x1b : ∀ o, (W0.alloc o).cell? ⟨g, 1, none⟩ = some (.int .i64 rk) := fun o => (((Below.refl W0.heap.size W0).alloc (Nat.le_refl _) o).cell (p := ⟨g, 1, none⟩) (by show g < _; omega)).trans x1a
    have n0b : ∀ o, (W0.alloc o).cell? ⟨w.heap.size, 0, none⟩ = some (.int .i64 b) := fun o => (((Below.refl W0.heap.size W0).alloc (Nat.le_refl _) o).cell (p := ⟨w.heap.size, 0, none⟩) (by show w.heap.size < _; omega)).trans n0
    have n1b : ∀ o, (W0.alloc o).cell? ⟨w.heap.size, 1, none⟩ = some (.int .i64 a) := fun o => (((Below.refl W0.heap.size W0).alloc (Nat.le_refl _) o).cell (p := ⟨w.heap.size, 1, none⟩) (by show w.heap.size < _; omega)).trans n1
    go_region_held3 (fun w' => w'.cell? ⟨w.heap.size, 0, none⟩ = some (.int .i64 b) ∧ w'.cell? ⟨w.heap.size, 1, none⟩ = some (.int .i64 a) ∧ w'.cell? ⟨g, 1, none⟩ = some (.int .i64 rk))
      (first | exact ⟨n0, n1, x1a⟩ | exact ⟨n0b _, n1b _, x1b _⟩ | go_keep)
      (first
        | (go_at_call 146; refine (HOB.out _).mono ?_; rintro e w5 ⟨rfl, rfl⟩))
    all_goals
      go_wp2_with fail
      go_meet
      case rel => exact ⟨rfl, rfl⟩
  case rest =>
    obtain ⟨rfl, rfl⟩ := hcut
    have B1 := (Bx.new W0 [.int .i64 (3 - b), .int .i64 (a - rk)] 45).drew
    rw [hz0] at B1
    have HB1 := Lib.hid ((HB0.out.alloc HB0.out.size (.cells #[.int .i64 (3 - b), .int .i64 (a - rk)] 45)).drew)
    have N1 := (N0.out.alloc (.cells #[.int .i64 (3 - b), .int .i64 (a - rk)] 45)).drew
    have Z1 := (Z0.out.alloc (.cells #[.int .i64 (3 - b), .int .i64 (a - rk)] 45)).drew
    have x0c : ((W0.alloc (.cells #[.int .i64 (3 - b), .int .i64 (a - rk)] 45)).drew).cell? ⟨g, 0, none⟩ = some (.int .i64 wd) := (((Below.refl W0.heap.size W0).alloc (Nat.le_refl _) _).cell (p := ⟨g, 0, none⟩) hg2).trans hx0.out
    have x1c : ((W0.alloc (.cells #[.int .i64 (3 - b), .int .i64 (a - rk)] 45)).drew).cell? ⟨g, 1, none⟩ = some (.int .i64 rk) := (((Below.refl W0.heap.size W0).alloc (Nat.le_refl _) _).cell (p := ⟨g, 1, none⟩) hg2).trans hx1.out
    generalize ((W0.alloc (.cells #[.int .i64 (3 - b), .int .i64 (a - rk)] 45)).drew) = W1 at *
    clear hx0 hx1 HB0 N0 Z0 hz0 HOB ho1
    obtain ⟨n0, n1⟩ := N1.two
    obtain ⟨b0, b1⟩ := B1.two
    have bf := B1.2.1
    have hne1 : w.heap.size + 2 ≠ w.heap.size := by omega
    have hne2 : w.heap.size + 2 ≠ w.heap.size + 1 := by omega
    have hne3 : w.heap.size + 2 ≠ g := by omega
    rcases hb' with rfl | rfl
    · have x0e := x0c
      have B2 := Lib.hid B1
      have Z2 := Lib.hid Z1
      have HB2 := HB1
      clear HB1 N1 Z1
      go_wp2
      clear x0c x1c n0 n1 b0 b1 bf B1 hne3
      obtain ⟨b0, b1⟩ := B2.out.two
      have zf := Z2.out.2.1
      obtain ⟨z0, z1⟩ := Z2.out.two
      have HQ := Lib.hid (fun W => within_s (a - rk) 0 (wd - 1) W)
      have HF : F = (2, a - rk) := hfN.out.trans (if_neg (by omega))
      have HI : I = inB 0 (a - rk) (wd - 1) := by rw [hfI.out, HF]
      subst HF HI
      clear hfN hfI
      have HFIN : Hid (Below w.heap.size w (((W1).setCell ⟨w.heap.size + 1, 0, none⟩ (.int .i64 2)).setCell ⟨w.heap.size + 1, 1, none⟩ (.int .i64 (a - rk))).drew) := ((HB2.out.setCell (by show w.heap.size ≤ w.heap.size + 1; omega) _).setCell (by show w.heap.size ≤ w.heap.size + 1; omega) _).drew
      have ZA := Z2.out.set (i := 0) (by simp) (.int .i64 2)
      have ZB := ZA.set (i := 1) (by simp) (.int .i64 (a - rk))
      have c0 := Lib.hid (Bx.two (u0 := .int .i64 2) (u1 := .int .i64 0) ZA).1
      have c1 := Lib.hid (Bx.two (u0 := .int .i64 2) (u1 := .int .i64 (a - rk)) ZB).2
      clear ZA ZB
      have hwr : IntKind.i64.wrap (wd - 1) = wd - 1 := wrap_sm (by omega) (by omega)
      go_region_with ((go_at_call 60; refine (HQ.out _).mono ?_; rintro e w5 ⟨rfl, rfl⟩))
      all_goals
        go_wp2
        refine bodyPost_ret (v := .tuple #[.agg #[.int .i64 2, .int .i64 (a - rk)], .bool (inB 0 (a - rk) (wd - 1))]) (by simp [results, Try.results104, go_sem, c0.out, c1.out]) rfl ?_
        exact ⟨rfl, HFIN.out⟩
    · have x0b : ∀ o, (W1.alloc o).cell? ⟨g, 0, none⟩ = some (.int .i64 wd) := fun o => (((Below.refl W1.heap.size W1).alloc (Nat.le_refl _) o).cell (p := ⟨g, 0, none⟩) (block_lt_of_cell x0c)).trans x0c
      have B2 := Lib.hid (B1.set (i := 1) (by simp) (.int .i64 (a + rk)))
      have Z2 := Lib.hid (Z1.far (g' := w.heap.size + 2) (by omega) 1 (.int .i64 (a + rk)))
      have HB2 := Lib.hid ((HB1.out.setCell (p := ⟨w.heap.size + 2, 1, none⟩) (by show w.heap.size ≤ w.heap.size + 2; omega) (.int .i64 (a + rk))))
      have x0d : (W1.setCell ⟨w.heap.size + 2, 1, none⟩ (.int .i64 (a + rk))).cell? ⟨g, 0, none⟩ = some (.int .i64 wd) := by rw [far_cell hne3]; exact x0c
      clear HB1 N1 Z1 x0b
      go_wp2
      go_region
      have x0e : (W1.setCell ⟨w.heap.size + 2, 1, none⟩ (.int .i64 (a + rk))).drew.cell? ⟨g, 0, none⟩ = some (.int .i64 wd) := x0d
      replace B2 := Lib.hid B2.out.drew
      replace Z2 := Lib.hid Z2.out.drew
      replace HB2 := Lib.hid HB2.out.drew
      generalize (W1.setCell ⟨w.heap.size + 2, 1, none⟩ (.int .i64 (a + rk))).drew = W2 at *
      clear x0c x1c n0 n1 b0 b1 bf B1 x0d hne3
      obtain ⟨b0, b1⟩ := Bx.two (u0 := .int .i64 (3 - 2)) (u1 := .int .i64 (a + rk)) B2.out
      have zf := Z2.out.2.1
      obtain ⟨z0, z1⟩ := Z2.out.two
      have HQ := Lib.hid (fun W => within_s (a + rk) 0 (wd - 1) W)
      have HF : F = (1, a + rk) := hfN.out.trans (if_pos trivial)
      have HI : I = inB 0 (a + rk) (wd - 1) := by rw [hfI.out, HF]
      subst HF HI
      clear hfN hfI
      have HFIN : Hid (Below w.heap.size w (((W2).setCell ⟨w.heap.size + 1, 0, none⟩ (.int .i64 1)).setCell ⟨w.heap.size + 1, 1, none⟩ (.int .i64 (a + rk))).drew) := ((HB2.out.setCell (by show w.heap.size ≤ w.heap.size + 1; omega) _).setCell (by show w.heap.size ≤ w.heap.size + 1; omega) _).drew
      have ZA := Z2.out.set (i := 0) (by simp) (.int .i64 1)
      have ZB := ZA.set (i := 1) (by simp) (.int .i64 (a + rk))
      have c0 := Lib.hid (Bx.two (u0 := .int .i64 1) (u1 := .int .i64 0) ZA).1
      have c1 := Lib.hid (Bx.two (u0 := .int .i64 1) (u1 := .int .i64 (a + rk)) ZB).2
      clear ZA ZB
      go_wp2
      have hwr : IntKind.i64.wrap (wd - 1) = wd - 1 := wrap_sm (by omega) (by omega)
      go_region_with ((go_at_call 60; refine (HQ.out _).mono ?_; rintro e w5 ⟨rfl, rfl⟩))
      all_goals
        go_wp2
        refine bodyPost_ret (v := .tuple #[.agg #[.int .i64 1, .int .i64 (a + rk)], .bool (inB 0 (a + rk) (wd - 1))]) (by simp [results, Try.results104, go_sem, c0.out, c1.out]) rfl ?_
        exact ⟨rfl, HFIN.out⟩

set_option maxHeartbeats 4000000 in
set_option maxRecDepth 100000 in
/-- The program's pointer to a needle's header. -/
theorem on_mst {w : World} {B g : Nat} {m : Mc} {S : Nat → Spot} (h : MSt w B g m S) (n : Int × Int) (hn : ndIn m n) (b c L : Nat) (hv : bedV S n.1 = .slice (some ⟨b, 0, none⟩) L c) (hlt : n.2 < (L : Int)) :
    Calls Try.prog 103 #[.pointer (some ⟨g, 0, none⟩), .agg #[.int .i64 n.1, .int .i64 n.2]] w fun e w' => e = .returned (.pointer (some ⟨b, n.2.toNat, none⟩)) ∧ Below w.heap.size w w' := by
  obtain ⟨nb, na⟩ := n
  obtain ⟨hb12, h0, -⟩ := hn
  have h0' : 0 ≤ na := h0
  have hlt' : na < (L : Int) := hlt
  obtain ⟨ka, rfl⟩ := Int.eq_ofNat_of_zero_le h0'
  have HM := Lib.hid (fun o => h.below ((Below.refl w.heap.size w).alloc (Nat.le_refl _) o))
  have hB1 := (Below.refl w.heap.size w).alloc (Nat.le_refl _) (.cells #[.int .i64 nb, .int .i64 (ka : Int)] 45)
  have HB1 := Lib.hid hB1
  have hv2 : bedV S nb = .slice (some ⟨b, 0, none⟩) L c := hv
  clear h h0 h0' hlt hv hB1
  have hb12' : nb = 1 ∨ nb = 2 := hb12
  rcases hb12' with rfl | rfl
  · have e1 : (S 1).v = .slice (some ⟨b, 0, none⟩) L c := hv2
    obtain ⟨x0, x1, x2, x3, x4, x5, x6⟩ := (HM.out (.cells #[.int .i64 1, .int .i64 (ka : Int)] 45)).cells.seven
    rw [e1] at x2
    clear hv2 e1 hb12
    go_enter Try.func103, Try.ntmps103
    go_wp2
    go_quiet (fail)
    go_wp2
    go_ret
    exact ⟨by simp, below_drewN HB1.out _⟩
  · have e1 : (S 2).v = .slice (some ⟨b, 0, none⟩) L c := hv2
    obtain ⟨x0, x1, x2, x3, x4, x5, x6⟩ := (HM.out (.cells #[.int .i64 2, .int .i64 (ka : Int)] 45)).cells.seven
    rw [e1] at x3
    clear hv2 e1 hb12
    go_enter Try.func103, Try.ntmps103
    go_wp2
    go_quiet (fail)
    go_wp2
    go_ret
    exact ⟨by simp, below_drewN HB1.out _⟩

set_option maxHeartbeats 4000000 in
set_option maxRecDepth 100000 in
theorem holdsParents_any {w : World} {B g : Nat} {m : Mc} {S : Nat → Spot} (h : MSt w B g m S) (ok : OkP m) (n : Int × Int) (hb : n.1 = 1 ∨ n.1 = 2) (h0 : 0 ≤ n.2) (h1 : n.2 ≤ 100) (v : Value) (ps : List Int) (hl : RdI w w.heap.size v ps) (hlen : ps.length ≤ 4) :
    Calls Try.prog 145 #[.pointer (some ⟨g, 0, none⟩), .agg #[.int .i64 n.1, .int .i64 n.2], v] w fun e w' => e = .returned (.bool (holdB m n ps)) ∧ Below w.heap.size w w' := by
  obtain ⟨nb, na⟩ := n
  obtain ⟨Ap, cp, rfl⟩ := hl.len
  have HL := Lib.hid hl
  have HOK := Lib.hid ok
  have hW : Below w.heap.size w (w.alloc (.cells #[.int .i64 nb, .int .i64 na] 45)) := (Below.refl _ _).alloc (Nat.le_refl _) _
  have HB0 := Lib.hid hW
  have HM0 := Lib.hid (h.below hW)
  have HF := Lib.hid (facing_any HM0.out (nb, na) hb h0 h1 ok.rk ⟨by have := ok.wd; omega, by have := ok.wd; omega⟩)
  have HFC := Lib.hid (fun hi => ok.fc (n := (nb, na)) hb hi)
  have HFB := Lib.hid (fc_cases m (nb, na) hb).1
  have HH : Hid (holdB m (nb, na) ps = (fcIn m (nb, na) && (decide (ps.length ≤ (onL m (fcN m (nb, na))).length) && decide (ukPut m (nb, na) ps = ps)))) := rfl
  have HPUT : Hid (ukPut m (nb, na) ps = if (fcN m (nb, na)).1 = 2 then (onL m (fcN m (nb, na))).take ps.length else (onL m (fcN m (nb, na))).drop ((onL m (fcN m (nb, na))).length - ps.length)) := rfl
  clear hl h hW ok
  generalize hfc : fcN m (nb, na) = F at *
  obtain ⟨fb, fa⟩ := F
  clear hfc
  generalize hpl : ps.length = pn at *
  have HPL := Lib.hid hpl
  clear hpl
  cases hI : fcIn m (nb, na)
  · have HH2 := Lib.hid (show holdB m (nb, na) ps = false by rw [HH.out, hI, Bool.false_and])
    rw [hI] at HF
    clear hI HFC HH
    go_enter Try.func145, Try.ntmps145
    go_wp2_with fail
    refine HF.out.mono ?_
    rintro e w1 ⟨rfl, hb1⟩
    have HB1 := Lib.hid (HB0.out.trans (hb1.mono HB0.out.size))
    clear hb1 HF
    go_wp2
    go_ret
    exact ⟨ret_bool HH2.out.symm, HB1.out.alloc (Nat.le_trans (Nat.le_refl _) HB1.out.size) _⟩
  · rw [hI] at HF
    have HN := Lib.hid (HFC.out hI)
    have HH2 := Lib.hid (HH.out.trans (by rw [hI, Bool.true_and]))
    clear hI HFC HH
    have hl4 := HOK.out.on4 (fb, fa)
    go_enter Try.func145, Try.ntmps145
    go_wp2_with fail
    refine HF.out.mono ?_
    rintro e w1 ⟨rfl, hb1⟩
    have HB1 := Lib.hid (HB0.out.trans (hb1.mono HB0.out.size))
    have HM1 := Lib.hid (HM0.out.below hb1)
    have HWA := Lib.hid ((Below.refl w1.heap.size w1).alloc (Nat.le_refl _) (.cells #[.int .i64 fb, .int .i64 fa] 45))
    have HB2 := Lib.hid (HB1.out.trans (HWA.out.mono HB1.out.size))
    have HM2 := Lib.hid (HM1.out.below HWA.out)
    have HX := Lib.hid (Bx.new w1 [.int .i64 fb, .int .i64 fa] 45)
    obtain ⟨bh, ch, Lh, hvh, hlth, -, hbwh, -, -⟩ := HM2.out.nd2 HN.out
    have HQ := Lib.hid (on_mst HM2.out (fb, fa) HN.out bh ch Lh hvh hlth)
    have HVH := Lib.hid hvh
    clear hb1 HF HM0 HB0 HWA hvh hlth hbwh
    go_wp2_with fail
    refine HQ.out.mono ?_
    rintro e w2 ⟨rfl, hb2⟩
    have HM3 := Lib.hid (HM2.out.below hb2)
    have HB3 := Lib.hid (HB2.out.trans (hb2.mono HB2.out.size))
    obtain ⟨z0, z1⟩ := (HX.out.below hb2 HX.out.2.2).two
    obtain ⟨hrd, ⟨A, c, hv, hnc⟩, hown⟩ := HM3.out.onR HN.out
    obtain ⟨bh', ch', Lh', hvh', -, -, -, -, hcell, -⟩ := HM3.out.nd2 HN.out
    rw [HVH.out] at hvh'
    injection hvh' with e1 e2 e3
    injection e1 with e1
    injection e1 with e1 _
    subst e1
    have hown2 := hown.2
    rw [hv] at hrd hown2 hcell
    have HRD := Lib.hid hrd
    have HOW := Lib.hid hown2
    have HLS := Lib.hid (HL.out.up' HB3.out HB3.out.size)
    generalize hLn : (onL m (fb, fa)).length = ln at *
    have HLN := Lib.hid hLn
    clear hLn hrd hown hown2 hv hb2 HQ e2 e3
    have hcell' : w2.cell? ⟨bh, fa.toNat, none⟩ = some (.slice A ln c) := hcell
    by_cases hlt : ln < pn
    · have HH3 := Lib.hid (HH2.out.trans (show (decide (pn ≤ ln) && _) = false by rw [decide_eq_false (by omega)]; rfl))
      clear HH2
      go_wp2
      go_ret
      exact ⟨ret_bool HH3.out.symm, HB3.out⟩
    · have HH3 := Lib.hid (HH2.out.trans (by rw [decide_eq_true (by omega), Bool.true_and]))
      clear HH2
      have hple : (pn : Int) ≤ (ln : Int) := by omega
      have hp0 : (0 : Int) ≤ (pn : Int) := by omega
      have hpc : (pn : Int) ≤ (c : Int) := by omega
      have hlc : (ln : Int) ≤ (c : Int) := by omega
      have HNL : Hid (∀ X : World, RdI X X.heap.size (.slice none 0 0) []) := fun X => ⟨none, 0, 0, rfl, by omega, rfl, fun k hk => absurd hk (by omega)⟩
      rcases HOW.out with ⟨hnil, hn0⟩ | ⟨b, cap, cur, hbv, hbB, hh, hnc2, _⟩
      · injection hnil with e1 e2 e3
        subst e1 e3 hn0
        obtain rfl : pn = 0 := by omega
        have hL0 : onL m (fb, fa) = [] := List.eq_nil_of_length_eq_zero HLN.out
        have HHF := Lib.hid (show holdB m (nb, na) ps = decide (ps = []) by rw [HH3.out, HPUT.out, hL0]; simp [eq_comm])
        clear hlt HH3 HPUT HFB hL0 HRD HOW
        by_cases hb2 : fb = 2
        · subst hb2
          go_wp2_with fail
          refine (eqlInts_any _ _ [] ps _ w2.heap.size (HNL.out _) HLS.out (Nat.le_refl _)).mono ?_
          rintro e w5 ⟨rfl, hb5⟩
          have HB5 := Lib.hid (HB3.out.trans (hb5.mono HB3.out.size))
          clear hb5
          go_wp2
          go_ret
          exact ⟨ret_bool HHF.out.symm, HB5.out⟩
        · have hb2' : (fb == 2) = false := by simpa using hb2
          clear hb2
          go_wp2_with fail
          refine (eqlInts_any _ _ [] ps _ w2.heap.size (HNL.out _) HLS.out (Nat.le_refl _)).mono ?_
          rintro e w5 ⟨rfl, hb5⟩
          have HB5 := Lib.hid (HB3.out.trans (hb5.mono HB3.out.size))
          clear hb5
          go_wp2
          go_ret
          exact ⟨ret_bool HHF.out.symm, HB5.out⟩
      · injection hbv with e1 e2 e3
        subst e1 e3
        by_cases hb2 : fb = 2
        · subst hb2
          clear hlt
          have HHF := Lib.hid (show holdB m (nb, na) ps = decide ((onL m (2, fa)).take pn = ps) by rw [HH3.out, HPUT.out]; rfl)
          clear HH3 HPUT HFB
          have HTK := Lib.hid (RdI.take HRD.out (k := pn) (by omega))
          go_wp2_with fail
          refine (eqlInts_any _ _ ((onL m (2, fa)).take pn) ps _ w2.heap.size HTK.out HLS.out (Nat.le_refl _)).mono ?_
          rintro e w5 ⟨rfl, hb5⟩
          have HB5 := Lib.hid (HB3.out.trans (hb5.mono HB3.out.size))
          clear hb5
          go_wp2
          go_ret
          exact ⟨ret_bool HHF.out.symm, HB5.out⟩
        · obtain ⟨q, hq⟩ : ∃ q : Nat, q + pn = ln := ⟨ln - pn, by omega⟩
          have hqi : (ln : Int) - (pn : Int) = (q : Int) := by omega
          have hq0 : (0 : Int) ≤ (q : Int) := by omega
          have hql : (q : Int) ≤ (ln : Int) := by omega
          have hqc : (q : Int) ≤ (c : Int) := by omega
          have hb2' : (fb == 2) = false := by simpa using hb2
          have HHF := Lib.hid (show holdB m (nb, na) ps = decide ((onL m (fb, fa)).drop q = ps) by rw [HH3.out, HPUT.out, if_neg (show ¬ (fb, fa).1 = 2 from hb2), show ln - pn = q by omega])
          clear hlt HH3 HPUT HFB
          obtain ⟨ad, had, hrdd⟩ : ∃ ad, (if c = q then some (⟨b, 0, none⟩ : Addr) else some ⟨b, q, none⟩) = ad ∧ RdI w2 w2.heap.size (.slice ad (ln - q) (c - q)) ((onL m (fb, fa)).drop q) := ⟨_, rfl, RdI.dropC HRD.out (by omega) (by omega)⟩
          have HTK := Lib.hid hrdd
          clear hrdd hb2
          go_wp2_with fail
          refine (eqlInts_any _ _ ((onL m (fb, fa)).drop q) ps _ w2.heap.size HTK.out HLS.out (Nat.le_refl _)).mono ?_
          rintro e w5 ⟨rfl, hb5⟩
          have HB5 := Lib.hid (HB3.out.trans (hb5.mono HB3.out.size))
          clear hb5
          go_wp2
          go_ret
          exact ⟨ret_bool HHF.out.symm, HB5.out⟩

end Go.Proofs.Ytmcalioldphfeaa

/-
  Rows of rows that grow: children of the program.
-/
namespace Go.Proofs.Ytmcalioldphfeaa
set_option linter.unusedVariables false
set_option linter.unusedSimpArgs false
open Go.RowKit

theorem own_set {w : World} {base e sz n : Nat} {v : Value} {xs : List Value} (h : w.ownsRow base e sz v n xs) {p : Addr} (hp : p.block < base) (u : Value) : (w.setCell p u).ownsRow base e sz v n xs := by
  refine ⟨h.1, ?_⟩
  rcases h.2 with h2 | ⟨g, cap, cur, hv, hb, hh, h3⟩
  · exact .inl h2
  · exact .inr ⟨g, cap, cur, hv, hb, (Below.heap_setCell _ _ _ _ (by omega)).trans hh, h3⟩
theorem rowIs_block {w w' : World} {g t n : Nat} {f : Nat → Value} (h : w.rowIs g t n f) (hb : w'.heap[g]? = w.heap[g]?) : w'.rowIs g t n f := by
  obtain ⟨cur, h1, h2, h3⟩ := h
  exact ⟨cur, hb.trans h1, h2, h3⟩
theorem rowIs_lt {w : World} {g t n : Nat} {f : Nat → Value} (h : w.rowIs g t n f) : g < w.heap.size := by
  obtain ⟨cur, h1, h2, h3⟩ := h
  exact (Array.getElem?_eq_some_iff.1 h1).1
theorem rowIs_below {w w' : World} {g t n : Nat} {f : Nat → Value} (h : w.rowIs g t n f) (hb : Below w.heap.size w w') : w'.rowIs g t n f := rowIs_block h (hb.block g (rowIs_lt h))

/-- Rows of the call's own behind one row of their headers. -/
structure Mat (w : World) (go n : Nat) (L : Nat → List Int) (f : Nat → Value) : Prop where
  row : w.rowIs go 25 n f
  own : ∀ j, j < n → w.ownsRow (go + 1) 2 1 (f j) (L j).length (vI (L j))
  dis : ∀ i j, i < n → j < n → i ≠ j → ∀ g, (f i).ownBlock = some g → (f j).ownBlock ≠ some g
theorem Mat.below {w w' : World} {go n : Nat} {L : Nat → List Int} {f : Nat → Value} (h : Mat w go n L f) (hb : Below w.heap.size w w') : Mat w' go n L f :=
  ⟨rowIs_below h.row hb, fun j hj => own_below (h.own j hj) hb, h.dis⟩
theorem Mat.congr {w : World} {go n : Nat} {L L' : Nat → List Int} {f : Nat → Value} (h : Mat w go n L f) (e : ∀ j, j < n → L' j = L j) : Mat w go n L' f :=
  ⟨h.row, fun j hj => by rw [e j hj]; exact h.own j hj, h.dis⟩
theorem Mat.app {w w' : World} {go n p : Nat} {x : Int} {L : Nat → List Int} {f : Nat → Value} {v' : Value} (h : Mat w go n L f) (hp : p < n) (hown : w'.ownsRow (go + 1) 2 1 v' (L p ++ [x]).length (vI (L p ++ [x])))
    (hg : w.grownBy w' (f p).ownBlock) (hat : v'.ownBlock = (f p).ownBlock ∨ v'.ownBlock = some w.heap.size) :
    Mat (w'.setCell ⟨go, p, none⟩ v') go n (fun j => if j = p then L p ++ [x] else L j) (fun j => if j = p then v' else f j) := by
  refine ⟨(rowIs_block h.row (hg.block go (rowIs_lt h.row) (fun e => ?_))).set p v', fun j hj => ?_, fun i j hi hj hij g hgi => ?_⟩
  · have := ((h.own p hp).lt _ e.symm).1
    omega
  · by_cases e : j = p
    · simp only [e, if_true]
      exact own_set hown (by simp) _
    · simp only [e, if_false]
      exact own_set (own_other (h.own j hj) hg (fun g hgj hgp => h.dis p j hp hj (fun h => e h.symm) g hgp hgj)) (by simp) _
  · by_cases ei : i = p
    · subst ei
      have ej : ¬ j = i := fun h => hij h.symm
      simp only [if_true] at hgi
      simp only [ej, if_false]
      rcases hat with hat | hat
      · exact h.dis i j hi hj hij g (hat ▸ hgi)
      · rw [hat] at hgi
        injection hgi with hgi
        intro hgj
        have := ((h.own j hj).lt _ hgj).2
        omega
    · simp only [ei, if_false] at hgi
      by_cases ej : j = p
      · subst ej
        simp only [if_true]
        rcases hat with hat | hat
        · rw [hat]; exact h.dis i j hi hj hij g hgi
        · rw [hat]
          intro hgj
          injection hgj with hgj
          have := ((h.own i hi).lt _ hgi).2
          omega
      · simp only [ej, if_false]
        exact h.dis i j hi hj hij g hgi

def GivesMat (w : World) (n : Nat) (L : Nat → List Int) (e : Ending) (w' : World) : Prop := ∃ f, e = .returned (.slice (some ⟨w.heap.size, 0, none⟩) n n) ∧ Mat w' w.heap.size n L f ∧ Below w.heap.size w w'

theorem pars_dis {n : Int} : ∀ {l pre : List Int} {j : Nat} {p : Int}, parsB n pre l = true → l[j]? = some p → (pre ++ l.take j).contains p = false
  | [], pre, j, p, h, hp => by simp at hp
  | x :: t, pre, 0, p, h, hp => by
    rw [parsB] at h
    simp at h hp
    subst hp
    simpa using h.2.1
  | x :: t, pre, j + 1, p, h, hp => by
    rw [parsB] at h
    simp at h
    have := pars_dis (pre := pre ++ [x]) (j := j) h.2.2 (by simpa using hp)
    simpa using this
theorem ok_dis {m : Mc} {i j : Nat} {x : Inf} {p : Int} (h : okM m = true) (hx : m.ls[i]? = some x) (hp : x.ps[j]? = some p) : (x.ps.take j).contains p = false := by
  unfold okM at h
  simp at h
  have h1 := infs_at h.2.2.2.2.1 hx
  unfold okInf at h1
  simp at h1
  obtain ⟨_, _, h4, h5, _⟩ := h1
  simpa using pars_dis h5 hp

/-- The children while the parents of loop i are told, j of them. -/
def kidL (l : List Inf) (i : Nat) (ps : List Int) (j : Nat) (c : Nat) : List Int := chGo (c : Int) 0 (l.take i) ++ (if (ps.take j).contains (c : Int) = true then [(i : Int)] else [])
theorem kid_zero (l : List Inf) (i : Nat) (ps : List Int) (c : Nat) : kidL l i ps 0 c = chGo (c : Int) 0 (l.take i) := by simp [kidL]
theorem kid_end {l : List Inf} {i : Nat} {x : Inf} (hx : l[i]? = some x) (c : Nat) : chGo (c : Int) 0 (l.take (i + 1)) = kidL l i x.ps x.ps.length c := by
  rw [chGo_take hx, kidL, List.take_length]
theorem kid_next {l : List Inf} {i j p : Nat} {ps : List Int} (hp : ps[j]? = some (p : Int)) (hd : (ps.take j).contains (p : Int) = false) (c : Nat) :
    kidL l i ps (j + 1) c = if c = p then kidL l i ps j p ++ [(i : Int)] else kidL l i ps j c := by
  unfold kidL
  rw [List.take_add_one, hp]
  by_cases e : c = p
  · subst e
    rw [if_pos rfl]
    simp only [hd]
    simp
  · rw [if_neg e]
    have e1 : (ps.take j ++ [(p : Int)]).contains (c : Int) = (ps.take j).contains (c : Int) := by
      rw [Bool.eq_iff_iff]; simp; omega
    show _ ++ (if (ps.take j ++ [(p : Int)]).contains (c : Int) = true then _ else _) = _
    rw [e1]
theorem kid_len {l : List Inf} {i j c : Nat} {ps : List Int} : (kidL l i ps j c).length ≤ l.length + 1 := by
  unfold kidL
  have := chGo_len (c : Int) (l.take i) 0
  rw [List.length_append]
  have h2 : (l.take i).length ≤ l.length := List.length_take_le' i l
  split <;> simp <;> omega


end Go.Proofs.Ytmcalioldphfeaa

/-
  isLive, states of the program, l11State of the reference; indicesOf.
-/
namespace Go.Proofs.Ytmcalioldphfeaa
set_option linter.unusedVariables false
set_option linter.unusedSimpArgs false
open Go.RowKit

/-- A row of bools of the call's own, one for each loop. -/
def GivesB (w : World) (n : Nat) (F : Nat → Bool) (e : Ending) (w' : World) : Prop := e = .returned (.slice (some ⟨w.heap.size, 0, none⟩) n n) ∧ w'.rowIs w.heap.size 4 n (fun i => .bool (F i)) ∧ Below w.heap.size w w'
theorem rowIs_congr {w : World} {g t n : Nat} {f f' : Nat → Value} (h : w.rowIs g t n f) (e : ∀ i, i < n → f' i = f i) : w.rowIs g t n f' := by
  obtain ⟨cur, h1, h2, h3⟩ := h
  exact ⟨cur, h1, h2, fun i hi => by rw [e i hi]; exact h3 i hi⟩

set_option maxHeartbeats 8000000 in
set_option maxRecDepth 100000 in
theorem isLive_any (m : Mc) (g : Nat) (w : World) (h : RdP w g m) (ok : okM m = true) :
    Calls Try.prog 144 #[.pointer (some ⟨g, 0, none⟩)] w (GivesB w m.ls.length (fun i => hasB (liveL m) (i : Int))) := by
  have h300 := ls_len ok
  have h240 := liveL_len ok
  have HP := Lib.hid h
  have HOK := Lib.hid ok
  have HRNG := Lib.hid (fun (k : Int) (hk : k ∈ liveL m) => liveL_rng ok hk)
  obtain ⟨F, G, C, L, D, hc, h1, h2, h3, h4, h5, h6⟩ := h
  obtain ⟨AI, cI, rfl⟩ := RdN.shape h4
  obtain ⟨x0, x1, x2, x3, x4, x5, x6⟩ := hc.seven
  generalize hln : m.ls.length = n at *
  have hmk : ∀ W : World, (Instr.makeSlice 165 (.int .i64 (n : Int)) (.int .i64 (n : Int))).run Try.prog W = .ok (.slice (some ⟨W.heap.size, 0, none⟩) n n) (W.alloc (.cells (madeCells #[.bool false] n) 4)) := fun W => run_make_row' (P := Try.prog) 165 4 (.bool false) 1 Try.underlying165 info_bool rfl .i64 .i64 n (by omega) (by omega) W
  have BW := Lib.hid (show Below w.heap.size w (w.alloc (.cells (madeCells #[.bool false] n) 4)) from (Below.refl _ _).alloc (Nat.le_refl _) _)
  have HR0 := Lib.hid (World.rowIs_made w (.bool false) n 4)
  clear h1 h2 h3 h4 h5 h6 hc hln ok
  go_enter Try.func144, Try.ntmps144
  go_wp2_with fail
  clear hmk
  refine (live_any m g _ (HP.out.below BW.out) HOK.out).mono ?_
  rintro e w1 ⟨v, rfl, ho, hb⟩
  obtain ⟨A, cp, rfl, -⟩ := ho.cells
  have hs1 : w.heap.size + 1 ≤ w1.heap.size := by have := hb.size; simp at this; omega
  have HO := Lib.hid (ho.wide (show w.heap.size + 1 ≤ _ by simp) (Nat.le_refl _))
  have HB1 := Lib.hid (BW.out.trans (hb.mono BW.out.size))
  have HR1 := Lib.hid (rowIs_below HR0.out hb)
  generalize hY : liveL m = Y at *
  have HYE := Lib.hid hY
  generalize hyn : Y.length = N at *
  have HYN := Lib.hid hyn
  clear ho hb hY hyn BW HR0 x0 x1 x2 x3 x4 x5 x6
  go_wp2
  go_loopw [15] (fun i wr => ∃ (k : Nat) (f : Nat → Value), k ≤ N ∧ i = .int .i64 k ∧ wr.rowIs w.heap.size 4 n f ∧ Hid (∀ i, i < n → f i = .bool ((Y.take k).contains (i : Int))) ∧ Hid (Same (w.heap.size + 1) w1.heap.size w1 wr) ∧ Hid (Below w.heap.size w wr)) (fun i _ => N - (intOf i).toNat)
  case atStart => exact ⟨0, _, Nat.zero_le _, rfl, HR1.out, fun i hi => by simp, Same.refl _ _ _, HB1.out⟩
  case round =>
    rename_i wr
    obtain ⟨k, f, hk, rfl, hrow, hf, hsame, hbb⟩ := hrel
    by_cases hlt : k < N
    · have hown := HO.out.same hsame.out
      rw [← HYN.out] at hown
      have hrd := RdI.of_own hown
      rw [HYN.out] at hrd
      obtain ⟨b, off, y, rfl, hb1, hyk, hcy⟩ := hrd.at_ hlt
      obtain ⟨y0, y1⟩ := HRNG.out y (List.mem_of_getElem? hyk)
      obtain ⟨yn, rfl⟩ := Int.eq_ofNat_of_zero_le y0
      have hyn : yn < n := by omega
      have cp := hrow.cell (i := yn) hyn
      rw [hf.out yn hyn] at cp
      have fz := fun i => hrow.frozen i
      have HSE := Lib.hid (seen_set (q := yn) hf.out)
      have HTK := Lib.hid (show Y.take (k + 1) = Y.take k ++ [(yn : Int)] by rw [List.take_add_one, hyk]; rfl)
      have HROW := Lib.hid hrow
      have HB2 := Lib.hid (hbb.out.setCell (p := ⟨w.heap.size, yn, none⟩) (Nat.le_refl _) (.bool true))
      have HS2 := Lib.hid (hsame.out.setCell (p := ⟨w.heap.size, yn, none⟩) (.inl (by simp)) (.bool true))
      clear hrow hyk hown hrd y0
      go_wp2
      exact ⟨⟨k + 1, _, by omega, by go_num, HROW.out.set _ _, by rw [HTK.out]; exact HSE.out, HS2.out, HB2.out⟩, by simp [intOf]; omega⟩
    · have HROW := Lib.hid (rowIs_congr (f' := fun i => .bool (hasB Y (i : Int))) hrow (fun i hi => by
        rw [hf.out i hi, List.take_of_length_le (by have := HYN.out; omega)]; rfl))
      clear hrow
      go_wp2
      go_ret
      exact ⟨rfl, by rw [← HYE.out] at HROW; exact HROW.out, hbb.out⟩


end Go.Proofs.Ytmcalioldphfeaa

/-
  The program's unknitCode on a machine of one's own.
-/
namespace Go.Proofs.Ytmcalioldphfeaa
set_option linter.unusedVariables false
set_option linter.unusedSimpArgs false
open Go.RowKit

/-- What is asked of the needle's list. -/
def st0 (m : Mc) (x : Inf) : Bool := decide ((onL m x.n).getLast? = some ((m.ls.length : Int) - 1)) && (decide (x.k = 2) || decide ((onL m x.n).length ≤ 1))
theorem st0_nil {m : Mc} {x : Inf} (h : (onL m x.n).length = 0) : st0 m x = false := by
  unfold st0
  rw [List.eq_nil_of_length_eq_zero h]
  rfl
theorem st0_of {m : Mc} {x : Inf} {n p : Nat} {y : Int} (hn : m.ls.length = n + 1) (hp : (onL m x.n).length = p + 1) (hy : (onL m x.n)[p]? = some y) : st0 m x = (decide (y = (n : Int)) && (decide (x.k = 2) || decide (p + 1 ≤ 1))) := by
  unfold st0
  rw [List.getLast?_eq_getElem?, hp, Nat.add_sub_cancel, hy, hn]
  congr 1
  simp
theorem stB_st0 (m : Mc) (x : Inf) : stB m x = (st0 m x && ((!decide (x.k = 1) || offB m x.ps) && (!decide (x.k = 5) || holdB m x.n x.ps))) := by
  unfold stB st0
  simp only [Bool.and_assoc]

set_option maxHeartbeats 8000000 in
set_option maxRecDepth 100000 in
theorem unknitCode_any {w : World} {B g : Nat} {m : Mc} {S : Nat → Spot} (h : MSt w B g m S) (hB : B ≤ w.heap.size) (ok : OkP m) :
    Calls Try.prog 102 #[.pointer (some ⟨g, 0, none⟩)] w fun e w' => e = .returned (.int .i64 (unkC m)) ∧ Below w.heap.size w w' := by
  obtain ⟨x0, x1, x2, x3, x4, x5, x6⟩ := h.cells.seven
  by_cases hl0 : m.ls.length = 0
  · have hc := Lib.hid (unk_none hl0)
    obtain ⟨A4, c4, hv4⟩ : ∃ A c, (S 4).v = .slice A m.ls.length c := by
      obtain ⟨xs, e4, hown4⟩ := h.rowL
      exact row_A hown4
    rw [hv4, hl0] at x5
    have HB := Lib.hid (Below.refl w.heap.size w)
    clear h hB ok hv4 hl0
    go_enter Try.func102, Try.ntmps102
    go_wp2
    go_ret
    exact ⟨ret_int hc.out.symm, HB.out⟩
  · obtain ⟨n, hn⟩ : ∃ n, m.ls.length = n + 1 := ⟨m.ls.length - 1, by omega⟩
    obtain ⟨x, hx⟩ : ∃ x, m.ls[n]? = some x := ⟨_, List.getElem?_eq_getElem (by omega)⟩
    have hgl : m.ls.getLast? = some x := by rw [List.getLast?_eq_getElem?, hn]; exact hx
    obtain ⟨lp, -⟩ := ok.last hgl
    obtain ⟨b4, cap4, hv4, hc4, hb4, -, hcl, Ap, cp, hvp⟩ := h.lastL hx
    rw [hvp] at hcl
    rw [hv4, hn] at x5
    obtain ⟨y0, y1, y2, y3, y4, y5⟩ := hcl.six
    have hU0 : UkS w S B g m n (.slice Ap x.ps.length cp) [] w S := ⟨h, Mv.refl w S, hvp, fun p hp => (by cases hp), hB, Nat.le_refl _⟩
    have hU1 := hU0.box [.int .i64 x.k, .int .i64 x.y, .int .i64 x.b, .int .i64 x.p, .int .i64 x.d, .slice Ap x.ps.length cp] 102
    have hU2 := hU1.box [.int .i64 x.b, .int .i64 x.p] 45
    rw [World.size_alloc] at hU2
    have HU2 := Lib.hid hU2
    have HB2 := Lib.hid (((Below.refl w.heap.size w).alloc (Nat.le_refl _) (.cells [.int .i64 x.k, .int .i64 x.y, .int .i64 x.b, .int .i64 x.p, .int .i64 x.d, .slice Ap x.ps.length cp].toArray 102)).alloc (by simp) (.cells [.int .i64 x.b, .int .i64 x.p].toArray 45))
    have HLP := Lib.hid lp
    have HOK := Lib.hid ok
    have HX := Lib.hid hx
    have HGL := Lib.hid hgl
    have HN := Lib.hid hn
    obtain ⟨bh, ch, Lh, hvh, hlth, -, -, -, -, -⟩ := hU2.ms.nd2 lp.n
    have HVH := Lib.hid hvh
    have HQ := Lib.hid (on_mst hU2.ms x.n lp.n bh ch Lh hvh hlth)
    have hn4 : n + 1 ≤ cap4 := by omega
    have h300 : (n : Int) ≤ 300 := by have := ok.ls; omega
    clear h ok hl0 hx hgl lp hv4 hc4 hvp hU0 hU1 hU2 hcl hn hvh hlth
    go_enter Try.func102, Try.ntmps102
    go_wp2_with fail
    refine (HQ.out).mono ?_
    rintro e w1 ⟨rfl, hb1⟩
    have HU3 := Lib.hid (HU2.out.below hb1)
    have HB3 := Lib.hid (HB2.out.trans (hb1.mono HB2.out.size))
    clear HQ HU2 HB2 hb1 y0 y1 y2 y3 y4 y5 x0 x1 x2 x3 x4 x5 x6
    obtain ⟨hrd, ⟨Al, cl, hvl, hlc⟩, hown⟩ := HU3.out.ms.onR HLP.out.n
    obtain ⟨bh', ch', Lh', hvh', -, -, -, -, hcell, -⟩ := HU3.out.ms.nd2 HLP.out.n
    rw [HVH.out] at hvh'
    injection hvh' with e1 e2 e3
    injection e1 with e1
    injection e1 with e1 _
    subst e1
    rw [hvl] at hown hcell
    have HV := Lib.hid hvl
    have HOW := Lib.hid hown
    have hcell' : w1.cell? ⟨bh, x.p.toNat, none⟩ = some (.slice Al (onL m x.n).length cl) := hcell
    clear hrd hvl hown hcell e2 e3
    go_upto_region 7 with fail
    clear hcell'
    go_cut [58] (fun s58 wx => ∃ (q : Bool), w1 = wx ∧ s58 = .bool q ∧ Hid (q = !st0 m x))
    case first =>
      obtain ⟨z0, z1, z2, z3, z4, z5⟩ := CellsAt.six HU3.out.k1.1.1
      by_cases hL0 : (onL m x.n).length = 0
      · have HST := Lib.hid (st0_nil hL0)
        have hL0' : (((onL m x.n).length : Int) == 0) = true := by rw [hL0]; rfl
        clear hL0
        go_wp2
        go_meet
        case rel => exact ⟨true, rfl, rfl, by rw [HST.out]; rfl⟩
      · obtain ⟨p, hp⟩ : ∃ p, (onL m x.n).length = p + 1 := ⟨(onL m x.n).length - 1, by omega⟩
        obtain ⟨y, hy⟩ : ∃ y, (onL m x.n)[p]? = some y := ⟨_, List.getElem?_eq_getElem (by omega)⟩
        have HST := Lib.hid (st0_of HN.out hp hy)
        have hown := HOW.out
        obtain ⟨bl, capl, hvl2, -, -, -, -⟩ := row_slice hown (by omega)
        injection hvl2 with e1 _ e3
        subst e1 e3
        have hcy := (own_cellx hown (i := p) (u := .int .i64 y) (by unfold vI; rw [List.getElem?_map, hy]; rfl)).1
        have hL0' : (((onL m x.n).length : Int) == 0) = false := by simpa using hL0
        have hpi : ((onL m x.n).length : Int) - 1 = (p : Int) := by omega
        have hpl : p < (onL m x.n).length := by omega
        have hpl' : (p : Int) < ((onL m x.n).length : Int) := by omega
        have hl5 := HOK.out.on4 x.n
        have HP := Lib.hid hp
        clear hp hy hL0 hown
        by_cases hyn : y = (n : Int)
        · have hyn' : (y != (n : Int)) = false := by simpa using hyn
          have hyd : decide (y = (n : Int)) = true := by simpa using hyn
          rw [hyd, Bool.true_and] at HST
          clear hyn hyd
          by_cases h1 : 1 < (onL m x.n).length
          · have h1' : (1 : Int) < ((onL m x.n).length : Int) := by omega
            have hd1 : decide (p + 1 ≤ 1) = false := by have := HP.out; simp; omega
            rw [hd1, Bool.or_false] at HST
            clear h1 hd1
            rcases HLP.out.k with hk | hk | hk
            · rw [hk] at HST z0
              have HS2 := Lib.hid (show st0 m x = false from HST.out)
              clear HST hk
              go_wp2
              go_meet
              case rel => exact ⟨true, rfl, rfl, by rw [HS2.out]; rfl⟩
            · rw [hk] at HST z0
              have HS2 := Lib.hid (show st0 m x = true from HST.out)
              clear HST hk
              go_wp2
              go_meet
              case rel => exact ⟨false, rfl, rfl, by rw [HS2.out]; rfl⟩
            · rw [hk] at HST z0
              have HS2 := Lib.hid (show st0 m x = false from HST.out)
              clear HST hk
              go_wp2
              go_meet
              case rel => exact ⟨true, rfl, rfl, by rw [HS2.out]; rfl⟩
          · have h1' : ¬ (1 : Int) < ((onL m x.n).length : Int) := by omega
            have hd1 : decide (p + 1 ≤ 1) = true := by have := HP.out; simp; omega
            rw [hd1, Bool.or_true] at HST
            clear h1 hd1
            rcases HLP.out.k with hk | hk | hk
            · rw [hk] at z0
              clear hk
              go_wp2
              go_meet
              case rel => exact ⟨false, rfl, rfl, by rw [HST.out]; rfl⟩
            · rw [hk] at z0
              clear hk
              go_wp2
              go_meet
              case rel => exact ⟨false, rfl, rfl, by rw [HST.out]; rfl⟩
            · rw [hk] at z0
              clear hk
              go_wp2
              go_meet
              case rel => exact ⟨false, rfl, rfl, by rw [HST.out]; rfl⟩
        · have hyn' : (y != (n : Int)) = true := by simpa using hyn
          have hyd : decide (y = (n : Int)) = false := by simpa using hyn
          rw [hyd, Bool.false_and] at HST
          clear hyn hyd
          go_wp2
          go_meet
          case rel => exact ⟨true, rfl, rfl, by rw [HST.out]; rfl⟩
    case rest =>
      obtain ⟨q, rfl, rfl, hq⟩ := hcut
      cases q
      case true =>
        have hst : st0 m x = false := by have := hq.out; revert this; cases st0 m x <;> simp
        have hc := Lib.hid (unk_bad HGL.out (by rw [stB_st0, hst]; rfl))
        clear hst hq
        go_wp2
        go_ret
        exact ⟨ret_int hc.out.symm, HB3.out⟩
      case false =>
        have hst : st0 m x = true := by have := hq.out; revert this; cases st0 m x <;> simp
        have HSB := Lib.hid (show stB m x = ((!decide (x.k = 1) || offB m x.ps) && (!decide (x.k = 5) || holdB m x.n x.ps)) by rw [stB_st0, hst, Bool.true_and])
        clear hst hq
        obtain ⟨z0, z1, z2, z3, z4, z5⟩ := CellsAt.six HU3.out.k1.1.1
        go_upto_if 61 with fail
        go_cut [] (fun wx => ∃ wy : World, wy = wx ∧ (x.k = 1 → offB m x.ps = true) ∧ Hid (UkS w S B g m n (.slice Ap x.ps.length cp) [(w.heap.size + 1, [.int .i64 x.b, .int .i64 x.p]), (w.heap.size, [.int .i64 x.k, .int .i64 x.y, .int .i64 x.b, .int .i64 x.p, .int .i64 x.d, .slice Ap x.ps.length cp])] wx S) ∧ Hid (Below w.heap.size w wx))
        case first =>
          by_cases hk1 : x.k = 1
          · have hk1' : (x.k == 1) = true := by simpa using hk1
            have HK1 := Lib.hid hk1
            have HQL := Lib.hid (isLive_any m g w1 HU3.out.ms.rd (okM_iff.2 HOK.out))
            clear hk1
            go_wp2_with fail
            refine (HQL.out).mono ?_
            rintro e w2 ⟨rfl, hrow, hb2⟩
            have HU4 := Lib.hid (HU3.out.below hb2)
            have HB4 := Lib.hid (HB3.out.trans (hb2.mono HB3.out.size))
            have HROW := Lib.hid hrow
            have hln := HN.out
            have hps4 := HLP.out.len
            clear hb2 hrow HQL z0 z1 z2 z3 z4 z5 HU3 HB3
            obtain ⟨z0, z1, z2, z3, z4, z5⟩ := CellsAt.six HU4.out.k1.1.1
            go_wp2
            clear z0 z1 z2 z3 z4 z5
            go_loopw [67] (fun i wr => ∃ (k : Nat) (wq : World), wq = wr ∧ k ≤ x.ps.length ∧ i = .int .i64 k ∧ Hid (offB m x.ps = offB m (x.ps.drop k)) ∧ Hid (UkS w S B g m n (.slice Ap x.ps.length cp) [(w.heap.size + 1, [.int .i64 x.b, .int .i64 x.p]), (w.heap.size, [.int .i64 x.k, .int .i64 x.y, .int .i64 x.b, .int .i64 x.p, .int .i64 x.d, .slice Ap x.ps.length cp])] wq S) ∧ Hid (Below w2.heap.size w2 wq)) (fun i _ => x.ps.length - (intOf i).toNat)
            case atStart => exact ⟨0, _, rfl, Nat.zero_le _, rfl, rfl, HU4.out, Below.refl _ _⟩
            case round =>
              obtain ⟨k, wq, hwq, hk, rfl, hoff, HUq, HBq⟩ := hrel
              subst hwq
              have HBW := Lib.hid (HB4.out.trans (HBq.out.mono HB4.out.size))
              by_cases hlt : k < x.ps.length
              · obtain ⟨b, off, y, hAp, hbb, hlk, hcy⟩ := (HUq.out.ps HX.out).1.at_ hlt
                subst hAp
                obtain ⟨hy0, hy1⟩ := HLP.out.lt y (List.mem_of_getElem? hlk)
                obtain ⟨yn, rfl⟩ := Int.eq_ofNat_of_zero_le hy0
                have hrow := rowIs_below HROW.out HBq.out
                have hcl := hrow.cell (i := yn) (by omega)
                obtain ⟨x0, x1, x2, x3, x4, x5, x6⟩ := HUq.out.ms.cells.seven
                obtain ⟨AD, cD, hvD⟩ := row_A (spI_own (HUq.out.ms.sp.own 5) HUq.out.ms.dr)
                have hrdD := (spI_rd (HUq.out.ms.sp.own 5) HUq.out.ms.dr).1
                rw [hvD] at x6 hrdD
                have HQD := Lib.hid (containsI_any _ m.dr (yn : Int) wq hrdD)
                have hyl : (yn : Int) < (m.ls.length : Int) := by omega
                have HOFF := Lib.hid hoff.out
                have HLK := Lib.hid hlk
                have hyln : yn < m.ls.length := by omega
                clear hoff hlk hrow hrdD hvD hy1
                cases hl : hasB (liveL m) (yn : Int)
                · rw [hl] at hcl
                  have HL := Lib.hid (show (liveL m).contains (yn : Int) = false from hl)
                  clear hl
                  go_wp2_with fail
                  refine (HQD.out).mono ?_
                  rintro e w3 ⟨rfl, hb3⟩
                  have HU5 := Lib.hid (HUq.out.below hb3)
                  have HB5 := Lib.hid (HBq.out.trans (hb3.mono HBq.out.size))
                  have HBW5 := Lib.hid (HBW.out.trans (hb3.mono HBW.out.size))
                  clear hb3 HQD hcl x0 x1 x2 x3 x4 x5 x6 hcy
                  cases hd : m.dr.contains (yn : Int)
                  · have HNX := Lib.hid (off_yes HOFF.out HLK.out HL.out hd)
                    clear hd
                    go_wp2
                    exact ⟨⟨k + 1, _, rfl, by omega, by go_num, HNX.out, HU5.out, HB5.out⟩, by simp [intOf]; omega⟩
                  · have HNO := off_no HOFF.out HLK.out (.inr hd)
                    have hc := Lib.hid (unk_bad HGL.out (by rw [HSB.out, HK1.out, HNO]; rfl))
                    clear hd HNO
                    go_wp2
                    go_ret
                    exact ⟨ret_int hc.out.symm, HBW5.out⟩
                · rw [hl] at hcl
                  have HNO := off_no HOFF.out HLK.out (.inl (show (liveL m).contains (yn : Int) = true from hl))
                  have hc := Lib.hid (unk_bad HGL.out (by rw [HSB.out, HK1.out, HNO]; rfl))
                  clear hl HNO
                  go_wp2
                  go_ret
                  exact ⟨ret_int hc.out.symm, HBW.out⟩
              · have HYES := Lib.hid (show offB m x.ps = true by rw [hoff.out, List.drop_of_length_le (by omega)]; rfl)
                clear hoff
                go_wp2
                go_meet
                case rel => exact ⟨_, rfl, fun _ => HYES.out, HUq.out, HBW.out⟩
          · have hk1' : (x.k == 1) = false := by simpa using hk1
            have HK1 := Lib.hid hk1
            clear hk1
            go_wp2
            go_meet
            case rel => exact ⟨_, rfl, fun h => absurd h HK1.out, HU3.out, HB3.out⟩
        case rest =>
          obtain ⟨w4, rfl, hoff, HU4, HB4⟩ := hcut
          have HOFF := Lib.hid hoff
          clear hoff z0 z1 z2 z3 z4 z5 HU3 HB3
          obtain ⟨z0, z1, z2, z3, z4, z5⟩ := CellsAt.six HU4.out.k1.1.1
          obtain ⟨v0, v1⟩ := HU4.out.k0.1.two
          go_upto_region 17 with fail
          go_cut [94] (fun s94 wx => ∃ (q : Bool) (wy : World), wy = wx ∧ s94 = .bool q ∧ Hid (q = (decide (x.k = 5) && !holdB m x.n x.ps)) ∧ Hid (UkS w S B g m n (.slice Ap x.ps.length cp) [(w.heap.size + 1, [.int .i64 x.b, .int .i64 x.p]), (w.heap.size, [.int .i64 x.k, .int .i64 x.y, .int .i64 x.b, .int .i64 x.p, .int .i64 x.d, .slice Ap x.ps.length cp])] wx S) ∧ Hid (Below w.heap.size w wx))
          case first =>
            by_cases hk5 : x.k = 5
            · have HK5 := Lib.hid hk5
              have hwd := HOK.out.wd
              have hp1 := HLP.out.p1
              have HQH := Lib.hid (holdsParents_any HU4.out.ms HOK.out x.n HLP.out.b HLP.out.p0 (show x.p ≤ 100 by omega) _ x.ps (HU4.out.ps HX.out).1 HLP.out.len)
              rw [hk5] at z0
              clear hk5 hwd hp1
              go_wp2_with fail
              refine (HQH.out).mono ?_
              rintro e w5 ⟨rfl, hb5⟩
              have HU5 := Lib.hid (HU4.out.below hb5)
              have HB5 := Lib.hid (HB4.out.trans (hb5.mono HB4.out.size))
              clear hb5 HQH z0 z1 z2 z3 z4 z5 v0 v1
              generalize holdB m x.n x.ps = hb at *
              go_wp2
              go_meet
              case rel => exact ⟨!hb, _, rfl, rfl, by rw [HK5.out]; rfl, HU5.out, HB5.out⟩
            · have hk5' : (x.k == 5) = false := by simpa using hk5
              have HK5 := Lib.hid (show decide (x.k = 5) = false by simpa using hk5)
              clear hk5
              go_wp2
              go_meet
              case rel => exact ⟨false, _, rfl, rfl, by rw [HK5.out]; rfl, HU4.out, HB4.out⟩
          case rest =>
            obtain ⟨q, w5, rfl, rfl, hq, HU5, HB5⟩ := hcut
            clear z0 z1 z2 z3 z4 z5 v0 v1
            cases q
            case true =>
              have hq' := hq.out.symm
              rw [Bool.and_eq_true] at hq'
              have hc := Lib.hid (unk_bad HGL.out (by rw [HSB.out, hq'.1, show holdB m x.n x.ps = false by simpa using hq'.2]; simp))
              clear hq hq'
              go_wp2
              go_ret
              exact ⟨ret_int hc.out.symm, HB5.out⟩
            case false =>
              have HSB2 : Hid (stB m x = true) := by
                unfold Hid
                rw [HSB.out]
                have hq' := hq.out.symm
                have h1 : (!decide (x.k = 5) || holdB m x.n x.ps) = true := by
                  revert hq'
                  cases decide (x.k = 5) <;> cases holdB m x.n x.ps <;> simp
                rw [h1, Bool.and_true]
                by_cases hk1 : x.k = 1
                · rw [HOFF.out hk1, Bool.or_true]
                · simp [hk1]
              clear hq
              obtain ⟨j, hyj⟩ : ∃ j : Nat, x.y - 1 = (j : Int) := ⟨(x.y - 1).toNat, by have := HLP.out.y; omega⟩
              have hyt : (x.y - 1).toNat = j := by omega
              obtain ⟨y1, y4⟩ := HLP.out.y
              have hcs := HOK.out.cs
              have hjl : (j : Int) < 4 := by omega
              have hj0 : (0 : Int) ≤ (j : Int) := by omega
              obtain ⟨bc, cpc, hvc, hblc, -, hbwc, hoc, hc0, hc1, hfc⟩ := HU5.out.ms.cars x.y y1 (by omega)
              rw [hyt] at hc0 hc1
              rw [hcs] at hvc
              have hx4 : w5.cell? ⟨g, 4, none⟩ = some (S 3).v := HU5.out.ms.cells.seven.2.2.2.2.1
              rw [hvc] at hx4
              obtain ⟨z0, z1, z2, z3, z4, z5⟩ := CellsAt.six HU5.out.k1.1.1
              have hal : ∀ (p : Addr) (v : Value), w5.cell? p = some v → ∀ o, (w5.alloc o).cell? p = some v := fun p v hp o => (((Below.refl w5.heap.size w5).alloc (Nat.le_refl _) o).cell (p := p) (block_lt_of_cell hp)).trans hp
              have hx4b := hal _ _ hx4
              have z1b := hal _ _ z1
              have hc0b := hal _ _ hc0
              have hc1b := hal _ _ hc1
              have hUB := HU5.out.box [.bool (carAt m x.y).i, .int .i64 (carAt m x.y).p] 52
              have HUB := Lib.hid hUB.drew
              have HBB := Lib.hid ((HB5.out.alloc HB5.out.size (.cells [.bool (carAt m x.y).i, .int .i64 (carAt m x.y).p].toArray 52)).drew)
              have hwy : IntKind.i64.wrap (x.y - 1) = (j : Int) := by rw [hyj]; exact wrap_sm (by omega) (by omega)
              have HCR := Lib.hid (show crB m x = ((carAt m x.y).i && decide ((carAt m x.y).p = ukTo m x)) from rfl)
              generalize (carAt m x.y).p = pp at *
              generalize (carAt m x.y).i = ci at *
              clear hal hUB hcs hvc hblc hbwc hoc hfc
              go_wp2
              go_region
              generalize (w5.alloc (.cells #[.bool ci, .int .i64 pp] 52)).drew = w6 at *
              clear hx4 hx4b z0 z1 z2 z3 z4 z5 z1b hc0 hc1 hc0b hc1b hwy
              obtain ⟨r0, r1⟩ := HOK.out.rk
              have p0 := HLP.out.p0
              have p1 := HLP.out.p1
              have hwd := HOK.out.wd
              have x1 : ∀ X, (wgrow w6 X).cell? ⟨g, 0 + 1, none⟩ = some (.int .i64 m.rk) := fun X => HUB.out.ms.cells.grow X 1 _ rfl
              obtain ⟨u0, u1⟩ := CellsAt.grow2 HUB.out.k0.1.1
              obtain ⟨v0, v1⟩ := CellsAt.grow2 HUB.out.k1.1.1
              obtain ⟨-, -, -, -, z4, -⟩ := CellsAt.grow6 HUB.out.k2.1.1
              have HQP := Lib.hid (fun X => place_any x.b x.p m.rk (by omega) (by omega) (by omega) (by omega) X)
              have hPb : -100 ≤ plc x.b x.p m.rk ∧ plc x.b x.p m.rk ≤ 100 := by unfold plc; split <;> omega
              have hTO : ukTo m x = plc x.b x.p m.rk + (if x.d = -1 then 0 else 1) := rfl
              generalize plc x.b x.p m.rk = P at *
              obtain ⟨P0, P1⟩ := hPb
              clear p0 p1 hwd r0 r1
              cases ci
              · have hc := Lib.hid (unk_car HGL.out HSB2.out (by rw [HCR.out]; rfl))
                go_wp2
                refine wp_region_grow (by kernel_rfl) (by kernel_rfl) ?_
                repeat (go_big_quiet_step (fail))
                refine wpQuiet_nil ?_
                intro w7 hb7
                have HB7 := Lib.hid (HBB.out.trans (hb7.mono HBB.out.size))
                clear hb7 x1 v0 v1 u0 u1 z4 HQP
                go_wp2
                go_ret
                exact ⟨ret_int hc.out.symm, HB7.out⟩
              · rcases HLP.out.d with hd | hd
                · have HTO := Lib.hid (show ukTo m x = P + 1 by rw [hTO, if_neg (by omega)])
                  rw [hd] at z4
                  clear hd hTO
                  by_cases hpp : pp = P + 1
                  · subst hpp
                    have hc := Lib.hid (unk_ok HGL.out HSB2.out (by rw [HCR.out, HTO.out]; simp))
                    have hnn : ((P + 1) != (P + 1)) = false := by simp
                    go_wp2
                    refine wp_region_grow (by kernel_rfl) (by kernel_rfl) ?_
                    repeat (go_big_quiet_step ((go_at_call 105; exact calls_grow (HQP.out _))))
                    refine wpQuiet_nil ?_
                    intro w7 hb7
                    have HB7 := Lib.hid (HBB.out.trans (hb7.mono HBB.out.size))
                    clear hb7 x1 v0 v1 u0 u1 z4 HQP
                    go_wp2
                    go_ret
                    exact ⟨ret_int hc.out.symm, HB7.out⟩
                  · have hc := Lib.hid (unk_car HGL.out HSB2.out (by rw [HCR.out, HTO.out]; simpa using hpp))
                    have hnn : (pp != (P + 1)) = true := by simpa using hpp
                    clear hpp
                    go_wp2
                    refine wp_region_grow (by kernel_rfl) (by kernel_rfl) ?_
                    repeat (go_big_quiet_step ((go_at_call 105; exact calls_grow (HQP.out _))))
                    refine wpQuiet_nil ?_
                    intro w7 hb7
                    have HB7 := Lib.hid (HBB.out.trans (hb7.mono HBB.out.size))
                    clear hb7 x1 v0 v1 u0 u1 z4 HQP
                    go_wp2
                    go_ret
                    exact ⟨ret_int hc.out.symm, HB7.out⟩
                · have HTO := Lib.hid (show ukTo m x = P by rw [hTO, if_pos hd]; omega)
                  rw [hd] at z4
                  clear hd hTO
                  by_cases hpp : pp = P
                  · subst hpp
                    have hc := Lib.hid (unk_ok HGL.out HSB2.out (by rw [HCR.out, HTO.out]; simp))
                    have hnn : (pp != pp) = false := by simp
                    go_wp2
                    refine wp_region_grow (by kernel_rfl) (by kernel_rfl) ?_
                    repeat (go_big_quiet_step ((go_at_call 105; exact calls_grow (HQP.out _))))
                    refine wpQuiet_nil ?_
                    intro w7 hb7
                    have HB7 := Lib.hid (HBB.out.trans (hb7.mono HBB.out.size))
                    clear hb7 x1 v0 v1 u0 u1 z4 HQP
                    go_wp2
                    go_ret
                    exact ⟨ret_int hc.out.symm, HB7.out⟩
                  · have hc := Lib.hid (unk_car HGL.out HSB2.out (by rw [HCR.out, HTO.out]; simpa using hpp))
                    have hnn : (pp != P) = true := by simpa using hpp
                    clear hpp
                    go_wp2
                    refine wp_region_grow (by kernel_rfl) (by kernel_rfl) ?_
                    repeat (go_big_quiet_step ((go_at_call 105; exact calls_grow (HQP.out _))))
                    refine wpQuiet_nil ?_
                    intro w7 hb7
                    have HB7 := Lib.hid (HBB.out.trans (hb7.mono HBB.out.size))
                    clear hb7 x1 v0 v1 u0 u1 z4 HQP
                    go_wp2
                    go_ret
                    exact ⟨ret_int hc.out.symm, HB7.out⟩

end Go.Proofs.Ytmcalioldphfeaa

/-
  The program's unknit on a machine of its own.
-/
namespace Go.Proofs.Ytmcalioldphfeaa
set_option linter.unusedVariables false
set_option linter.unusedSimpArgs false
open Go.RowKit

theorem unk_zero {m : Mc} (h : unkC m = 0) : ∃ x, m.ls.getLast? = some x ∧ stB m x = true ∧ crB m x = true := by
  unfold unkC at h
  cases hx : m.ls.getLast? with
  | none => rw [hx] at h; cases h
  | some x =>
    rw [hx] at h
    refine ⟨x, rfl, ?_, ?_⟩
    · cases hs : stB m x
      · simp [hs] at h
      · rfl
    · cases hs : crB m x
      · simp [hs] at h; split at h <;> cases h
      · rfl
/-- The lists behind the needle's own. -/
def unkA (m : Mc) (x : Inf) : Mc := if x.k = 2 then setL m x.n (onL m x.n).dropLast else setL m x.n x.ps
theorem unkL_A {m : Mc} {x : Inf} (hb : x.b = 1 ∨ x.b = 2) : unkL m x = if x.k = 5 then setL (unkA m x) (fcN m x.n) (ukRest m x.n x.ps) else unkA m x := by
  unfold unkA
  by_cases h5 : x.k = 5
  · rw [if_pos h5, unkL_split hb h5, if_neg (by omega)]
  · rw [if_neg h5]
    unfold unkL
    by_cases h2 : x.k = 2
    · rw [if_pos h2, if_pos h2]
    · rw [if_neg h2, if_neg h5, if_neg h2]
theorem unkA_ls (m : Mc) (x : Inf) : (unkA m x).ls = m.ls := by unfold unkA; split <;> exact setL_ls _ _ _
theorem onL_setL_oth {m : Mc} {n n' : Int × Int} (l : List Int) (h1 : n.1 = 1 ∨ n.1 = 2) (h2 : n'.1 = 1 ∨ n'.1 = 2) (h : n'.1 ≠ n.1) : onL (setL m n l) n' = onL m n' := by
  unfold onL setL
  rcases h1 with h1 | h1 <;> rcases h2 with h2 | h2
  · omega
  · rw [if_neg (show ¬ n.1 = 2 by omega), if_pos h2, if_pos h2]
  · rw [if_pos h1, if_neg (show ¬ n'.1 = 2 by omega), if_neg (show ¬ n'.1 = 2 by omega)]
  · omega
theorem unkA_on {m : Mc} {x : Inf} {n' : Int × Int} (h1 : x.b = 1 ∨ x.b = 2) (h2 : n'.1 = 1 ∨ n'.1 = 2) (h : n'.1 ≠ x.b) : onL (unkA m x) n' = onL m n' := by
  unfold unkA
  split <;> exact onL_setL_oth _ h1 h2 h
theorem unkA_rk (m : Mc) (x : Inf) : (unkA m x).rk = m.rk := by unfold unkA setL; split <;> split <;> rfl
theorem unkA_wd (m : Mc) (x : Inf) : (unkA m x).wd = m.wd := by unfold unkA setL; split <;> split <;> rfl
theorem unkA_cs (m : Mc) (x : Inf) : (unkA m x).cs = m.cs := by unfold unkA setL; split <;> split <;> rfl
theorem unkA_fc (m : Mc) (x : Inf) (n : Int × Int) : fcN (unkA m x) n = fcN m n := by unfold fcN; rw [unkA_rk]
theorem unkA_fi (m : Mc) (x : Inf) (n : Int × Int) : fcIn (unkA m x) n = fcIn m n := by unfold fcIn; rw [unkA_fc, unkA_wd]
theorem unkA_nd {m : Mc} {x : Inf} {n' : Int × Int} (h : ndIn m n') : ndIn (unkA m x) n' := by unfold unkA; split <;> exact ndIn_set _ h

theorem own_cutg {w : World} {B E sz n k cap : Nat} {A : Option Addr} {xs : List Value} (h : w.ownsRow B E sz (.slice A n cap) n xs) (hk : k ≤ n) : w.ownsRow B E sz (.slice A k cap) k (xs.take (k * sz)) ∧ (Value.slice A k cap).ownBlock = (Value.slice A n cap).ownBlock := by
  rcases h.2 with ⟨e, hn⟩ | ⟨g, cap', cur, e, hb, hh, h1, h2, h3, h4⟩
  · injection e with e1 e2 e3
    subst e1 e3 hn
    obtain rfl : k = 0 := by omega
    have h5 : xs = [] := by have := h.1; simpa using this
    subst h5
    exact ⟨by rw [List.take_nil]; exact World.ownsRow_nil _ _ _ _, rfl⟩
  · injection e with e1 e2 e3
    subst e1 e3
    exact ⟨own_cut h hk, rfl⟩
theorem unkL_rk (m : Mc) (x : Inf) : (unkL m x).rk = m.rk := by unfold unkL setL; repeat (first | rfl | split)
theorem unkL_cs (m : Mc) (x : Inf) : (unkL m x).cs = m.cs := by unfold unkL setL; repeat (first | rfl | split)
theorem unkL_ls (m : Mc) (x : Inf) : (unkL m x).ls = m.ls := by unfold unkL setL; repeat (first | rfl | split)
theorem UkS.tl {w0 wx : World} {S0 S : Nat → Spot} {B g Q : Nat} {m : Mc} {vp : Value} {p : Nat × List Value} {L : List (Nat × List Value)} (h : UkS w0 S0 B g m Q vp (p :: L) wx S) : UkS w0 S0 B g m Q vp L wx S :=
  ⟨h.ms, h.mv, h.vp, fun q hq => h.bx q (List.mem_cons_of_mem _ hq), h.lo⟩

@[go_sem] def ldUk : Oper := { dst := some 74, op := Op.load 25 (Operand.tmp 73), type := 25, pos := "l12_unravel.go:172", after := #[{ on := 2, ground := Ground.data }], guard := none }
set_option maxHeartbeats 8000000 in
set_option maxRecDepth 100000 in
theorem unknit_any {w : World} {B g : Nat} {m : Mc} {S : Nat → Spot} (h : MSt w B g m S) (hB : B ≤ w.heap.size) (ok : OkP m) :
    Calls Try.prog 46 #[.pointer (some ⟨g, 0, none⟩)] w (DidC w S B g (unkC m) (unkM m)) := by
  have HQC := Lib.hid (unknitCode_any h hB ok)
  by_cases h0 : unkC m = 0
  · obtain ⟨x, hgl, hst, hcr⟩ := unk_zero h0
    obtain ⟨lp, hpos⟩ := ok.last hgl
    obtain ⟨n, hn⟩ : ∃ n, m.ls.length = n + 1 := ⟨m.ls.length - 1, by omega⟩
    have hx : m.ls[n]? = some x := by rw [List.getLast?_eq_getElem?, hn] at hgl; exact hgl
    have H0 := Lib.hid h0
    have HLATE := Lib.hid (unkM_late hgl)
    have HM := Lib.hid h
    rw [h0] at HQC ⊢
    clear h0
    have HLP := Lib.hid lp
    have HOK := Lib.hid ok
    have HX := Lib.hid hx
    have HGL := Lib.hid hgl
    have HN := Lib.hid hn
    have HST := Lib.hid hst
    have h300 : (n : Int) ≤ 300 := by have := ok.ls; omega
    clear h ok hgl hx hst hcr lp hn hpos
    go_enter Try.func46, Try.ntmps46
    go_wp2_with fail
    refine (HQC.out).mono ?_
    rintro e w1 ⟨rfl, hb1⟩
    have hM1 := HM.out.below hb1
    have HMV1 := Lib.hid (Mv.of_below (S := S) hb1)
    have hBw1 := Nat.le_trans hB hb1.size
    have hsw1 := hb1.size
    obtain ⟨x0, x1, x2, x3, x4, x5, x6⟩ := hM1.cells.seven
    obtain ⟨b4, cap4, hv4, hc4, hb4, -, hcl, Ap, cp, hvp⟩ := hM1.lastL HX.out
    rw [hvp] at hcl
    rw [hv4, HN.out] at x5
    obtain ⟨y0, y1, y2, y3, y4, y5⟩ := hcl.six
    have hU1 : UkS w S B g m n (.slice Ap x.ps.length cp) [] w1 S := ⟨hM1, HMV1.out, hvp, fun p hp => (by cases hp), hB, hsw1⟩
    have hU2 := hU1.box [.int .i64 x.k, .int .i64 x.y, .int .i64 x.b, .int .i64 x.p, .int .i64 x.d, .slice Ap x.ps.length cp] 102
    have hU3 := hU2.box [.int .i64 x.b, .int .i64 x.p] 45
    rw [World.size_alloc] at hU3
    have HU3 := Lib.hid hU3
    obtain ⟨bh, ch, Lh, hvh, hlth, hblh, hbh, -, -, -⟩ := hU3.ms.nd2 HLP.out.n
    have HVH := Lib.hid hvh
    have HQ := Lib.hid (on_mst hU3.ms x.n HLP.out.n bh ch Lh hvh hlth)
    have hn4 : n + 1 ≤ cap4 := by have := HN.out; omega
    have hbn1 : bh ≠ w1.heap.size := fun e => hU3.k1.2 (by rw [← e]; exact hblh)
    have hbn2 : bh ≠ w1.heap.size + 1 := fun e => hU3.k0.2 (by rw [← e]; exact hblh)
    clear hM1 hv4 hc4 hvp hU1 hU2 hU3 hcl hvh hlth hb1 HQC HM hblh
    go_wp2_with fail
    refine (HQ.out).mono ?_
    rintro e w2 ⟨rfl, hb2⟩
    have HU4 := Lib.hid (HU3.out.below hb2)
    clear HQ HU3 hb2 y0 y1 y2 y3 y4 y5 x0 x1 x2 x3 x4 x5 x6
    obtain ⟨hrd, ⟨Al, cl, hvl, hlc⟩, hown⟩ := HU4.out.ms.onR HLP.out.n
    obtain ⟨bh', ch', Lh', hvh', -, hblh, hbh2, -, hcell, hfrh, hspi, hset⟩ := HU4.out.ms.nd2 HLP.out.n
    rw [HVH.out] at hvh'
    injection hvh' with e1 e2 e3
    injection e1 with e1
    injection e1 with e1 _
    subst e1
    rw [hvl] at hown hcell
    have HV := Lib.hid hvl
    have HOW := Lib.hid hown
    have HSET := Lib.hid hset
    have hcell' : w2.cell? ⟨bh, x.p.toNat, none⟩ = some (.slice Al (onL m x.n).length cl) := hcell
    have hff := hfrh x.p.toNat
    clear hrd hvl hown hcell e2 e3 hspi hset hfrh
    obtain ⟨z0, z1, z2, z3, z4, z5⟩ := CellsAt.six HU4.out.k1.1.1
    go_upto_if 39 with fail
    go_cut [] (fun wx => ∃ (wy : World) (Sx : Nat → Spot), wy = wx ∧ Hid (UkS w S B g (unkA m x) n (.slice Ap x.ps.length cp) [(w1.heap.size + 1, [.int .i64 x.b, .int .i64 x.p]), (w1.heap.size, [.int .i64 x.k, .int .i64 x.y, .int .i64 x.b, .int .i64 x.p, .int .i64 x.d, .slice Ap x.ps.length cp])] wx Sx) ∧ w1.heap.size + 1 < wx.heap.size)
    case first =>
      by_cases hk2 : x.k = 2
      · obtain ⟨p, hp⟩ : ∃ p, (onL m x.n).length = p + 1 := by
          rcases Nat.eq_zero_or_pos (onL m x.n).length with e | e
          · have h1 := HST.out
            rw [stB_st0, st0_nil e] at h1
            cases h1
          · exact ⟨(onL m x.n).length - 1, by omega⟩
        have hdl : (onL m x.n).dropLast = (onL m x.n).take p := by rw [List.dropLast_eq_take, hp]; rfl
        have HA := Lib.hid (show unkA m x = setL m x.n ((onL m x.n).take p) by unfold unkA; rw [if_pos hk2, hdl])
        have hown := HOW.out
        obtain ⟨bl, capl, hvl2, -, -, hcapl, hobl⟩ := row_slice hown (by omega)
        injection hvl2 with e1 _ e3
        subst e1 e3
        have hcut := own_cut hown (k := p) (by omega)
        have hvI : (vI (onL m x.n)).take (p * 1) = vI ((onL m x.n).take p) := by unfold vI; rw [List.map_take, Nat.mul_one]
        have hln : ((onL m x.n).take p).length = p := by rw [List.length_take]; omega
        rw [hvI] at hcut
        have hsp := HU4.out.ms.sp.put (iN x.n) (spI (.slice (some ⟨bl, 0, none⟩) p cl) ((onL m x.n).take p)) (by show w2.ownsRow B 2 1 (.slice (some ⟨bl, 0, none⟩) p cl) ((onL m x.n).take p).length (vI ((onL m x.n).take p)); rw [hln]; exact hcut) (fun q hq => .inl (by rw [HV.out]; exact hq))
        obtain ⟨S9, hm9, hv9, hs9, -⟩ := HSET.out w2 ((onL m x.n).take p) (.slice (some ⟨bl, 0, none⟩) p cl) hsp
        have hbl : blk S bl := ⟨iN x.n, by rw [HV.out]; rfl⟩
        have HUZ := Lib.hid (HU4.out.set hm9 (hv9 _ _ (Mv.refl _ _)) hs9 (by unfold iN iF iB iP; split <;> omega) (fun q hq => by
          have hq' : bl = q := by injection hq
          subst hq'
          exact ⟨.inl hbl, fun r hr e => (HU4.out.bx r hr).2 (by rw [← e]; exact hbl)⟩))
        have hl4 := HOK.out.on4 x.n
        have hlc' : (onL m x.n).length ≤ cl := hlc
        have hsz2 : w1.heap.size + 1 < w2.heap.size := HU4.out.k0.1.2.2
        have hk2' : (x.k == 2) = true := by simpa using hk2
        clear hm9 hv9 hs9 hbl hsp hcut hvI hln hown hk2 hdl HSET hlc
        generalize hln : (onL m x.n).length = ln at *
        have hpi : (ln : Int) - 1 = (p : Int) := by omega
        have hp0 : (0 : Int) ≤ (p : Int) := by omega
        have hpc : (p : Int) ≤ (cl : Int) := by omega
        have hpl : (p : Int) ≤ (ln : Int) := by omega
        have hlci : (ln : Int) ≤ (cl : Int) := by omega
        have hw1 : IntKind.i64.wrap ((ln : Int) - 1) = (p : Int) := by rw [hpi]; exact wrap_sm (by omega) (by omega)
        have hw2 : IntKind.i64.wrap (p : Int) = (p : Int) := wrap_sm (by omega) (by omega)
        clear hln hp
        go_wp2
        go_region
        go_wp2
        go_meet
        case rel => exact ⟨_, S9, rfl, by rw [HA.out]; exact HUZ.out.drew, by simp; exact hsz2⟩
      · have HA := Lib.hid (show unkA m x = setL m x.n x.ps by unfold unkA; rw [if_neg hk2])
        have hk2' : (x.k == 2) = false := by simpa using hk2
        have hps := (HU4.out.ps HX.out).1.reads.1
        have HQ := Lib.hid (cloneIO Ap cp x.ps.length (vI x.ps) w2 hps (by have := HLP.out.len; omega) (vI_one x.ps))
        have hsz2 : w1.heap.size + 1 < w2.heap.size := HU4.out.k0.1.2.2
        have hlo := HU4.out.lo
        clear hk2 hps hff hcell'
        go_wp2_with fail
        refine (HQ.out).mono ?_
        rintro e w3 ⟨v3, rfl, ho3, hb3⟩
        have HU5 := Lib.hid (HU4.out.below hb3)
        obtain ⟨A3, c3, rfl⟩ := row_A ho3
        obtain ⟨bh', ch', Lh', hvh', -, hblh, hbh2, -, hcell, hfrh, hspi, hset⟩ := HU5.out.ms.nd2 HLP.out.n
        rw [HVH.out] at hvh'
        injection hvh' with e1 e2 e3
        injection e1 with e1
        injection e1 with e1 _
        subst e1
        have hgo : ∀ q, (Value.slice A3 x.ps.length c3).ownBlock = some q → w2.heap.size ≤ q := fun q hq => (World.ownsRow.lt ho3 q hq).1
        obtain ⟨S9, hm9, hv9, hs9, -⟩ := hset w3 x.ps (.slice A3 x.ps.length c3) (HU5.out.ms.sp.putX _ (own_base ho3 (by omega)) (fun q hq e => by have h1 := (HU4.out.ms.sp.ge e).2; have h2 := hgo q hq; omega))
        have HUZ := Lib.hid (HU5.out.set hm9 (hv9 _ _ (Mv.refl _ _)) hs9 (by unfold iN iF iB iP; split <;> omega) (fun q hq => ⟨.inr (by have h2 := hgo q hq; omega), fun r hr e => by have h1 := (HU4.out.bx r hr).1.2.2; have h2 := hgo q hq; omega⟩))
        have hff := hfrh x.p.toNat
        have hcell' : w3.cell? ⟨bh, x.p.toNat, none⟩ = _ := hcell
        have hsz3 : w1.heap.size + 1 < w3.heap.size := Nat.lt_of_lt_of_le hsz2 hb3.size
        clear hm9 hv9 hs9 hset hspi hcell hfrh e2 e3 hgo ho3 hb3 HQ z0 z1 z2 z3 z4 z5
        go_wp2
        go_meet
        case rel => exact ⟨_, S9, rfl, by rw [HA.out]; exact HUZ.out, by simp; exact hsz3⟩
    case rest =>
      obtain ⟨w3, S3, rfl, HU5, hz3⟩ := hcut
      clear z0 z1 z2 z3 z4 z5 hcell' hff
      obtain ⟨z0, z1, z2, z3, z4, z5⟩ := CellsAt.six HU5.out.k1.1.1
      obtain ⟨v0, v1⟩ := HU5.out.k0.1.two
      go_upto_if 58 with fail
      go_cut [] (fun wx => ∃ (wy : World) (Sx : Nat → Spot), wy = wx ∧ Hid (UkS w S B g (unkL m x) n (.slice Ap x.ps.length cp) [(w1.heap.size + 1, [.int .i64 x.b, .int .i64 x.p]), (w1.heap.size, [.int .i64 x.k, .int .i64 x.y, .int .i64 x.b, .int .i64 x.p, .int .i64 x.d, .slice Ap x.ps.length cp])] wx Sx))
      case first =>
        by_cases hk5 : x.k = 5
        · have hk5' : (x.k == 5) = true := by simpa using hk5
          have hh : holdB m x.n x.ps = true := by
            have h1 := HST.out
            rw [stB_st0] at h1
            simp only [Bool.and_eq_true, hk5] at h1
            simpa using h1.2.2
          have hh2 := hh
          unfold holdB at hh2
          simp only [Bool.and_eq_true, decide_eq_true_eq] at hh2
          obtain ⟨hfi, hlen, hput⟩ := hh2
          have hnf0 : ndIn m (fcN m x.n) := HOK.out.fc HLP.out.b hfi
          have hnf : ndIn (unkA m x) (fcN m x.n) := unkA_nd hnf0
          have hfb := fc_cases m x.n HLP.out.b
          have HUL := Lib.hid (show unkL m x = setL (unkA m x) (fcN m x.n) (ukRest m x.n x.ps) by rw [unkL_A HLP.out.b, if_pos hk5])
          have hwd := HOK.out.wd
          have hp1 := HLP.out.p1
          have HQF := Lib.hid (facing_any HU5.out.ms x.n HLP.out.b HLP.out.p0 (show x.p ≤ 100 by omega) (by rw [unkA_rk]; exact HOK.out.rk) (by rw [unkA_wd]; omega))
          rw [unkA_fc, unkA_fi, hfi] at HQF
          have hon : onL (unkA m x) (fcN m x.n) = onL m (fcN m x.n) := unkA_on HLP.out.b hfb.1 hfb.2
          have HON := Lib.hid hon
          have hl4 := HOK.out.on4 (fcN m x.n)
          have hp4 := HLP.out.len
          have HRS : Hid (ukRest m x.n x.ps = if (fcN m x.n).1 = 2 then (onL m (fcN m x.n)).drop x.ps.length else (onL m (fcN m x.n)).take ((onL m (fcN m x.n)).length - x.ps.length)) := rfl
          have HFB := Lib.hid hfb
          clear hk5 hh hfi hput hnf0 hwd hp1 hon hfb
          go_wp2_with fail
          refine (HQF.out).mono ?_
          rintro e w4 ⟨rfl, hb4⟩
          have HU6 := Lib.hid (HU5.out.below hb4)
          generalize fcN m x.n = FC at *
          obtain ⟨fb, fa⟩ := FC
          have HU7 := Lib.hid (HU6.out.box [.int .i64 fb, .int .i64 fa] 45)
          obtain ⟨b2, c2, L2, hvh2, hlth2, hblh2, hbh2, -, -, -⟩ := HU7.out.ms.nd2 hnf
          have HVH2 := Lib.hid hvh2
          have HQN := Lib.hid (on_mst HU7.out.ms (fb, fa) hnf b2 c2 L2 hvh2 hlth2)
          clear hb4 HQF hvh2 hlth2 hblh2 hbh2 z0 z1 z2 z3 z4 z5 v0 v1
          go_wp2_with fail
          refine (HQN.out).mono ?_
          rintro e w5 ⟨rfl, hb5⟩
          have HU8 := Lib.hid (HU7.out.below hb5)
          obtain ⟨z0, z1, z2, z3, z4, z5⟩ := CellsAt.six HU8.out.k2.1.1
          obtain ⟨t0, t1⟩ := HU8.out.k0.1.two
          obtain ⟨hrd, ⟨A2, cl2, hvl, hlc2⟩, hown⟩ := HU8.out.ms.onR hnf
          obtain ⟨b2', c2', L2', hvh2, -, hblh2, hbh2, -, hcell, hfrh, hspi, hset⟩ := HU8.out.ms.nd2 hnf
          rw [HVH2.out] at hvh2
          injection hvh2 with e1 e2 e3
          injection e1 with e1
          injection e1 with e1 _
          subst e1
          rw [HON.out] at hvl hown hrd hlc2
          rw [hvl] at hown hcell hrd
          have HV2 := Lib.hid hvl
          have HOW2 := Lib.hid hown
          have HRD2 := Lib.hid hrd
          have HSET := Lib.hid hset
          have hcell' : w5.cell? ⟨b2, fa.toNat, none⟩ = some (.slice A2 (onL m (fb, fa)).length cl2) := hcell
          have hff := hfrh fa.toNat
          have hlc3 : (onL m (fb, fa)).length ≤ cl2 := hlc2
          have hlen' : x.ps.length ≤ (onL m (fb, fa)).length := hlen
          clear hrd hvl hown hcell e2 e3 hspi hset hfrh hb5 HQN hlen hlc2
          have hpc : (x.ps.length : Int) ≤ (cl2 : Int) := by omega
          have hp0 : (0 : Int) ≤ (x.ps.length : Int) := by omega
          have hple : (x.ps.length : Int) ≤ ((onL m (fb, fa)).length : Int) := by omega
          have hlci : ((onL m (fb, fa)).length : Int) ≤ (cl2 : Int) := by omega
          have hbx5 : ∀ r ∈ ((w4.heap.size, [Value.int .i64 fb, .int .i64 fa]) :: [(w1.heap.size + 1, [.int .i64 x.b, .int .i64 x.p]), (w1.heap.size, [.int .i64 x.k, .int .i64 x.y, .int .i64 x.b, .int .i64 x.p, .int .i64 x.d, .slice Ap x.ps.length cp])]), r.1 < w5.heap.size := fun r hr => (HU8.out.bx r hr).1.2.2
          have HBX5 := Lib.hid hbx5
          clear hbx5
          by_cases hb2 : fb = 2
          · subst hb2
            have hrst := Lib.hid (show ukRest m x.n x.ps = (onL m (2, fa)).drop x.ps.length from HRS.out)
            have hlo := HU8.out.lo
            have hgen : ∀ (ad : Option Addr) (cc : Nat), RdI w5 w5.heap.size (.slice ad ((onL m (2, fa)).length - x.ps.length) cc) ((onL m (2, fa)).drop x.ps.length) → Calls Try.prog 101 #[.slice ad ((onL m (2, fa)).length - x.ps.length) cc] w5.drew (GivesRow w5.drew 2 1 ((onL m (2, fa)).length - x.ps.length) (vI ((onL m (2, fa)).drop x.ps.length))) := fun ad cc hr => by
              have h1 := hr.reads.1
              have h2 := vI_one ((onL m (2, fa)).drop x.ps.length)
              have h3 := cloneIO ad cc ((onL m (2, fa)).length - x.ps.length) (vI ((onL m (2, fa)).drop x.ps.length)) w5.drew h1 (by omega) h2
              exact h3
            have HGEN := Lib.hid hgen
            have hfin : ∀ (w6 : World) (v6 : Value), w6.ownsRow w5.heap.size 2 1 v6 ((onL m (2, fa)).length - x.ps.length) (vI ((onL m (2, fa)).drop x.ps.length)) → Below w5.heap.size w5 w6 → ∃ Sx, UkS w S B g (unkL m x) n (.slice Ap x.ps.length cp) [(w1.heap.size + 1, [.int .i64 x.b, .int .i64 x.p]), (w1.heap.size, [.int .i64 x.k, .int .i64 x.y, .int .i64 x.b, .int .i64 x.p, .int .i64 x.d, .slice Ap x.ps.length cp])] (w6.setCell ⟨b2, fa.toNat, none⟩ v6) Sx := by
              intro w6 v6 ho6 hb6
              have hU := HU8.out.below hb6
              obtain ⟨b2'', c2'', L2'', hvh3, -, -, -, -, -, -, -, hset⟩ := hU.ms.nd2 hnf
              rw [HVH2.out] at hvh3
              injection hvh3 with e1 e2 e3
              injection e1 with e1
              injection e1 with e1 _
              subst e1
              have hge : ∀ q, v6.ownBlock = some q → w5.heap.size ≤ q := fun q hq => (World.ownsRow.lt ho6 q hq).1
              obtain ⟨S9, hm9, hv9, hs9, -⟩ := hset w6 ((onL m (2, fa)).drop x.ps.length) v6 (hU.ms.sp.putX _ (by rw [List.length_drop]; exact own_base ho6 (by omega)) (fun q hq e => by have h1 := (HU8.out.ms.sp.ge e).2; have h2 := hge q hq; omega))
              have hz := (hU.set hm9 (hv9 _ _ (Mv.refl _ _)) hs9 (by unfold iN iF iB iP; split <;> omega) (fun q hq => ⟨.inr (by have h2 := hge q hq; omega), fun r hr e => by have h1 := HBX5.out r hr; have h2 := hge q hq; omega⟩)).tl
              refine ⟨S9, ?_⟩
              rw [HUL.out, hrst.out]
              exact hz
            have HFN := Lib.hid hfin
            have hfx : ∀ o, w5.frozen? ⟨b2, o, none⟩ = false := by obtain ⟨_, _, _, hvh3, _, _, _, _, _, hf, _⟩ := HU8.out.ms.nd2 hnf; rw [HVH2.out] at hvh3; injection hvh3 with e1 _ _; injection e1 with e1; injection e1 with e1 _; subst e1; exact hf
            have hbl5 : b2 < w5.heap.size := block_lt_of_cell hcell'
            have hx5 : w1.heap.size < w5.heap.size := HU8.out.k2.1.2.2
            have hfar := far_cell (show b2 ≠ w1.heap.size from fun e => HU8.out.k2.2 (by rw [← e]; exact hblh2))
            rcases HOW2.out.2 with ⟨hnil, hn0⟩ | ⟨b, cap, cur, hbv, hbB, hh, hnc2, _⟩
            · injection hnil with e1 e2 e3
              subst e1 e3
              have hps0 : x.ps.length = 0 := by omega
              have hlnz : (onL m (2, fa)).length = 0 := hn0
              have hq0 := hgen none 0 (by
                have e : (onL m (2, fa)).drop x.ps.length = [] := List.eq_nil_of_length_eq_zero (by rw [List.length_drop]; omega)
                rw [e, show (onL m (2, fa)).length - x.ps.length = 0 by omega]
                exact ⟨none, 0, 0, rfl, by omega, rfl, fun k hk => absurd hk (by omega)⟩)
              rw [hps0, hlnz, Nat.sub_self] at hq0
              have HQC := Lib.hid hq0
              rw [hps0, hlnz, Nat.sub_self] at HFN
              rw [hlnz] at hcell'
              rw [hps0] at z5
              have HPS := Lib.hid hps0
              clear hgen hfin hlo hlci hple hpc hp0 hlc3 hlen' hp4 hl4 hps0 hn0 hlnz hq0
              go_wp2
              rw [show ({ dst := some 74, op := Op.load 25 (Operand.tmp 73), type := 25, pos := "l12_unravel.go:172", after := #[{ on := 2, ground := Ground.data }], guard := none } : Oper) = ldUk from rfl]
              go_region_held3 (fun w' => w'.cell? ⟨w1.heap.size, 5, none⟩ = some (.slice Ap 0 cp))
                (first | with_reducible exact z5 | with_reducible exact y5 | (simp only [drew_cell, hfar]; with_reducible exact y5) | go_keep)
                (first
                  | (go_at_call 101; refine (HQC.out).mono ?_; rintro e w6 ⟨v6, rfl, ho6, hb6⟩; have hb6' : Below w5.heap.size w5 w6 := (Below.refl _ w5).drew.trans hb6; obtain ⟨A6, c6, rfl⟩ := row_A ho6; have y5 : w6.cell? ⟨w1.heap.size, 5, none⟩ = some (.slice Ap 0 cp) := (hb6'.cell (p := ⟨w1.heap.size, 5, none⟩) hx5).trans z5; have y9 : w6.cell? ⟨b2, fa.toNat, none⟩ = _ := (hb6'.cell (p := ⟨b2, fa.toNat, none⟩) hbl5).trans hcell'; have yf : ∀ o, w6.frozen? ⟨b2, o, none⟩ = false := fun o => (hb6'.frozen (p := ⟨b2, o, none⟩) hbl5).trans (hfx o)))
              all_goals
                have HUZ := Lib.hid (HFN.out _ _ ho6 hb6')
                clear ho6 hb6 hb6' y5 y9 yf
                go_wp2
                go_meet
                case rel => exact ⟨_, HUZ.out.choose, rfl, by (try rw [HPS.out]); first | exact HUZ.out.choose_spec | exact HUZ.out.choose_spec.drew⟩
            · injection hbv with e1 e2 e3
              subst e1 e3
              obtain ⟨ad, had, hrdd⟩ : ∃ ad, (if cl2 = x.ps.length then some (⟨b, 0, none⟩ : Addr) else some ⟨b, x.ps.length, none⟩) = ad ∧ RdI w5 w5.heap.size (.slice ad ((onL m (2, fa)).length - x.ps.length) (cl2 - x.ps.length)) ((onL m (2, fa)).drop x.ps.length) := ⟨_, rfl, RdI.dropC HRD2.out (by omega) (by omega)⟩
              have HQC := Lib.hid (hgen ad _ hrdd)
              clear hgen hfin hrdd hlo
              go_wp2
              rw [show ({ dst := some 74, op := Op.load 25 (Operand.tmp 73), type := 25, pos := "l12_unravel.go:172", after := #[{ on := 2, ground := Ground.data }], guard := none } : Oper) = ldUk from rfl]
              go_region_held3 (fun w' => w'.cell? ⟨w1.heap.size, 5, none⟩ = some (.slice Ap x.ps.length cp))
                (first | with_reducible exact z5 | with_reducible exact y5 | (simp only [drew_cell, hfar]; with_reducible exact y5) | go_keep)
                (first
                  | (go_at_call 101; refine (HQC.out).mono ?_; rintro e w6 ⟨v6, rfl, ho6, hb6⟩; have hb6' : Below w5.heap.size w5 w6 := (Below.refl _ w5).drew.trans hb6; obtain ⟨A6, c6, rfl⟩ := row_A ho6; have y5 : w6.cell? ⟨w1.heap.size, 5, none⟩ = some (.slice Ap x.ps.length cp) := (hb6'.cell (p := ⟨w1.heap.size, 5, none⟩) hx5).trans z5; have y9 : w6.cell? ⟨b2, fa.toNat, none⟩ = _ := (hb6'.cell (p := ⟨b2, fa.toNat, none⟩) hbl5).trans hcell'; have yf : ∀ o, w6.frozen? ⟨b2, o, none⟩ = false := fun o => (hb6'.frozen (p := ⟨b2, o, none⟩) hbl5).trans (hfx o)))
              all_goals
                have HUZ := Lib.hid (HFN.out _ _ ho6 hb6')
                clear ho6 hb6 hb6' y5 y9 yf
                go_wp2
                go_meet
                case rel => exact ⟨_, HUZ.out.choose, rfl, by first | exact HUZ.out.choose_spec | exact HUZ.out.choose_spec.drew⟩
          · have hb2' : (fb == 2) = false := by simpa using hb2
            have hrst := Lib.hid (show ukRest m x.n x.ps = (onL m (fb, fa)).take ((onL m (fb, fa)).length - x.ps.length) by rw [HRS.out]; exact if_neg hb2)
            obtain ⟨q, hq⟩ : ∃ q : Nat, q + x.ps.length = (onL m (fb, fa)).length := ⟨(onL m (fb, fa)).length - x.ps.length, by omega⟩
            obtain ⟨hcut, hcb⟩ := own_cutg HOW2.out (k := q) (by omega)
            have hvI : (vI (onL m (fb, fa))).take (q * 1) = vI ((onL m (fb, fa)).take q) := by unfold vI; rw [List.map_take, Nat.mul_one]
            have hln : ((onL m (fb, fa)).take q).length = q := by rw [List.length_take]; omega
            rw [hvI] at hcut
            have hsp := HU8.out.ms.sp.put (iN (fb, fa)) (spI (.slice A2 q cl2) ((onL m (fb, fa)).take q)) (by show w5.ownsRow B 2 1 (.slice A2 q cl2) ((onL m (fb, fa)).take q).length (vI ((onL m (fb, fa)).take q)); rw [hln]; exact hcut) (fun r hr => .inl (by rw [HV2.out, ← hcb]; exact hr))
            obtain ⟨S9, hm9, hv9, hs9, -⟩ := HSET.out w5 ((onL m (fb, fa)).take q) (.slice A2 q cl2) hsp
            have hz := (HU8.out.set hm9 (hv9 _ _ (Mv.refl _ _)) hs9 (by unfold iN iF iB iP; split <;> omega) (fun r hr => by
              have hbl : blk S3 r := ⟨iN (fb, fa), by rw [HV2.out, ← hcb]; exact hr⟩
              exact ⟨.inl hbl, fun p hp e => (HU8.out.bx p hp).2 (by rw [← e]; exact hbl)⟩)).tl
            have HUZ : Hid (UkS w S B g (unkL m x) n (.slice Ap x.ps.length cp) [(w1.heap.size + 1, [.int .i64 x.b, .int .i64 x.p]), (w1.heap.size, [.int .i64 x.k, .int .i64 x.y, .int .i64 x.b, .int .i64 x.p, .int .i64 x.d, .slice Ap x.ps.length cp])] (w5.setCell ⟨b2, fa.toNat, none⟩ (.slice A2 q cl2)) S9) := by
              unfold Hid
              rw [HUL.out, hrst.out, show (onL m (fb, fa)).length - x.ps.length = q by omega]
              exact hz
            clear hm9 hv9 hs9 hsp hcut hcb hvI hln hz hb2 HSET
            generalize hln : (onL m (fb, fa)).length = ln at *
            generalize hpn : x.ps.length = pn at *
            have hqi : (ln : Int) - (pn : Int) = (q : Int) := by omega
            have hq0 : (0 : Int) ≤ (q : Int) := by omega
            have hql : (q : Int) ≤ (ln : Int) := by omega
            have hqc : (q : Int) ≤ (cl2 : Int) := by omega
            have hw1 : IntKind.i64.wrap ((ln : Int) - (pn : Int)) = (q : Int) := by rw [hqi]; exact wrap_sm (by omega) (by omega)
            have hw2 : IntKind.i64.wrap (q : Int) = (q : Int) := wrap_sm (by omega) (by omega)
            clear hln hpn hq
            go_wp2
            go_region
            go_wp2
            go_meet
            case rel => exact ⟨_, S9, rfl, by first | exact HUZ.out | exact HUZ.out.drew⟩
        · have hk5' : (x.k == 5) = false := by simpa using hk5
          have HUL := Lib.hid (show unkL m x = unkA m x by rw [unkL_A HLP.out.b, if_neg hk5])
          clear hk5
          go_wp2
          go_meet
          case rel => exact ⟨_, S3, rfl, by rw [HUL.out]; exact HU5.out⟩
      case rest =>
        obtain ⟨w6, S6, rfl, HU9⟩ := hcut
        clear z0 z1 z2 z3 z4 z5 v0 v1
        obtain ⟨j, hyj⟩ : ∃ j : Nat, x.y - 1 = (j : Int) := ⟨(x.y - 1).toNat, by have := HLP.out.y; omega⟩
        have hyt : (x.y - 1).toNat = j := by omega
        obtain ⟨y1, y4⟩ := HLP.out.y
        have hcs : (unkL m x).cs.length = 4 := by rw [unkL_cs]; exact HOK.out.cs
        have hjl : (j : Int) < 4 := by omega
        have hj0 : (0 : Int) ≤ (j : Int) := by omega
        obtain ⟨bc, cpc, hvc, hblc, -, hbwc, hoc, hc0, hc1, hfc⟩ := HU9.out.ms.cars x.y y1 (by omega)
        rw [hyt] at hc0 hc1
        rw [hcs] at hvc
        obtain ⟨x0, x1, x2, x3, x4, x5, x6⟩ := HU9.out.ms.cells.seven
        rw [hvc] at x4
        rw [unkL_rk] at x1
        obtain ⟨z0, z1, z2, z3, z4, z5⟩ := CellsAt.six HU9.out.k1.1.1
        obtain ⟨v0, v1⟩ := HU9.out.k0.1.two
        have hbg := HU9.out.ms.size.1
        have hbz := HU9.out.k1.1.2.2
        have hbn := HU9.out.k0.1.2.2
        have hwj : IntKind.i64.wrap (j : Int) = (j : Int) := wrap_sm (by omega) (by omega)
        obtain ⟨r0, r1⟩ := HOK.out.rk
        have p0 := HLP.out.p0
        have p1 := HLP.out.p1
        have hwd := HOK.out.wd
        have HQP := Lib.hid (fun X => place_any x.b x.p m.rk (by omega) (by omega) (by omega) (by omega) X)
        have hPb : -100 ≤ plc x.b x.p m.rk ∧ plc x.b x.p m.rk ≤ 100 := by unfold plc; split <;> omega
        have hFR : ukFrom m x = plc x.b x.p m.rk + (if x.d = -1 then 1 else 0) := rfl
        have hfin : ∀ (w7 : World) (val : Int), val = ukFrom m x → Below w6.heap.size w6 w7 → ∃ Sx, UkS w S B g (setC (unkL m x) x.y ⟨(carAt (unkL m x) x.y).i, ukFrom m x⟩) n (.slice Ap x.ps.length cp) [(w1.heap.size + 1, [.int .i64 x.b, .int .i64 x.p]), (w1.heap.size, [.int .i64 x.k, .int .i64 x.y, .int .i64 x.b, .int .i64 x.p, .int .i64 x.d, .slice Ap x.ps.length cp])] (w7.setCell ⟨bc, j * 2 + 1, none⟩ (.int .i64 val)) Sx := by
          intro w7 val hval hb7
          subst hval
          have hU := HU9.out.below hb7
          obtain ⟨S7, hm7, hv7, hs7⟩ := hU.ms.setCp2 (c := x.y) y1 (by omega) hoc (ukFrom m x)
          rw [hyt] at hm7 hv7
          exact ⟨S7, hU.same hm7 hv7 hs7⟩
        have HFN := Lib.hid hfin
        generalize plc x.b x.p m.rk = P at *
        obtain ⟨P0, P1⟩ := hPb
        have HOC := Lib.hid hoc
        clear hfin p0 p1 hwd r0 r1 hcs hvc hoc
        have hfg := far_cell (show bc ≠ g from fun e => HU9.out.ms.sp.dis (i := 3) (j := 0) (by omega) (by rw [HOC.out, e]) HU9.out.ms.gbox)
        have hfz := far_cell (show bc ≠ w1.heap.size from fun e => HU9.out.k1.2 (by rw [← e]; exact hblc))
        have hfn := far_cell (show bc ≠ w1.heap.size + 1 from fun e => HU9.out.k0.2 (by rw [← e]; exact hblc))
        go_upto_region 17 with fail
        go_cut [] (fun wx => ∃ (wy : World) (Sx : Nat → Spot), wy = wx ∧ Hid (UkS w S B g (setC (unkL m x) x.y ⟨(carAt (unkL m x) x.y).i, ukFrom m x⟩) n (.slice Ap x.ps.length cp) [(w1.heap.size + 1, [.int .i64 x.b, .int .i64 x.p]), (w1.heap.size, [.int .i64 x.k, .int .i64 x.y, .int .i64 x.b, .int .i64 x.p, .int .i64 x.d, .slice Ap x.ps.length cp])] wx Sx))
        case first =>
          rcases HLP.out.d with hd | hd
          · have HF := Lib.hid (show ukFrom m x = P by rw [hFR, if_neg (by omega)]; omega)
            rw [hd] at z4
            have hval : IntKind.i64.wrap (P + IntKind.i64.wrap ((IntKind.i64.wrap 0).tdiv 2)) = ukFrom m x := by
              rw [show IntKind.i64.wrap ((IntKind.i64.wrap 0).tdiv 2) = 0 by decide, HF.out, Int.add_zero]
              exact wrap_sm (by omega) (by omega)
            have HVAL := Lib.hid hval
            clear hval
            clear hd hFR
            go_region_held3 (fun w' => w'.cell? ⟨g, 4, none⟩ = some (.slice (some ⟨bc, 0, none⟩) 4 cpc) ∧ w'.cell? ⟨g, 1, none⟩ = some (.int .i64 m.rk) ∧ w'.cell? ⟨w1.heap.size, 1, none⟩ = some (.int .i64 x.y) ∧ w'.cell? ⟨w1.heap.size, 4, none⟩ = some (.int .i64 1) ∧ w'.cell? ⟨w1.heap.size + 1, 0, none⟩ = some (.int .i64 x.b) ∧ w'.cell? ⟨w1.heap.size + 1, 1, none⟩ = some (.int .i64 x.p))
              (first | with_reducible exact ⟨x4, x1, z1, z4, v0, v1⟩ | with_reducible exact ⟨k4, k1, l1, l4, o0, o1⟩ | (simp only [drew_cell, hfg, hfz, hfn]; with_reducible exact ⟨k4, k1, l1, l4, o0, o1⟩) | go_keep)
              (first
                | (go_at_call 105; refine (HQP.out _).mono ?_; rintro e w7 ⟨rfl, hb7⟩; have hb7' : Below w6.heap.size w6 w7 := (Below.refl _ w6).drew.trans hb7; have k4 := (hb7'.cell (p := ⟨g, 4, none⟩) hbg).trans x4; have k1 := (hb7'.cell (p := ⟨g, 1, none⟩) hbg).trans x1; have l1 := (hb7'.cell (p := ⟨w1.heap.size, 1, none⟩) hbz).trans z1; have l4 := (hb7'.cell (p := ⟨w1.heap.size, 4, none⟩) hbz).trans z4; have o0 := (hb7'.cell (p := ⟨w1.heap.size + 1, 0, none⟩) hbn).trans v0; have o1 := (hb7'.cell (p := ⟨w1.heap.size + 1, 1, none⟩) hbn).trans v1; have q1 := (hb7'.cell (p := ⟨bc, j * 2 + 1, none⟩) hbwc).trans hc1; have qf := (hb7'.frozen (p := ⟨bc, j * 2 + 1, none⟩) hbwc).trans (hfc (j * 2 + 1))))
            all_goals
              have HUZ := Lib.hid (HFN.out _ _ HVAL.out hb7')
              clear hb7 hb7' k4 k1 l1 l4 o0 o1 q1 qf
              go_wp2
              go_meet
              case rel => exact ⟨_, HUZ.out.choose, rfl, by first | exact HUZ.out.choose_spec | exact HUZ.out.choose_spec.drew⟩
          · have HF := Lib.hid (show ukFrom m x = P + 1 by rw [hFR, if_pos hd])
            rw [hd] at z4
            have hval : IntKind.i64.wrap (P + IntKind.i64.wrap ((IntKind.i64.wrap 2).tdiv 2)) = ukFrom m x := by
              rw [show IntKind.i64.wrap ((IntKind.i64.wrap 2).tdiv 2) = 1 by decide, HF.out]
              exact wrap_sm (by omega) (by omega)
            have HVAL := Lib.hid hval
            clear hval
            clear hd hFR
            go_region_held3 (fun w' => w'.cell? ⟨g, 4, none⟩ = some (.slice (some ⟨bc, 0, none⟩) 4 cpc) ∧ w'.cell? ⟨g, 1, none⟩ = some (.int .i64 m.rk) ∧ w'.cell? ⟨w1.heap.size, 1, none⟩ = some (.int .i64 x.y) ∧ w'.cell? ⟨w1.heap.size, 4, none⟩ = some (.int .i64 (-1)) ∧ w'.cell? ⟨w1.heap.size + 1, 0, none⟩ = some (.int .i64 x.b) ∧ w'.cell? ⟨w1.heap.size + 1, 1, none⟩ = some (.int .i64 x.p))
              (first | with_reducible exact ⟨x4, x1, z1, z4, v0, v1⟩ | with_reducible exact ⟨k4, k1, l1, l4, o0, o1⟩ | (simp only [drew_cell, hfg, hfz, hfn]; with_reducible exact ⟨k4, k1, l1, l4, o0, o1⟩) | go_keep)
              (first
                | (go_at_call 105; refine (HQP.out _).mono ?_; rintro e w7 ⟨rfl, hb7⟩; have hb7' : Below w6.heap.size w6 w7 := (Below.refl _ w6).drew.trans hb7; have k4 := (hb7'.cell (p := ⟨g, 4, none⟩) hbg).trans x4; have k1 := (hb7'.cell (p := ⟨g, 1, none⟩) hbg).trans x1; have l1 := (hb7'.cell (p := ⟨w1.heap.size, 1, none⟩) hbz).trans z1; have l4 := (hb7'.cell (p := ⟨w1.heap.size, 4, none⟩) hbz).trans z4; have o0 := (hb7'.cell (p := ⟨w1.heap.size + 1, 0, none⟩) hbn).trans v0; have o1 := (hb7'.cell (p := ⟨w1.heap.size + 1, 1, none⟩) hbn).trans v1; have q1 := (hb7'.cell (p := ⟨bc, j * 2 + 1, none⟩) hbwc).trans hc1; have qf := (hb7'.frozen (p := ⟨bc, j * 2 + 1, none⟩) hbwc).trans (hfc (j * 2 + 1))))
            all_goals
              have HUZ := Lib.hid (HFN.out _ _ HVAL.out hb7')
              clear hb7 hb7' k4 k1 l1 l4 o0 o1 q1 qf
              go_wp2
              go_meet
              case rel => exact ⟨_, HUZ.out.choose, rfl, by first | exact HUZ.out.choose_spec | exact HUZ.out.choose_spec.drew⟩
        case rest =>
          obtain ⟨w7, S7, rfl, HUZ⟩ := hcut
          clear x0 x1 x2 x3 x4 x5 x6 z0 z1 z2 z3 z4 z5 v0 v1 hc0 hc1 hfc HFN HU9
          obtain ⟨M, hM⟩ : ∃ M, M = setC (unkL m x) x.y ⟨(carAt (unkL m x) x.y).i, ukFrom m x⟩ := ⟨_, rfl⟩
          rw [← hM] at HUZ HLATE
          have hls9 : M.ls = m.ls := by rw [hM, setC_ls, unkL_ls]
          obtain ⟨b5, cap5, hv5, hc5, -, -, -, -⟩ := HUZ.out.ms.lastL (n := n) (x := x) (by rw [hls9]; exact HX.out)
          have hlz : M.ls.length = n + 1 := by rw [hls9]; exact HN.out
          obtain ⟨x0, x1, x2, x3, x4, x5, x6⟩ := HUZ.out.ms.cells.seven
          rw [hv5, hlz] at x5
          have hfg := HUZ.out.ms.frozen 5
          have hCUT := HUZ.out.ms.cutL2 hv5 (k := n) (by rw [hlz]; omega)
          have HFIN2 : Hid (DidC w S B g 0 (unkM m) (.returned (.int .i64 0)) (w7.setCell ⟨g, 5, none⟩ (.slice (some ⟨b5, 0, none⟩) n cap5))) := by
            obtain ⟨S', e1, e2⟩ := hCUT
            refine ⟨rfl, S', HUZ.out.mv.trans e2, fun _ => ?_⟩
            rw [HLATE.out]
            have e3 : cutLs M = { M with ls := M.ls.take n } := by unfold cutLs; rw [hlz]; rfl
            rw [e3]
            exact e1
          have hcn : (n : Int) ≤ (cap5 : Int) := by rw [hlz] at hc5; omega
          have hn0 : (0 : Int) ≤ (n : Int) := by omega
          clear hCUT hv5 hc5 hlz hls9 hM
          go_wp2
          go_ret
          exact HFIN2.out
  · have h0' : (unkC m != 0) = true := by simpa using h0
    have H0 := Lib.hid h0
    clear h0
    generalize unkC m = cc at *
    clear h hB ok
    go_enter Try.func46, Try.ntmps46
    go_wp2_with fail
    refine (HQC.out).mono ?_
    rintro e w1 ⟨rfl, hb1⟩
    have HMV := Lib.hid (Mv.of_below (S := S) hb1)
    clear hb1 HQC
    go_wp2
    go_ret
    exact DidC.bad HMV.out rfl H0.out

end Go.Proofs.Ytmcalioldphfeaa
