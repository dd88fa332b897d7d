/-
  Texts joined: Fcg, Oc1, Oc2, Oc3, Oc4.
-/
import Derived.Test.YthhpjgdeehcgjaaGreatPk6
import Derived.Test.YthhpjgdeehcgjaaGreatPk10
import Derived.Deep.CutBlock
import Derived.Deep.RegionWith
import Derived.Test.YthhpjgdeehcgjaaGreatPk11
/-
  The program's facing, where only a machine's width and rack are known.
-/
namespace Go.Proofs.YthhpjgdeehcgjaaGreat
set_option linter.unusedVariables false
set_option linter.unusedSimpArgs false
open Go.RowKit

theorem implOther_f (b : Int) (hb : b = 1 ∨ b = 2) (w : World) : Calls Tryz.prog 90 #[.int .i64 b] w fun e w' => e = .returned (.int .i64 (3 - b)) ∧ w = w' := by
  rcases hb with rfl | rfl
  · go_enter Tryz.func90, Tryz.ntmps90
    go_wp2
    go_ret
    exact ⟨rfl, rfl⟩
  · go_enter Tryz.func90, Tryz.ntmps90
    go_wp2
    go_ret
    exact ⟨rfl, rfl⟩
set_option maxHeartbeats 4000000 in
set_option maxRecDepth 100000 in
theorem facing_gen {w : World} {g : Nat} {m : Mc} (x0 : w.cell? ⟨g, 0, none⟩ = some (.int .i64 m.wd)) (x1 : w.cell? ⟨g, 1, none⟩ = some (.int .i64 m.rk)) (n : Int × Int) (hb : n.1 = 1 ∨ n.1 = 2) (h0 : 0 ≤ n.2) (h1 : n.2 ≤ 100) (hr : -3 ≤ m.rk ∧ m.rk ≤ 3) (hw : 0 ≤ m.wd ∧ m.wd ≤ 100) :
    Calls Tryz.prog 54 #[.pointer (some ⟨g, 0, none⟩), .agg #[.int .i64 n.1, .int .i64 n.2]] w fun e w' => e = .returned (.tuple #[.agg #[.int .i64 (fcN m n).1, .int .i64 (fcN m n).2], .bool (fcIn m n)]) ∧ Below w.heap.size w w' := by
  obtain ⟨b, a⟩ := n
  have h0' : 0 ≤ a := h0
  have h1' : a ≤ 100 := h1
  obtain ⟨r0, r1⟩ := hr
  obtain ⟨w0, w1⟩ := hw
  have hgw : g < w.heap.size := block_lt_of_cell x0
  have hfN : Hid (fcN m (b, a) = if b = 2 then (1, a + m.rk) else (2, a - m.rk)) := rfl
  have hfI : Hid (fcIn m (b, a) = inB 0 (fcN m (b, a)).2 (m.wd - 1)) := rfl
  generalize fcN m (b, a) = F at *
  generalize fcIn m (b, a) = I at *
  generalize m.rk = rk at *
  generalize m.wd = wd at *
  clear h0 h1
  have hb' : b = 1 ∨ b = 2 := hb
  have HOB := Lib.hid (fun W => implOther_f b hb' W)
  have HB0 := Lib.hid (((Below.refl w.heap.size w).alloc (Nat.le_refl _) (.cells #[.int .i64 b, .int .i64 a] 39)).alloc (by simp) (.cells #[.int .i64 0, .int .i64 0] 39))
  have N0 := Lib.hid ((Bx.new w [.int .i64 b, .int .i64 a] 39).alloc (.cells #[.int .i64 0, .int .i64 0] 39))
  have hZ0 := Bx.new (w.alloc (.cells #[.int .i64 b, .int .i64 a] 39)) [.int .i64 0, .int .i64 0] 39
  rw [World.size_alloc] at hZ0
  have Z0 := Lib.hid hZ0
  have hz0 : ((w.alloc (.cells #[.int .i64 b, .int .i64 a] 39)).alloc (.cells #[.int .i64 0, .int .i64 0] 39)).heap.size = w.heap.size + 2 := by simp
  clear hb hZ0
  go_enter Tryz.func54, Tryz.ntmps54
  go_upto_region 1 with fail
  generalize (w.alloc (.cells #[.int .i64 b, .int .i64 a] 39)).alloc (.cells #[.int .i64 0, .int .i64 0] 39) = W0 at *
  have x0a := HB0.out.cell (p := ⟨g, 0, none⟩) hgw
  rw [x0] at x0a
  have x1a := HB0.out.cell (p := ⟨g, 1, none⟩) hgw
  rw [x1] at x1a
  have hx0 := Lib.hid x0a
  have hx1 := Lib.hid x1a
  have hg2 : g < W0.heap.size := by omega
  clear x0 x1 x0a x1a
  obtain ⟨o1, ho1⟩ : ∃ o : Obj, o = .cells #[.int .i64 (3 - b), .int .i64 (a - rk)] 39 := ⟨_, rfl⟩
  go_cut [6] (fun s6 wx => s6 = .pointer (some ⟨w.heap.size + 2, 0, none⟩) ∧ wx = (W0.alloc (.cells #[.int .i64 (3 - b), .int .i64 (a - rk)] 39)).drew)
  case first =>
    have x1a := hx1.out
    obtain ⟨n0, n1⟩ := N0.out.two
    have hwr2 : IntKind.i64.wrap (a - rk) = a - rk := wrap_sm (by omega) (by omega)
    have x1b : ∀ o, (W0.alloc o).cell? ⟨g, 1, none⟩ = some (.int .i64 rk) := fun o => (((Below.refl W0.heap.size W0).alloc (Nat.le_refl _) o).cell (p := ⟨g, 1, none⟩) (by show g < _; omega)).trans x1a
    have n0b : ∀ o, (W0.alloc o).cell? ⟨w.heap.size, 0, none⟩ = some (.int .i64 b) := fun o => (((Below.refl W0.heap.size W0).alloc (Nat.le_refl _) o).cell (p := ⟨w.heap.size, 0, none⟩) (by show w.heap.size < _; omega)).trans n0
    have n1b : ∀ o, (W0.alloc o).cell? ⟨w.heap.size, 1, none⟩ = some (.int .i64 a) := fun o => (((Below.refl W0.heap.size W0).alloc (Nat.le_refl _) o).cell (p := ⟨w.heap.size, 1, none⟩) (by show w.heap.size < _; omega)).trans n1
    go_region_held3 (fun w' => w'.cell? ⟨w.heap.size, 0, none⟩ = some (.int .i64 b) ∧ w'.cell? ⟨w.heap.size, 1, none⟩ = some (.int .i64 a) ∧ w'.cell? ⟨g, 1, none⟩ = some (.int .i64 rk))
      (first | exact ⟨n0, n1, x1a⟩ | exact ⟨n0b _, n1b _, x1b _⟩ | go_keep)
      (first
        | (go_at_call 90; refine (HOB.out _).mono ?_; rintro e w5 ⟨rfl, rfl⟩))
    all_goals
      go_wp2_with fail
      go_meet
      case rel => exact ⟨rfl, rfl⟩
  case rest =>
    obtain ⟨rfl, rfl⟩ := hcut
    have B1 := (Bx.new W0 [.int .i64 (3 - b), .int .i64 (a - rk)] 39).drew
    rw [hz0] at B1
    have HB1 := Lib.hid ((HB0.out.alloc HB0.out.size (.cells #[.int .i64 (3 - b), .int .i64 (a - rk)] 39)).drew)
    have N1 := (N0.out.alloc (.cells #[.int .i64 (3 - b), .int .i64 (a - rk)] 39)).drew
    have Z1 := (Z0.out.alloc (.cells #[.int .i64 (3 - b), .int .i64 (a - rk)] 39)).drew
    have x0c : ((W0.alloc (.cells #[.int .i64 (3 - b), .int .i64 (a - rk)] 39)).drew).cell? ⟨g, 0, none⟩ = some (.int .i64 wd) := (((Below.refl W0.heap.size W0).alloc (Nat.le_refl _) _).cell (p := ⟨g, 0, none⟩) hg2).trans hx0.out
    have x1c : ((W0.alloc (.cells #[.int .i64 (3 - b), .int .i64 (a - rk)] 39)).drew).cell? ⟨g, 1, none⟩ = some (.int .i64 rk) := (((Below.refl W0.heap.size W0).alloc (Nat.le_refl _) _).cell (p := ⟨g, 1, none⟩) hg2).trans hx1.out
    generalize ((W0.alloc (.cells #[.int .i64 (3 - b), .int .i64 (a - rk)] 39)).drew) = W1 at *
    clear hx0 hx1 HB0 N0 Z0 hz0 HOB ho1
    obtain ⟨n0, n1⟩ := N1.two
    obtain ⟨b0, b1⟩ := B1.two
    have bf := B1.2.1
    have hne1 : w.heap.size + 2 ≠ w.heap.size := by omega
    have hne2 : w.heap.size + 2 ≠ w.heap.size + 1 := by omega
    have hne3 : w.heap.size + 2 ≠ g := by omega
    rcases hb' with rfl | rfl
    · have x0e := x0c
      have B2 := Lib.hid B1
      have Z2 := Lib.hid Z1
      have HB2 := HB1
      clear HB1 N1 Z1
      go_wp2
      clear x0c x1c n0 n1 b0 b1 bf B1 hne3
      obtain ⟨b0, b1⟩ := B2.out.two
      have zf := Z2.out.2.1
      obtain ⟨z0, z1⟩ := Z2.out.two
      have HQ := Lib.hid (fun W => within_s (a - rk) 0 (wd - 1) W)
      have HF : F = (2, a - rk) := hfN.out.trans (if_neg (by omega))
      have HI : I = inB 0 (a - rk) (wd - 1) := by rw [hfI.out, HF]
      subst HF HI
      clear hfN hfI
      have HFIN : Hid (Below w.heap.size w (((W1).setCell ⟨w.heap.size + 1, 0, none⟩ (.int .i64 2)).setCell ⟨w.heap.size + 1, 1, none⟩ (.int .i64 (a - rk))).drew) := ((HB2.out.setCell (by show w.heap.size ≤ w.heap.size + 1; omega) _).setCell (by show w.heap.size ≤ w.heap.size + 1; omega) _).drew
      have ZA := Z2.out.set (i := 0) (by simp) (.int .i64 2)
      have ZB := ZA.set (i := 1) (by simp) (.int .i64 (a - rk))
      have c0 := Lib.hid (Bx.two (u0 := .int .i64 2) (u1 := .int .i64 0) ZA).1
      have c1 := Lib.hid (Bx.two (u0 := .int .i64 2) (u1 := .int .i64 (a - rk)) ZB).2
      clear ZA ZB
      have hwr : IntKind.i64.wrap (wd - 1) = wd - 1 := wrap_sm (by omega) (by omega)
      go_region_with ((go_at_call 36; refine (HQ.out _).mono ?_; rintro e w5 ⟨rfl, rfl⟩))
      all_goals
        go_wp2
        refine bodyPost_ret (v := .tuple #[.agg #[.int .i64 2, .int .i64 (a - rk)], .bool (inB 0 (a - rk) (wd - 1))]) (by simp [results, Tryz.results54, go_sem, c0.out, c1.out]) rfl ?_
        exact ⟨rfl, HFIN.out⟩
    · have x0b : ∀ o, (W1.alloc o).cell? ⟨g, 0, none⟩ = some (.int .i64 wd) := fun o => (((Below.refl W1.heap.size W1).alloc (Nat.le_refl _) o).cell (p := ⟨g, 0, none⟩) (block_lt_of_cell x0c)).trans x0c
      have B2 := Lib.hid (B1.set (i := 1) (by simp) (.int .i64 (a + rk)))
      have Z2 := Lib.hid (Z1.far (g' := w.heap.size + 2) (by omega) 1 (.int .i64 (a + rk)))
      have HB2 := Lib.hid ((HB1.out.setCell (p := ⟨w.heap.size + 2, 1, none⟩) (by show w.heap.size ≤ w.heap.size + 2; omega) (.int .i64 (a + rk))))
      have x0d : (W1.setCell ⟨w.heap.size + 2, 1, none⟩ (.int .i64 (a + rk))).cell? ⟨g, 0, none⟩ = some (.int .i64 wd) := by rw [far_cell hne3]; exact x0c
      clear HB1 N1 Z1 x0b
      go_wp2
      go_region
      have x0e : (W1.setCell ⟨w.heap.size + 2, 1, none⟩ (.int .i64 (a + rk))).drew.cell? ⟨g, 0, none⟩ = some (.int .i64 wd) := x0d
      replace B2 := Lib.hid B2.out.drew
      replace Z2 := Lib.hid Z2.out.drew
      replace HB2 := Lib.hid HB2.out.drew
      generalize (W1.setCell ⟨w.heap.size + 2, 1, none⟩ (.int .i64 (a + rk))).drew = W2 at *
      clear x0c x1c n0 n1 b0 b1 bf B1 x0d hne3
      obtain ⟨b0, b1⟩ := Bx.two (u0 := .int .i64 (3 - 2)) (u1 := .int .i64 (a + rk)) B2.out
      have zf := Z2.out.2.1
      obtain ⟨z0, z1⟩ := Z2.out.two
      have HQ := Lib.hid (fun W => within_s (a + rk) 0 (wd - 1) W)
      have HF : F = (1, a + rk) := hfN.out.trans (if_pos trivial)
      have HI : I = inB 0 (a + rk) (wd - 1) := by rw [hfI.out, HF]
      subst HF HI
      clear hfN hfI
      have HFIN : Hid (Below w.heap.size w (((W2).setCell ⟨w.heap.size + 1, 0, none⟩ (.int .i64 1)).setCell ⟨w.heap.size + 1, 1, none⟩ (.int .i64 (a + rk))).drew) := ((HB2.out.setCell (by show w.heap.size ≤ w.heap.size + 1; omega) _).setCell (by show w.heap.size ≤ w.heap.size + 1; omega) _).drew
      have ZA := Z2.out.set (i := 0) (by simp) (.int .i64 1)
      have ZB := ZA.set (i := 1) (by simp) (.int .i64 (a + rk))
      have c0 := Lib.hid (Bx.two (u0 := .int .i64 1) (u1 := .int .i64 0) ZA).1
      have c1 := Lib.hid (Bx.two (u0 := .int .i64 1) (u1 := .int .i64 (a + rk)) ZB).2
      clear ZA ZB
      go_wp2
      have hwr : IntKind.i64.wrap (wd - 1) = wd - 1 := wrap_sm (by omega) (by omega)
      go_region_with ((go_at_call 36; refine (HQ.out _).mono ?_; rintro e w5 ⟨rfl, rfl⟩))
      all_goals
        go_wp2
        refine bodyPost_ret (v := .tuple #[.agg #[.int .i64 1, .int .i64 (a + rk)], .bool (inB 0 (a + rk) (wd - 1))]) (by simp [results, Tryz.results54, go_sem, c0.out, c1.out]) rfl ?_
        exact ⟨rfl, HFIN.out⟩

end Go.Proofs.YthhpjgdeehcgjaaGreat

/-
  The program's carrierFits: whether a carrier is as an operation wants it.
-/
namespace Go.Proofs.YthhpjgdeehcgjaaGreat
set_option linter.unusedVariables false
set_option linter.unusedSimpArgs false
open Go.RowKit

/-- Whether the carrier of an operation is as it has to be. -/
def carF (m : Mc) (x : Opr) : Bool := if x.k = 4 ∨ x.k = 6 ∨ x.k = 7 then true else if x.k = 8 then !(carAt m x.c).i else if x.k = 9 then (carAt m x.c).i else carOk m x
/-- One carrier, read behind the machine. -/
theorem car_cells {w : World} {B : Nat} {C : Value} {m : Mc} (h : RdCs w B C m.cs) (hcs : m.cs.length = 4) {j : Nat} (hj : j < 4) :
    ∃ bc oc cC, C = .slice (some ⟨bc, oc, none⟩) 4 cC ∧ bc < B ∧ CellsAt w bc (oc + j * 2) [.bool (carAt m ((j : Int) + 1)).i, .int .i64 (carAt m ((j : Int) + 1)).p] := by
  obtain ⟨A, n, c, rfl, -, hl, -⟩ := id h
  obtain rfl : n = 4 := by have := hl.out; omega
  obtain ⟨b, off, x, rfl, hb, hx, hc⟩ := RdS.at_ h hj
  refine ⟨b, off, c, rfl, hb, ?_⟩
  have e : carAt m ((j : Int) + 1) = x := by
    unfold carAt
    rw [show ((j : Int) + 1 - 1).toNat = j by omega, List.getD_eq_getElem?_getD, hx]
    rfl
  rw [e]
  exact hc

theorem inC_carF (m : Mc) (x : Opr) (h : x.k = 8 ∨ x.k = 9) : inC m x = if carF m x = false then 9 else 0 := by
  unfold inC carF
  rw [if_neg (show ¬ (x.k = 4 ∨ x.k = 6 ∨ x.k = 7) by omega)]
  rcases h with h | h
  · rw [if_pos h, h]
    cases (carAt m x.c).i <;> rfl
  · rw [if_neg (show ¬ x.k = 8 by omega), if_pos h, h]
    cases (carAt m x.c).i <;> rfl
theorem makesLoop_rk (k : Int) (w : World) : Calls Tryz.prog 52 #[.int .i64 k] w fun e w' => e = .returned (.bool (k == 1 || (k == 2 || k == 5))) ∧ w = w' := by
  generalize ha : (k == 1) = a
  generalize hb : (k == 2) = b
  generalize hc : (k == 5) = c
  cases a <;> cases b <;> cases c
  all_goals
    go_enter Tryz.func52, Tryz.ntmps52
    go_wp2
    go_ret
    exact ⟨ret_bool (by rfl), rfl⟩
set_option maxHeartbeats 2000000 in
theorem carFits_t (g : Nat) (w : World) (k d fb fa tb ta c r : Int) (hk : k = 4 ∨ k = 6 ∨ k = 7) :
    Calls Tryz.prog 51 #[.pointer (some ⟨g, 0, none⟩), (⟨k, d, fb, fa, tb, ta, c, r⟩ : Opr).v] w fun e w' => e = .returned (.bool true) ∧ Below w.heap.size w w' := by
  have HB := Lib.hid (fun k => (Below.refl w.heap.size w).alloc (Nat.le_refl _) (.cells #[.int .i64 k, .int .i64 d, .int .i64 fb, .int .i64 fa, .int .i64 tb, .int .i64 ta, .int .i64 c, .int .i64 r] 41))
  rcases hk with rfl | rfl | rfl
  all_goals
    go_enter Tryz.func51, Tryz.ntmps51
    go_wp2
    go_ret
    exact ⟨rfl, HB.out _⟩
set_option maxHeartbeats 2000000 in
theorem carFits_io (m : Mc) (g : Nat) (w : World) (h : RdP w g m) (ok : okM m = true) (k d fb fa tb ta c r : Int) (hk : k = 8 ∨ k = 9) (c1 : 1 ≤ c) (c4 : c ≤ 4) :
    Calls Tryz.prog 51 #[.pointer (some ⟨g, 0, none⟩), (⟨k, d, fb, fa, tb, ta, c, r⟩ : Opr).v] w fun e w' => e = .returned (.bool (carF m ⟨k, d, fb, fa, tb, ta, c, r⟩)) ∧ Below w.heap.size w w' := by
  obtain ⟨d1, d2, d3, d4, d5, d6, d7⟩ := ok_wd ok
  obtain ⟨F, G, C, Lv, D, hc, h1, h2, h3, h4, h5, h6⟩ := h
  obtain ⟨j, rfl⟩ : ∃ j : Nat, c = (j : Int) + 1 := ⟨(c - 1).toNat, by omega⟩
  obtain ⟨bc, oc, cC, rfl, hbc, hcc⟩ := car_cells h3 d7 (j := j) (by omega)
  have hj : ((j : Int) + 1 - 1).toNat = j := by omega
  have hgl : g < w.heap.size := block_lt_of_cell hc.seven.1
  have hjl : (j : Int) < 4 := by omega
  have hj0 : (0 : Int) ≤ (j : Int) := by omega
  have HCA := Lib.hid hcc
  generalize hci : (carAt m ((j : Int) + 1)).i = ci at *
  generalize hcp : (carAt m ((j : Int) + 1)).p = pp at *
  have HV : Hid (carF m ⟨k, d, fb, fa, tb, ta, (j : Int) + 1, r⟩ = if k = 8 then !ci else ci) := by
    unfold Hid carF
    rw [if_neg (by show ¬ (k = 4 ∨ k = 6 ∨ k = 7); omega)]
    show (if k = 8 then !(carAt m ((j : Int) + 1)).i else if k = 9 then (carAt m ((j : Int) + 1)).i else _) = _
    rw [hci]
    split
    · rfl
    · rw [if_pos (by omega)]
  have HB := Lib.hid (fun k => (Below.refl w.heap.size w).alloc (Nat.le_refl _) (.cells #[.int .i64 k, .int .i64 d, .int .i64 fb, .int .i64 fa, .int .i64 tb, .int .i64 ta, .int .i64 ((j : Int) + 1), .int .i64 r] 41))
  have HC := Lib.hid (fun o => hc.alloc hgl o)
  have HC2 := Lib.hid (fun o => hcc.alloc hbc o)
  clear h1 h2 h3 h4 h5 h6 hc hcc ok hci hcp HCA c1 c4
  rw [HV.out]
  clear HV
  obtain ⟨x0, x1, x2, x3, x4, x5, x6⟩ := (HC.out (.cells #[.int .i64 k, .int .i64 d, .int .i64 fb, .int .i64 fa, .int .i64 tb, .int .i64 ta, .int .i64 ((j : Int) + 1), .int .i64 r] 41)).seven
  obtain ⟨k0, k1⟩ := (HC2.out (.cells #[.int .i64 k, .int .i64 d, .int .i64 fb, .int .i64 fa, .int .i64 tb, .int .i64 ta, .int .i64 ((j : Int) + 1), .int .i64 r] 41)).two
  rcases hk with rfl | rfl
  all_goals
    go_enter Tryz.func51, Tryz.ntmps51
    go_wp2
    go_quiet (fail)
    go_wp2
    go_ret
    exact ⟨ret_bool (by simp), below_drewN (HB.out _) _⟩
set_option maxHeartbeats 4000000 in
theorem carFits_o (m : Mc) (g : Nat) (w : World) (h : RdP w g m) (ok : okM m = true) (k d fb fa tb ta c r : Int) (hk : k = 1 ∨ k = 2 ∨ k = 3 ∨ k = 5) (hd : d = 1 ∨ d = -1) (c1 : 1 ≤ c) (c4 : c ≤ 4) (f0 : 0 ≤ fa) (f1 : fa < m.wd) :
    Calls Tryz.prog 51 #[.pointer (some ⟨g, 0, none⟩), (⟨k, d, fb, fa, tb, ta, c, r⟩ : Opr).v] w fun e w' => e = .returned (.bool (carOk m ⟨k, d, fb, fa, tb, ta, c, r⟩)) ∧ Below w.heap.size w w' := by
  obtain ⟨d1, d2, d3, d4, d5, d6, d7⟩ := ok_wd ok
  have k4 : (k == 4) = false := by simp; omega
  have k6 : (k == 6) = false := by simp; omega
  have k7 : (k == 7) = false := by simp; omega
  have k8 : (k == 8) = false := by simp; omega
  have k9 : (k == 9) = false := by simp; omega
  obtain ⟨F, G, C, Lv, D, hc, h1, h2, h3, h4, h5, h6⟩ := h
  obtain ⟨j, rfl⟩ : ∃ j : Nat, c = (j : Int) + 1 := ⟨(c - 1).toNat, by omega⟩
  obtain ⟨bc, oc, cC, rfl, hbc, hcc⟩ := car_cells h3 d7 (j := j) (by omega)
  have hj : ((j : Int) + 1 - 1).toNat = j := by omega
  have hgl : g < w.heap.size := block_lt_of_cell hc.seven.1
  have hjl : (j : Int) < 4 := by omega
  have hj0 : (0 : Int) ≤ (j : Int) := by omega
  have hQ := fun X => place_any fb fa m.rk (by omega) (by omega) (by omega) (by omega) X
  have hPb : -100 ≤ plc fb fa m.rk ∧ plc fb fa m.rk ≤ 100 := by unfold plc; split <;> omega
  have hV := carOk_of (m := m) (x := ⟨k, d, fb, fa, tb, ta, (j : Int) + 1, r⟩) (P := plc fb fa m.rk) rfl rfl rfl
  rw [hV]
  show Calls _ _ _ _ fun e w' => e = .returned (.bool ((carAt m ((j : Int) + 1)).i && (!(decide (d = 1) && decide (plc fb fa m.rk < (carAt m ((j : Int) + 1)).p)) && !(decide (d = -1) && decide ((carAt m ((j : Int) + 1)).p < plc fb fa m.rk + 1))))) ∧ _
  clear hV
  generalize (carAt m ((j : Int) + 1)).i = ci at *
  generalize (carAt m ((j : Int) + 1)).p = pp at *
  generalize plc fb fa m.rk = P at *
  obtain ⟨p0, p1⟩ := hPb
  have HQ := Lib.hid hQ
  have HB := Lib.hid ((Below.refl w.heap.size w).alloc (Nat.le_refl _) (.cells #[.int .i64 k, .int .i64 d, .int .i64 fb, .int .i64 fa, .int .i64 tb, .int .i64 ta, .int .i64 ((j : Int) + 1), .int .i64 r] 41))
  have HO := Lib.hid (Bx.new w [.int .i64 k, .int .i64 d, .int .i64 fb, .int .i64 fa, .int .i64 tb, .int .i64 ta, .int .i64 ((j : Int) + 1), .int .i64 r] 41)
  have HC := Lib.hid (hc.alloc hgl (.cells #[.int .i64 k, .int .i64 d, .int .i64 fb, .int .i64 fa, .int .i64 tb, .int .i64 ta, .int .i64 ((j : Int) + 1), .int .i64 r] 41))
  have HC2 := Lib.hid (hcc.alloc hbc (.cells #[.int .i64 k, .int .i64 d, .int .i64 fb, .int .i64 fa, .int .i64 tb, .int .i64 ta, .int .i64 ((j : Int) + 1), .int .i64 r] 41))
  clear h1 h2 h3 h4 h5 h6 hc hcc ok hQ c1 c4 d5 d6 d7 hk
  go_enter Tryz.func51, Tryz.ntmps51
  go_wp2
  have HO1 : Hid (Bx (w.alloc (.cells #[.int .i64 k, .int .i64 d, .int .i64 fb, .int .i64 fa, .int .i64 tb, .int .i64 ta, .int .i64 ((j : Int) + 1), .int .i64 r] 41)) w.heap.size [.int .i64 k, .int .i64 d, .int .i64 fb, .int .i64 fa, .int .i64 tb, .int .i64 ta, .int .i64 ((j : Int) + 1), .int .i64 r]) := HO.out
  clear HO
  generalize w.alloc (.cells #[.int .i64 k, .int .i64 d, .int .i64 fb, .int .i64 fa, .int .i64 tb, .int .i64 ta, .int .i64 ((j : Int) + 1), .int .i64 r] 41) = W1 at *
  obtain ⟨-, -, -, -, x4, -, -⟩ := HC.out.seven
  obtain ⟨k0, k1⟩ := HC2.out.two
  obtain ⟨-, -, -, -, -, -, o6, -⟩ := HO1.out.eight
  have hgl1 := block_lt_of_cell x4
  have hbc1 := block_lt_of_cell k0
  have hbo1 := block_lt_of_cell o6
  have x4a : ∀ o, (W1.alloc o).cell? ⟨g, 4, none⟩ = some (.slice (some ⟨bc, oc, none⟩) 4 cC) := fun o => (((Below.refl W1.heap.size W1).alloc (Nat.le_refl _) o).cell (p := ⟨g, 4, none⟩) hgl1).trans x4
  have o6a : ∀ o, (W1.alloc o).cell? ⟨w.heap.size, 6, none⟩ = some (.int .i64 ((j : Int) + 1)) := fun o => (((Below.refl W1.heap.size W1).alloc (Nat.le_refl _) o).cell (p := ⟨w.heap.size, 6, none⟩) hbo1).trans o6
  have k0a : ∀ o, (W1.alloc o).cell? ⟨bc, oc + j * 2, none⟩ = some (.bool ci) := fun o => (((Below.refl W1.heap.size W1).alloc (Nat.le_refl _) o).cell (p := ⟨bc, oc + j * 2, none⟩) hbc1).trans k0
  have k1a : ∀ o, (W1.alloc o).cell? ⟨bc, oc + j * 2 + 1, none⟩ = some (.int .i64 pp) := fun o => (((Below.refl W1.heap.size W1).alloc (Nat.le_refl _) o).cell (p := ⟨bc, oc + j * 2 + 1, none⟩) hbc1).trans k1
  go_region
  have HO2 : Hid (Bx ((W1.alloc (.cells #[.bool ci, .int .i64 pp] 86)).drew) w.heap.size [.int .i64 k, .int .i64 d, .int .i64 fb, .int .i64 fa, .int .i64 tb, .int .i64 ta, .int .i64 ((j : Int) + 1), .int .i64 r]) := HO1.out.alloc _
  have HN2 : Hid (Bx ((W1.alloc (.cells #[.bool ci, .int .i64 pp] 86)).drew) W1.heap.size [.bool ci, .int .i64 pp]) := Bx.new W1 [.bool ci, .int .i64 pp] _
  have HB2 := Lib.hid ((HB.out.alloc HB.out.size (.cells #[.bool ci, .int .i64 pp] 86)).drew)
  have HC3 : Hid (CellsAt ((W1.alloc (.cells #[.bool ci, .int .i64 pp] 86)).drew) g 0 [.int .i64 m.wd, .int .i64 m.rk, F, G, .slice (some ⟨bc, oc, none⟩) 4 cC, Lv, D]) := HC.out.alloc hgl1 _
  clear HO1 HB HC HC2 x4 k0 k1 o6 x4a o6a k0a k1a
  generalize (W1.alloc (.cells #[.bool ci, .int .i64 pp] 86)).drew = W2 at *
  generalize W1.heap.size = nb at *
  have hg8 := HO2.out.1.grow8
  obtain ⟨-, -, o2, o3, -⟩ := hg8
  have x1 : ∀ X, (wgrow W2 X).cell? ⟨g, 0 + 1, none⟩ = some (.int .i64 m.rk) := fun X => HC3.out.grow X 1 _ rfl
  go_wp2
  refine wp_region_grow (by kernel_rfl) (by kernel_rfl) ?_
  repeat (go_big_quiet_step ((go_at_call 84; exact calls_grow (HQ.out _))))
  refine wpQuiet_nil ?_
  intro w2 hb2
  have HB3 := Lib.hid (HB2.out.trans (hb2.mono HB2.out.size))
  obtain ⟨n0, n1⟩ := (HN2.out.below hb2 HN2.out.2.2).two
  obtain ⟨o0, o1, -⟩ := (HO2.out.below hb2 HO2.out.2.2).eight
  clear hb2 x1 o2 o3 HN2 HO2 HC3 HB2 HQ
  cases ci
  · go_wp2
    go_ret
    exact ⟨rfl, HB3.out⟩
  rcases hd with rfl | rfl
  · by_cases hg : P < pp
    · have hg1 : decide (pp ≤ P) = false := by simpa using hg
      go_wp2
      go_ret
      exact ⟨ret_bool (by simp [hg]), HB3.out⟩
    · have hg0 : pp ≤ P := by omega
      have hg1 : decide (pp ≤ P) = true := by simpa using hg0
      go_wp2
      go_ret
      exact ⟨ret_bool (by simp [hg]), HB3.out⟩
  · by_cases hg : pp < P + 1
    · have hg1 : decide (P + 1 ≤ pp) = false := by simp; omega
      have hg2 : ¬ P + 1 ≤ pp := by omega
      go_wp2
      go_ret
      exact ⟨ret_bool (by simp [hg]), HB3.out⟩
    · have hg2 : P + 1 ≤ pp := by omega
      have hg1 : decide (P + 1 ≤ pp) = true := by simpa using hg2
      go_wp2
      go_ret
      exact ⟨ret_bool (by simp [hg]), HB3.out⟩

end Go.Proofs.YthhpjgdeehcgjaaGreat

/-
  The program's opCode, kind by kind.
-/
namespace Go.Proofs.YthhpjgdeehcgjaaGreat
set_option linter.unusedVariables false
set_option linter.unusedSimpArgs false
open Go.RowKit

theorem RdP.x0 {w : World} {g : Nat} {m : Mc} (h : RdP w g m) : w.cell? ⟨g, 0, none⟩ = some (.int .i64 m.wd) := by
  obtain ⟨F, G, C, Lv, D, hc, -⟩ := h
  exact hc.seven.1
theorem RdP.x1 {w : World} {g : Nat} {m : Mc} (h : RdP w g m) : w.cell? ⟨g, 1, none⟩ = some (.int .i64 m.rk) := by
  obtain ⟨F, G, C, Lv, D, hc, -⟩ := h
  exact hc.seven.2.1
theorem RdP.x5 {w : World} {g : Nat} {m : Mc} (h : RdP w g m) : ∃ A c, w.cell? ⟨g, 5, none⟩ = some (.slice A m.ls.length c) := by
  obtain ⟨F, G, C, Lv, D, hc, -, -, -, h4, -⟩ := h
  obtain ⟨A, c, rfl⟩ := RdN.shape h4
  exact ⟨A, c, hc.seven.2.2.2.2.2.1⟩
set_option maxHeartbeats 4000000 in
set_option maxRecDepth 100000 in
theorem opCode_7 (m : Mc) (g : Nat) (w : World) (h : RdP w g m) (ok : okM m = true) (d fb fa tb ta c r : Int) (hw : fa < m.wd) (hw2 : ta < m.wd) :
    Calls Tryz.prog 25 #[.pointer (some ⟨g, 0, none⟩), (⟨7, d, fb, fa, tb, ta, c, r⟩ : Opr).v] w fun e w' => e = .returned (.int .i64 (doCode m ⟨7, d, fb, fa, tb, ta, c, r⟩)) ∧ Below w.heap.size w w' := by
  have HP := Lib.hid h
  have HOK := Lib.hid ok
  have hls := ls_len ok
  have hm1 : decide (m.wd ≤ fa) = false := by simpa using hw
  have hm2 : decide (m.wd ≤ ta) = false := by simpa using hw2
  obtain ⟨X, hX⟩ : ∃ X, X = doCode m ⟨7, d, fb, fa, tb, ta, c, r⟩ := ⟨_, rfl⟩
  rw [← hX]
  have HV := Lib.hid (hX.trans (show doCode m ⟨7, d, fb, fa, tb, ta, c, r⟩ = 0 from (do7 rfl).1))
  clear hX
  have HO := Lib.hid (Bx.new w [.int .i64 7, .int .i64 d, .int .i64 fb, .int .i64 fa, .int .i64 tb, .int .i64 ta, .int .i64 c, .int .i64 r] 41)
  have HB := Lib.hid ((Below.refl w.heap.size w).alloc (Nat.le_refl _) (.cells #[.int .i64 7, .int .i64 d, .int .i64 fb, .int .i64 fa, .int .i64 tb, .int .i64 ta, .int .i64 c, .int .i64 r] 41))
  have HPA := Lib.hid (HP.out.below HB.out)
  clear h ok
  go_enter Tryz.func25, Tryz.ntmps25
  go_wp2
  have HO1 : Hid (Bx (w.alloc (.cells #[.int .i64 7, .int .i64 d, .int .i64 fb, .int .i64 fa, .int .i64 tb, .int .i64 ta, .int .i64 c, .int .i64 r] 41)) w.heap.size [.int .i64 7, .int .i64 d, .int .i64 fb, .int .i64 fa, .int .i64 tb, .int .i64 ta, .int .i64 c, .int .i64 r]) := HO.out
  clear HO
  generalize w.alloc (.cells #[.int .i64 7, .int .i64 d, .int .i64 fb, .int .i64 fa, .int .i64 tb, .int .i64 ta, .int .i64 c, .int .i64 r] 41) = W1 at *
  obtain ⟨o0, o1, o2, o3, o4, o5, o6, o7⟩ := HO1.out.eight
  have x0 : W1.cell? ⟨g, 0, none⟩ = some (.int .i64 m.wd) := HPA.out.x0
  go_quiet (fail)
  have HO2 : Hid (Bx (W1.drewN nq) w.heap.size [.int .i64 7, .int .i64 d, .int .i64 fb, .int .i64 fa, .int .i64 tb, .int .i64 ta, .int .i64 c, .int .i64 r]) := HO1.out
  have HP2 := Lib.hid (HPA.out.below (below_drewN (Below.refl W1.heap.size W1) nq))
  have HB2 := Lib.hid (below_drewN HB.out nq)
  clear HO1 HPA HB o0 o1 o2 o3 o4 o5 o6 o7 x0
  generalize W1.drewN nq = W2 at *
  clear nq
  obtain ⟨o0, o1, o2, o3, o4, o5, o6, o7⟩ := HO2.out.eight
  go_wp2_with fail
  refine (carFits_t g _ 7 d fb fa tb ta c r (.inr (.inr rfl))).mono ?_
  rintro e w3 ⟨rfl, hb3⟩
  have HO3 := Lib.hid (HO2.out.below hb3 HO2.out.2.2)
  have HP3 := Lib.hid (HP2.out.below hb3)
  have HB3 := Lib.hid (HB2.out.trans (hb3.mono HB2.out.size))
  clear hb3 o0 o1 o2 o3 o4 o5 o6 o7 HO2 HP2 HB2
  obtain ⟨o0, o1, o2, o3, o4, o5, o6, o7⟩ := HO3.out.eight
  go_wp2_with fail
  refine (makesLoop_rk 7 _).mono ?_
  rintro e w4 ⟨rfl, rfl⟩
  go_wp2
  go_ret
  exact ⟨ret_int (by rw [HV.out]), HB3.out⟩
set_option maxHeartbeats 4000000 in
set_option maxRecDepth 100000 in
theorem opCode_8 (m : Mc) (g : Nat) (w : World) (h : RdP w g m) (ok : okM m = true) (d fb fa tb ta c r : Int) (hw : fa < m.wd) (hw2 : ta < m.wd) (c1 : 1 ≤ c) (c4 : c ≤ 4) :
    Calls Tryz.prog 25 #[.pointer (some ⟨g, 0, none⟩), (⟨8, d, fb, fa, tb, ta, c, r⟩ : Opr).v] w fun e w' => e = .returned (.int .i64 (doCode m ⟨8, d, fb, fa, tb, ta, c, r⟩)) ∧ Below w.heap.size w w' := by
  have HP := Lib.hid h
  have HOK := Lib.hid ok
  have hls := ls_len ok
  have hm1 : decide (m.wd ≤ fa) = false := by simpa using hw
  have hm2 : decide (m.wd ≤ ta) = false := by simpa using hw2
  obtain ⟨X, hX⟩ : ∃ X, X = doCode m ⟨8, d, fb, fa, tb, ta, c, r⟩ := ⟨_, rfl⟩
  rw [← hX]
  have HV := Lib.hid (hX.trans (show doCode m ⟨8, d, fb, fa, tb, ta, c, r⟩ = if carF m ⟨8, d, fb, fa, tb, ta, c, r⟩ = false then 9 else 0 from by rw [(do89 (m := m) (x := ⟨8, d, fb, fa, tb, ta, c, r⟩) (.inl rfl)).1]; exact inC_carF m ⟨8, d, fb, fa, tb, ta, c, r⟩ (.inl rfl)))
  clear hX
  have HO := Lib.hid (Bx.new w [.int .i64 8, .int .i64 d, .int .i64 fb, .int .i64 fa, .int .i64 tb, .int .i64 ta, .int .i64 c, .int .i64 r] 41)
  have HB := Lib.hid ((Below.refl w.heap.size w).alloc (Nat.le_refl _) (.cells #[.int .i64 8, .int .i64 d, .int .i64 fb, .int .i64 fa, .int .i64 tb, .int .i64 ta, .int .i64 c, .int .i64 r] 41))
  have HPA := Lib.hid (HP.out.below HB.out)
  clear h ok
  have HCF := Lib.hid (fun (W : World) (hp : RdP W g m) => carFits_io m g W hp HOK.out 8 d fb fa tb ta c r (by decide) c1 c4)
  generalize carF m ⟨8, d, fb, fa, tb, ta, c, r⟩ = cf at *
  cases cf
  ·
    go_enter Tryz.func25, Tryz.ntmps25
    go_wp2
    have HO1 : Hid (Bx (w.alloc (.cells #[.int .i64 8, .int .i64 d, .int .i64 fb, .int .i64 fa, .int .i64 tb, .int .i64 ta, .int .i64 c, .int .i64 r] 41)) w.heap.size [.int .i64 8, .int .i64 d, .int .i64 fb, .int .i64 fa, .int .i64 tb, .int .i64 ta, .int .i64 c, .int .i64 r]) := HO.out
    clear HO
    generalize w.alloc (.cells #[.int .i64 8, .int .i64 d, .int .i64 fb, .int .i64 fa, .int .i64 tb, .int .i64 ta, .int .i64 c, .int .i64 r] 41) = W1 at *
    obtain ⟨o0, o1, o2, o3, o4, o5, o6, o7⟩ := HO1.out.eight
    have x0 : W1.cell? ⟨g, 0, none⟩ = some (.int .i64 m.wd) := HPA.out.x0
    go_quiet (fail)
    have HO2 : Hid (Bx (W1.drewN nq) w.heap.size [.int .i64 8, .int .i64 d, .int .i64 fb, .int .i64 fa, .int .i64 tb, .int .i64 ta, .int .i64 c, .int .i64 r]) := HO1.out
    have HP2 := Lib.hid (HPA.out.below (below_drewN (Below.refl W1.heap.size W1) nq))
    have HB2 := Lib.hid (below_drewN HB.out nq)
    clear HO1 HPA HB o0 o1 o2 o3 o4 o5 o6 o7 x0
    generalize W1.drewN nq = W2 at *
    clear nq
    obtain ⟨o0, o1, o2, o3, o4, o5, o6, o7⟩ := HO2.out.eight
    go_wp2_with fail
    refine (HCF.out _ HP2.out).mono ?_
    rintro e w3 ⟨rfl, hb3⟩
    have HO3 := Lib.hid (HO2.out.below hb3 HO2.out.2.2)
    have HP3 := Lib.hid (HP2.out.below hb3)
    have HB3 := Lib.hid (HB2.out.trans (hb3.mono HB2.out.size))
    clear hb3 o0 o1 o2 o3 o4 o5 o6 o7 HO2 HP2 HB2
    obtain ⟨o0, o1, o2, o3, o4, o5, o6, o7⟩ := HO3.out.eight
    go_wp2
    go_ret
    exact ⟨ret_int (by rw [HV.out, if_pos (by simp)]), HB3.out⟩
  ·
    go_enter Tryz.func25, Tryz.ntmps25
    go_wp2
    have HO1 : Hid (Bx (w.alloc (.cells #[.int .i64 8, .int .i64 d, .int .i64 fb, .int .i64 fa, .int .i64 tb, .int .i64 ta, .int .i64 c, .int .i64 r] 41)) w.heap.size [.int .i64 8, .int .i64 d, .int .i64 fb, .int .i64 fa, .int .i64 tb, .int .i64 ta, .int .i64 c, .int .i64 r]) := HO.out
    clear HO
    generalize w.alloc (.cells #[.int .i64 8, .int .i64 d, .int .i64 fb, .int .i64 fa, .int .i64 tb, .int .i64 ta, .int .i64 c, .int .i64 r] 41) = W1 at *
    obtain ⟨o0, o1, o2, o3, o4, o5, o6, o7⟩ := HO1.out.eight
    have x0 : W1.cell? ⟨g, 0, none⟩ = some (.int .i64 m.wd) := HPA.out.x0
    go_quiet (fail)
    have HO2 : Hid (Bx (W1.drewN nq) w.heap.size [.int .i64 8, .int .i64 d, .int .i64 fb, .int .i64 fa, .int .i64 tb, .int .i64 ta, .int .i64 c, .int .i64 r]) := HO1.out
    have HP2 := Lib.hid (HPA.out.below (below_drewN (Below.refl W1.heap.size W1) nq))
    have HB2 := Lib.hid (below_drewN HB.out nq)
    clear HO1 HPA HB o0 o1 o2 o3 o4 o5 o6 o7 x0
    generalize W1.drewN nq = W2 at *
    clear nq
    obtain ⟨o0, o1, o2, o3, o4, o5, o6, o7⟩ := HO2.out.eight
    go_wp2_with fail
    refine (HCF.out _ HP2.out).mono ?_
    rintro e w3 ⟨rfl, hb3⟩
    have HO3 := Lib.hid (HO2.out.below hb3 HO2.out.2.2)
    have HP3 := Lib.hid (HP2.out.below hb3)
    have HB3 := Lib.hid (HB2.out.trans (hb3.mono HB2.out.size))
    clear hb3 o0 o1 o2 o3 o4 o5 o6 o7 HO2 HP2 HB2
    obtain ⟨o0, o1, o2, o3, o4, o5, o6, o7⟩ := HO3.out.eight
    go_wp2_with fail
    refine (makesLoop_rk 8 _).mono ?_
    rintro e w4 ⟨rfl, rfl⟩
    go_wp2
    go_ret
    exact ⟨ret_int (by rw [HV.out, if_neg (by simp)]), HB3.out⟩
set_option maxHeartbeats 4000000 in
set_option maxRecDepth 100000 in
theorem opCode_9 (m : Mc) (g : Nat) (w : World) (h : RdP w g m) (ok : okM m = true) (d fb fa tb ta c r : Int) (hw : fa < m.wd) (hw2 : ta < m.wd) (c1 : 1 ≤ c) (c4 : c ≤ 4) :
    Calls Tryz.prog 25 #[.pointer (some ⟨g, 0, none⟩), (⟨9, d, fb, fa, tb, ta, c, r⟩ : Opr).v] w fun e w' => e = .returned (.int .i64 (doCode m ⟨9, d, fb, fa, tb, ta, c, r⟩)) ∧ Below w.heap.size w w' := by
  have HP := Lib.hid h
  have HOK := Lib.hid ok
  have hls := ls_len ok
  have hm1 : decide (m.wd ≤ fa) = false := by simpa using hw
  have hm2 : decide (m.wd ≤ ta) = false := by simpa using hw2
  obtain ⟨X, hX⟩ : ∃ X, X = doCode m ⟨9, d, fb, fa, tb, ta, c, r⟩ := ⟨_, rfl⟩
  rw [← hX]
  have HV := Lib.hid (hX.trans (show doCode m ⟨9, d, fb, fa, tb, ta, c, r⟩ = if carF m ⟨9, d, fb, fa, tb, ta, c, r⟩ = false then 9 else 0 from by rw [(do89 (m := m) (x := ⟨9, d, fb, fa, tb, ta, c, r⟩) (.inr rfl)).1]; exact inC_carF m ⟨9, d, fb, fa, tb, ta, c, r⟩ (.inr rfl)))
  clear hX
  have HO := Lib.hid (Bx.new w [.int .i64 9, .int .i64 d, .int .i64 fb, .int .i64 fa, .int .i64 tb, .int .i64 ta, .int .i64 c, .int .i64 r] 41)
  have HB := Lib.hid ((Below.refl w.heap.size w).alloc (Nat.le_refl _) (.cells #[.int .i64 9, .int .i64 d, .int .i64 fb, .int .i64 fa, .int .i64 tb, .int .i64 ta, .int .i64 c, .int .i64 r] 41))
  have HPA := Lib.hid (HP.out.below HB.out)
  clear h ok
  have HCF := Lib.hid (fun (W : World) (hp : RdP W g m) => carFits_io m g W hp HOK.out 9 d fb fa tb ta c r (by decide) c1 c4)
  generalize carF m ⟨9, d, fb, fa, tb, ta, c, r⟩ = cf at *
  cases cf
  ·
    go_enter Tryz.func25, Tryz.ntmps25
    go_wp2
    have HO1 : Hid (Bx (w.alloc (.cells #[.int .i64 9, .int .i64 d, .int .i64 fb, .int .i64 fa, .int .i64 tb, .int .i64 ta, .int .i64 c, .int .i64 r] 41)) w.heap.size [.int .i64 9, .int .i64 d, .int .i64 fb, .int .i64 fa, .int .i64 tb, .int .i64 ta, .int .i64 c, .int .i64 r]) := HO.out
    clear HO
    generalize w.alloc (.cells #[.int .i64 9, .int .i64 d, .int .i64 fb, .int .i64 fa, .int .i64 tb, .int .i64 ta, .int .i64 c, .int .i64 r] 41) = W1 at *
    obtain ⟨o0, o1, o2, o3, o4, o5, o6, o7⟩ := HO1.out.eight
    have x0 : W1.cell? ⟨g, 0, none⟩ = some (.int .i64 m.wd) := HPA.out.x0
    go_quiet (fail)
    have HO2 : Hid (Bx (W1.drewN nq) w.heap.size [.int .i64 9, .int .i64 d, .int .i64 fb, .int .i64 fa, .int .i64 tb, .int .i64 ta, .int .i64 c, .int .i64 r]) := HO1.out
    have HP2 := Lib.hid (HPA.out.below (below_drewN (Below.refl W1.heap.size W1) nq))
    have HB2 := Lib.hid (below_drewN HB.out nq)
    clear HO1 HPA HB o0 o1 o2 o3 o4 o5 o6 o7 x0
    generalize W1.drewN nq = W2 at *
    clear nq
    obtain ⟨o0, o1, o2, o3, o4, o5, o6, o7⟩ := HO2.out.eight
    go_wp2_with fail
    refine (HCF.out _ HP2.out).mono ?_
    rintro e w3 ⟨rfl, hb3⟩
    have HO3 := Lib.hid (HO2.out.below hb3 HO2.out.2.2)
    have HP3 := Lib.hid (HP2.out.below hb3)
    have HB3 := Lib.hid (HB2.out.trans (hb3.mono HB2.out.size))
    clear hb3 o0 o1 o2 o3 o4 o5 o6 o7 HO2 HP2 HB2
    obtain ⟨o0, o1, o2, o3, o4, o5, o6, o7⟩ := HO3.out.eight
    go_wp2
    go_ret
    exact ⟨ret_int (by rw [HV.out, if_pos (by simp)]), HB3.out⟩
  ·
    go_enter Tryz.func25, Tryz.ntmps25
    go_wp2
    have HO1 : Hid (Bx (w.alloc (.cells #[.int .i64 9, .int .i64 d, .int .i64 fb, .int .i64 fa, .int .i64 tb, .int .i64 ta, .int .i64 c, .int .i64 r] 41)) w.heap.size [.int .i64 9, .int .i64 d, .int .i64 fb, .int .i64 fa, .int .i64 tb, .int .i64 ta, .int .i64 c, .int .i64 r]) := HO.out
    clear HO
    generalize w.alloc (.cells #[.int .i64 9, .int .i64 d, .int .i64 fb, .int .i64 fa, .int .i64 tb, .int .i64 ta, .int .i64 c, .int .i64 r] 41) = W1 at *
    obtain ⟨o0, o1, o2, o3, o4, o5, o6, o7⟩ := HO1.out.eight
    have x0 : W1.cell? ⟨g, 0, none⟩ = some (.int .i64 m.wd) := HPA.out.x0
    go_quiet (fail)
    have HO2 : Hid (Bx (W1.drewN nq) w.heap.size [.int .i64 9, .int .i64 d, .int .i64 fb, .int .i64 fa, .int .i64 tb, .int .i64 ta, .int .i64 c, .int .i64 r]) := HO1.out
    have HP2 := Lib.hid (HPA.out.below (below_drewN (Below.refl W1.heap.size W1) nq))
    have HB2 := Lib.hid (below_drewN HB.out nq)
    clear HO1 HPA HB o0 o1 o2 o3 o4 o5 o6 o7 x0
    generalize W1.drewN nq = W2 at *
    clear nq
    obtain ⟨o0, o1, o2, o3, o4, o5, o6, o7⟩ := HO2.out.eight
    go_wp2_with fail
    refine (HCF.out _ HP2.out).mono ?_
    rintro e w3 ⟨rfl, hb3⟩
    have HO3 := Lib.hid (HO2.out.below hb3 HO2.out.2.2)
    have HP3 := Lib.hid (HP2.out.below hb3)
    have HB3 := Lib.hid (HB2.out.trans (hb3.mono HB2.out.size))
    clear hb3 o0 o1 o2 o3 o4 o5 o6 o7 HO2 HP2 HB2
    obtain ⟨o0, o1, o2, o3, o4, o5, o6, o7⟩ := HO3.out.eight
    go_wp2_with fail
    refine (makesLoop_rk 9 _).mono ?_
    rintro e w4 ⟨rfl, rfl⟩
    go_wp2
    go_ret
    exact ⟨ret_int (by rw [HV.out, if_neg (by simp)]), HB3.out⟩
set_option maxHeartbeats 4000000 in
set_option maxRecDepth 100000 in
theorem opCode_3 (m : Mc) (g : Nat) (w : World) (h : RdP w g m) (ok : okM m = true) (d fb fa tb ta c r : Int) (hw : fa < m.wd) (hw2 : ta < m.wd) (hd : d = 1 ∨ d = -1) (c1 : 1 ≤ c) (c4 : c ≤ 4) (f0 : 0 ≤ fa) :
    Calls Tryz.prog 25 #[.pointer (some ⟨g, 0, none⟩), (⟨3, d, fb, fa, tb, ta, c, r⟩ : Opr).v] w fun e w' => e = .returned (.int .i64 (doCode m ⟨3, d, fb, fa, tb, ta, c, r⟩)) ∧ Below w.heap.size w w' := by
  have HP := Lib.hid h
  have HOK := Lib.hid ok
  have hls := ls_len ok
  have hm1 : decide (m.wd ≤ fa) = false := by simpa using hw
  have hm2 : decide (m.wd ≤ ta) = false := by simpa using hw2
  obtain ⟨X, hX⟩ : ∃ X, X = doCode m ⟨3, d, fb, fa, tb, ta, c, r⟩ := ⟨_, rfl⟩
  rw [← hX]
  have HV := Lib.hid (hX.trans (show doCode m ⟨3, d, fb, fa, tb, ta, c, r⟩ = if carOk m ⟨3, d, fb, fa, tb, ta, c, r⟩ = false then 9 else 0 from (do3 rfl).1))
  clear hX
  have HO := Lib.hid (Bx.new w [.int .i64 3, .int .i64 d, .int .i64 fb, .int .i64 fa, .int .i64 tb, .int .i64 ta, .int .i64 c, .int .i64 r] 41)
  have HB := Lib.hid ((Below.refl w.heap.size w).alloc (Nat.le_refl _) (.cells #[.int .i64 3, .int .i64 d, .int .i64 fb, .int .i64 fa, .int .i64 tb, .int .i64 ta, .int .i64 c, .int .i64 r] 41))
  have HPA := Lib.hid (HP.out.below HB.out)
  clear h ok
  have HCF := Lib.hid (fun (W : World) (hp : RdP W g m) => carFits_o m g W hp HOK.out 3 d fb fa tb ta c r (by decide) hd c1 c4 f0 hw)
  generalize carOk m ⟨3, d, fb, fa, tb, ta, c, r⟩ = cf at *
  cases cf
  ·
    go_enter Tryz.func25, Tryz.ntmps25
    go_wp2
    have HO1 : Hid (Bx (w.alloc (.cells #[.int .i64 3, .int .i64 d, .int .i64 fb, .int .i64 fa, .int .i64 tb, .int .i64 ta, .int .i64 c, .int .i64 r] 41)) w.heap.size [.int .i64 3, .int .i64 d, .int .i64 fb, .int .i64 fa, .int .i64 tb, .int .i64 ta, .int .i64 c, .int .i64 r]) := HO.out
    clear HO
    generalize w.alloc (.cells #[.int .i64 3, .int .i64 d, .int .i64 fb, .int .i64 fa, .int .i64 tb, .int .i64 ta, .int .i64 c, .int .i64 r] 41) = W1 at *
    obtain ⟨o0, o1, o2, o3, o4, o5, o6, o7⟩ := HO1.out.eight
    have x0 : W1.cell? ⟨g, 0, none⟩ = some (.int .i64 m.wd) := HPA.out.x0
    go_quiet (fail)
    have HO2 : Hid (Bx (W1.drewN nq) w.heap.size [.int .i64 3, .int .i64 d, .int .i64 fb, .int .i64 fa, .int .i64 tb, .int .i64 ta, .int .i64 c, .int .i64 r]) := HO1.out
    have HP2 := Lib.hid (HPA.out.below (below_drewN (Below.refl W1.heap.size W1) nq))
    have HB2 := Lib.hid (below_drewN HB.out nq)
    clear HO1 HPA HB o0 o1 o2 o3 o4 o5 o6 o7 x0
    generalize W1.drewN nq = W2 at *
    clear nq
    obtain ⟨o0, o1, o2, o3, o4, o5, o6, o7⟩ := HO2.out.eight
    go_wp2_with fail
    refine (HCF.out _ HP2.out).mono ?_
    rintro e w3 ⟨rfl, hb3⟩
    have HO3 := Lib.hid (HO2.out.below hb3 HO2.out.2.2)
    have HP3 := Lib.hid (HP2.out.below hb3)
    have HB3 := Lib.hid (HB2.out.trans (hb3.mono HB2.out.size))
    clear hb3 o0 o1 o2 o3 o4 o5 o6 o7 HO2 HP2 HB2
    obtain ⟨o0, o1, o2, o3, o4, o5, o6, o7⟩ := HO3.out.eight
    go_wp2
    go_ret
    exact ⟨ret_int (by rw [HV.out, if_pos (by simp)]), HB3.out⟩
  ·
    go_enter Tryz.func25, Tryz.ntmps25
    go_wp2
    have HO1 : Hid (Bx (w.alloc (.cells #[.int .i64 3, .int .i64 d, .int .i64 fb, .int .i64 fa, .int .i64 tb, .int .i64 ta, .int .i64 c, .int .i64 r] 41)) w.heap.size [.int .i64 3, .int .i64 d, .int .i64 fb, .int .i64 fa, .int .i64 tb, .int .i64 ta, .int .i64 c, .int .i64 r]) := HO.out
    clear HO
    generalize w.alloc (.cells #[.int .i64 3, .int .i64 d, .int .i64 fb, .int .i64 fa, .int .i64 tb, .int .i64 ta, .int .i64 c, .int .i64 r] 41) = W1 at *
    obtain ⟨o0, o1, o2, o3, o4, o5, o6, o7⟩ := HO1.out.eight
    have x0 : W1.cell? ⟨g, 0, none⟩ = some (.int .i64 m.wd) := HPA.out.x0
    go_quiet (fail)
    have HO2 : Hid (Bx (W1.drewN nq) w.heap.size [.int .i64 3, .int .i64 d, .int .i64 fb, .int .i64 fa, .int .i64 tb, .int .i64 ta, .int .i64 c, .int .i64 r]) := HO1.out
    have HP2 := Lib.hid (HPA.out.below (below_drewN (Below.refl W1.heap.size W1) nq))
    have HB2 := Lib.hid (below_drewN HB.out nq)
    clear HO1 HPA HB o0 o1 o2 o3 o4 o5 o6 o7 x0
    generalize W1.drewN nq = W2 at *
    clear nq
    obtain ⟨o0, o1, o2, o3, o4, o5, o6, o7⟩ := HO2.out.eight
    go_wp2_with fail
    refine (HCF.out _ HP2.out).mono ?_
    rintro e w3 ⟨rfl, hb3⟩
    have HO3 := Lib.hid (HO2.out.below hb3 HO2.out.2.2)
    have HP3 := Lib.hid (HP2.out.below hb3)
    have HB3 := Lib.hid (HB2.out.trans (hb3.mono HB2.out.size))
    clear hb3 o0 o1 o2 o3 o4 o5 o6 o7 HO2 HP2 HB2
    obtain ⟨o0, o1, o2, o3, o4, o5, o6, o7⟩ := HO3.out.eight
    go_wp2_with fail
    refine (makesLoop_rk 3 _).mono ?_
    rintro e w4 ⟨rfl, rfl⟩
    go_wp2
    go_ret
    exact ⟨ret_int (by rw [HV.out, if_neg (by simp)]), HB3.out⟩
set_option maxHeartbeats 4000000 in
set_option maxRecDepth 100000 in
theorem opCode_1 (m : Mc) (g : Nat) (w : World) (h : RdP w g m) (ok : okM m = true) (d fb fa tb ta c r : Int) (hw : fa < m.wd) (hw2 : ta < m.wd) (hd : d = 1 ∨ d = -1) (c1 : 1 ≤ c) (c4 : c ≤ 4) (f0 : 0 ≤ fa) :
    Calls Tryz.prog 25 #[.pointer (some ⟨g, 0, none⟩), (⟨1, d, fb, fa, tb, ta, c, r⟩ : Opr).v] w fun e w' => e = .returned (.int .i64 (doCode m ⟨1, d, fb, fa, tb, ta, c, r⟩)) ∧ Below w.heap.size w w' := by
  have HP := Lib.hid h
  have HOK := Lib.hid ok
  have hls := ls_len ok
  have hm1 : decide (m.wd ≤ fa) = false := by simpa using hw
  have hm2 : decide (m.wd ≤ ta) = false := by simpa using hw2
  obtain ⟨X, hX⟩ : ∃ X, X = doCode m ⟨1, d, fb, fa, tb, ta, c, r⟩ := ⟨_, rfl⟩
  rw [← hX]
  have HV := Lib.hid (hX.trans (show doCode m ⟨1, d, fb, fa, tb, ta, c, r⟩ = if carOk m ⟨1, d, fb, fa, tb, ta, c, r⟩ = false then 9 else if 300 ≤ m.ls.length then 5 else 0 from (do125 (m := m) (x := ⟨1, d, fb, fa, tb, ta, c, r⟩) (.inl rfl)).1.trans (by unfold fmCode; rfl)))
  clear hX
  have HO := Lib.hid (Bx.new w [.int .i64 1, .int .i64 d, .int .i64 fb, .int .i64 fa, .int .i64 tb, .int .i64 ta, .int .i64 c, .int .i64 r] 41)
  have HB := Lib.hid ((Below.refl w.heap.size w).alloc (Nat.le_refl _) (.cells #[.int .i64 1, .int .i64 d, .int .i64 fb, .int .i64 fa, .int .i64 tb, .int .i64 ta, .int .i64 c, .int .i64 r] 41))
  have HPA := Lib.hid (HP.out.below HB.out)
  clear h ok
  have HCF := Lib.hid (fun (W : World) (hp : RdP W g m) => carFits_o m g W hp HOK.out 1 d fb fa tb ta c r (by decide) hd c1 c4 f0 hw)
  generalize carOk m ⟨1, d, fb, fa, tb, ta, c, r⟩ = cf at *
  cases cf
  ·
    go_enter Tryz.func25, Tryz.ntmps25
    go_wp2
    have HO1 : Hid (Bx (w.alloc (.cells #[.int .i64 1, .int .i64 d, .int .i64 fb, .int .i64 fa, .int .i64 tb, .int .i64 ta, .int .i64 c, .int .i64 r] 41)) w.heap.size [.int .i64 1, .int .i64 d, .int .i64 fb, .int .i64 fa, .int .i64 tb, .int .i64 ta, .int .i64 c, .int .i64 r]) := HO.out
    clear HO
    generalize w.alloc (.cells #[.int .i64 1, .int .i64 d, .int .i64 fb, .int .i64 fa, .int .i64 tb, .int .i64 ta, .int .i64 c, .int .i64 r] 41) = W1 at *
    obtain ⟨o0, o1, o2, o3, o4, o5, o6, o7⟩ := HO1.out.eight
    have x0 : W1.cell? ⟨g, 0, none⟩ = some (.int .i64 m.wd) := HPA.out.x0
    go_quiet (fail)
    have HO2 : Hid (Bx (W1.drewN nq) w.heap.size [.int .i64 1, .int .i64 d, .int .i64 fb, .int .i64 fa, .int .i64 tb, .int .i64 ta, .int .i64 c, .int .i64 r]) := HO1.out
    have HP2 := Lib.hid (HPA.out.below (below_drewN (Below.refl W1.heap.size W1) nq))
    have HB2 := Lib.hid (below_drewN HB.out nq)
    clear HO1 HPA HB o0 o1 o2 o3 o4 o5 o6 o7 x0
    generalize W1.drewN nq = W2 at *
    clear nq
    obtain ⟨o0, o1, o2, o3, o4, o5, o6, o7⟩ := HO2.out.eight
    go_wp2_with fail
    refine (HCF.out _ HP2.out).mono ?_
    rintro e w3 ⟨rfl, hb3⟩
    have HO3 := Lib.hid (HO2.out.below hb3 HO2.out.2.2)
    have HP3 := Lib.hid (HP2.out.below hb3)
    have HB3 := Lib.hid (HB2.out.trans (hb3.mono HB2.out.size))
    clear hb3 o0 o1 o2 o3 o4 o5 o6 o7 HO2 HP2 HB2
    obtain ⟨o0, o1, o2, o3, o4, o5, o6, o7⟩ := HO3.out.eight
    go_wp2
    go_ret
    exact ⟨ret_int (by rw [HV.out, if_pos (by simp)]), HB3.out⟩
  ·
    go_enter Tryz.func25, Tryz.ntmps25
    go_wp2
    have HO1 : Hid (Bx (w.alloc (.cells #[.int .i64 1, .int .i64 d, .int .i64 fb, .int .i64 fa, .int .i64 tb, .int .i64 ta, .int .i64 c, .int .i64 r] 41)) w.heap.size [.int .i64 1, .int .i64 d, .int .i64 fb, .int .i64 fa, .int .i64 tb, .int .i64 ta, .int .i64 c, .int .i64 r]) := HO.out
    clear HO
    generalize w.alloc (.cells #[.int .i64 1, .int .i64 d, .int .i64 fb, .int .i64 fa, .int .i64 tb, .int .i64 ta, .int .i64 c, .int .i64 r] 41) = W1 at *
    obtain ⟨o0, o1, o2, o3, o4, o5, o6, o7⟩ := HO1.out.eight
    have x0 : W1.cell? ⟨g, 0, none⟩ = some (.int .i64 m.wd) := HPA.out.x0
    go_quiet (fail)
    have HO2 : Hid (Bx (W1.drewN nq) w.heap.size [.int .i64 1, .int .i64 d, .int .i64 fb, .int .i64 fa, .int .i64 tb, .int .i64 ta, .int .i64 c, .int .i64 r]) := HO1.out
    have HP2 := Lib.hid (HPA.out.below (below_drewN (Below.refl W1.heap.size W1) nq))
    have HB2 := Lib.hid (below_drewN HB.out nq)
    clear HO1 HPA HB o0 o1 o2 o3 o4 o5 o6 o7 x0
    generalize W1.drewN nq = W2 at *
    clear nq
    obtain ⟨o0, o1, o2, o3, o4, o5, o6, o7⟩ := HO2.out.eight
    go_wp2_with fail
    refine (HCF.out _ HP2.out).mono ?_
    rintro e w3 ⟨rfl, hb3⟩
    have HO3 := Lib.hid (HO2.out.below hb3 HO2.out.2.2)
    have HP3 := Lib.hid (HP2.out.below hb3)
    have HB3 := Lib.hid (HB2.out.trans (hb3.mono HB2.out.size))
    clear hb3 o0 o1 o2 o3 o4 o5 o6 o7 HO2 HP2 HB2
    obtain ⟨o0, o1, o2, o3, o4, o5, o6, o7⟩ := HO3.out.eight
    go_wp2_with fail
    refine (makesLoop_rk 1 _).mono ?_
    rintro e w4 ⟨rfl, rfl⟩
    obtain ⟨AL, cL, x5⟩ := HP3.out.x5
    by_cases hl : m.ls.length = 300
    · have hl1 : (((m.ls.length : Nat) : Int) == 300) = true := by simp; omega
      have HL := Lib.hid hl
      clear hl
      go_wp2
      go_ret
      exact ⟨ret_int (by have h9 := HL.out; rw [HV.out, if_neg (by simp), if_pos (show 300 ≤ m.ls.length by omega)]), HB3.out⟩
    have hl1 : (((m.ls.length : Nat) : Int) == 300) = false := by simp; omega
    have HL := Lib.hid hl
    go_wp2
    go_ret
    exact ⟨ret_int (by have h9 := HL.out; rw [HV.out, if_neg (by simp), if_neg (show ¬ 300 ≤ m.ls.length by omega)]), HB3.out⟩
set_option maxHeartbeats 4000000 in
set_option maxRecDepth 100000 in
theorem opCode_2 (m : Mc) (g : Nat) (w : World) (h : RdP w g m) (ok : okM m = true) (d fb fa tb ta c r : Int) (hw : fa < m.wd) (hw2 : ta < m.wd) (hd : d = 1 ∨ d = -1) (c1 : 1 ≤ c) (c4 : c ≤ 4) (f0 : 0 ≤ fa) (hf : ndOk m (fb, fa)) :
    Calls Tryz.prog 25 #[.pointer (some ⟨g, 0, none⟩), (⟨2, d, fb, fa, tb, ta, c, r⟩ : Opr).v] w fun e w' => e = .returned (.int .i64 (doCode m ⟨2, d, fb, fa, tb, ta, c, r⟩)) ∧ Below w.heap.size w w' := by
  have HP := Lib.hid h
  have HOK := Lib.hid ok
  have hls := ls_len ok
  have hm1 : decide (m.wd ≤ fa) = false := by simpa using hw
  have hm2 : decide (m.wd ≤ ta) = false := by simpa using hw2
  obtain ⟨X, hX⟩ : ∃ X, X = doCode m ⟨2, d, fb, fa, tb, ta, c, r⟩ := ⟨_, rfl⟩
  rw [← hX]
  have HV := Lib.hid (hX.trans (show doCode m ⟨2, d, fb, fa, tb, ta, c, r⟩ = if carOk m ⟨2, d, fb, fa, tb, ta, c, r⟩ = false then 9 else if 300 ≤ m.ls.length then 5 else if 4 ≤ szN m (fb, fa) then 5 else 0 from (do125 (m := m) (x := ⟨2, d, fb, fa, tb, ta, c, r⟩) (.inr (.inl rfl))).1.trans (by unfold fmCode; rfl)))
  clear hX
  have HO := Lib.hid (Bx.new w [.int .i64 2, .int .i64 d, .int .i64 fb, .int .i64 fa, .int .i64 tb, .int .i64 ta, .int .i64 c, .int .i64 r] 41)
  have HB := Lib.hid ((Below.refl w.heap.size w).alloc (Nat.le_refl _) (.cells #[.int .i64 2, .int .i64 d, .int .i64 fb, .int .i64 fa, .int .i64 tb, .int .i64 ta, .int .i64 c, .int .i64 r] 41))
  have HPA := Lib.hid (HP.out.below HB.out)
  clear h ok
  have HF := Lib.hid hf
  have hs4 := szN_le HOK.out (fb, fa)
  have HCF := Lib.hid (fun (W : World) (hp : RdP W g m) => carFits_o m g W hp HOK.out 2 d fb fa tb ta c r (by decide) hd c1 c4 f0 hw)
  generalize carOk m ⟨2, d, fb, fa, tb, ta, c, r⟩ = cf at *
  cases cf
  ·
    go_enter Tryz.func25, Tryz.ntmps25
    go_wp2
    have HO1 : Hid (Bx (w.alloc (.cells #[.int .i64 2, .int .i64 d, .int .i64 fb, .int .i64 fa, .int .i64 tb, .int .i64 ta, .int .i64 c, .int .i64 r] 41)) w.heap.size [.int .i64 2, .int .i64 d, .int .i64 fb, .int .i64 fa, .int .i64 tb, .int .i64 ta, .int .i64 c, .int .i64 r]) := HO.out
    clear HO
    generalize w.alloc (.cells #[.int .i64 2, .int .i64 d, .int .i64 fb, .int .i64 fa, .int .i64 tb, .int .i64 ta, .int .i64 c, .int .i64 r] 41) = W1 at *
    obtain ⟨o0, o1, o2, o3, o4, o5, o6, o7⟩ := HO1.out.eight
    have x0 : W1.cell? ⟨g, 0, none⟩ = some (.int .i64 m.wd) := HPA.out.x0
    go_quiet (fail)
    have HO2 : Hid (Bx (W1.drewN nq) w.heap.size [.int .i64 2, .int .i64 d, .int .i64 fb, .int .i64 fa, .int .i64 tb, .int .i64 ta, .int .i64 c, .int .i64 r]) := HO1.out
    have HP2 := Lib.hid (HPA.out.below (below_drewN (Below.refl W1.heap.size W1) nq))
    have HB2 := Lib.hid (below_drewN HB.out nq)
    clear HO1 HPA HB o0 o1 o2 o3 o4 o5 o6 o7 x0
    generalize W1.drewN nq = W2 at *
    clear nq
    obtain ⟨o0, o1, o2, o3, o4, o5, o6, o7⟩ := HO2.out.eight
    go_wp2_with fail
    refine (HCF.out _ HP2.out).mono ?_
    rintro e w3 ⟨rfl, hb3⟩
    have HO3 := Lib.hid (HO2.out.below hb3 HO2.out.2.2)
    have HP3 := Lib.hid (HP2.out.below hb3)
    have HB3 := Lib.hid (HB2.out.trans (hb3.mono HB2.out.size))
    clear hb3 o0 o1 o2 o3 o4 o5 o6 o7 HO2 HP2 HB2
    obtain ⟨o0, o1, o2, o3, o4, o5, o6, o7⟩ := HO3.out.eight
    go_wp2
    go_ret
    exact ⟨ret_int (by rw [HV.out, if_pos (by simp)]), HB3.out⟩
  ·
    go_enter Tryz.func25, Tryz.ntmps25
    go_wp2
    have HO1 : Hid (Bx (w.alloc (.cells #[.int .i64 2, .int .i64 d, .int .i64 fb, .int .i64 fa, .int .i64 tb, .int .i64 ta, .int .i64 c, .int .i64 r] 41)) w.heap.size [.int .i64 2, .int .i64 d, .int .i64 fb, .int .i64 fa, .int .i64 tb, .int .i64 ta, .int .i64 c, .int .i64 r]) := HO.out
    clear HO
    generalize w.alloc (.cells #[.int .i64 2, .int .i64 d, .int .i64 fb, .int .i64 fa, .int .i64 tb, .int .i64 ta, .int .i64 c, .int .i64 r] 41) = W1 at *
    obtain ⟨o0, o1, o2, o3, o4, o5, o6, o7⟩ := HO1.out.eight
    have x0 : W1.cell? ⟨g, 0, none⟩ = some (.int .i64 m.wd) := HPA.out.x0
    go_quiet (fail)
    have HO2 : Hid (Bx (W1.drewN nq) w.heap.size [.int .i64 2, .int .i64 d, .int .i64 fb, .int .i64 fa, .int .i64 tb, .int .i64 ta, .int .i64 c, .int .i64 r]) := HO1.out
    have HP2 := Lib.hid (HPA.out.below (below_drewN (Below.refl W1.heap.size W1) nq))
    have HB2 := Lib.hid (below_drewN HB.out nq)
    clear HO1 HPA HB o0 o1 o2 o3 o4 o5 o6 o7 x0
    generalize W1.drewN nq = W2 at *
    clear nq
    obtain ⟨o0, o1, o2, o3, o4, o5, o6, o7⟩ := HO2.out.eight
    go_wp2_with fail
    refine (HCF.out _ HP2.out).mono ?_
    rintro e w3 ⟨rfl, hb3⟩
    have HO3 := Lib.hid (HO2.out.below hb3 HO2.out.2.2)
    have HP3 := Lib.hid (HP2.out.below hb3)
    have HB3 := Lib.hid (HB2.out.trans (hb3.mono HB2.out.size))
    clear hb3 o0 o1 o2 o3 o4 o5 o6 o7 HO2 HP2 HB2
    obtain ⟨o0, o1, o2, o3, o4, o5, o6, o7⟩ := HO3.out.eight
    go_wp2_with fail
    refine (makesLoop_rk 2 _).mono ?_
    rintro e w4 ⟨rfl, rfl⟩
    obtain ⟨AL, cL, x5⟩ := HP3.out.x5
    by_cases hl : m.ls.length = 300
    · have hl1 : (((m.ls.length : Nat) : Int) == 300) = true := by simp; omega
      have HL := Lib.hid hl
      clear hl
      go_wp2
      go_ret
      exact ⟨ret_int (by have h9 := HL.out; rw [HV.out, if_neg (by simp), if_pos (show 300 ≤ m.ls.length by omega)]), HB3.out⟩
    have hl1 : (((m.ls.length : Nat) : Int) == 300) = false := by simp; omega
    have HL := Lib.hid hl
    go_wp2_with fail
    refine (on_any m g (fb, fa) _ HP3.out HOK.out HF.out).mono ?_
    rintro e w4 ⟨⟨b4, o4', A4, c4, rfl, hb4, hc4, hs4⟩, hbw4⟩
    have hd4 : w4.cell? ⟨b4, o4', none⟩ = some (.slice A4 (szN m (fb, fa)) c4) := (hbw4.cell hb4).trans hc4
    have HB4 := Lib.hid (HB3.out.trans (hbw4.mono HB3.out.size))
    have HO4 := Lib.hid (HO3.out.below hbw4 HO3.out.2.2)
    have HP4 := Lib.hid (HP3.out.below hbw4)
    clear hbw4 hs4 hc4 hb4 o0 o1 o2 o3 o4 o5 o6 o7
    obtain ⟨o0, o1, o2, o3, o4, o5, o6, o7⟩ := HO4.out.eight
    generalize szN m (fb, fa) = s at *
    by_cases hs : s = 4
    · have hs1 : (((s : Nat) : Int) == 4) = true := by simp; omega
      have HS := Lib.hid hs
      go_wp2
      go_ret
      exact ⟨ret_int (by have h9 := HL.out; have h8 := HS.out; rw [HV.out, if_neg (by simp), if_neg (show ¬ 300 ≤ m.ls.length by omega), if_pos (by omega)]), HB4.out⟩
    · have hs1 : (((s : Nat) : Int) == 4) = false := by simp; omega
      have HS := Lib.hid hs
      go_wp2
      go_ret
      exact ⟨ret_int (by have h9 := HL.out; have h8 := HS.out; rw [HV.out, if_neg (by simp), if_neg (show ¬ 300 ≤ m.ls.length by omega), if_neg (by omega)]), HB4.out⟩
set_option maxHeartbeats 4000000 in
set_option maxRecDepth 100000 in
theorem opCode_6 (m : Mc) (g : Nat) (w : World) (h : RdP w g m) (ok : okM m = true) (d fb fa tb ta c r : Int) (hw : fa < m.wd) (hw2 : ta < m.wd) (hf : ndOk m (fb, fa)) :
    Calls Tryz.prog 25 #[.pointer (some ⟨g, 0, none⟩), (⟨6, d, fb, fa, tb, ta, c, r⟩ : Opr).v] w fun e w' => e = .returned (.int .i64 (doCode m ⟨6, d, fb, fa, tb, ta, c, r⟩)) ∧ Below w.heap.size w w' := by
  have HP := Lib.hid h
  have HOK := Lib.hid ok
  have hls := ls_len ok
  have hm1 : decide (m.wd ≤ fa) = false := by simpa using hw
  have hm2 : decide (m.wd ≤ ta) = false := by simpa using hw2
  obtain ⟨X, hX⟩ : ∃ X, X = doCode m ⟨6, d, fb, fa, tb, ta, c, r⟩ := ⟨_, rfl⟩
  rw [← hX]
  have HV := Lib.hid (hX.trans (show doCode m ⟨6, d, fb, fa, tb, ta, c, r⟩ = if szN m (fb, fa) = 0 then 7 else 0 from (do6 rfl).1))
  clear hX
  have HO := Lib.hid (Bx.new w [.int .i64 6, .int .i64 d, .int .i64 fb, .int .i64 fa, .int .i64 tb, .int .i64 ta, .int .i64 c, .int .i64 r] 41)
  have HB := Lib.hid ((Below.refl w.heap.size w).alloc (Nat.le_refl _) (.cells #[.int .i64 6, .int .i64 d, .int .i64 fb, .int .i64 fa, .int .i64 tb, .int .i64 ta, .int .i64 c, .int .i64 r] 41))
  have HPA := Lib.hid (HP.out.below HB.out)
  clear h ok
  have HF := Lib.hid hf
  go_enter Tryz.func25, Tryz.ntmps25
  go_wp2
  have HO1 : Hid (Bx (w.alloc (.cells #[.int .i64 6, .int .i64 d, .int .i64 fb, .int .i64 fa, .int .i64 tb, .int .i64 ta, .int .i64 c, .int .i64 r] 41)) w.heap.size [.int .i64 6, .int .i64 d, .int .i64 fb, .int .i64 fa, .int .i64 tb, .int .i64 ta, .int .i64 c, .int .i64 r]) := HO.out
  clear HO
  generalize w.alloc (.cells #[.int .i64 6, .int .i64 d, .int .i64 fb, .int .i64 fa, .int .i64 tb, .int .i64 ta, .int .i64 c, .int .i64 r] 41) = W1 at *
  obtain ⟨o0, o1, o2, o3, o4, o5, o6, o7⟩ := HO1.out.eight
  have x0 : W1.cell? ⟨g, 0, none⟩ = some (.int .i64 m.wd) := HPA.out.x0
  go_quiet (fail)
  have HO2 : Hid (Bx (W1.drewN nq) w.heap.size [.int .i64 6, .int .i64 d, .int .i64 fb, .int .i64 fa, .int .i64 tb, .int .i64 ta, .int .i64 c, .int .i64 r]) := HO1.out
  have HP2 := Lib.hid (HPA.out.below (below_drewN (Below.refl W1.heap.size W1) nq))
  have HB2 := Lib.hid (below_drewN HB.out nq)
  clear HO1 HPA HB o0 o1 o2 o3 o4 o5 o6 o7 x0
  generalize W1.drewN nq = W2 at *
  clear nq
  obtain ⟨o0, o1, o2, o3, o4, o5, o6, o7⟩ := HO2.out.eight
  go_wp2_with fail
  refine (carFits_t g _ 6 d fb fa tb ta c r (.inr (.inl rfl))).mono ?_
  rintro e w3 ⟨rfl, hb3⟩
  have HO3 := Lib.hid (HO2.out.below hb3 HO2.out.2.2)
  have HP3 := Lib.hid (HP2.out.below hb3)
  have HB3 := Lib.hid (HB2.out.trans (hb3.mono HB2.out.size))
  clear hb3 o0 o1 o2 o3 o4 o5 o6 o7 HO2 HP2 HB2
  obtain ⟨o0, o1, o2, o3, o4, o5, o6, o7⟩ := HO3.out.eight
  go_wp2_with fail
  refine (makesLoop_rk 6 _).mono ?_
  rintro e w4 ⟨rfl, rfl⟩
  go_wp2_with fail
  refine (on_any m g (fb, fa) _ HP3.out HOK.out HF.out).mono ?_
  rintro e w4 ⟨⟨b4, o4', A4, c4, rfl, hb4, hc4, hs4⟩, hbw4⟩
  have hd4 : w4.cell? ⟨b4, o4', none⟩ = some (.slice A4 (szN m (fb, fa)) c4) := (hbw4.cell hb4).trans hc4
  have HB4 := Lib.hid (HB3.out.trans (hbw4.mono HB3.out.size))
  have HO4 := Lib.hid (HO3.out.below hbw4 HO3.out.2.2)
  have HP4 := Lib.hid (HP3.out.below hbw4)
  clear hbw4 hs4 hc4 hb4 o0 o1 o2 o3 o4 o5 o6 o7
  obtain ⟨o0, o1, o2, o3, o4, o5, o6, o7⟩ := HO4.out.eight
  generalize szN m (fb, fa) = s at *
  by_cases hs : s = 0
  · have hs1 : (((s : Nat) : Int) == 0) = true := by simp; omega
    have HS := Lib.hid hs
    go_wp2
    go_ret
    exact ⟨ret_int (by rw [HV.out, if_pos HS.out]), HB4.out⟩
  · have hs1 : (((s : Nat) : Int) == 0) = false := by simpa using hs
    have HS := Lib.hid hs
    go_wp2
    go_ret
    exact ⟨ret_int (by rw [HV.out, if_neg HS.out]), HB4.out⟩

end Go.Proofs.YthhpjgdeehcgjaaGreat

/-
  The program's opCode at a transfer and at a split.
-/
namespace Go.Proofs.YthhpjgdeehcgjaaGreat
set_option linter.unusedVariables false
set_option linter.unusedSimpArgs false
open Go.RowKit

theorem mv_no {m : Mc} {x : Opr} (hfb : x.fb = 1 ∨ x.fb = 2) (htb : x.tb = 1 ∨ x.tb = 2) (hne : x.fb ≠ x.tb) (t0 : 0 ≤ x.ta) (t1 : x.ta < m.wd) (h : fcIn m x.f = false ∨ fcN m x.f ≠ x.t) : mvCode m x = 8 := by
  unfold mvCode
  rw [if_pos]
  intro e
  have hN : fcN m x.f = x.t := by
    unfold plc at e
    unfold fcN
    rcases hfb with h1 | h1
    · rw [if_neg (by show ¬ x.fb = 2; omega)]
      rw [if_neg (by omega), if_pos (by omega)] at e
      exact Prod.ext (by show (2 : Int) = x.tb; omega) (by show x.fa - m.rk = x.ta; omega)
    · rw [if_pos (by show x.fb = 2; omega)]
      rw [if_pos (by omega), if_neg (by omega)] at e
      exact Prod.ext (by show (1 : Int) = x.tb; omega) (by show x.fa + m.rk = x.ta; omega)
  rcases h with h | h
  · unfold fcIn at h
    rw [hN] at h
    have := inB_iff.2 (show 0 ≤ x.ta ∧ x.ta ≤ m.wd - 1 by omega)
    rw [show (x.t).2 = x.ta from rfl, this] at h
    cases h
  · exact h hN
theorem mv_yes {m : Mc} {x : Opr} (hfb : x.fb = 1 ∨ x.fb = 2) (htb : x.tb = 1 ∨ x.tb = 2) (hne : x.fb ≠ x.tb) (h : fcN m x.f = x.t) : mvCode m x = if szN m x.f = 0 then 7 else if 4 < szN m x.f + szN m x.t then 5 else 0 := by
  unfold mvCode
  rw [if_neg]
  · rfl
  · intro e
    apply e
    unfold fcN at h
    unfold plc
    rcases hfb with h1 | h1
    · rw [if_neg (by show ¬ x.fb = 2; omega)] at h
      have h2 : x.fa - m.rk = x.ta := congrArg Prod.snd h
      rw [if_neg (by omega), if_pos (by omega)]
      omega
    · rw [if_pos (by show x.fb = 2; omega)] at h
      have h2 : x.fa + m.rk = x.ta := congrArg Prod.snd h
      rw [if_pos (by omega), if_neg (by omega)]
      omega

set_option maxHeartbeats 4000000 in
set_option maxRecDepth 100000 in
theorem opCode_4 (m : Mc) (g : Nat) (w : World) (h : RdP w g m) (ok : okM m = true) (d fb fa tb ta c r : Int) (hw : fa < m.wd) (hw2 : ta < m.wd) (hf : ndOk m (fb, fa)) (ht : ndOk m (tb, ta)) (hne : fb ≠ tb) :
    Calls Tryz.prog 25 #[.pointer (some ⟨g, 0, none⟩), (⟨4, d, fb, fa, tb, ta, c, r⟩ : Opr).v] w fun e w' => e = .returned (.int .i64 (doCode m ⟨4, d, fb, fa, tb, ta, c, r⟩)) ∧ Below w.heap.size w w' := by
  have HP := Lib.hid h
  have HOK := Lib.hid ok
  have hls := ls_len ok
  have hm1 : decide (m.wd ≤ fa) = false := by simpa using hw
  have hm2 : decide (m.wd ≤ ta) = false := by simpa using hw2
  obtain ⟨X, hX⟩ : ∃ X, X = doCode m ⟨4, d, fb, fa, tb, ta, c, r⟩ := ⟨_, rfl⟩
  rw [← hX]
  have HV := Lib.hid (hX.trans (show doCode m ⟨4, d, fb, fa, tb, ta, c, r⟩ = mvCode m ⟨4, d, fb, fa, tb, ta, c, r⟩ from (do4 rfl).1))
  clear hX
  have HO := Lib.hid (Bx.new w [.int .i64 4, .int .i64 d, .int .i64 fb, .int .i64 fa, .int .i64 tb, .int .i64 ta, .int .i64 c, .int .i64 r] 41)
  have HB := Lib.hid ((Below.refl w.heap.size w).alloc (Nat.le_refl _) (.cells #[.int .i64 4, .int .i64 d, .int .i64 fb, .int .i64 fa, .int .i64 tb, .int .i64 ta, .int .i64 c, .int .i64 r] 41))
  have HPA := Lib.hid (HP.out.below HB.out)
  clear h ok
  obtain ⟨d1, d2, d3, d4, -, -, -⟩ := ok_wd HOK.out
  have HF := Lib.hid hf
  have HT := Lib.hid ht
  have hsf := szN_le HOK.out (fb, fa)
  have hst := szN_le HOK.out (tb, ta)
  have hfb : (fb, fa).1 = 1 ∨ (fb, fa).1 = 2 := hf.1
  have f0 : 0 ≤ fa := hf.2.1
  have HNO := Lib.hid (mv_no (m := m) (x := ⟨4, d, fb, fa, tb, ta, c, r⟩) hf.1 ht.1 hne ht.2.1 ht.2.2)
  have HYES := Lib.hid (fun (_ : fcIn m (fb, fa) = true) => mv_yes (m := m) (x := ⟨4, d, fb, fa, tb, ta, c, r⟩) hf.1 ht.1 hne)
  clear hf ht hne
  go_enter Tryz.func25, Tryz.ntmps25
  go_wp2
  have HO1 : Hid (Bx (w.alloc (.cells #[.int .i64 4, .int .i64 d, .int .i64 fb, .int .i64 fa, .int .i64 tb, .int .i64 ta, .int .i64 c, .int .i64 r] 41)) w.heap.size [.int .i64 4, .int .i64 d, .int .i64 fb, .int .i64 fa, .int .i64 tb, .int .i64 ta, .int .i64 c, .int .i64 r]) := HO.out
  clear HO
  generalize w.alloc (.cells #[.int .i64 4, .int .i64 d, .int .i64 fb, .int .i64 fa, .int .i64 tb, .int .i64 ta, .int .i64 c, .int .i64 r] 41) = W1 at *
  obtain ⟨o0, o1, o2, o3, o4, o5, o6, o7⟩ := HO1.out.eight
  have x0 : W1.cell? ⟨g, 0, none⟩ = some (.int .i64 m.wd) := HPA.out.x0
  go_quiet (fail)
  have HO2 : Hid (Bx (W1.drewN nq) w.heap.size [.int .i64 4, .int .i64 d, .int .i64 fb, .int .i64 fa, .int .i64 tb, .int .i64 ta, .int .i64 c, .int .i64 r]) := HO1.out
  have HP2 := Lib.hid (HPA.out.below (below_drewN (Below.refl W1.heap.size W1) nq))
  have HB2 := Lib.hid (below_drewN HB.out nq)
  clear HO1 HPA HB o0 o1 o2 o3 o4 o5 o6 o7 x0
  generalize W1.drewN nq = W2 at *
  clear nq
  obtain ⟨o0, o1, o2, o3, o4, o5, o6, o7⟩ := HO2.out.eight
  go_wp2_with fail
  refine (carFits_t g _ 4 d fb fa tb ta c r (.inl rfl)).mono ?_
  rintro e w3 ⟨rfl, hb3⟩
  have HO3 := Lib.hid (HO2.out.below hb3 HO2.out.2.2)
  have HP3 := Lib.hid (HP2.out.below hb3)
  have HB3 := Lib.hid (HB2.out.trans (hb3.mono HB2.out.size))
  clear hb3 o0 o1 o2 o3 o4 o5 o6 o7 HO2 HP2 HB2
  obtain ⟨o0, o1, o2, o3, o4, o5, o6, o7⟩ := HO3.out.eight
  go_wp2_with fail
  refine (makesLoop_rk 4 _).mono ?_
  rintro e w4 ⟨rfl, rfl⟩
  go_wp2_with fail
  refine (facing_gen HP3.out.x0 HP3.out.x1 (fb, fa) hfb f0 (by show fa ≤ 100; omega) ⟨d3, d4⟩ ⟨by omega, by omega⟩).mono ?_
  rintro e w5 ⟨rfl, hb5⟩
  have HO5 := Lib.hid (HO3.out.below hb5 HO3.out.2.2)
  have HP5 := Lib.hid (HP3.out.below hb5)
  have HB5 := Lib.hid (HB3.out.trans (hb5.mono HB3.out.size))
  clear hb5 o0 o1 o2 o3 o4 o5 o6 o7 HO3 HP3 HB3
  obtain ⟨o0, o1, o2, o3, o4, o5, o6, o7⟩ := HO5.out.eight
  have o2a : ∀ o, (w5.alloc o).cell? ⟨w.heap.size, 2, none⟩ = some (.int .i64 fb) := fun o => (HO5.out.alloc o).eight.2.2.1
  have o3a : ∀ o, (w5.alloc o).cell? ⟨w.heap.size, 3, none⟩ = some (.int .i64 fa) := fun o => (HO5.out.alloc o).eight.2.2.2.1
  have o4a : ∀ o, (w5.alloc o).cell? ⟨w.heap.size, 4, none⟩ = some (.int .i64 tb) := fun o => (HO5.out.alloc o).eight.2.2.2.2.1
  have o5a : ∀ o, (w5.alloc o).cell? ⟨w.heap.size, 5, none⟩ = some (.int .i64 ta) := fun o => (HO5.out.alloc o).eight.2.2.2.2.2.1
  cases hfi : fcIn m (fb, fa)
  · have HM := Lib.hid (HNO.out (.inl hfi))
    clear hfi
    go_wp2
    go_ret
    exact ⟨ret_int (by rw [HV.out, HM.out]), HB5.out.alloc HB5.out.size _⟩
  by_cases hp : fcN m (fb, fa) = (tb, ta)
  · have HM := Lib.hid (HYES.out hfi hp)
    rw [hp]
    have heq : ∀ W, (binOp .neq 39 (.agg #[.int .i64 tb, .int .i64 ta]) (.agg #[.int .i64 tb, .int .i64 ta])).run Tryz.prog W = .ok (.bool false) W := fun W => by rw [neq_nd]; simp
    clear hfi hp
    go_wp2_with fail
    have HBA := Lib.hid (HB5.out.alloc HB5.out.size (.cells #[.int .i64 tb, .int .i64 ta] 39))
    have HPA := Lib.hid (HP5.out.below ((Below.refl w5.heap.size w5).alloc (Nat.le_refl _) (.cells #[.int .i64 tb, .int .i64 ta] 39)))
    have HOA := Lib.hid (HO5.out.alloc (.cells #[.int .i64 tb, .int .i64 ta] 39))
    clear heq o0 o1 o2 o3 o4 o5 o6 o7 o2a o3a o4a o5a HO5 HP5 HB5
    refine (on_any m g (fb, fa) _ HPA.out HOK.out HF.out).mono ?_
    rintro e w6 ⟨⟨b6, o6', A6, c6, rfl, hb6, hc6, hs6⟩, hbw6⟩
    have hd6 : w6.cell? ⟨b6, o6', none⟩ = some (.slice A6 (szN m (fb, fa)) c6) := (hbw6.cell hb6).trans hc6
    have HB6 := Lib.hid (HBA.out.trans (hbw6.mono HBA.out.size))
    have HO6 := Lib.hid (HOA.out.below hbw6 HOA.out.2.2)
    have HP6 := Lib.hid (HPA.out.below hbw6)
    clear hbw6 hs6 hc6 hb6 HBA HPA HOA
    obtain ⟨bf, of, sf, cf, hbf, hcf, hqf⟩ := on_fix m g (fb, fa) w6 HP6.out HOK.out HF.out
    obtain ⟨bt, ot, st, ct, hbt, hct, hqt⟩ := on_fix m g (tb, ta) w6 HP6.out HOK.out HT.out
    have HQF := Lib.hid (fun X => hqf _ (below_wgrow w6 X))
    have HQT := Lib.hid (fun X => hqt _ (below_wgrow w6 X))
    have qf : ∀ X, (wgrow w6 X).cell? ⟨bf, of, none⟩ = some (.slice sf (szN m (fb, fa)) cf) := fun X => wgrow_cell hcf
    have qt : ∀ X, (wgrow w6 X).cell? ⟨bt, ot, none⟩ = some (.slice st (szN m (tb, ta)) ct) := fun X => wgrow_cell hct
    have hg8 := HO6.out.1.grow8
    obtain ⟨-, -, y2, y3, y4, y5, -⟩ := hg8
    clear hqf hqt hcf hct hbf hbt
    generalize szN m (fb, fa) = s at *
    generalize szN m (tb, ta) = u at *
    by_cases hs : s = 0
    · have hs1 : (((s : Nat) : Int) == 0) = true := by simp; omega
      have HS := Lib.hid hs
      go_wp2
      go_ret
      exact ⟨ret_int (by rw [HV.out, HM.out, if_pos HS.out]), HB6.out⟩
    have hs1 : (((s : Nat) : Int) == 0) = false := by simp; omega
    have HS := Lib.hid hs
    by_cases hg : 4 < s + u
    · have hg1 : decide ((4 : Int) < (s : Int) + (u : Int)) = true := by simp; omega
      have hg2 : (4 : Int) < (s : Int) + (u : Int) := by omega
      have HG := Lib.hid hg
      go_wp2
      refine wp_region_grow (by kernel_rfl) (by kernel_rfl) ?_
      iterate 4 (go_big_quiet_step ((go_at_call 53; exact calls_grow (HQF.out _))))
      repeat (go_big_quiet_step ((go_at_call 53; exact calls_grow (HQT.out _))))
      refine wpQuiet_nil ?_
      intro w7 hb7
      have HB7 := Lib.hid (HB6.out.trans (hb7.mono HB6.out.size))
      clear hb7 qf qt y2 y3 y4 y5
      go_wp2
      go_ret
      exact ⟨ret_int (by rw [HV.out, HM.out, if_neg HS.out, if_pos HG.out]), HB7.out⟩
    · have hg1 : decide ((4 : Int) < (s : Int) + (u : Int)) = false := by simp; omega
      have hg2 : ¬ (4 : Int) < (s : Int) + (u : Int) := by omega
      have HG := Lib.hid hg
      go_wp2
      refine wp_region_grow (by kernel_rfl) (by kernel_rfl) ?_
      iterate 4 (go_big_quiet_step ((go_at_call 53; exact calls_grow (HQF.out _))))
      repeat (go_big_quiet_step ((go_at_call 53; exact calls_grow (HQT.out _))))
      refine wpQuiet_nil ?_
      intro w7 hb7
      have HB7 := Lib.hid (HB6.out.trans (hb7.mono HB6.out.size))
      clear hb7 qf qt y2 y3 y4 y5
      go_wp2
      go_ret
      exact ⟨ret_int (by rw [HV.out, HM.out, if_neg HS.out, if_neg HG.out]), HB7.out⟩
  · have HM := Lib.hid (HNO.out (.inr hp))
    have heq : ∀ W, (binOp .neq 39 (.agg #[.int .i64 (fcN m (fb, fa)).1, .int .i64 (fcN m (fb, fa)).2]) (.agg #[.int .i64 tb, .int .i64 ta])).run Tryz.prog W = .ok (.bool true) W := fun W => by
      rw [neq_nd]
      have h9 : ¬ ((fcN m (fb, fa)).1 = tb ∧ (fcN m (fb, fa)).2 = ta) := fun e => hp (Prod.ext e.1 e.2)
      have h8 : (decide ((fcN m (fb, fa)).1 = tb) && decide ((fcN m (fb, fa)).2 = ta)) = false := by
        cases hx : (decide ((fcN m (fb, fa)).1 = tb) && decide ((fcN m (fb, fa)).2 = ta)) with
        | false => rfl
        | true => exact absurd (by simpa using hx) h9
      rw [h8]
      rfl
    generalize (fcN m (fb, fa)).1 = f1 at *
    generalize (fcN m (fb, fa)).2 = f2 at *
    clear hfi hp
    go_wp2
    go_ret
    exact ⟨ret_int (by rw [HV.out, HM.out]), HB5.out.alloc HB5.out.size _⟩
set_option maxHeartbeats 4000000 in
set_option maxRecDepth 100000 in
theorem opCode_5 (m : Mc) (g : Nat) (w : World) (h : RdP w g m) (ok : okM m = true) (d fb fa tb ta c r : Int) (hw : fa < m.wd) (hw2 : ta < m.wd) (hd : d = 1 ∨ d = -1) (c1 : 1 ≤ c) (c4 : c ≤ 4) (hf : ndOk m (fb, fa)) (ht : ndOk m (tb, ta)) (hne : fb ≠ tb) :
    Calls Tryz.prog 25 #[.pointer (some ⟨g, 0, none⟩), (⟨5, d, fb, fa, tb, ta, c, r⟩ : Opr).v] w fun e w' => e = .returned (.int .i64 (doCode m ⟨5, d, fb, fa, tb, ta, c, r⟩)) ∧ Below w.heap.size w w' := by
  have HP := Lib.hid h
  have HOK := Lib.hid ok
  have hls := ls_len ok
  have hm1 : decide (m.wd ≤ fa) = false := by simpa using hw
  have hm2 : decide (m.wd ≤ ta) = false := by simpa using hw2
  obtain ⟨X, hX⟩ : ∃ X, X = doCode m ⟨5, d, fb, fa, tb, ta, c, r⟩ := ⟨_, rfl⟩
  rw [← hX]
  have HV := Lib.hid (hX.trans (show doCode m ⟨5, d, fb, fa, tb, ta, c, r⟩ = if carOk m ⟨5, d, fb, fa, tb, ta, c, r⟩ = false then 9 else if 300 ≤ m.ls.length then 5 else mvCode m ⟨5, d, fb, fa, tb, ta, c, r⟩ from (do125 (m := m) (x := ⟨5, d, fb, fa, tb, ta, c, r⟩) (.inr (.inr rfl))).1.trans (by unfold fmCode; rfl)))
  clear hX
  have HO := Lib.hid (Bx.new w [.int .i64 5, .int .i64 d, .int .i64 fb, .int .i64 fa, .int .i64 tb, .int .i64 ta, .int .i64 c, .int .i64 r] 41)
  have HB := Lib.hid ((Below.refl w.heap.size w).alloc (Nat.le_refl _) (.cells #[.int .i64 5, .int .i64 d, .int .i64 fb, .int .i64 fa, .int .i64 tb, .int .i64 ta, .int .i64 c, .int .i64 r] 41))
  have HPA := Lib.hid (HP.out.below HB.out)
  clear h ok
  obtain ⟨d1, d2, d3, d4, -, -, -⟩ := ok_wd HOK.out
  have HF := Lib.hid hf
  have HT := Lib.hid ht
  have hsf := szN_le HOK.out (fb, fa)
  have hst := szN_le HOK.out (tb, ta)
  have hfb : (fb, fa).1 = 1 ∨ (fb, fa).1 = 2 := hf.1
  have f0 : 0 ≤ fa := hf.2.1
  have HNO := Lib.hid (mv_no (m := m) (x := ⟨5, d, fb, fa, tb, ta, c, r⟩) hf.1 ht.1 hne ht.2.1 ht.2.2)
  have HYES := Lib.hid (fun (_ : fcIn m (fb, fa) = true) => mv_yes (m := m) (x := ⟨5, d, fb, fa, tb, ta, c, r⟩) hf.1 ht.1 hne)
  clear hf ht hne
  have HCF := Lib.hid (fun (W : World) (hp : RdP W g m) => carFits_o m g W hp HOK.out 5 d fb fa tb ta c r (by decide) hd c1 c4 f0 hw)
  generalize carOk m ⟨5, d, fb, fa, tb, ta, c, r⟩ = cf at *
  cases cf
  ·
    go_enter Tryz.func25, Tryz.ntmps25
    go_wp2
    have HO1 : Hid (Bx (w.alloc (.cells #[.int .i64 5, .int .i64 d, .int .i64 fb, .int .i64 fa, .int .i64 tb, .int .i64 ta, .int .i64 c, .int .i64 r] 41)) w.heap.size [.int .i64 5, .int .i64 d, .int .i64 fb, .int .i64 fa, .int .i64 tb, .int .i64 ta, .int .i64 c, .int .i64 r]) := HO.out
    clear HO
    generalize w.alloc (.cells #[.int .i64 5, .int .i64 d, .int .i64 fb, .int .i64 fa, .int .i64 tb, .int .i64 ta, .int .i64 c, .int .i64 r] 41) = W1 at *
    obtain ⟨o0, o1, o2, o3, o4, o5, o6, o7⟩ := HO1.out.eight
    have x0 : W1.cell? ⟨g, 0, none⟩ = some (.int .i64 m.wd) := HPA.out.x0
    go_quiet (fail)
    have HO2 : Hid (Bx (W1.drewN nq) w.heap.size [.int .i64 5, .int .i64 d, .int .i64 fb, .int .i64 fa, .int .i64 tb, .int .i64 ta, .int .i64 c, .int .i64 r]) := HO1.out
    have HP2 := Lib.hid (HPA.out.below (below_drewN (Below.refl W1.heap.size W1) nq))
    have HB2 := Lib.hid (below_drewN HB.out nq)
    clear HO1 HPA HB o0 o1 o2 o3 o4 o5 o6 o7 x0
    generalize W1.drewN nq = W2 at *
    clear nq
    obtain ⟨o0, o1, o2, o3, o4, o5, o6, o7⟩ := HO2.out.eight
    go_wp2_with fail
    refine (HCF.out _ HP2.out).mono ?_
    rintro e w3 ⟨rfl, hb3⟩
    have HO3 := Lib.hid (HO2.out.below hb3 HO2.out.2.2)
    have HP3 := Lib.hid (HP2.out.below hb3)
    have HB3 := Lib.hid (HB2.out.trans (hb3.mono HB2.out.size))
    clear hb3 o0 o1 o2 o3 o4 o5 o6 o7 HO2 HP2 HB2
    obtain ⟨o0, o1, o2, o3, o4, o5, o6, o7⟩ := HO3.out.eight
    go_wp2
    go_ret
    exact ⟨ret_int (by rw [HV.out, if_pos (by simp)]), HB3.out⟩
  ·
    go_enter Tryz.func25, Tryz.ntmps25
    go_wp2
    have HO1 : Hid (Bx (w.alloc (.cells #[.int .i64 5, .int .i64 d, .int .i64 fb, .int .i64 fa, .int .i64 tb, .int .i64 ta, .int .i64 c, .int .i64 r] 41)) w.heap.size [.int .i64 5, .int .i64 d, .int .i64 fb, .int .i64 fa, .int .i64 tb, .int .i64 ta, .int .i64 c, .int .i64 r]) := HO.out
    clear HO
    generalize w.alloc (.cells #[.int .i64 5, .int .i64 d, .int .i64 fb, .int .i64 fa, .int .i64 tb, .int .i64 ta, .int .i64 c, .int .i64 r] 41) = W1 at *
    obtain ⟨o0, o1, o2, o3, o4, o5, o6, o7⟩ := HO1.out.eight
    have x0 : W1.cell? ⟨g, 0, none⟩ = some (.int .i64 m.wd) := HPA.out.x0
    go_quiet (fail)
    have HO2 : Hid (Bx (W1.drewN nq) w.heap.size [.int .i64 5, .int .i64 d, .int .i64 fb, .int .i64 fa, .int .i64 tb, .int .i64 ta, .int .i64 c, .int .i64 r]) := HO1.out
    have HP2 := Lib.hid (HPA.out.below (below_drewN (Below.refl W1.heap.size W1) nq))
    have HB2 := Lib.hid (below_drewN HB.out nq)
    clear HO1 HPA HB o0 o1 o2 o3 o4 o5 o6 o7 x0
    generalize W1.drewN nq = W2 at *
    clear nq
    obtain ⟨o0, o1, o2, o3, o4, o5, o6, o7⟩ := HO2.out.eight
    go_wp2_with fail
    refine (HCF.out _ HP2.out).mono ?_
    rintro e w3 ⟨rfl, hb3⟩
    have HO3 := Lib.hid (HO2.out.below hb3 HO2.out.2.2)
    have HP3 := Lib.hid (HP2.out.below hb3)
    have HB3 := Lib.hid (HB2.out.trans (hb3.mono HB2.out.size))
    clear hb3 o0 o1 o2 o3 o4 o5 o6 o7 HO2 HP2 HB2
    obtain ⟨o0, o1, o2, o3, o4, o5, o6, o7⟩ := HO3.out.eight
    go_wp2_with fail
    refine (makesLoop_rk 5 _).mono ?_
    rintro e w4 ⟨rfl, rfl⟩
    obtain ⟨AL, cL, x5⟩ := HP3.out.x5
    by_cases hl : m.ls.length = 300
    · have hl1 : (((m.ls.length : Nat) : Int) == 300) = true := by simp; omega
      have HL := Lib.hid hl
      clear hl
      go_wp2
      go_ret
      exact ⟨ret_int (by have h9 := HL.out; rw [HV.out, if_neg (by simp), if_pos (show 300 ≤ m.ls.length by omega)]), HB3.out⟩
    have hl1 : (((m.ls.length : Nat) : Int) == 300) = false := by simp; omega
    have HL := Lib.hid hl
    go_wp2_with fail
    refine (facing_gen HP3.out.x0 HP3.out.x1 (fb, fa) hfb f0 (by show fa ≤ 100; omega) ⟨d3, d4⟩ ⟨by omega, by omega⟩).mono ?_
    rintro e w5 ⟨rfl, hb5⟩
    have HO5 := Lib.hid (HO3.out.below hb5 HO3.out.2.2)
    have HP5 := Lib.hid (HP3.out.below hb5)
    have HB5 := Lib.hid (HB3.out.trans (hb5.mono HB3.out.size))
    clear hb5 o0 o1 o2 o3 o4 o5 o6 o7 HO3 HP3 HB3
    obtain ⟨o0, o1, o2, o3, o4, o5, o6, o7⟩ := HO5.out.eight
    have o2a : ∀ o, (w5.alloc o).cell? ⟨w.heap.size, 2, none⟩ = some (.int .i64 fb) := fun o => (HO5.out.alloc o).eight.2.2.1
    have o3a : ∀ o, (w5.alloc o).cell? ⟨w.heap.size, 3, none⟩ = some (.int .i64 fa) := fun o => (HO5.out.alloc o).eight.2.2.2.1
    have o4a : ∀ o, (w5.alloc o).cell? ⟨w.heap.size, 4, none⟩ = some (.int .i64 tb) := fun o => (HO5.out.alloc o).eight.2.2.2.2.1
    have o5a : ∀ o, (w5.alloc o).cell? ⟨w.heap.size, 5, none⟩ = some (.int .i64 ta) := fun o => (HO5.out.alloc o).eight.2.2.2.2.2.1
    cases hfi : fcIn m (fb, fa)
    · have HM := Lib.hid (HNO.out (.inl hfi))
      clear hfi
      go_wp2
      go_ret
      exact ⟨ret_int (by have h9 := HL.out; rw [HV.out, if_neg (by simp), if_neg (show ¬ 300 ≤ m.ls.length by omega), HM.out]), HB5.out.alloc HB5.out.size _⟩
    by_cases hp : fcN m (fb, fa) = (tb, ta)
    · have HM := Lib.hid (HYES.out hfi hp)
      rw [hp]
      have heq : ∀ W, (binOp .neq 39 (.agg #[.int .i64 tb, .int .i64 ta]) (.agg #[.int .i64 tb, .int .i64 ta])).run Tryz.prog W = .ok (.bool false) W := fun W => by rw [neq_nd]; simp
      clear hfi hp
      go_wp2_with fail
      have HBA := Lib.hid (HB5.out.alloc HB5.out.size (.cells #[.int .i64 tb, .int .i64 ta] 39))
      have HPA := Lib.hid (HP5.out.below ((Below.refl w5.heap.size w5).alloc (Nat.le_refl _) (.cells #[.int .i64 tb, .int .i64 ta] 39)))
      have HOA := Lib.hid (HO5.out.alloc (.cells #[.int .i64 tb, .int .i64 ta] 39))
      clear heq o0 o1 o2 o3 o4 o5 o6 o7 o2a o3a o4a o5a HO5 HP5 HB5
      refine (on_any m g (fb, fa) _ HPA.out HOK.out HF.out).mono ?_
      rintro e w6 ⟨⟨b6, o6', A6, c6, rfl, hb6, hc6, hs6⟩, hbw6⟩
      have hd6 : w6.cell? ⟨b6, o6', none⟩ = some (.slice A6 (szN m (fb, fa)) c6) := (hbw6.cell hb6).trans hc6
      have HB6 := Lib.hid (HBA.out.trans (hbw6.mono HBA.out.size))
      have HO6 := Lib.hid (HOA.out.below hbw6 HOA.out.2.2)
      have HP6 := Lib.hid (HPA.out.below hbw6)
      clear hbw6 hs6 hc6 hb6 HBA HPA HOA
      obtain ⟨bf, of, sf, cf, hbf, hcf, hqf⟩ := on_fix m g (fb, fa) w6 HP6.out HOK.out HF.out
      obtain ⟨bt, ot, st, ct, hbt, hct, hqt⟩ := on_fix m g (tb, ta) w6 HP6.out HOK.out HT.out
      have HQF := Lib.hid (fun X => hqf _ (below_wgrow w6 X))
      have HQT := Lib.hid (fun X => hqt _ (below_wgrow w6 X))
      have qf : ∀ X, (wgrow w6 X).cell? ⟨bf, of, none⟩ = some (.slice sf (szN m (fb, fa)) cf) := fun X => wgrow_cell hcf
      have qt : ∀ X, (wgrow w6 X).cell? ⟨bt, ot, none⟩ = some (.slice st (szN m (tb, ta)) ct) := fun X => wgrow_cell hct
      have hg8 := HO6.out.1.grow8
      obtain ⟨-, -, y2, y3, y4, y5, -⟩ := hg8
      clear hqf hqt hcf hct hbf hbt
      generalize szN m (fb, fa) = s at *
      generalize szN m (tb, ta) = u at *
      by_cases hs : s = 0
      · have hs1 : (((s : Nat) : Int) == 0) = true := by simp; omega
        have HS := Lib.hid hs
        go_wp2
        go_ret
        exact ⟨ret_int (by have h9 := HL.out; rw [HV.out, if_neg (by simp), if_neg (show ¬ 300 ≤ m.ls.length by omega), HM.out, if_pos HS.out]), HB6.out⟩
      have hs1 : (((s : Nat) : Int) == 0) = false := by simp; omega
      have HS := Lib.hid hs
      by_cases hg : 4 < s + u
      · have hg1 : decide ((4 : Int) < (s : Int) + (u : Int)) = true := by simp; omega
        have hg2 : (4 : Int) < (s : Int) + (u : Int) := by omega
        have HG := Lib.hid hg
        go_wp2
        refine wp_region_grow (by kernel_rfl) (by kernel_rfl) ?_
        iterate 4 (go_big_quiet_step ((go_at_call 53; exact calls_grow (HQF.out _))))
        repeat (go_big_quiet_step ((go_at_call 53; exact calls_grow (HQT.out _))))
        refine wpQuiet_nil ?_
        intro w7 hb7
        have HB7 := Lib.hid (HB6.out.trans (hb7.mono HB6.out.size))
        clear hb7 qf qt y2 y3 y4 y5
        go_wp2
        go_ret
        exact ⟨ret_int (by have h9 := HL.out; rw [HV.out, if_neg (by simp), if_neg (show ¬ 300 ≤ m.ls.length by omega), HM.out, if_neg HS.out, if_pos HG.out]), HB7.out⟩
      · have hg1 : decide ((4 : Int) < (s : Int) + (u : Int)) = false := by simp; omega
        have hg2 : ¬ (4 : Int) < (s : Int) + (u : Int) := by omega
        have HG := Lib.hid hg
        go_wp2
        refine wp_region_grow (by kernel_rfl) (by kernel_rfl) ?_
        iterate 4 (go_big_quiet_step ((go_at_call 53; exact calls_grow (HQF.out _))))
        repeat (go_big_quiet_step ((go_at_call 53; exact calls_grow (HQT.out _))))
        refine wpQuiet_nil ?_
        intro w7 hb7
        have HB7 := Lib.hid (HB6.out.trans (hb7.mono HB6.out.size))
        clear hb7 qf qt y2 y3 y4 y5
        go_wp2
        go_ret
        exact ⟨ret_int (by have h9 := HL.out; rw [HV.out, if_neg (by simp), if_neg (show ¬ 300 ≤ m.ls.length by omega), HM.out, if_neg HS.out, if_neg HG.out]), HB7.out⟩
    · have HM := Lib.hid (HNO.out (.inr hp))
      have heq : ∀ W, (binOp .neq 39 (.agg #[.int .i64 (fcN m (fb, fa)).1, .int .i64 (fcN m (fb, fa)).2]) (.agg #[.int .i64 tb, .int .i64 ta])).run Tryz.prog W = .ok (.bool true) W := fun W => by
        rw [neq_nd]
        have h9 : ¬ ((fcN m (fb, fa)).1 = tb ∧ (fcN m (fb, fa)).2 = ta) := fun e => hp (Prod.ext e.1 e.2)
        have h8 : (decide ((fcN m (fb, fa)).1 = tb) && decide ((fcN m (fb, fa)).2 = ta)) = false := by
          cases hx : (decide ((fcN m (fb, fa)).1 = tb) && decide ((fcN m (fb, fa)).2 = ta)) with
          | false => rfl
          | true => exact absurd (by simpa using hx) h9
        rw [h8]
        rfl
      generalize (fcN m (fb, fa)).1 = f1 at *
      generalize (fcN m (fb, fa)).2 = f2 at *
      clear hfi hp
      go_wp2
      go_ret
      exact ⟨ret_int (by have h9 := HL.out; rw [HV.out, if_neg (by simp), if_neg (show ¬ 300 ≤ m.ls.length by omega), HM.out]), HB5.out.alloc HB5.out.size _⟩

end Go.Proofs.YthhpjgdeehcgjaaGreat

/-
  The program's opCode of any valid operation.
-/
namespace Go.Proofs.YthhpjgdeehcgjaaGreat
set_option linter.unusedVariables false
set_option linter.unusedSimpArgs false
open Go.RowKit

set_option maxHeartbeats 4000000 in
set_option maxRecDepth 100000 in
/-- A needle that the machine has not: invalid. -/
theorem opCode_no (m : Mc) (g : Nat) (w : World) (h : RdP w g m) (k d fb fa tb ta c r : Int) (hw : m.wd ≤ fa ∨ m.wd ≤ ta) :
    Calls Tryz.prog 25 #[.pointer (some ⟨g, 0, none⟩), (⟨k, d, fb, fa, tb, ta, c, r⟩ : Opr).v] w fun e w' => e = .returned (.int .i64 1) ∧ Below w.heap.size w w' := by
  have HP := Lib.hid h
  have HO := Lib.hid (Bx.new w [.int .i64 k, .int .i64 d, .int .i64 fb, .int .i64 fa, .int .i64 tb, .int .i64 ta, .int .i64 c, .int .i64 r] 41)
  have HB := Lib.hid ((Below.refl w.heap.size w).alloc (Nat.le_refl _) (.cells #[.int .i64 k, .int .i64 d, .int .i64 fb, .int .i64 fa, .int .i64 tb, .int .i64 ta, .int .i64 c, .int .i64 r] 41))
  have HPA := Lib.hid (HP.out.below HB.out)
  clear h
  by_cases h1 : m.wd ≤ fa
  · have hm1 : decide (m.wd ≤ fa) = true := by simpa using h1
    clear hw
    go_enter Tryz.func25, Tryz.ntmps25
    go_wp2
    have HO1 : Hid (Bx (w.alloc (.cells #[.int .i64 k, .int .i64 d, .int .i64 fb, .int .i64 fa, .int .i64 tb, .int .i64 ta, .int .i64 c, .int .i64 r] 41)) w.heap.size [.int .i64 k, .int .i64 d, .int .i64 fb, .int .i64 fa, .int .i64 tb, .int .i64 ta, .int .i64 c, .int .i64 r]) := HO.out
    clear HO
    generalize w.alloc (.cells #[.int .i64 k, .int .i64 d, .int .i64 fb, .int .i64 fa, .int .i64 tb, .int .i64 ta, .int .i64 c, .int .i64 r] 41) = W1 at *
    obtain ⟨o0, o1, o2, o3, o4, o5, o6, o7⟩ := HO1.out.eight
    have x0 : W1.cell? ⟨g, 0, none⟩ = some (.int .i64 m.wd) := HPA.out.x0
    go_quiet (fail)
    go_wp2
    go_ret
    exact ⟨rfl, below_drewN HB.out _⟩
  · have hm1 : decide (m.wd ≤ fa) = false := by simpa using h1
    have h2 : m.wd ≤ ta := by omega
    have hm2 : decide (m.wd ≤ ta) = true := by simpa using h2
    clear hw
    go_enter Tryz.func25, Tryz.ntmps25
    go_wp2
    have HO1 : Hid (Bx (w.alloc (.cells #[.int .i64 k, .int .i64 d, .int .i64 fb, .int .i64 fa, .int .i64 tb, .int .i64 ta, .int .i64 c, .int .i64 r] 41)) w.heap.size [.int .i64 k, .int .i64 d, .int .i64 fb, .int .i64 fa, .int .i64 tb, .int .i64 ta, .int .i64 c, .int .i64 r]) := HO.out
    clear HO
    generalize w.alloc (.cells #[.int .i64 k, .int .i64 d, .int .i64 fb, .int .i64 fa, .int .i64 tb, .int .i64 ta, .int .i64 c, .int .i64 r] 41) = W1 at *
    obtain ⟨o0, o1, o2, o3, o4, o5, o6, o7⟩ := HO1.out.eight
    have x0 : W1.cell? ⟨g, 0, none⟩ = some (.int .i64 m.wd) := HPA.out.x0
    go_quiet (fail)
    go_wp2
    go_ret
    exact ⟨rfl, below_drewN HB.out _⟩
/-- The program's code of an operation that fits. -/
theorem opCode_any (m : Mc) (g : Nat) (w : World) (h : RdP w g m) (ok : okM m = true) (x : Opr) (hx : okOpW m.wd x = true) :
    Calls Tryz.prog 25 #[.pointer (some ⟨g, 0, none⟩), x.v] w fun e w' => e = .returned (.int .i64 (doCode m x)) ∧ Below w.heap.size w w' := by
  obtain ⟨h0, hfw, htw⟩ := okOpW_iff.1 hx
  obtain ⟨k, d, fb, fa, tb, ta, c, r⟩ := x
  have hn : ndB fb fa = true → ndOk m (fb, fa) := fun hf => by
    obtain ⟨h1, h2, h3⟩ := ndB_iff.1 hf
    exact ⟨h1, h2, hfw⟩
  have ht : ndB tb ta = true → ndOk m (tb, ta) := fun hf => by
    obtain ⟨h1, h2, h3⟩ := ndB_iff.1 hf
    exact ⟨h1, h2, htw⟩
  rcases okOp_kinds h0 with ⟨hk, hd, hf, c1, c4, -⟩ | ⟨hk, hf, hto, hne, -⟩ | ⟨hk, hf, hto, hne, hd, c1, c4, -⟩ | ⟨hk, hf, -⟩ | ⟨hk, hr1, hr2, -⟩ | ⟨hk, -, c1, c4, -⟩ | ⟨hk, c1, c4, -⟩
  · have f0 : 0 ≤ fa := (hn hf).2.1
    rcases hk with hk | hk | hk
    · have hk' : k = 1 := hk
      subst hk'
      exact opCode_1 m g w h ok d fb fa tb ta c r hfw htw hd c1 c4 f0
    · have hk' : k = 2 := hk
      subst hk'
      exact opCode_2 m g w h ok d fb fa tb ta c r hfw htw hd c1 c4 f0 (hn hf)
    · have hk' : k = 3 := hk
      subst hk'
      exact opCode_3 m g w h ok d fb fa tb ta c r hfw htw hd c1 c4 f0
  · have hk' : k = 4 := hk
    subst hk'
    exact opCode_4 m g w h ok d fb fa tb ta c r hfw htw (hn hf) (ht hto) hne
  · have hk' : k = 5 := hk
    subst hk'
    exact opCode_5 m g w h ok d fb fa tb ta c r hfw htw hd c1 c4 (hn hf) (ht hto) hne
  · have hk' : k = 6 := hk
    subst hk'
    exact opCode_6 m g w h ok d fb fa tb ta c r hfw htw (hn hf)
  · have hk' : k = 7 := hk
    subst hk'
    exact opCode_7 m g w h ok d fb fa tb ta c r hfw htw
  · have hk' : k = 8 := hk
    subst hk'
    exact opCode_8 m g w h ok d fb fa tb ta c r hfw htw c1 c4
  · have hk' : k = 9 := hk
    subst hk'
    exact opCode_9 m g w h ok d fb fa tb ta c r hfw htw c1 c4

end Go.Proofs.YthhpjgdeehcgjaaGreat
