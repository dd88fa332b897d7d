/-
  Texts joined: Src, DoA, DoB, DoC, DoD, DoE, DoF.
-/
import Derived.Test.YtccdnmafakaleaaDoorMark
import Derived.Test.YtccdnmafakaleaaDoorMem
import Derived.Test.YtccdnmafakaleaaDoorNst
import Derived.Test.YtccdnmafakaleaaDoorBx0
import Derived.Test.YtccdnmafakaleaaDoorSm0
import Derived.Laws.Bits64b
import Derived.RegionTactic
import Derived.Test.YtccdnmafakaleaaDoorPk4
import Derived.Test.YtccdnmafakaleaaDoorMcTo
import Derived.Deep.RegionHeld3
import Derived.Deep.AppendLies
import Derived.Deep.RegionWith
/-
  The source of choices that the draws read: what next, pick, one and among give.
-/
namespace Go.Proofs.YtccdnmafakaleaaDoor
set_option linter.unusedVariables false
set_option linter.unusedSimpArgs false
open Go.RowKit

/-- Bytes that are read, below block B. -/
def RdB (w : World) (B : Nat) (v : Value) : Prop :=
  ∃ A n c, v = .slice A n c ∧ n ≤ 9223372036854775807 ∧ ∀ k, k < n → ∃ b off x, A = some ⟨b, off, none⟩ ∧ b < B ∧ 0 ≤ x ∧ x ≤ 255 ∧ w.cell? ⟨b, off + k, none⟩ = some (.int .u8 x)
/-- A source in block g, which has been read at most K times. -/
def Src (w : World) (g : Nat) (K : Int) : Prop :=
  ∃ A n c at_ sd, CellsAt w g 0 [.slice A n c, .int .i64 at_, .int .u64 sd] ∧ RdB w g (.slice A n c) ∧ 0 ≤ at_ ∧ at_ ≤ K ∧ K ≤ 1000000000 ∧ ∀ o, w.frozen? ⟨g, o, none⟩ = false
/-- What a draw gives: a number, the source moved on; nothing else has turned. -/
def Drawn (w : World) (g : Nat) (K : Int) (p : Int → Prop) (e : Ending) (w' : World) : Prop := ∃ x, e = .returned (.int .i64 x) ∧ p x ∧ Src w' g K ∧ Only g (g + 1) w w'

theorem and_byte (a : Int) : 0 ≤ bits .and .u64 a 255 ∧ bits .and .u64 a 255 ≤ 255 := by
  have h2 : (BitVec.ofInt 64 255).toNat = 255 := by decide
  have h3 : bits .and .u64 a 255 = IntKind.u64.wrap ((BitVec.ofInt 64 a &&& BitVec.ofInt 64 255).toNat : Int) := rfl
  rw [h3, BitVec.toNat_and, h2, IntKind.wrap_u64]
  have h4 : (BitVec.ofInt 64 a).toNat &&& 255 ≤ 255 := Nat.and_le_right
  omega

theorem drewN_cell (w : World) (n : Nat) (p : Addr) : (w.drewN n).cell? p = w.cell? p := rfl
theorem drewN_frozen (w : World) (n : Nat) (p : Addr) : (w.drewN n).frozen? p = w.frozen? p := rfl
theorem RdB.keep {w w' : World} {B : Nat} {v : Value} (h : RdB w B v) (hk : ∀ b, b < B → w'.heap[b]? = w.heap[b]?) : RdB w' B v := by
  obtain ⟨A, n, c, hv, hn, hb⟩ := h
  refine ⟨A, n, c, hv, hn, fun k hk' => ?_⟩
  obtain ⟨b, off, x, h1, h2, h3, h4, h5⟩ := hb k hk'
  exact ⟨b, off, x, h1, h2, h3, h4, (World.cell?_of_block (hk b h2)).trans h5⟩
theorem Src.drewN {w : World} {g : Nat} {K : Int} (h : Src w g K) (n : Nat) : Src (w.drewN n) g K := h
theorem Src.lt {w : World} {g : Nat} {K : Int} (h : Src w g K) : g < w.heap.size := by
  obtain ⟨A, n, c, a, sd, hc, _⟩ := h
  exact block_lt_of_cell hc.three.1
theorem Src.more {w : World} {g : Nat} {K K' : Int} (h : Src w g K) (h1 : K ≤ K') (h2 : K' ≤ 1000000000) : Src w g K' := by
  obtain ⟨A, n, c, a, sd, hc, hb, h3, h4, h5, h6⟩ := h
  exact ⟨A, n, c, a, sd, hc, hb, h3, by omega, h2, h6⟩
/-- It stays while other blocks change. -/
theorem Src.keep {w w' : World} {g : Nat} {K : Int} (h : Src w g K) (hk : ∀ b, b ≤ g → w'.heap[b]? = w.heap[b]?) : Src w' g K := by
  obtain ⟨A, n, c, a, sd, hc, hb, h3, h4, h5, h6⟩ := h
  exact ⟨A, n, c, a, sd, hc.keep fun o => World.cell?_of_block (hk g (Nat.le_refl _)), hb.keep fun b hb => hk b (by omega), h3, h4, h5, fun o => (World.frozen?_of_block (hk g (Nat.le_refl _))).trans (h6 o)⟩
theorem Src.below {w w' : World} {g B : Nat} {K : Int} (h : Src w g K) (hb : Below B w w') (hB : g < B) : Src w' g K := h.keep fun b h1 => hb.block b (by omega)
theorem Src.set {w : World} {g n c : Nat} {K : Int} {A : Option Addr} {at_ sd : Int} (h0 : CellsAt w g 0 [.slice A n c, .int .i64 at_, .int .u64 sd]) (hb : RdB w g (.slice A n c)) (h3 : 0 ≤ at_) (h4 : at_ ≤ K) (h5 : K ≤ 1000000000) (hf : ∀ o, w.frozen? ⟨g, o, none⟩ = false) : Src w g K :=
  ⟨A, n, c, at_, sd, h0, hb, h3, h4, h5, hf⟩
theorem CellsAt.of3 {w : World} {g : Nat} {u0 u1 u2 : Value} (h0 : w.cell? ⟨g, 0, none⟩ = some u0) (h1 : w.cell? ⟨g, 1, none⟩ = some u1) (h2 : w.cell? ⟨g, 2, none⟩ = some u2) : CellsAt w g 0 [u0, u1, u2] := fun j u hu => by
  rcases j with _ | _ | _ | j <;> simp at hu <;> subst hu <;> assumption
theorem RdB.setCell {w : World} {B : Nat} {v : Value} (h : RdB w B v) {p : Addr} (hp : B ≤ p.block) (u : Value) : RdB (w.setCell p u) B v := h.keep fun b hb => Below.heap_setCell _ _ _ _ (by omega)

/-- Behind the two stores. -/
theorem src_two {w wa : World} {g n c : Nat} {A : Option Addr} {a sd sd2 K : Int} (hO : Only g (g + 1) w wa) (y0 : wa.cell? ⟨g, 0, none⟩ = some (.slice A n c)) (y1 : wa.cell? ⟨g, 1, none⟩ = some (.int .i64 a)) (y2 : wa.cell? ⟨g, 2, none⟩ = some (.int .u64 sd))
    (YF : ∀ o, wa.frozen? ⟨g, o, none⟩ = false) (YB : RdB wa g (.slice A n c)) (h0 : 0 ≤ a) (h1 : a ≤ K) (h2 : K < 1000000000) (W : World) (hW : W = (wa.setCell ⟨g, 1, none⟩ (.int .i64 (a + 1))).setCell ⟨g, 2, none⟩ (.int .u64 sd2)) :
    W.cell? ⟨g, 0, none⟩ = some (.slice A n c) ∧ W.cell? ⟨g, 1, none⟩ = some (.int .i64 (a + 1)) ∧ W.cell? ⟨g, 2, none⟩ = some (.int .u64 sd2) ∧ Src W g (K + 1) ∧ Only g (g + 1) w W := by
  have c0 : W.cell? ⟨g, 0, none⟩ = some (.slice A n c) := by rw [hW, World.cell?_setCell_other _ _ _ _ (by intro e; injection e with _ e; omega), World.cell?_setCell_other _ _ _ _ (by intro e; injection e with _ e; omega)]; exact y0
  have c1 : W.cell? ⟨g, 1, none⟩ = some (.int .i64 (a + 1)) := by
    rw [hW, World.cell?_setCell_other _ _ _ _ (by intro e; injection e with _ e; omega)]
    exact cell_set_same y1
  have c2 : W.cell? ⟨g, 2, none⟩ = some (.int .u64 sd2) := by
    rw [hW]
    exact cell_set_same (u := .int .u64 sd) (by rw [World.cell?_setCell_other _ _ _ _ (by intro e; injection e with _ e; omega)]; exact y2)
  refine ⟨c0, c1, c2, ⟨A, n, c, a + 1, sd2, CellsAt.of3 c0 c1 c2, ?_, by omega, by omega, by omega, fun o => ?_⟩, ?_⟩
  · rw [hW]; exact (YB.setCell (Nat.le_refl _) _).setCell (Nat.le_refl _) _
  · rw [hW]; exact setCell_frozen (setCell_frozen YF) o
  · rw [hW]; exact (hO.setCell (Nat.le_refl _) (Nat.lt_succ_self _) _).setCell (Nat.le_refl _) (Nat.lt_succ_self _) _

set_option maxHeartbeats 1000000 in
theorem next_any (w : World) (g : Nat) (K : Int) (h : Src w g K) (hK : K < 1000000000) : Calls Tryd.prog 97 #[.pointer (some ⟨g, 0, none⟩)] w (Drawn w g (K + 1) fun x => 0 ≤ x ∧ x ≤ 255) := by
  obtain ⟨A, n, c, a, sd, hc, hrb, ha0, haK, hK1, hf⟩ := h
  have HRB := Lib.hid hrb
  obtain ⟨A', n', c', e, hn, hb⟩ := hrb
  injection e with e1 e2 e3
  subst e1 e2 e3
  obtain ⟨x0, x1, x2⟩ := hc.three
  have HF := Lib.hid hf
  have hf1 := hf 1
  have hf2 := hf 2
  clear hc hf
  by_cases hlt : a < (n : Int)
  · obtain ⟨an, rfl⟩ := Int.eq_ofNat_of_zero_le ha0
    obtain ⟨b, off, x, rfl, hbB, hx0, hx1, hcell⟩ := hb an (by omega)
    clear hb
    go_enter Tryd.func97, Tryd.ntmps97
    go_wp2
    go_quiet (fail)
    have hO := Lib.hid (show Only g (g + 1) w (w.drewN nq) from ⟨rfl, rfl, rfl, Nat.le_refl _, fun _ _ _ => rfl⟩)
    have y0 : (w.drewN nq).cell? ⟨g, 0, none⟩ = _ := x0
    have y1 : (w.drewN nq).cell? ⟨g, 1, none⟩ = _ := x1
    have y2 : (w.drewN nq).cell? ⟨g, 2, none⟩ = _ := x2
    have yc : (w.drewN nq).cell? ⟨b, off + an, none⟩ = _ := hcell
    have yf1 : (w.drewN nq).frozen? ⟨g, 1, none⟩ = _ := hf1
    have yf2 : (w.drewN nq).frozen? ⟨g, 2, none⟩ = _ := hf2
    have YF : Hid (∀ o, (w.drewN nq).frozen? ⟨g, o, none⟩ = false) := HF.out
    have YB : Hid (RdB (w.drewN nq) g (.slice (some ⟨b, off, none⟩) n c)) := HRB.out
    clear x0 x1 x2 hcell hf1 hf2 HF HRB
    generalize w.drewN nq = wa at *
    clear nq
    go_wp2
    go_quiet (fail)
    have hO2 := Lib.hid (show Only g (g + 1) w (wa.drewN nq) from ⟨hO.out.os, hO.out.tape, hO.out.output, hO.out.size, hO.out.block⟩)
    have z0 : (wa.drewN nq).cell? ⟨g, 0, none⟩ = _ := y0
    have z1 : (wa.drewN nq).cell? ⟨g, 1, none⟩ = _ := y1
    have z2 : (wa.drewN nq).cell? ⟨g, 2, none⟩ = _ := y2
    have zf1 : (wa.drewN nq).frozen? ⟨g, 1, none⟩ = _ := yf1
    have zf2 : (wa.drewN nq).frozen? ⟨g, 2, none⟩ = _ := yf2
    have ZF : Hid (∀ o, (wa.drewN nq).frozen? ⟨g, o, none⟩ = false) := YF.out
    have ZB : Hid (RdB (wa.drewN nq) g (.slice (some ⟨b, off, none⟩) n c)) := YB.out
    clear y0 y1 y2 yc yf1 yf2 YF YB hO
    generalize wa.drewN nq = wb at *
    have HZ := Lib.hid (And.intro z0 (And.intro z1 z2))
    go_wp2
    generalize IntKind.u64.wrap (IntKind.u64.wrap (IntKind.u64.wrap (sd * 6364136223846793005) + x) + 1442695040888963407) = sd2
    obtain ⟨W, hW⟩ : ∃ W, W = (wb.setCell ⟨g, 1, none⟩ (.int .i64 (↑an + 1))).setCell ⟨g, 2, none⟩ (.int .u64 sd2) := ⟨_, rfl⟩
    have HS := src_two hO2.out HZ.out.1 HZ.out.2.1 HZ.out.2.2 ZF.out ZB.out (by omega) haK hK W hW
    rw [← hW]
    clear hW z0 z1 z2 zf1 zf2 ZF ZB HZ hO2
    obtain ⟨c0, c1, c2, s1, s2⟩ := HS
    have S1 := Lib.hid s1
    have S2 := Lib.hid s2
    have hle : (an : Int) + 1 ≤ (n : Int) := by omega
    clear s1 s2
    go_quiet (fail)
    go_wp2
    go_ret
    exact ⟨x, rfl, ⟨hx0, hx1⟩, S1.out, ⟨S2.out.os, S2.out.tape, S2.out.output, S2.out.size, S2.out.block⟩⟩
  · go_enter Tryd.func97, Tryd.ntmps97
    go_wp2
    go_quiet (fail)
    have hO2 := Lib.hid (show Only g (g + 1) w (w.drewN nq) from ⟨rfl, rfl, rfl, Nat.le_refl _, fun _ _ _ => rfl⟩)
    have z0 : (w.drewN nq).cell? ⟨g, 0, none⟩ = _ := x0
    have z1 : (w.drewN nq).cell? ⟨g, 1, none⟩ = _ := x1
    have z2 : (w.drewN nq).cell? ⟨g, 2, none⟩ = _ := x2
    have zf1 : (w.drewN nq).frozen? ⟨g, 1, none⟩ = _ := hf1
    have zf2 : (w.drewN nq).frozen? ⟨g, 2, none⟩ = _ := hf2
    have ZF : Hid (∀ o, (w.drewN nq).frozen? ⟨g, o, none⟩ = false) := HF.out
    have ZB : Hid (RdB (w.drewN nq) g (.slice A n c)) := HRB.out
    clear x0 x1 x2 hf1 hf2 HF HRB hb
    generalize w.drewN nq = wb at *
    have HZ := Lib.hid (And.intro z0 (And.intro z1 z2))
    go_wp2
    generalize IntKind.u64.wrap (IntKind.u64.wrap (IntKind.u64.wrap (sd * 6364136223846793005)) + 1442695040888963407) = sd2
    obtain ⟨W, hW⟩ : ∃ W, W = (wb.setCell ⟨g, 1, none⟩ (.int .i64 (a + 1))).setCell ⟨g, 2, none⟩ (.int .u64 sd2) := ⟨_, rfl⟩
    have HS := src_two hO2.out HZ.out.1 HZ.out.2.1 HZ.out.2.2 ZF.out ZB.out (by omega) haK hK W hW
    rw [← hW]
    clear hW z0 z1 z2 zf1 zf2 ZF ZB HZ hO2
    obtain ⟨c0, c1, c2, s1, s2⟩ := HS
    have S1 := Lib.hid s1
    have S2 := Lib.hid s2
    have hle : ¬ a + 1 ≤ (n : Int) := by omega
    clear s1 s2
    go_quiet (fail)
    have z2 : (W.drewN nq).cell? ⟨g, 2, none⟩ = _ := c2
    have hO3 : Hid (Only g (g + 1) w (W.drewN nq)) := ⟨S2.out.os, S2.out.tape, S2.out.output, S2.out.size, S2.out.block⟩
    have S3 : Hid (Src (W.drewN nq) g (K + 1)) := S1.out
    clear c0 c1 c2
    generalize W.drewN nq = wd at *
    have HAB := and_byte (sd2 / 1099511627776)
    go_wp2
    go_ret
    exact ⟨_, rfl, HAB, S3.out, hO3.out⟩

/-- What pick gives of n. -/
def PickOk (n x : Int) : Prop := 0 ≤ x ∧ (1 < n → x < n) ∧ (n ≤ 1 → x = 0)
set_option maxHeartbeats 1000000 in
theorem pick_any (w : World) (g : Nat) (n K : Int) (h : Src w g K) (hK : K + 2 ≤ 1000000000) : Calls Tryd.prog 77 #[.pointer (some ⟨g, 0, none⟩), .int .i64 n] w (Drawn w g (K + 2) (PickOk n)) := by
  by_cases h1 : n ≤ 1
  · have HS := Lib.hid (h.more (K' := K + 2) (by omega) hK)
    clear h
    go_enter Tryd.func77, Tryd.ntmps77
    go_wp2
    go_ret
    exact ⟨0, rfl, ⟨Int.le_refl _, by omega, fun _ => rfl⟩, HS.out, Only.refl _ _ _⟩
  · have HS := Lib.hid h
    clear h
    go_enter Tryd.func77, Tryd.ntmps77
    go_wp2_with fail
    refine (next_any _ _ _ HS.out (by omega)).mono ?_
    rintro e w1 ⟨x, rfl, ⟨hx0, hx1⟩, hs, ho⟩
    have S1 := Lib.hid hs
    have O1 := Lib.hid ho
    clear hs ho
    by_cases h2 : 200 < n
    · go_wp2_with fail
      refine (next_any _ _ _ S1.out (by omega)).mono ?_
      rintro e w2 ⟨y, rfl, ⟨hy0, hy1⟩, hs, ho⟩
      have S2 := Lib.hid hs
      have O2 := Lib.hid (O1.out.trans ho)
      clear hs ho
      have hm := Int.emod_nonneg (x * 256 + y) (show n ≠ 0 by omega)
      have hl := Int.emod_lt_of_pos (x * 256 + y) (show 0 < n by omega)
      go_wp2
      go_ret
      exact ⟨_, rfl, ⟨hm, fun _ => hl, by omega⟩, S2.out.more (by omega) hK, O2.out⟩
    · have hm := Int.emod_nonneg x (show n ≠ 0 by omega)
      have hl := Int.emod_lt_of_pos x (show 0 < n by omega)
      go_wp2
      go_ret
      exact ⟨_, rfl, ⟨hm, fun _ => hl, by omega⟩, S1.out.more (by omega) hK, O1.out⟩
/-- A yes or no. -/
def Asked (w : World) (g : Nat) (K : Int) (e : Ending) (w' : World) : Prop := ∃ b, e = .returned (.bool b) ∧ Src w' g K ∧ Only g (g + 1) w w'
theorem one_any (w : World) (g : Nat) (n K : Int) (h : Src w g K) (hK : K + 2 ≤ 1000000000) : Calls Tryd.prog 75 #[.pointer (some ⟨g, 0, none⟩), .int .i64 n] w (Asked w g (K + 2)) := by
  have HS := Lib.hid h
  clear h
  go_enter Tryd.func75, Tryd.ntmps75
  go_wp2_with fail
  refine (pick_any _ _ _ _ HS.out hK).mono ?_
  rintro e w1 ⟨x, rfl, hx, hs, ho⟩
  have S1 := Lib.hid hs
  have O1 := Lib.hid ho
  clear hs ho hx
  go_wp2
  go_ret
  exact ⟨_, rfl, S1.out, O1.out⟩
/-- One of some numbers. -/
theorem among_any (w : World) (g : Nat) (l : List Int) (v : Value) (K : Int) (h : Src w g K) (hK : K + 2 ≤ 1000000000) (hl : RdI w w.heap.size v l) (hg : ∀ A n c, v = .slice A n c → A ≠ none → ∃ b o, A = some ⟨b, o, none⟩ ∧ b ≠ g) (hn : 0 < l.length) :
    Calls Tryd.prog 80 #[.pointer (some ⟨g, 0, none⟩), v] w (Drawn w g (K + 2) fun x => x ∈ l) := by
  have HS := Lib.hid h
  have HL := Lib.hid hl
  obtain ⟨A, n, c, rfl, hn1, hln, gl⟩ := hl
  have hln' := hln.out
  have hnn : 0 < n := by omega
  obtain ⟨b0, off0, x0, rfl, hb0, -⟩ := gl 0 hnn
  obtain ⟨b1, o1, e1, hbg⟩ := hg _ _ _ rfl (by simp)
  injection e1 with e1
  injection e1 with e1 e2
  subst e1 e2
  have GL := Lib.hid gl
  have HLN := Lib.hid hln'
  clear h gl hg hln hln' hn
  have h1 : (1 : Int) < (n : Int) ∨ (n : Int) ≤ 1 := by omega
  go_enter Tryd.func80, Tryd.ntmps80
  go_wp2_with fail
  refine (pick_any _ _ _ _ HS.out hK).mono ?_
  rintro e w1 ⟨x, rfl, ⟨hx0, hx1, hx2⟩, hs, ho⟩
  have S1 := Lib.hid hs
  have O1 := Lib.hid ho
  clear hs ho
  have hxn : x < (n : Int) := by
    rcases h1 with h1 | h1
    · exact hx1 h1
    · have := hx2 h1; omega
  obtain ⟨xn, rfl⟩ := Int.eq_ofNat_of_zero_le hx0
  obtain ⟨b2, off2, y, e2, hb2, hly, hcell⟩ := GL.out xn (by omega)
  injection e2 with e2
  injection e2 with e2 e3
  subst e2 e3
  have hcell1 := (World.cell?_of_block (a := ⟨b0, off0 + xn, none⟩) (O1.out.block b0 (by omega) (by omega))).trans hcell
  have HM := Lib.hid (List.mem_of_getElem? hly)
  clear hcell hly hx1 hx2
  go_wp2
  go_ret
  exact ⟨y, rfl, HM.out, S1.out, O1.out⟩
/-- The source is opened. -/
theorem l00From_any (w : World) (v : Value) (h : RdB w w.heap.size v) : Calls Tryd.prog 43 #[v] w fun e w' => e = .returned (.pointer (some ⟨w.heap.size, 0, none⟩)) ∧ Src w' w.heap.size 0 ∧ Below w.heap.size w w' ∧ w'.heap.size = w.heap.size + 1 := by
  have HB := Lib.hid h
  obtain ⟨A, n, c, rfl, -⟩ := h
  go_enter Tryd.func43, Tryd.ntmps43
  go_wp2
  go_ret
  have hb : Below w.heap.size w (w.alloc (.cells #[.slice A n c, .int .i64 0, .int .u64 0] 132)) := (Below.refl _ _).alloc (Nat.le_refl _) _
  refine ⟨rfl, ⟨A, n, c, 0, 0, CellsAt.of_alloc, HB.out.keep fun b hb' => hb.block b hb', Int.le_refl _, Int.le_refl _, by omega, fun o => ?_⟩, hb, by simp⟩
  exact frozen_of_row _ _ o _ _ (heap_alloc_new w _)

end Go.Proofs.YtccdnmafakaleaaDoor

/-
  The reference's small words on a machine of its own: l07Bed, l07On, l07Set, l07Carry, l07In.
-/
namespace Go.Proofs.YtccdnmafakaleaaDoor
set_option linter.unusedVariables false
set_option linter.unusedSimpArgs false
open Go.RowKit


theorem l07Bed_s {w : World} {B g : Nat} {m : Mc} {S : Nat → Spot} (h : MSt w B g m S) (b : Int) (hb : b = 1 ∨ b = 2) : Calls Tryd.prog 138 #[.pointer (some ⟨g, 0, none⟩), .int .i64 b] w fun e w' => e = .returned (bedV S b) ∧ w = w' := by
  obtain ⟨x0, x1, x2, x3, x4, x5, x6⟩ := h.cells.seven
  rcases hb with rfl | rfl
  · have HV := Lib.hid (show bedV S 1 = (S 1).v from rfl)
    clear h
    go_enter Tryd.func138, Tryd.ntmps138
    go_wp2
    go_ret
    exact ⟨by rw [HV.out]; rfl, rfl⟩
  · have HV := Lib.hid (show bedV S 2 = (S 2).v from rfl)
    clear h
    go_enter Tryd.func138, Tryd.ntmps138
    go_wp2
    go_ret
    exact ⟨by rw [HV.out]; rfl, rfl⟩
set_option maxHeartbeats 1000000 in
theorem l07On_any {w : World} {B g : Nat} {m : Mc} {S : Nat → Spot} (h : MSt w B g m S) (n : Int × Int) (hn : ndIn m n) : Calls Tryd.prog 133 #[.pointer (some ⟨g, 0, none⟩), .agg #[.int .i64 n.1, .int .i64 n.2]] w fun e w' => e = .returned (S (iN n)).v ∧ Below w.heap.size w w' := by
  obtain ⟨nb, na⟩ := n
  have hW : Below w.heap.size w (w.alloc (.cells #[.int .i64 nb, .int .i64 na] 50)) := (Below.refl _ _).alloc (Nat.le_refl _) _
  have HB := Lib.hid hW
  have HM := Lib.hid (h.below hW)
  obtain ⟨b, c, L, hv, hlt, -, hbw, -, hcell, -, -⟩ := HM.out.nd hn
  obtain ⟨hb12, h0, -⟩ := hn
  have hb12' : nb = 1 ∨ nb = 2 := hb12
  have h0' : 0 ≤ na := h0
  have hlt' : na < (L : Int) := hlt
  obtain ⟨ka, rfl⟩ := Int.eq_ofNat_of_zero_le h0'
  have hcell' : (w.alloc (.cells #[.int .i64 nb, .int .i64 (ka : Int)] 50)).cell? ⟨b, ka, none⟩ = some (S (iN (nb, (ka : Int)))).v := hcell
  have HQ := Lib.hid (fun k => l07Bed_s (HM.out.drewN k) nb hb12')
  have hv' : bedV S nb = _ := hv
  rw [hv'] at HQ
  generalize (S (iN (nb, (ka : Int)))).v = R at *
  clear h hv hlt h0 h0' hb12 hcell hv' hW hb12'
  go_enter Tryd.func133, Tryd.ntmps133
  go_wp2
  go_quiet ((go_at_call 138; exact quiet_s (HQ.out _)))
  go_wp2
  go_ret
  exact ⟨rfl, below_drewN HB.out _⟩
/-- The machine behind a step. -/
def Did (w0 : World) (S0 : Nat → Spot) (B g : Nat) (v : Value) (m : Mc) (e : Ending) (w' : World) : Prop := e = .returned v ∧ ∃ S', MSt w' B g m S' ∧ Mv w0 S0 w' S'
set_option maxHeartbeats 1000000 in
theorem l07Set_any {w w0 : World} {B g : Nat} {m : Mc} {S S0 : Nat → Spot} (h : MSt w B g m S) (n : Int × Int) (hn : ndIn m n) (v : Value) (l : List Int) (hsp : SpotsT w B (putS S (iN n) (spI v l))) (hmv : Mv w0 S0 w (putS S (iN n) (spI v l))) :
    Calls Tryd.prog 135 #[.pointer (some ⟨g, 0, none⟩), .agg #[.int .i64 n.1, .int .i64 n.2], v] w (Did w0 S0 B g (.tuple #[]) (setL m n l)) := by
  obtain ⟨Av, cv, rfl, -⟩ : ∃ A c, v = .slice A l.length c ∧ True := by
    have h1 := hsp.own (iN n)
    rw [putS_same] at h1
    obtain ⟨A, c, h2, -⟩ := (OwC.of_own h1).cells
    exact ⟨A, c, h2, trivial⟩
  obtain ⟨nb, na⟩ := n
  have hW : Below w.heap.size w (w.alloc (.cells #[.int .i64 nb, .int .i64 na] 50)) := (Below.refl _ _).alloc (Nat.le_refl _) _
  have HM := Lib.hid (h.below hW)
  obtain ⟨b, c, L, hv, hlt, -, hbw, -, hcell, hfr, -, hset⟩ := HM.out.nd hn
  have HSET := Lib.hid (hset _ l _ (hsp.below hW))
  have HMV := Lib.hid (hmv.below_ hW)
  obtain ⟨hb12, h0, -⟩ := hn
  have hb12' : nb = 1 ∨ nb = 2 := hb12
  have h0' : 0 ≤ na := h0
  have hlt' : na < (L : Int) := hlt
  obtain ⟨ka, rfl⟩ := Int.eq_ofNat_of_zero_le h0'
  have hcell' : (w.alloc (.cells #[.int .i64 nb, .int .i64 (ka : Int)] 50)).cell? ⟨b, ka, none⟩ = some (S (iN (nb, (ka : Int)))).v := hcell
  have hfr' := hfr ka
  have HQ := Lib.hid (l07Bed_s HM.out nb hb12')
  have hv' : bedV S nb = _ := hv
  rw [hv'] at HQ
  generalize (S (iN (nb, (ka : Int)))).v = R at *
  clear h hv hlt h0 h0' hb12 hcell hv' hW hb12' hset hfr hsp hmv
  go_enter Tryd.func135, Tryd.ntmps135
  go_wp2_with fail
  refine (HQ.out).mono ?_
  rintro e w1 ⟨rfl, rfl⟩
  go_wp2
  go_end0
  obtain ⟨S', k1, k2⟩ := HSET.out
  exact ⟨rfl, S', k1, k2 _ _ HMV.out⟩

/-- A pointer to an operation: where its cells lie. -/
abbrev OpAt (w : World) (b o : Nat) (x : Opr) : Prop := CellsAt w b o x.cells
theorem MSt.cars {w : World} {B g : Nat} {m : Mc} {S : Nat → Spot} (h : MSt w B g m S) (c : Int) (h1 : 1 ≤ c) (h4 : c - 1 < (m.cs.length : Int)) : ∃ b cp, (S 3).v = .slice (some ⟨b, 0, none⟩) m.cs.length cp ∧ blk S b ∧ B ≤ b ∧ b < w.heap.size ∧ (S 3).v.ownBlock = some b ∧
    w.cell? ⟨b, (c - 1).toNat * 2, none⟩ = some (.bool (carAt m c).i) ∧ w.cell? ⟨b, (c - 1).toNat * 2 + 1, none⟩ = some (.int .i64 (carAt m c).p) ∧ ∀ o, w.frozen? ⟨b, o, none⟩ = false := by
  obtain ⟨b, cp, hv, hB, hbw, hcp, ho⟩ := h.gC (by omega)
  have hk : (c - 1).toNat < m.cs.length := by omega
  have hx : m.cs[(c - 1).toNat]? = some (carAt m c) := by unfold carAt; rw [List.getD_eq_getElem?_getD, List.getElem?_eq_getElem hk]; rfl
  have h0 := vS_get Car.len m.cs (c - 1).toNat _ hx 0 (by omega)
  have h1' := vS_get Car.len m.cs (c - 1).toNat _ hx 1 (by omega)
  obtain ⟨c0, f0⟩ := Spot.cell (h.sp.own 3) ho (x := .bool (carAt m c).i) (i := (c - 1).toNat * 2) (by rw [h.cs]; exact h0)
  obtain ⟨c1, -⟩ := Spot.cell (h.sp.own 3) ho (x := .int .i64 (carAt m c).p) (i := (c - 1).toNat * 2 + 1) (by rw [h.cs]; exact h1')
  exact ⟨b, cp, hv, ⟨3, ho⟩, hB, hbw, ho, c0, c1, f0⟩
/-- The two cells of a carrier. -/
theorem vS_car {l : List Car} {k : Nat} {x : Car} (hk : k < l.length) (i : Bool) (p : Int) : ((vS Car.cells l).set (k * 2) (.bool i)).set (k * 2 + 1) (.int .i64 p) = vS Car.cells (l.set k ⟨i, p⟩) := by
  refine vS_ext Car.len (by omega) (by rw [List.length_set, List.length_set, List.length_set, vS_len Car.len]) (fun q y hy j hj => ?_)
  have hq : q < l.length := by have := (List.getElem?_eq_some_iff.1 hy).1; rwa [List.length_set] at this
  have hl := vS_len Car.len l
  by_cases e : q = k
  · subst e
    rw [List.getElem?_set_self hq] at hy
    injection hy with hy
    subst hy
    obtain rfl | rfl : j = 0 ∨ j = 1 := by omega
    · rw [List.getElem?_set_ne (by omega), Nat.add_zero, List.getElem?_set_self (by omega)]; rfl
    · rw [List.getElem?_set_self (by rw [List.length_set]; omega)]; rfl
  · rw [List.getElem?_set_ne (fun e' => e e'.symm)] at hy
    rw [List.getElem?_set_ne (by omega), List.getElem?_set_ne (by omega)]
    exact vS_get Car.len l q y hy j hj
theorem vS_carp {l : List Car} {k : Nat} {x : Car} (hx : l[k]? = some x) (p : Int) : (vS Car.cells l).set (k * 2 + 1) (.int .i64 p) = vS Car.cells (l.set k ⟨x.i, p⟩) := by
  have hk := (List.getElem?_eq_some_iff.1 hx).1
  rw [← vS_car (x := x) hk x.i p]
  congr 1
  have h0 := vS_get Car.len l k x hx 0 (by omega)
  apply List.ext_getElem?
  intro i
  by_cases e : i = k * 2
  · subst e
    rw [List.getElem?_set_self (by have := vS_len Car.len l; omega)]
    exact h0
  · rw [List.getElem?_set_ne (fun e' => e e'.symm)]
/-- A carrier is moved. -/
theorem MSt.setCp {w w0 : World} {B g b : Nat} {m : Mc} {S S0 : Nat → Spot} (h : MSt w B g m S) {c : Int} (h1 : 1 ≤ c) (h4 : c - 1 < (m.cs.length : Int)) (ho : (S 3).v.ownBlock = some b) (p : Int) (hm : Mv w0 S0 w S) :
    ∃ S', MSt (w.setCell ⟨b, (c - 1).toNat * 2 + 1, none⟩ (.int .i64 p)) B g (setC m c ⟨(carAt m c).i, p⟩) S' ∧ Mv w0 S0 (w.setCell ⟨b, (c - 1).toNat * 2 + 1, none⟩ (.int .i64 p)) S' ∧ (S' 3).v.ownBlock = some b := by
  have hk : (c - 1).toNat < m.cs.length := by omega
  have hx : m.cs[(c - 1).toNat]? = some (carAt m c) := by unfold carAt; rw [List.getD_eq_getElem?_getD, List.getElem?_eq_getElem hk]; rfl
  have hxs : (S 3).xs = vS Car.cells m.cs := by rw [h.cs]
  have hnz : (S 3).n * (S 3).sz = m.cs.length * 2 := by rw [h.cs]
  have hsp := h.sp.setCell (p := 3) (g := b) (i := (c - 1).toNat * 2 + 1) ho (.int .i64 p) (by rw [hnz]; omega)
  refine ⟨_, h.setCs (cs' := m.cs.set (c - 1).toNat ⟨(carAt m c).i, p⟩) (xs' := (S 3).xs.set ((c - 1).toNat * 2 + 1) (.int .i64 p)) (by rw [List.length_set]) (by rw [hxs]; exact vS_carp hx p) hsp, hm.setCell ho _ _, by rw [putS_same]; exact ho⟩
theorem vS_cari {l : List Car} {k : Nat} {x : Car} (hx : l[k]? = some x) (i : Bool) : (vS Car.cells l).set (k * 2) (.bool i) = vS Car.cells (l.set k ⟨i, x.p⟩) := by
  have hk := (List.getElem?_eq_some_iff.1 hx).1
  rw [← vS_car (x := x) hk i x.p, List.set_comm _ _ (by omega)]
  congr 1
  have h0 := vS_get Car.len l k x hx 1 (by omega)
  apply List.ext_getElem?
  intro q
  by_cases e : q = k * 2 + 1
  · subst e
    rw [List.getElem?_set_self (by have := vS_len Car.len l; omega)]
    exact h0
  · rw [List.getElem?_set_ne (fun e' => e e'.symm)]
/-- A carrier is in, or out. -/
theorem MSt.setCi {w w0 : World} {B g b : Nat} {m : Mc} {S S0 : Nat → Spot} (h : MSt w B g m S) {c : Int} (h1 : 1 ≤ c) (h4 : c - 1 < (m.cs.length : Int)) (ho : (S 3).v.ownBlock = some b) (i : Bool) (hm : Mv w0 S0 w S) :
    ∃ S', MSt (w.setCell ⟨b, (c - 1).toNat * 2, none⟩ (.bool i)) B g (setC m c ⟨i, (carAt m c).p⟩) S' ∧ Mv w0 S0 (w.setCell ⟨b, (c - 1).toNat * 2, none⟩ (.bool i)) S' ∧ (S' 3).v.ownBlock = some b := by
  have hk : (c - 1).toNat < m.cs.length := by omega
  have hx : m.cs[(c - 1).toNat]? = some (carAt m c) := by unfold carAt; rw [List.getD_eq_getElem?_getD, List.getElem?_eq_getElem hk]; rfl
  have hxs : (S 3).xs = vS Car.cells m.cs := by rw [h.cs]
  have hnz : (S 3).n * (S 3).sz = m.cs.length * 2 := by rw [h.cs]
  have hsp := h.sp.setCell (p := 3) (g := b) (i := (c - 1).toNat * 2) ho (.bool i) (by rw [hnz]; omega)
  refine ⟨_, h.setCs (cs' := m.cs.set (c - 1).toNat ⟨i, (carAt m c).p⟩) (xs' := (S 3).xs.set ((c - 1).toNat * 2) (.bool i)) (by rw [List.length_set]) (by rw [hxs]; exact vS_cari hx i) hsp, hm.setCell ho _ _, by rw [putS_same]; exact ho⟩
/-- A carrier is brought in or out. -/
theorem MSt.setCb {w w0 : World} {B g b : Nat} {m : Mc} {S S0 : Nat → Spot} (h : MSt w B g m S) {c : Int} (h1 : 1 ≤ c) (h4 : c - 1 < (m.cs.length : Int)) (ho : (S 3).v.ownBlock = some b) (i : Bool) (p : Int) (hm : Mv w0 S0 w S) :
    ∃ S', MSt ((w.setCell ⟨b, (c - 1).toNat * 2, none⟩ (.bool i)).setCell ⟨b, (c - 1).toNat * 2 + 1, none⟩ (.int .i64 p)) B g (setC m c ⟨i, p⟩) S' ∧ Mv w0 S0 ((w.setCell ⟨b, (c - 1).toNat * 2, none⟩ (.bool i)).setCell ⟨b, (c - 1).toNat * 2 + 1, none⟩ (.int .i64 p)) S' ∧ (S' 3).v.ownBlock = some b := by
  have hk : (c - 1).toNat < m.cs.length := by omega
  have hx : m.cs[(c - 1).toNat]? = some (carAt m c) := by unfold carAt; rw [List.getD_eq_getElem?_getD, List.getElem?_eq_getElem hk]; rfl
  have hxs : (S 3).xs = vS Car.cells m.cs := by rw [h.cs]
  have hnz : (S 3).n * (S 3).sz = m.cs.length * 2 := by rw [h.cs]
  have hsp := h.sp.setCell (p := 3) (g := b) (i := (c - 1).toNat * 2) ho (.bool i) (by rw [hnz]; omega)
  have e1 : putS S 3 { S 3 with xs := (S 3).xs.set ((c - 1).toNat * 2) (.bool i) } 3 = { S 3 with xs := (S 3).xs.set ((c - 1).toNat * 2) (.bool i) } := putS_same _ _ _
  have hsp2 := hsp.setCell (p := 3) (g := b) (i := (c - 1).toNat * 2 + 1) (by rw [e1]; exact ho) (.int .i64 p) (by rw [e1]; show _ < (S 3).n * (S 3).sz; rw [hnz]; omega)
  have hm2 := (hm.setCell ho (.bool i) ((S 3).xs.set ((c - 1).toNat * 2) (.bool i)) (i := (c - 1).toNat * 2)).setCell (p := 3) (g := b) (i := (c - 1).toNat * 2 + 1) (by rw [e1]; exact ho) (.int .i64 p) (((S 3).xs.set ((c - 1).toNat * 2) (.bool i)).set ((c - 1).toNat * 2 + 1) (.int .i64 p))
  rw [e1] at hsp2 hm2
  have e2 : putS (putS S 3 { S 3 with xs := (S 3).xs.set ((c - 1).toNat * 2) (.bool i) }) 3 { S 3 with xs := ((S 3).xs.set ((c - 1).toNat * 2) (.bool i)).set ((c - 1).toNat * 2 + 1) (.int .i64 p) } = putS S 3 { S 3 with xs := ((S 3).xs.set ((c - 1).toNat * 2) (.bool i)).set ((c - 1).toNat * 2 + 1) (.int .i64 p) } := by
    funext j
    by_cases e : j = 3
    · rw [e, putS_same, putS_same]
    · rw [putS_ne e, putS_ne e, putS_ne e]
  rw [e2] at hsp2 hm2
  exact ⟨_, h.setCs (cs' := m.cs.set (c - 1).toNat ⟨i, p⟩) (by rw [List.length_set]) (by rw [hxs]; exact vS_car (x := ⟨i, p⟩) hk i p) hsp2, hm2, by rw [putS_same]; exact ho⟩

end Go.Proofs.YtccdnmafakaleaaDoor

/-
  The reference's l07Carry and l07In on a machine of its own.
-/
namespace Go.Proofs.YtccdnmafakaleaaDoor
set_option linter.unusedVariables false
set_option linter.unusedSimpArgs false
open Go.RowKit

/-- The machine behind l07Carry. -/
def carIf (m : Mc) (x : Opr) : Mc := if carOk m x = true then carTo m x else m
theorem setC_twice (m : Mc) (c : Int) (a b : Car) : setC (setC m c a) c b = setC m c b := by
  unfold setC
  simp
theorem carAt_setC {m : Mc} {c : Int} (a : Car) (h : (c - 1).toNat < m.cs.length) : carAt (setC m c a) c = a := by
  unfold carAt setC
  show (m.cs.set _ _).getD _ _ = _
  rw [List.getD_eq_getElem?_getD, List.getElem?_set_self h]; rfl
theorem carOk_of {m : Mc} {x : Opr} {P p : Int} {i : Bool} (h : plcO m x = P) (hi : (carAt m x.c).i = i) (hp : (carAt m x.c).p = p) : carOk m x = (i && (!(decide (x.d = 1) && decide (P < p)) && !(decide (x.d = -1) && decide (p < P + 1)))) := by
  unfold carOk
  rw [h, hi, hp]
theorem carIf_no {m : Mc} {x : Opr} (h : carOk m x = false) : carIf m x = m := by unfold carIf; rw [h]; rfl
theorem carIf_yes {m : Mc} {x : Opr} (h : carOk m x = true) : carIf m x = carTo m x := by unfold carIf; rw [h]; rfl
set_option maxHeartbeats 2000000 in
theorem l07Carry_any {w : World} {B g : Nat} {m : Mc} {S : Nat → Spot} (h : MSt w B g m S) (x : Opr) (b o : Nat) (ho : OpAt w b o x) (hnb : ¬ blk S b) (hc : 1 ≤ x.c ∧ x.c ≤ 4) (hcs : m.cs.length = 4) (hf : 0 ≤ x.fa ∧ x.fa ≤ 23)
    (hr : -3 ≤ m.rk ∧ m.rk ≤ 3) : Calls Tryd.prog 131 #[.pointer (some ⟨g, 0, none⟩), .pointer (some ⟨b, o, none⟩)] w (Did w S B g (.bool (carOk m x)) (carIf m x)) := by
  obtain ⟨k, d, fb, fa, tb, ta, c, r⟩ := x
  obtain ⟨c1, c4⟩ := hc
  have c1' : 1 ≤ c := c1
  have c4' : c ≤ 4 := c4
  obtain ⟨j, rfl⟩ : ∃ j : Nat, c = (j : Int) + 1 := ⟨(c - 1).toNat, by omega⟩
  obtain ⟨bc, cp, hv, hbl, hBc, hbw, hoc, hc0, hc1, hfc⟩ := h.cars ((j : Int) + 1) c1' (by omega)
  have hj : ((j : Int) + 1 - 1).toNat = j := by omega
  rw [hj] at hc0 hc1
  rw [hcs] at hv
  obtain ⟨x0, x1, x2, x3, x4, x5, x6⟩ := h.cells.seven
  rw [hv] at x4
  obtain ⟨f0, f1⟩ := hf
  obtain ⟨r0, r1⟩ := hr
  have f0' : 0 ≤ fa := f0
  have f1' : fa ≤ 23 := f1
  obtain ⟨o0, o1, o2, o3, o4, o5, o6, o7⟩ := ho.eight
  have HO := Lib.hid ho
  have HM := Lib.hid h
  have HNB := Lib.hid hnb
  have hjl : (j : Int) < 4 := by omega
  have hj0 : (0 : Int) ≤ (j : Int) := by omega
  clear h ho hv c1 c4 c1' c4' f0 f1
  go_enter Tryd.func131, Tryd.ntmps131
  go_wp2
  go_quiet (fail)
  have HM1 := Lib.hid (HM.out.drewN nq)
  have HO1 : Hid (OpAt (w.drewN nq) b o ⟨k, d, fb, fa, tb, ta, (j : Int) + 1, r⟩) := HO.out
  have HB1 := Lib.hid (below_drewN (Below.refl w.heap.size w) nq)
  have hz1 : (w.drewN nq).heap.size = w.heap.size := rfl
  clear x0 x1 x2 x3 x4 x5 x6 o0 o1 o2 o3 o4 o5 o6 o7 hc0 hc1 hfc HM HO
  generalize w.drewN nq = w1 at *
  clear nq
  have hg8 := HO1.out.grow8
  obtain ⟨-, -, o2, o3, -⟩ := hg8
  have x1 : ∀ X, (wgrow w1 X).cell? ⟨g, 0 + 1, none⟩ = some (.int .i64 m.rk) := fun X => HM1.out.cells.grow X 1 _ rfl
  have HQ := Lib.hid (fun X => l07Place_any fb fa m.rk (by omega) (by omega) (by omega) (by omega) X)
  have hPb : -100 ≤ plc fb fa m.rk ∧ plc fb fa m.rk ≤ 100 := by unfold plc; split <;> omega
  generalize hP : plc fb fa m.rk = P at *
  obtain ⟨p0, p1⟩ := hPb
  have HP := Lib.hid hP
  clear hP
  go_wp2
  refine wp_region_grow (by kernel_rfl) (by kernel_rfl) ?_
  repeat (go_big_quiet_step ((go_at_call 126; exact calls_grow (HQ.out _))))
  refine wpQuiet_nil ?_
  intro w2 hb2
  have HM2 := Lib.hid (HM1.out.below hb2)
  have HO2 := Lib.hid (CellsAt.below HO1.out hb2 (block_lt_of_cell HO1.out.eight.1))
  have HB2 := Lib.hid (HB1.out.trans (hb2.mono HB1.out.size))
  clear hb2 x1 o2 o3 HM1 HO1 HB1 HQ
  obtain ⟨bc', cp', hv', -, -, -, hoc', hc0, hc1, hfc⟩ := HM2.out.cars ((j : Int) + 1) (by omega) (by omega)
  rw [hoc] at hoc'
  injection hoc' with hoc'
  subst hoc'
  rw [hj] at hc0 hc1
  obtain ⟨o0, o1, -⟩ := HO2.out.eight
  have hff := hfc (j * 2 + 1)
  have HMV := Lib.hid (Mv.of_below (S := S) HB2.out)
  have HOK := Lib.hid (fun i p => carOk_of (m := m) (x := ⟨k, d, fb, fa, tb, ta, (j : Int) + 1, r⟩) (P := P) (i := i) (p := p) HP.out)
  have HSET := Lib.hid (fun p => HM2.out.setCp (c := (j : Int) + 1) (by omega) (by omega) hoc p HMV.out)
  have HAT := Lib.hid (fun a => carAt_setC (m := m) (c := (j : Int) + 1) a (by omega))
  rw [hj] at HSET
  have HTO := Lib.hid (show carTo m ⟨k, d, fb, fa, tb, ta, (j : Int) + 1, r⟩ = setC m ((j : Int) + 1) ⟨(carAt m ((j : Int) + 1)).i, if d = 1 then P + 1 else P⟩ by unfold carTo; rw [show plcO m ⟨k, d, fb, fa, tb, ta, (j : Int) + 1, r⟩ = P from HP.out])
  generalize hci : (carAt m ((j : Int) + 1)).i = ci at *
  generalize hcp : (carAt m ((j : Int) + 1)).p = pp at *
  have HNO := Lib.hid (fun (hk : carOk m ⟨k, d, fb, fa, tb, ta, (j : Int) + 1, r⟩ = false) => show Did w S B g (.bool (carOk m ⟨k, d, fb, fa, tb, ta, (j : Int) + 1, r⟩)) (carIf m ⟨k, d, fb, fa, tb, ta, (j : Int) + 1, r⟩) (.returned (.bool false)) w2 from ⟨by rw [hk], S, by rw [carIf_no hk]; exact HM2.out, HMV.out⟩)
  have HYES := Lib.hid (fun (hk : carOk m ⟨k, d, fb, fa, tb, ta, (j : Int) + 1, r⟩ = true) (W : World) (h : ∃ S', MSt W B g (carTo m ⟨k, d, fb, fa, tb, ta, (j : Int) + 1, r⟩) S' ∧ Mv w S W S') => show Did w S B g (.bool (carOk m ⟨k, d, fb, fa, tb, ta, (j : Int) + 1, r⟩)) (carIf m ⟨k, d, fb, fa, tb, ta, (j : Int) + 1, r⟩) (.returned (.bool true)) W from by
    obtain ⟨S', h1, h2⟩ := h
    exact ⟨by rw [hk], S', by rw [carIf_yes hk]; exact h1, h2⟩)
  have hk := HOK.out ci pp rfl rfl
  clear HOK hci hcp
  have hne : bc ≠ b := fun e => HNB.out (by rw [← e]; exact hbl)
  have HOS := Lib.hid (fun u => (World.cell?_setCell_other w2 ⟨bc, j * 2 + 1, none⟩ ⟨b, o + 1, none⟩ u (by intro e; injection e with e; exact hne e)).trans o1)
  cases ci
  · have hk' := Lib.hid (HNO.out (by rw [hk]; rfl))
    clear hk HNO HYES
    go_wp2
    go_ret
    exact hk'.out
  by_cases hd1 : d = 1
  · subst hd1
    by_cases hg : P < pp
    · have hk' := Lib.hid (HNO.out (by rw [hk]; simp [hg]))
      clear hk HNO HYES
      go_wp2
      go_ret
      exact hk'.out
    · have HK := Lib.hid (HYES.out (by rw [hk]; simp [hg]))
      clear hk HNO HYES
      have o1s := HOS.out (.int .i64 P)
      go_wp2
      go_ret
      refine HK.out _ ?_
      rw [HTO.out, if_pos trivial]
      obtain ⟨S1, k1, k2, k3⟩ := HSET.out P
      obtain ⟨S2, m1, m2, m3⟩ := k1.setCp (c := (j : Int) + 1) (by omega) (by show (j : Int) + 1 - 1 < ((m.cs.set _ _).length : Int); rw [List.length_set]; omega) k3 (P + 1) k2
      rw [setC_twice, HAT.out, hj] at m1
      rw [hj] at m2
      exact ⟨S2, m1, m2⟩
  · have hd0 : (d == 1) = false := by simpa using hd1
    have o1s := HOS.out (.int .i64 P)
    by_cases hd2 : d = -1
    · subst hd2
      by_cases hg : pp < P + 1
      · have hk' := Lib.hid (HNO.out (by rw [hk]; simp [hg]))
        clear hk HNO HYES
        go_wp2
        go_ret
        exact hk'.out
      · have HK := Lib.hid (HYES.out (by rw [hk]; simp [hg]))
        clear hk HNO HYES
        go_wp2
        go_ret
        refine HK.out _ ?_
        rw [HTO.out, if_neg (by omega)]
        obtain ⟨S1, k1, k2, k3⟩ := HSET.out P
        exact ⟨S1, k1, k2⟩
    · have hd3 : (d == -1) = false := by simpa using hd2
      have HK := Lib.hid (HYES.out (by rw [hk]; simp [hd1, hd2]))
      have HD := Lib.hid hd1
      clear hk HNO HYES hd1 hd2
      go_wp2
      go_ret
      refine HK.out _ ?_
      rw [HTO.out, if_neg HD.out]
      obtain ⟨S1, k1, k2, k3⟩ := HSET.out P
      exact ⟨S1, k1, k2⟩

/-- Brought in: put to nothing, then in, then to a place. -/
theorem MSt.carIn {w w0 : World} {B g b : Nat} {m : Mc} {S S0 : Nat → Spot} (h : MSt w B g m S) {j : Nat} (h4 : j < m.cs.length) (ho : (S 3).v.ownBlock = some b) (p : Int) (hm : Mv w0 S0 w S) :
    ∃ S', MSt ((((w.setCell ⟨b, j * 2, none⟩ (.bool false)).setCell ⟨b, j * 2 + 1, none⟩ (.int .i64 0)).setCell ⟨b, j * 2, none⟩ (.bool true)).setCell ⟨b, j * 2 + 1, none⟩ (.int .i64 p)) B g (setC m ((j : Int) + 1) ⟨true, p⟩) S' ∧
      Mv w0 S0 ((((w.setCell ⟨b, j * 2, none⟩ (.bool false)).setCell ⟨b, j * 2 + 1, none⟩ (.int .i64 0)).setCell ⟨b, j * 2, none⟩ (.bool true)).setCell ⟨b, j * 2 + 1, none⟩ (.int .i64 p)) S' ∧ (S' 3).v.ownBlock = some b := by
  have hj : ((j : Int) + 1 - 1).toNat = j := by omega
  obtain ⟨S1, k1, k2, k3⟩ := h.setCb (c := (j : Int) + 1) (by omega) (by omega) ho false 0 hm
  obtain ⟨S2, l1, l2, l3⟩ := k1.setCi (c := (j : Int) + 1) (by omega) (by show (j : Int) + 1 - 1 < ((m.cs.set _ _).length : Int); rw [List.length_set]; omega) k3 true k2
  rw [setC_twice, carAt_setC _ (by omega)] at l1
  obtain ⟨S3, m1, m2, m3⟩ := l1.setCp (c := (j : Int) + 1) (by omega) (by show (j : Int) + 1 - 1 < ((m.cs.set _ _).length : Int); rw [List.length_set]; omega) l3 p l2
  rw [setC_twice, carAt_setC _ (by omega)] at m1
  simp only [hj] at m1 m2
  exact ⟨S3, m1, m2, m3⟩
/-- The code of l07In. -/
def inC (m : Mc) (x : Opr) : Int := if (carAt m x.c).i = decide (x.k = 8) then 9 else 0
/-- The machine behind l07In. -/
def inM (m : Mc) (x : Opr) : Mc := setC m x.c (if x.k = 8 then ⟨true, if x.d = -1 then m.wd + 3 else -3⟩ else ⟨false, 0⟩)
/-- What a step of a machine gives: a code; if that is OK, the machine behind it. -/
def DidC (w0 : World) (S0 : Nat → Spot) (B g : Nat) (code : Int) (m : Mc) (e : Ending) (w' : World) : Prop := e = .returned (.int .i64 code) ∧ ∃ S', Mv w0 S0 w' S' ∧ (code = 0 → MSt w' B g m S')
set_option maxHeartbeats 2000000 in
theorem l07In_any {w : World} {B g : Nat} {m : Mc} {S : Nat → Spot} (h : MSt w B g m S) (x : Opr) (b o : Nat) (ho : OpAt w b o x) (hnb : ¬ blk S b) (hc : 1 ≤ x.c ∧ x.c ≤ 4) (hcs : m.cs.length = 4) (hk : x.k = 8 ∨ x.k = 9)
    (hwd : 1 ≤ m.wd ∧ m.wd ≤ 24) : Calls Tryd.prog 136 #[.pointer (some ⟨g, 0, none⟩), .pointer (some ⟨b, o, none⟩)] w (DidC w S B g (inC m x) (inM m x)) := by
  obtain ⟨k, d, fb, fa, tb, ta, c, r⟩ := x
  obtain ⟨c1, c4⟩ := hc
  have c1' : 1 ≤ c := c1
  have c4' : c ≤ 4 := c4
  have hk' : k = 8 ∨ k = 9 := hk
  obtain ⟨j, rfl⟩ : ∃ j : Nat, c = (j : Int) + 1 := ⟨(c - 1).toNat, by omega⟩
  obtain ⟨bc, cp, hv, hbl, hBc, hbw, hoc, hc0, hc1, hfc⟩ := h.cars ((j : Int) + 1) c1' (by omega)
  have hj : ((j : Int) + 1 - 1).toNat = j := by omega
  rw [hj] at hc0 hc1
  rw [hcs] at hv
  obtain ⟨x0, x1, x2, x3, x4, x5, x6⟩ := h.cells.seven
  rw [hv] at x4
  obtain ⟨w0, w1⟩ := hwd
  obtain ⟨o0, o1, o2, o3, o4, o5, o6, o7⟩ := ho.eight
  have HO := Lib.hid ho
  have HM := Lib.hid h
  have HNB := Lib.hid hnb
  have hjl : (j : Int) < 4 := by omega
  have hj0 : (0 : Int) ≤ (j : Int) := by omega
  have hIC : inC m ⟨k, d, fb, fa, tb, ta, (j : Int) + 1, r⟩ = (if (carAt m ((j : Int) + 1)).i = decide (k = 8) then 9 else 0) := rfl
  have hIM : inM m ⟨k, d, fb, fa, tb, ta, (j : Int) + 1, r⟩ = setC m ((j : Int) + 1) (if k = 8 then ⟨true, if d = -1 then m.wd + 3 else -3⟩ else ⟨false, 0⟩) := rfl
  generalize inC m ⟨k, d, fb, fa, tb, ta, (j : Int) + 1, r⟩ = IC at *
  generalize inM m ⟨k, d, fb, fa, tb, ta, (j : Int) + 1, r⟩ = IM at *
  generalize hci : (carAt m ((j : Int) + 1)).i = ci at *
  have HIM := Lib.hid hIM
  have HCI := Lib.hid hci
  clear h ho hv c1 c4 c1' c4' hk hIM hci
  have hz : IC = 9 ∨ IC = 0 := by rw [hIC]; split <;> simp
  rcases hk' with rfl | rfl <;> cases ci
  · have hz : IC = 0 := by rw [hIC]; rfl
    subst hz
    clear hIC
    go_enter Tryd.func136, Tryd.ntmps136
    go_wp2
    go_quiet (fail)
    have HM1 := Lib.hid (HM.out.drewN nq)
    have HO1 : Hid (OpAt (w.drewN nq) b o ⟨8, d, fb, fa, tb, ta, (j : Int) + 1, r⟩) := HO.out
    have HB1 := Lib.hid (below_drewN (Below.refl w.heap.size w) nq)
    clear x0 x1 x2 x3 x4 x5 x6 o0 o1 o2 o3 o4 o5 o6 o7 hc0 hc1 hfc HM HO
    generalize w.drewN nq = w1 at *
    clear nq
    obtain ⟨bc', cp', hv', -, -, -, hoc', hc0, hc1, hfc⟩ := HM1.out.cars ((j : Int) + 1) (by omega) (by omega)
    rw [hoc] at hoc'
    injection hoc' with hoc'
    subst hoc'
    rw [hj] at hc0 hc1
    rw [HCI.out] at hc0
    obtain ⟨o0, o1, -⟩ := HO1.out.eight
    go_wp2
    go_quiet (fail)
    have HM2 := Lib.hid (HM1.out.drewN nq)
    have HO2 : Hid (OpAt (w1.drewN nq) b o ⟨8, d, fb, fa, tb, ta, (j : Int) + 1, r⟩) := HO1.out
    have HB2 := Lib.hid (below_drewN HB1.out nq)
    have q0 : (w1.drewN nq).cell? ⟨bc, j * 2, none⟩ = _ := hc0
    have q1 : (w1.drewN nq).cell? ⟨bc, j * 2 + 1, none⟩ = _ := hc1
    have qf : ∀ i, (w1.drewN nq).frozen? ⟨bc, i, none⟩ = false := hfc
    clear o0 o1 hc0 hc1 hfc HM1 HO1 HB1
    generalize w1.drewN nq = w2 at *
    clear nq
    obtain ⟨o0, o1, -⟩ := HO2.out.eight
    obtain ⟨x0, -⟩ := HM2.out.cells.seven
    have hne : bc ≠ b := fun e => HNB.out (by rw [← e]; exact hbl)
    have hng : bc ≠ g := fun e => HM2.out.sp.dis (i := 3) (j := 0) (by omega) (by rw [hoc, e]) HM2.out.gbox
    have hfb := far_cell hne
    have hfg := far_cell hng
    have hn1 := near_cell (show j * 2 ≠ j * 2 + 1 by omega) bc
    have hn0 := near_cell (show j * 2 + 1 ≠ j * 2 by omega) bc
    have HMV := Lib.hid (Mv.of_below (S := S) HB2.out)
    have qf0 := qf (j * 2)
    have qf1 := qf (j * 2 + 1)
    clear qf
    go_wp2
    all_goals go_ret
    all_goals refine ⟨rfl, ?_⟩
    · obtain ⟨S1, k1, k2, k3⟩ := HM2.out.carIn (j := j) (by omega) hoc (-3) HMV.out
      obtain ⟨S2, l1, l2, l3⟩ := k1.setCp (c := (j : Int) + 1) (by omega) (by show (j : Int) + 1 - 1 < ((m.cs.set _ _).length : Int); rw [List.length_set]; omega) k3 (m.wd + 3) k2
      rw [setC_twice, carAt_setC _ (by omega)] at l1
      simp only [hj] at l1 l2
      have hd1 : d = -1 := by simpa using ‹(d == -1) = true›
      refine ⟨S2, l2, fun _ => ?_⟩
      rw [HIM.out, if_pos trivial, if_pos hd1]
      exact l1
    · obtain ⟨S1, k1, k2, k3⟩ := HM2.out.carIn (j := j) (by omega) hoc (-3) HMV.out
      have hd1 : ¬ d = -1 := by simpa using ‹(d == -1) = false›
      refine ⟨S1, k2, fun _ => ?_⟩
      rw [HIM.out, if_pos trivial, if_neg hd1]
      exact k1
  · have hz : IC = 9 := by rw [hIC]; rfl
    subst hz
    clear hIC
    go_enter Tryd.func136, Tryd.ntmps136
    go_wp2
    go_quiet (fail)
    have HM1 := Lib.hid (HM.out.drewN nq)
    have HO1 : Hid (OpAt (w.drewN nq) b o ⟨8, d, fb, fa, tb, ta, (j : Int) + 1, r⟩) := HO.out
    have HB1 := Lib.hid (below_drewN (Below.refl w.heap.size w) nq)
    clear x0 x1 x2 x3 x4 x5 x6 o0 o1 o2 o3 o4 o5 o6 o7 hc0 hc1 hfc HM HO
    generalize w.drewN nq = w1 at *
    clear nq
    obtain ⟨bc', cp', hv', -, -, -, hoc', hc0, hc1, hfc⟩ := HM1.out.cars ((j : Int) + 1) (by omega) (by omega)
    rw [hoc] at hoc'
    injection hoc' with hoc'
    subst hoc'
    rw [hj] at hc0 hc1
    rw [HCI.out] at hc0
    obtain ⟨o0, o1, -⟩ := HO1.out.eight
    go_wp2
    go_quiet (fail)
    go_wp2
    go_ret
    exact ⟨rfl, S, (Mv.of_below HB1.out).drewN _, fun e => by omega⟩
  · have hz : IC = 9 := by rw [hIC]; rfl
    subst hz
    clear hIC
    go_enter Tryd.func136, Tryd.ntmps136
    go_wp2
    go_quiet (fail)
    have HM1 := Lib.hid (HM.out.drewN nq)
    have HO1 : Hid (OpAt (w.drewN nq) b o ⟨9, d, fb, fa, tb, ta, (j : Int) + 1, r⟩) := HO.out
    have HB1 := Lib.hid (below_drewN (Below.refl w.heap.size w) nq)
    clear x0 x1 x2 x3 x4 x5 x6 o0 o1 o2 o3 o4 o5 o6 o7 hc0 hc1 hfc HM HO
    generalize w.drewN nq = w1 at *
    clear nq
    obtain ⟨bc', cp', hv', -, -, -, hoc', hc0, hc1, hfc⟩ := HM1.out.cars ((j : Int) + 1) (by omega) (by omega)
    rw [hoc] at hoc'
    injection hoc' with hoc'
    subst hoc'
    rw [hj] at hc0 hc1
    rw [HCI.out] at hc0
    obtain ⟨o0, o1, -⟩ := HO1.out.eight
    go_wp2
    go_quiet (fail)
    go_wp2
    go_ret
    exact ⟨rfl, S, (Mv.of_below HB1.out).drewN _, fun e => by omega⟩
  · have hz : IC = 0 := by rw [hIC]; rfl
    subst hz
    clear hIC
    go_enter Tryd.func136, Tryd.ntmps136
    go_wp2
    go_quiet (fail)
    have HM1 := Lib.hid (HM.out.drewN nq)
    have HO1 : Hid (OpAt (w.drewN nq) b o ⟨9, d, fb, fa, tb, ta, (j : Int) + 1, r⟩) := HO.out
    have HB1 := Lib.hid (below_drewN (Below.refl w.heap.size w) nq)
    clear x0 x1 x2 x3 x4 x5 x6 o0 o1 o2 o3 o4 o5 o6 o7 hc0 hc1 hfc HM HO
    generalize w.drewN nq = w1 at *
    clear nq
    obtain ⟨bc', cp', hv', -, -, -, hoc', hc0, hc1, hfc⟩ := HM1.out.cars ((j : Int) + 1) (by omega) (by omega)
    rw [hoc] at hoc'
    injection hoc' with hoc'
    subst hoc'
    rw [hj] at hc0 hc1
    rw [HCI.out] at hc0
    obtain ⟨o0, o1, -⟩ := HO1.out.eight
    go_wp2
    go_quiet (fail)
    have HM2 := Lib.hid (HM1.out.drewN nq)
    have HO2 : Hid (OpAt (w1.drewN nq) b o ⟨9, d, fb, fa, tb, ta, (j : Int) + 1, r⟩) := HO1.out
    have HB2 := Lib.hid (below_drewN HB1.out nq)
    have q0 : (w1.drewN nq).cell? ⟨bc, j * 2, none⟩ = _ := hc0
    have q1 : (w1.drewN nq).cell? ⟨bc, j * 2 + 1, none⟩ = _ := hc1
    have qf : ∀ i, (w1.drewN nq).frozen? ⟨bc, i, none⟩ = false := hfc
    clear o0 o1 hc0 hc1 hfc HM1 HO1 HB1
    generalize w1.drewN nq = w2 at *
    clear nq
    obtain ⟨o0, o1, -⟩ := HO2.out.eight
    obtain ⟨x0, -⟩ := HM2.out.cells.seven
    have hne : bc ≠ b := fun e => HNB.out (by rw [← e]; exact hbl)
    have hng : bc ≠ g := fun e => HM2.out.sp.dis (i := 3) (j := 0) (by omega) (by rw [hoc, e]) HM2.out.gbox
    have hfb := far_cell hne
    have hfg := far_cell hng
    have hn1 := near_cell (show j * 2 ≠ j * 2 + 1 by omega) bc
    have hn0 := near_cell (show j * 2 + 1 ≠ j * 2 by omega) bc
    have HMV := Lib.hid (Mv.of_below (S := S) HB2.out)
    have qf0 := qf (j * 2)
    have qf1 := qf (j * 2 + 1)
    clear qf
    go_wp2
    go_ret
    obtain ⟨S1, k1, k2, k3⟩ := HM2.out.setCb (c := (j : Int) + 1) (by omega) (by omega) hoc false 0 HMV.out
    simp only [hj] at k1 k2
    refine ⟨rfl, S1, k2, fun _ => ?_⟩
    rw [HIM.out, if_neg (by omega)]
    exact k1

end Go.Proofs.YtccdnmafakaleaaDoor

/-
  The reference's small lists: a list of one's own, a number put to its place.
-/
namespace Go.Proofs.YtccdnmafakaleaaDoor
set_option linter.unusedVariables false
set_option linter.unusedSimpArgs false
open Go.RowKit

set_option maxHeartbeats 1000000 in
theorem l00OwnR_any (v : Value) (l : List Int) (w : World) (hl : RdI w w.heap.size v l) (hlen : l.length ≤ 1048576) :
    Calls Tryd.prog 129 #[v] w (GivesRow w 2 1 l.length (vI l)) := by
  obtain ⟨A, c, rfl⟩ := hl.len
  obtain ⟨i0, hi, hz0, hz1, hz2⟩ := info_parts info_int
  have HR := Lib.hid (hl.reads).1
  generalize hn : l.length = n at *
  have HN := Lib.hid hn
  clear hl hn
  go_enter Tryd.func129, Tryd.ntmps129
  go_wp2_with (at_builtin; refine wpList_append_any _ rfl _ _ _ rfl w.heap.size 2 i0 _ 1 8 Tryd.underlying25 hi hz0 hz1 hz2 rfl (by decide) _ 0 [] rfl (World.ownsRow_lit _ _ _ (Nat.le_refl _) (by unfold maxLen; omega) rfl) w.heap.size _ n c (vI l) rfl (HR.out.alloc (Nat.le_refl _) _) (vI_one l) (by unfold maxLen; omega) (by omega) (by simp) ?_)
  intro v1 w1 hown hg hat
  have HB := Lib.hid (((Below.refl w.heap.size w).alloc (Nat.le_refl _) _).grown hg (by simp) (fun kk hkk => by simp [Value.ownBlock] at hkk; omega))
  have HO : Hid (w1.ownsRow w.heap.size 2 1 v1 n (vI l)) := by unfold Hid; simpa using hown
  clear hown hg hat
  go_wp2
  go_ret
  exact ⟨_, rfl, HO.out, HB.out⟩

def putAcc (df : Bool) (acc t : List Int) (x : Int) : List Int := acc ++ (if df = true then t else putI t x)
section
variable {Y acc l : List Int} {k : Nat} {x y : Int} {df : Bool}
theorem put_done (h : Y = putAcc true acc (l.drop k) x) (hy : l[k]? = some y) : Y = putAcc true (acc ++ [y]) (l.drop (k + 1)) x := by
  rw [h, drop_of_get hy]; simp [putAcc]
theorem put_new (h : Y = putAcc false acc (l.drop k) x) (hy : l[k]? = some y) (h1 : x < y) : Y = putAcc true (acc ++ [x] ++ [y]) (l.drop (k + 1)) x := by
  rw [h, drop_of_get hy]; unfold putAcc; rw [if_neg (by decide), if_pos rfl, putI, if_pos (by omega), if_pos h1]; simp
theorem put_same (h : Y = putAcc false acc (l.drop k) x) (hy : l[k]? = some y) (h1 : x = y) : Y = putAcc true (acc ++ [y]) (l.drop (k + 1)) x := by
  rw [h, drop_of_get hy]; unfold putAcc; rw [if_neg (by decide), if_pos rfl, putI, if_pos (by omega), if_neg (by omega)]; simp
theorem put_later (h : Y = putAcc false acc (l.drop k) x) (hy : l[k]? = some y) (h1 : y < x) : Y = putAcc false (acc ++ [y]) (l.drop (k + 1)) x := by
  rw [h, drop_of_get hy]; unfold putAcc; rw [if_neg (by decide), if_neg (by decide), putI, if_neg (by omega)]; simp
theorem put_end (h : Y = putAcc true acc (l.drop k) x) (hk : l.length ≤ k) : Y = acc := by
  rw [h, List.drop_of_length_le hk]; simp [putAcc]
theorem put_end' (h : Y = putAcc false acc (l.drop k) x) (hk : l.length ≤ k) : Y = acc ++ [x] := by
  rw [h, List.drop_of_length_le hk]; simp [putAcc, putI]
end
theorem putI_len : ∀ (l : List Int) (n : Int), (putI l n).length ≤ l.length + 1
  | [], n => by simp [putI]
  | x :: t, n => by
    have := putI_len t n
    rw [putI]
    split
    · split <;> simp
    · simp; omega

set_option maxHeartbeats 4000000 in
theorem l00Put_any (v : Value) (l : List Int) (x : Int) (w : World) (hl : RdI w w.heap.size v l) (hlen : l.length ≤ 1048576) :
    Calls Tryd.prog 134 #[v, .int .i64 x] w (GivesRow w 2 1 (putI l x).length (vI (putI l x))) := by
  obtain ⟨i0, hi, hz0, hz1, hz2⟩ := info_parts info_int
  obtain ⟨A, n, c, rfl, hln, hl, gl⟩ := hl
  have HGL := Lib.hid gl
  have hl' := hl.out
  have HY := Lib.hid (show putI l x = putAcc false [] (l.drop 0) x by simp [putAcc])
  have hYl : n ≤ 1048576 := by omega
  generalize putI l x = Y at *
  clear gl hlen hl'
  go_enter Tryd.func134, Tryd.ntmps134
  go_wp2
  go_loopw [5, 6, 7] (fun t dn i wr => ∃ (k : Nat) (acc : List Int) (df : Bool), k ≤ n ∧ i = .int .i64 k ∧ dn = .bool df ∧ Hid (wr.ownsRow w.heap.size 2 1 t acc.length (vI acc)) ∧ acc.length ≤ k + 1 ∧ (df = false → acc.length ≤ k) ∧ Hid (Y = putAcc df acc (l.drop k) x) ∧ Hid (Below w.heap.size w wr)) (fun _ _ i _ => n - (intOf i).toNat)
  case atStart => exact ⟨0, [], false, Nat.zero_le _, rfl, rfl, World.ownsRow_lit _ _ _ (Nat.le_refl _) (by unfold maxLen; omega) rfl, by simp, by simp, HY.out, (Below.refl _ _).alloc (Nat.le_refl _) _⟩
  case round =>
    rename_i wr
    obtain ⟨k, acc, df, hk, rfl, rfl, HO, hak, hdf, HD, HB⟩ := hrel
    by_cases hlt : k < n
    · obtain ⟨b, off, y, rfl, hbb, hlk, hc⟩ := HGL.out k hlt
      have hc1 : wr.cell? ⟨b, off + k, none⟩ = some (.int .i64 y) := (HB.out.cell (p := ⟨b, off + k, none⟩) hbb).trans hc
      have HLK := Lib.hid hlk
      have HC1 := Lib.hid hc1
      have HBB := Lib.hid hbb
      clear hlk hc
      cases df
      · have hak' := hdf rfl
        clear hdf
        by_cases h1 : x ≤ y
        · by_cases h2 : x < y
          · have HN := Lib.hid (put_new HD.out HLK.out h2)
            -- a row acc of numbers (owned by HO.out from block w.heap.size on, the world told by HB.out) gets one number x more; new names end in 1
            go_wp2_with (at_builtin; refine wpList_append_own_at _ rfl _ _ 25 rfl w.heap.size 2 i0 _ 1 8 Tryd.underlying25 hi hz0 hz1 hz2 rfl (by decide) _ _ _ rfl (HO.out.alloc _) ⟨_, 0, none⟩ 1 1 [.int .i64 x] rfl rfl (new_cells' _ _ (by first | rfl | simp)) (int_one _) (by (try simp only [List.length_nil, List.length_append, List.length_singleton]); unfold maxLen; omega) (by (try simp only [List.length_nil, List.length_append, List.length_singleton]); omega) (by have := HB.out.size; (try simp at this); (try simp); omega) ?_)
            intro v1 w1 hown1 hgrow1 _ hat1
            have HB1 := Lib.hid (below_append' (HB.out.alloc HB.out.size _) (by have := HB.out.size; (try simp at this); (try simp); omega) HO.out (by simp) hgrow1)
            have HO1 : Hid (w1.ownsRow w.heap.size 2 1 v1 (acc ++ [x]).length (vI (acc ++ [x]))) := by unfold Hid; rw [vI_snoc, List.length_append]; first | exact hown1 | (have h9 := hown1; simp only [List.length_append, List.length_singleton] at h9 ⊢; exact h9)
            have hc2 : w1.cell? ⟨b, off + k, none⟩ = some (.int .i64 y) := ((HB1.out.cell (p := ⟨b, off + k, none⟩) hbb).trans ((HB.out.cell (p := ⟨b, off + k, none⟩) hbb).symm)).trans hc1
            clear hown1 hgrow1 hat1 hc1
            -- a row (acc ++ [x]) of numbers (owned by HO1.out from block w.heap.size on, the world told by HB1.out) gets one number y more; new names end in 2
            go_wp2_with (at_builtin; refine wpList_append_own_at _ rfl _ _ 25 rfl w.heap.size 2 i0 _ 1 8 Tryd.underlying25 hi hz0 hz1 hz2 rfl (by decide) _ _ _ rfl (HO1.out.alloc _) ⟨_, 0, none⟩ 1 1 [.int .i64 y] rfl rfl (new_cells' _ _ (by first | rfl | simp)) (int_one _) (by (try simp only [List.length_nil, List.length_append, List.length_singleton]); unfold maxLen; omega) (by (try simp only [List.length_nil, List.length_append, List.length_singleton]); omega) (by have := HB1.out.size; (try simp at this); (try simp); omega) ?_)
            intro v2 w2 hown2 hgrow2 _ hat2
            have HB2 := Lib.hid (below_append' (HB1.out.alloc HB1.out.size _) (by have := HB1.out.size; (try simp at this); (try simp); omega) HO1.out (by simp) hgrow2)
            have HO2 : Hid (w2.ownsRow w.heap.size 2 1 v2 ((acc ++ [x]) ++ [y]).length (vI ((acc ++ [x]) ++ [y]))) := by unfold Hid; rw [vI_snoc, List.length_append]; first | exact hown2 | (have h9 := hown2; simp only [List.length_append, List.length_singleton] at h9 ⊢; exact h9)
            clear hown2 hgrow2 hat2
            go_wp2
            exact ⟨⟨k + 1, acc ++ [x] ++ [y], true, by omega, by go_num, rfl, HO2.out, by simp; omega, by simp, HN.out, HB2.out⟩, by simp [intOf]; omega⟩
          · have HN := Lib.hid (put_same HD.out HLK.out (by omega))
            -- a row acc of numbers (owned by HO.out from block w.heap.size on, the world told by HB.out) gets one number y more; new names end in 1
            go_wp2_with (at_builtin; refine wpList_append_own_at _ rfl _ _ 25 rfl w.heap.size 2 i0 _ 1 8 Tryd.underlying25 hi hz0 hz1 hz2 rfl (by decide) _ _ _ rfl (HO.out.alloc _) ⟨_, 0, none⟩ 1 1 [.int .i64 y] rfl rfl (new_cells' _ _ (by first | rfl | simp)) (int_one _) (by (try simp only [List.length_nil, List.length_append, List.length_singleton]); unfold maxLen; omega) (by (try simp only [List.length_nil, List.length_append, List.length_singleton]); omega) (by have := HB.out.size; (try simp at this); (try simp); omega) ?_)
            intro v1 w1 hown1 hgrow1 _ hat1
            have HB1 := Lib.hid (below_append' (HB.out.alloc HB.out.size _) (by have := HB.out.size; (try simp at this); (try simp); omega) HO.out (by simp) hgrow1)
            have HO1 : Hid (w1.ownsRow w.heap.size 2 1 v1 (acc ++ [y]).length (vI (acc ++ [y]))) := by unfold Hid; rw [vI_snoc, List.length_append]; first | exact hown1 | (have h9 := hown1; simp only [List.length_append, List.length_singleton] at h9 ⊢; exact h9)
            clear hown1 hgrow1 hat1
            go_wp2
            exact ⟨⟨k + 1, acc ++ [y], true, by omega, by go_num, rfl, HO1.out, by simp; omega, by simp, HN.out, HB1.out⟩, by simp [intOf]; omega⟩
        · have HN := Lib.hid (put_later HD.out HLK.out (by omega))
          -- a row acc of numbers (owned by HO.out from block w.heap.size on, the world told by HB.out) gets one number y more; new names end in 1
          go_wp2_with (at_builtin; refine wpList_append_own_at _ rfl _ _ 25 rfl w.heap.size 2 i0 _ 1 8 Tryd.underlying25 hi hz0 hz1 hz2 rfl (by decide) _ _ _ rfl (HO.out.alloc _) ⟨_, 0, none⟩ 1 1 [.int .i64 y] rfl rfl (new_cells' _ _ (by first | rfl | simp)) (int_one _) (by (try simp only [List.length_nil, List.length_append, List.length_singleton]); unfold maxLen; omega) (by (try simp only [List.length_nil, List.length_append, List.length_singleton]); omega) (by have := HB.out.size; (try simp at this); (try simp); omega) ?_)
          intro v1 w1 hown1 hgrow1 _ hat1
          have HB1 := Lib.hid (below_append' (HB.out.alloc HB.out.size _) (by have := HB.out.size; (try simp at this); (try simp); omega) HO.out (by simp) hgrow1)
          have HO1 : Hid (w1.ownsRow w.heap.size 2 1 v1 (acc ++ [y]).length (vI (acc ++ [y]))) := by unfold Hid; rw [vI_snoc, List.length_append]; first | exact hown1 | (have h9 := hown1; simp only [List.length_append, List.length_singleton] at h9 ⊢; exact h9)
          clear hown1 hgrow1 hat1
          go_wp2
          exact ⟨⟨k + 1, acc ++ [y], false, by omega, by go_num, rfl, HO1.out, by simp; omega, by simp; omega, HN.out, HB1.out⟩, by simp [intOf]; omega⟩
      · have HN := Lib.hid (put_done HD.out HLK.out)
        clear hdf
        -- a row acc of numbers (owned by HO.out from block w.heap.size on, the world told by HB.out) gets one number y more; new names end in 1
        go_wp2_with (at_builtin; refine wpList_append_own_at _ rfl _ _ 25 rfl w.heap.size 2 i0 _ 1 8 Tryd.underlying25 hi hz0 hz1 hz2 rfl (by decide) _ _ _ rfl (HO.out.alloc _) ⟨_, 0, none⟩ 1 1 [.int .i64 y] rfl rfl (new_cells' _ _ (by first | rfl | simp)) (int_one _) (by (try simp only [List.length_nil, List.length_append, List.length_singleton]); unfold maxLen; omega) (by (try simp only [List.length_nil, List.length_append, List.length_singleton]); omega) (by have := HB.out.size; (try simp at this); (try simp); omega) ?_)
        intro v1 w1 hown1 hgrow1 _ hat1
        have HB1 := Lib.hid (below_append' (HB.out.alloc HB.out.size _) (by have := HB.out.size; (try simp at this); (try simp); omega) HO.out (by simp) hgrow1)
        have HO1 : Hid (w1.ownsRow w.heap.size 2 1 v1 (acc ++ [y]).length (vI (acc ++ [y]))) := by unfold Hid; rw [vI_snoc, List.length_append]; first | exact hown1 | (have h9 := hown1; simp only [List.length_append, List.length_singleton] at h9 ⊢; exact h9)
        clear hown1 hgrow1 hat1
        go_wp2
        exact ⟨⟨k + 1, acc ++ [y], true, by omega, by go_num, rfl, HO1.out, by simp; omega, by simp, HN.out, HB1.out⟩, by simp [intOf]; omega⟩
    · cases df
      · have HN := Lib.hid (put_end' HD.out (by have := hl.out; omega))
        -- a row acc of numbers (owned by HO.out from block w.heap.size on, the world told by HB.out) gets one number x more; new names end in 1
        go_wp2_with (at_builtin; refine wpList_append_own_at _ rfl _ _ 25 rfl w.heap.size 2 i0 _ 1 8 Tryd.underlying25 hi hz0 hz1 hz2 rfl (by decide) _ _ _ rfl (HO.out.alloc _) ⟨_, 0, none⟩ 1 1 [.int .i64 x] rfl rfl (new_cells' _ _ (by first | rfl | simp)) (int_one _) (by (try simp only [List.length_nil, List.length_append, List.length_singleton]); unfold maxLen; omega) (by (try simp only [List.length_nil, List.length_append, List.length_singleton]); omega) (by have := HB.out.size; (try simp at this); (try simp); omega) ?_)
        intro v1 w1 hown1 hgrow1 _ hat1
        have HB1 := Lib.hid (below_append' (HB.out.alloc HB.out.size _) (by have := HB.out.size; (try simp at this); (try simp); omega) HO.out (by simp) hgrow1)
        have HO1 : Hid (w1.ownsRow w.heap.size 2 1 v1 (acc ++ [x]).length (vI (acc ++ [x]))) := by unfold Hid; rw [vI_snoc, List.length_append]; first | exact hown1 | (have h9 := hown1; simp only [List.length_append, List.length_singleton] at h9 ⊢; exact h9)
        clear hown1 hgrow1 hat1
        go_wp2
        go_ret
        exact ⟨_, rfl, by rw [HN.out]; exact HO1.out, HB1.out⟩
      · have HN := Lib.hid (put_end HD.out (by have := hl.out; omega))
        go_wp2
        go_ret
        exact ⟨_, rfl, by rw [HN.out]; exact HO.out, HB.out⟩

end Go.Proofs.YtccdnmafakaleaaDoor

/-
  The reference's l07Make on a machine of its own: a loop more.
-/
namespace Go.Proofs.YtccdnmafakaleaaDoor
set_option linter.unusedVariables false
set_option linter.unusedSimpArgs false
open Go.RowKit

theorem MSt.rowL {w : World} {B g : Nat} {m : Mc} {S : Nat → Spot} (h : MSt w B g m S) : ∃ xs, S 4 = ⟨78, 6, (S 4).v, m.ls.length, xs⟩ ∧ w.ownsRow B 78 6 (S 4).v m.ls.length xs := by
  obtain ⟨xs, e, _⟩ := h.ls
  exact ⟨xs, e, h.owned e⟩
/-- A loop more, with what moved. -/
theorem MSt.addLm {w1 w2 w0 : World} {B g : Nat} {m : Mc} {S S0 : Nat → Spot} {x : Inf} {vp vl : Value} {xs : List Value} (h : MSt w1 B g m S) (hm : Mv w0 S0 w1 S) (e4 : S 4 = ⟨78, 6, (S 4).v, m.ls.length, xs⟩)
    (hp : w1.ownsRow B 2 1 vp x.ps.length (vI x.ps)) (hnew : ∀ k, vp.ownBlock = some k → ¬ blk S k ∧ w0.heap.size ≤ k)
    (hown : w2.ownsRow B 78 6 vl (m.ls.length + 1) (xs ++ [.int .i64 x.k, .int .i64 x.y, .int .i64 x.b, .int .i64 x.p, .int .i64 x.d, vp])) (hg : w1.grownBy w2 (S 4).v.ownBlock) (hat : vl.ownBlock = (S 4).v.ownBlock ∨ vl.ownBlock = some w1.heap.size) :
    ∃ S', MSt (w2.setCell ⟨g, 5, none⟩ vl) B g { m with ls := m.ls ++ [x] } S' ∧ Mv w0 S0 (w2.setCell ⟨g, 5, none⟩ vl) S' := by
  have hne : iP m.ls.length ≠ 4 := by unfold iP; omega
  have hn0 : iP m.ls.length ≠ 0 := by unfold iP; omega
  have hsp1 := h.sp.putX (iP m.ls.length) hp (fun k hk => (hnew k hk).1)
  have hm1 := hm.put (iP m.ls.length) (spI vp x.ps) (fun k hk => .inr (hnew k hk).2)
  have e4' : putS S (iP m.ls.length) (spI vp x.ps) 4 = S 4 := putS_ne (fun e => hne e.symm)
  have hsp2 := hsp1.app (w' := w2) 4 ⟨78, 6, vl, m.ls.length + 1, xs ++ [.int .i64 x.k, .int .i64 x.y, .int .i64 x.b, .int .i64 x.p, .int .i64 x.d, vp]⟩ hown (by rw [e4']; exact hg) (by rw [e4']; exact hat)
  have hm2 := hm1.app (p := 4) (s := ⟨78, 6, vl, m.ls.length + 1, xs ++ [.int .i64 x.k, .int .i64 x.y, .int .i64 x.b, .int .i64 x.p, .int .i64 x.d, vp]⟩) (by rw [e4']; exact hg) (by rw [e4']; exact hat)
  have hA := h.addL e4 rfl hsp2
  refine ⟨_, hA, ?_⟩
  have e0 : (putS (putS S (iP m.ls.length) (spI vp x.ps)) 4 ⟨78, 6, vl, m.ls.length + 1, xs ++ [.int .i64 x.k, .int .i64 x.y, .int .i64 x.b, .int .i64 x.p, .int .i64 x.d, vp]⟩) 0 = S 0 := by rw [putS_ne (by omega), putS_ne (fun e => hn0 e.symm)]
  have := hm2.setCell (p := 0) (g := g) (i := 5) (by rw [e0]; exact h.gbox) vl ((S 0).xs.set 5 vl)
  rw [e0] at this
  exact this

theorem own_base {w : World} {B B' e size n : Nat} {v : Value} {xs : List Value} (h : w.ownsRow B' e size v n xs) (hB : B ≤ B') : w.ownsRow B e size v n xs := by
  refine ⟨h.1, ?_⟩
  rcases h.2 with h2 | ⟨g, cap, cur, hv, hg, h3⟩
  · exact .inl h2
  · exact .inr ⟨g, cap, cur, hv, Nat.le_trans hB hg, h3⟩
/-- The load of a cell that its region also writes: named, so that the walk does not try to take it ahead. -/
@[go_sem] def ldMake : Oper := { dst := some 11, op := Op.load 31 (Operand.tmp 10), type := 31, pos := "l07_machine.go:247", after := #[{ on := 3, ground := Ground.data }], guard := none }
set_option maxHeartbeats 4000000 in
set_option maxRecDepth 100000 in
theorem l07Make_any {w : World} {B g : Nat} {m : Mc} {S : Nat → Spot} (h : MSt w B g m S) (hB : B ≤ w.heap.size) (x : Opr) (b o : Nat) (ho : OpAt w b o x) (hnb : ¬ blk S b) (v : Value) (l : List Int) (hl : RdI w w.heap.size v l) (hl4 : l.length ≤ 4) (hls : m.ls.length < 300) :
    Calls Tryd.prog 137 #[.pointer (some ⟨g, 0, none⟩), .pointer (some ⟨b, o, none⟩), v] w (Did w S B g (.int .i64 m.ls.length) (addLp m x l)) := by
  obtain ⟨i0, hi, hz0, hz1, hz2⟩ := info_parts info_inf
  obtain ⟨xs, e4, hown4⟩ := h.rowL
  obtain ⟨k, d, fb, fa, tb, ta, c, r⟩ := x
  obtain ⟨o0, o1, o2, o3, o4, o5, o6, o7⟩ := ho.eight
  have hbw : b < w.heap.size := block_lt_of_cell o0
  have x5 : w.cell? ⟨g, 5, none⟩ = some (S 4).v := h.cells.seven.2.2.2.2.2.1
  have hgw := h.size.1
  have HO := Lib.hid ho
  have HM := Lib.hid h
  have HNB := Lib.hid hnb
  have HE4 := Lib.hid e4
  have HOW4 := Lib.hid hown4
  have HQ := Lib.hid (l00OwnR_any v l w.drew hl (by omega))
  have hgb : g ≠ b := fun e => hnb ⟨0, by rw [h.gbox, e]⟩
  obtain ⟨A4, c4, hv4⟩ : ∃ A c, (S 4).v = .slice A m.ls.length c := by
    obtain ⟨A, c, h1, -⟩ := (OwC.of_own hown4).cells
    exact ⟨A, c, h1⟩
  rw [hv4] at x5
  have HV4 := Lib.hid hv4
  have hb4 : (Value.slice A4 m.ls.length c4).ownBlock ≠ some b := fun e => hnb ⟨4, by rw [hv4]; exact e⟩
  have HB4 := Lib.hid hb4
  have HG4 : Hid ((Value.slice A4 m.ls.length c4).ownBlock ≠ some g) := fun e => h.sp.dis (i := 4) (j := 0) (by omega) (by rw [hv4]; exact e) h.gbox
  have hfgb := far_cell hgb
  generalize hN : m.ls.length = N at *
  have HN := Lib.hid hN
  have HD : Hid (∀ W, Did w S B g (.int .i64 N) (addLp m ⟨k, d, fb, fa, tb, ta, c, r⟩ l) (.returned (.int .i64 N)) W ↔ ∃ S', MSt W B g (addLp m ⟨k, d, fb, fa, tb, ta, c, r⟩ l) S' ∧ Mv w S W S') := fun W => ⟨fun ⟨_, h⟩ => h, fun h => ⟨rfl, h⟩⟩
  clear h ho hnb e4 hown4 hl hv4 hN hb4
  go_enter Tryd.func137, Tryd.ntmps137
  go_wp2
  rw [show ({ dst := some 11, op := Op.load 31 (Operand.tmp 10), type := 31, pos := "l07_machine.go:247", after := #[{ on := 3, ground := Ground.data }], guard := none } : Oper) = ldMake from rfl]
  go_region_held3 (fun w' => w'.cell? ⟨b, o, none⟩ = some (.int .i64 k) ∧ w'.cell? ⟨b, o + 6, none⟩ = some (.int .i64 c) ∧ w'.cell? ⟨b, o + 2, none⟩ = some (.int .i64 fb) ∧ w'.cell? ⟨b, o + 3, none⟩ = some (.int .i64 fa) ∧ w'.cell? ⟨b, o + 1, none⟩ = some (.int .i64 d))
    (first | exact ⟨o0, o6, o2, o3, o1⟩ | exact ⟨q0, q6, q2, q3, q1⟩ | exact ⟨s0, s6, s2, s3, s1⟩ | (rw [hfgb, hfgb, hfgb, hfgb, hfgb]; exact ⟨s0, s6, s2, s3, s1⟩) | go_keep)
    (first
      | (go_at_call 129; refine (HQ.out).mono ?_; rintro e w2 ⟨v2, rfl, hown2, hb2⟩; have hb2' : Below w.heap.size w w2 := (Below.refl w.heap.size w).drew.trans hb2; obtain ⟨q0, q1, q2, q3, q4, q5, q6, q7⟩ := (CellsAt.below HO.out hb2' hbw).eight; have z5 : w2.cell? ⟨g, 5, none⟩ = some (.slice A4 N c4) := (hb2'.cell (p := ⟨g, 5, none⟩) hgw).trans x5; have z5a : ∀ ob, (w2.alloc ob).cell? ⟨g, 5, none⟩ = some (.slice A4 N c4) := fun ob => (World.cell?_alloc_lt w2 ob ⟨g, 5, none⟩ (by have := hb2'.size; show g < _; omega)).trans z5; have hm2 := HM.out.below hb2'; have hw4 := own_below HOW4.out hb2'; rw [HV4.out] at hw4; obtain ⟨A2, c2, rfl⟩ : ∃ A c, v2 = .slice A l.length c := by (obtain ⟨A, c, h1, -⟩ := (OwC.of_own hown2).cells; exact ⟨A, c, h1⟩))
      | (refine step_append_lies _ (by rfl) _ _ _ (by rfl) B 78 i0 _ 6 64 Tryd.underlying31 hi hz0 hz1 hz2 rfl (by omega) (.slice A4 N c4) N xs (by rfl) (hw4.alloc _) ⟨w2.heap.size, 0, none⟩ 1 1 [.int .i64 k, .int .i64 c, .int .i64 fb, .int .i64 fa, .int .i64 d, .slice A2 l.length c2] (by rfl) (by rfl) (World.news_of_block (cs := #[.int .i64 k, .int .i64 c, .int .i64 fb, .int .i64 fa, .int .i64 d, .slice A2 l.length c2]) (t := 78) (fr := (0, 0)) (heap_alloc_new w2 _)) (by simp [Value.oneCell']) (by omega) (by unfold maxLen; omega) (by omega) (by have := hb2'.size; simp; omega) (w2.heap.size + 1) (by simp) ?_; intro gg cap w3 hown3 hgrow hat hlt; have hbw2 : b < w2.heap.size := Nat.lt_of_lt_of_le hbw hb2'.size; have hfar : ∀ (j : Nat) (u : Value), w2.cell? ⟨b, j, none⟩ = some u → w3.cell? ⟨b, j, none⟩ = some u := fun j u hu => (hgrow.cell_far ⟨b, j, none⟩ (by simp; omega) (Ne.symm HB4.out)).trans ((World.cell?_alloc_lt w2 _ ⟨b, j, none⟩ hbw2).trans hu); have s0 := hfar _ _ q0; have s1 := hfar _ _ q1; have s2 := hfar _ _ q2; have s3 := hfar _ _ q3; have s6 := hfar _ _ q6; clear hfar; have t5 : w3.cell? ⟨g, 5, none⟩ = some (.slice A4 N c4) := (hgrow.cell_far ⟨g, 5, none⟩ (by have := hb2'.size; simp; omega) (Ne.symm HG4.out)).trans ((World.cell?_alloc_lt w2 _ ⟨g, 5, none⟩ (by have := hb2'.size; show g < _; omega)).trans z5); have tf5 : w3.frozen? ⟨g, 5, none⟩ = false := (hgrow.frozen_far ⟨g, 5, none⟩ (by have := hb2'.size; simp; omega) (Ne.symm HG4.out)).trans (((((Below.refl w2.heap.size w2).alloc (Nat.le_refl _) _).frozen (p := ⟨g, 5, none⟩) (by have := hb2'.size; show g < _; omega))).trans (hm2.frozen 5))))
  all_goals
    have hF : ∃ S', MSt (w3.setCell ⟨g, 5, none⟩ (.slice (some ⟨gg, 0, none⟩) (N + 1) cap)) B g (addLp m ⟨k, d, fb, fa, tb, ta, c, r⟩ l) S' ∧ Mv w S (w3.setCell ⟨g, 5, none⟩ (.slice (some ⟨gg, 0, none⟩) (N + 1) cap)) S' := by
      have hN := HN.out
      subst hN
      have hWA : Below w2.heap.size w2 (w2.alloc (.cells #[.int .i64 k, .int .i64 c, .int .i64 fb, .int .i64 fa, .int .i64 d, .slice A2 l.length c2] 78)) := (Below.refl _ _).alloc (Nat.le_refl _) _
      refine MSt.addLm (w1 := w2.alloc (.cells #[.int .i64 k, .int .i64 c, .int .i64 fb, .int .i64 fa, .int .i64 d, .slice A2 l.length c2] 78)) (x := ⟨k, c, fb, fa, d, l⟩) (hm2.below hWA) ((Mv.of_below hb2').alloc _) HE4.out (own_base (own_below hown2 hWA) hB) (fun q hq => ?_) hown3 (by rw [HV4.out]; exact hgrow) (by rw [HV4.out]; rcases hat with h9 | h9; exact .inl h9.symm; exact .inr (by rw [h9]; simp [Value.ownBlock]))
      have h9 := (World.ownsRow.lt hown2 q hq).1
      exact ⟨fun e => by have := (HM.out.sp.ge e).2; have h10 : w.heap.size ≤ q := h9; omega, h9⟩
    have HF := Lib.hid hF
    clear hF hown3 hgrow hat hown2 hb2 hb2' hm2 hw4 HM HO HNB HQ HE4 HOW4 HV4 HB4 HG4
    have f5 : (w3.setCell ⟨g, 5, none⟩ (.slice (some ⟨gg, 0, none⟩) (N + 1) cap)).cell? ⟨g, 5, none⟩ = some (.slice (some ⟨gg, 0, none⟩) (N + 1) cap) := cell_set_same t5

    go_wp2
    go_ret
    exact (HD.out _).2 HF.out

end Go.Proofs.YtccdnmafakaleaaDoor

/-
  The reference's l07Move on a machine of its own.
-/
namespace Go.Proofs.YtccdnmafakaleaaDoor
set_option linter.unusedVariables false
set_option linter.unusedSimpArgs false
open Go.RowKit

theorem mv8 {m : Mc} {x : Opr} (h : plc x.fb x.fa m.rk ≠ plc x.tb x.ta m.rk) : mvCode m x = 8 := by unfold mvCode; rw [if_pos h]
theorem mv7 {m : Mc} {x : Opr} (h : plc x.fb x.fa m.rk = plc x.tb x.ta m.rk) (h1 : (onL m x.f).length = 0) : mvCode m x = 7 := by unfold mvCode; rw [if_neg (by simpa using h), if_pos h1]
theorem mv5 {m : Mc} {x : Opr} (h : plc x.fb x.fa m.rk = plc x.tb x.ta m.rk) (h1 : ¬ (onL m x.f).length = 0) (h2 : 4 < (onL m x.f).length + (onL m x.t).length) : mvCode m x = 5 := by unfold mvCode; rw [if_neg (by simpa using h), if_neg h1, if_pos h2]
theorem mv0 {m : Mc} {x : Opr} (h : plc x.fb x.fa m.rk = plc x.tb x.ta m.rk) (h1 : ¬ (onL m x.f).length = 0) (h2 : ¬ 4 < (onL m x.f).length + (onL m x.t).length) : mvCode m x = 0 := by unfold mvCode; rw [if_neg (by simpa using h), if_neg h1, if_neg h2]
theorem DidC.bad {w0 w : World} {S0 S : Nat → Spot} {B g : Nat} {code c : Int} {m : Mc} (hm : Mv w0 S0 w S) (he : code = c) (hc : c ≠ 0) : DidC w0 S0 B g code m (.returned (.int .i64 c)) w := ⟨by rw [he], S, hm, fun e => absurd (he.symm.trans e) hc⟩
/-- A machine's list, as it is read. -/
theorem MSt.onR {w : World} {B g : Nat} {m : Mc} {S : Nat → Spot} (h : MSt w B g m S) {n : Int × Int} (hn : ndIn m n) : RdI w w.heap.size (S (iN n)).v (onL m n) ∧ (∃ A c, (S (iN n)).v = .slice A (onL m n).length c ∧ (onL m n).length ≤ c) ∧ w.ownsRow B 2 1 (S (iN n)).v (onL m n).length (vI (onL m n)) := by
  obtain ⟨b, c, L, -, -, -, -, -, -, -, he, -⟩ := h.nd hn
  have h1 := h.sp.own (iN n)
  rw [he] at h1
  have h2 : w.ownsRow B 2 1 (S (iN n)).v (onL m n).length (vI (onL m n)) := h1
  obtain ⟨A, k, q, h3, h4⟩ := (OwC.of_own h2).cap
  obtain ⟨A', c', h5, -⟩ := (OwC.of_own h2).cells
  rw [h5] at h3
  injection h3 with e1 e2 e3
  subst e1 e2 e3
  exact ⟨RdI.of_own (OwC.of_own h2), ⟨_, _, h5, h4⟩, h2⟩

set_option maxHeartbeats 4000000 in
set_option maxRecDepth 100000 in
theorem l07Move_any {w : World} {B g : Nat} {m : Mc} {S : Nat → Spot} (h : MSt w B g m S) (hB : B ≤ w.heap.size) (x : Opr) (b o : Nat) (ho : OpAt w b o x) (hnb : ¬ blk S b) (hf : ndIn m x.f) (ht : ndIn m x.t) (hne : x.fb ≠ x.tb) (hok : OkP m) (hfa : x.fa ≤ 23) (hta : x.ta ≤ 23) :
    Calls Tryd.prog 132 #[.pointer (some ⟨g, 0, none⟩), .pointer (some ⟨b, o, none⟩)] w (DidC w S B g (mvCode m x) (mvTo m x)) := by
  obtain ⟨i0, hi, hz0, hz1, hz2⟩ := info_parts info_int
  obtain ⟨k, d, fb, fa, tb, ta, c, r⟩ := x
  obtain ⟨r0, r1⟩ := hok.rk
  have hl4 := hok.on4 (fb, fa)
  have hl5 := hok.on4 (tb, ta)
  have hfa' : fa ≤ 23 := hfa
  have hta' : ta ≤ 23 := hta
  have hfa0 : 0 ≤ fa := hf.2.1
  have hta0 : 0 ≤ ta := ht.2.1
  obtain ⟨o0, o1, o2, o3, o4, o5, o6, o7⟩ := ho.eight
  have hbw : b < w.heap.size := block_lt_of_cell o0
  have HO := Lib.hid ho
  have HM := Lib.hid h
  have HNB := Lib.hid hnb
  have HQ1 := Lib.hid (l07On_any h (fb, fa) hf)
  have HF := Lib.hid (show ndIn m (fb, fa) from hf)
  have HT := Lib.hid (show ndIn m (tb, ta) from ht)
  have hC8 := Lib.hid (fun h1 => mv8 (m := m) (x := ⟨k, d, fb, fa, tb, ta, c, r⟩) h1)
  have hC7 := Lib.hid (fun h1 h2 => mv7 (m := m) (x := ⟨k, d, fb, fa, tb, ta, c, r⟩) h1 h2)
  have hC5 := Lib.hid (fun h1 h2 h3 => mv5 (m := m) (x := ⟨k, d, fb, fa, tb, ta, c, r⟩) h1 h2 h3)
  have hC0 := Lib.hid (fun h1 h2 h3 => mv0 (m := m) (x := ⟨k, d, fb, fa, tb, ta, c, r⟩) h1 h2 h3)
  have HP1 := Lib.hid (fun X => l07Place_any fb fa m.rk (by omega) (by omega) (by omega) (by omega) X)
  have HP2 := Lib.hid (fun X => l07Place_any tb ta m.rk (by omega) (by omega) (by omega) (by omega) X)
  generalize hCC : mvCode m ⟨k, d, fb, fa, tb, ta, c, r⟩ = CC at *
  have hMV : mvTo m ⟨k, d, fb, fa, tb, ta, c, r⟩ = setL (setL m (tb, ta) (mvL m ⟨k, d, fb, fa, tb, ta, c, r⟩)) (fb, fa) [] := rfl
  have HMV := Lib.hid hMV
  generalize mvTo m ⟨k, d, fb, fa, tb, ta, c, r⟩ = M' at *
  clear h ho hf ht hCC hMV hnb
  go_enter Tryd.func132, Tryd.ntmps132
  go_wp2_with fail
  refine (HQ1.out).mono ?_
  rintro e w1 ⟨rfl, hb1⟩
  have HM1 := Lib.hid (HM.out.below hb1)
  have HO1 := Lib.hid (CellsAt.below HO.out hb1 hbw)
  have HB1 := Lib.hid hb1
  have HQ2 := Lib.hid (l07On_any HM1.out (tb, ta) HT.out)
  have hbw1 : b < w1.heap.size := Nat.lt_of_lt_of_le hbw hb1.size
  have HO0 := Lib.hid HO.out
  clear o0 o1 o2 o3 o4 o5 o6 o7 hb1 HO HQ1
  obtain ⟨o0, o1, o2, o3, o4, o5, o6, o7⟩ := HO1.out.eight
  go_wp2_with fail
  refine (HQ2.out).mono ?_
  rintro e w2 ⟨rfl, hb2⟩
  have HM2 := Lib.hid (HM1.out.below hb2)
  have HO2 := Lib.hid (CellsAt.below HO1.out hb2 hbw1)
  have HB2 := Lib.hid (HB1.out.trans (hb2.mono HB1.out.size))
  have hbw2 : b < w2.heap.size := Nat.lt_of_lt_of_le hbw1 hb2.size
  obtain ⟨-, ⟨Af, cf, hvf, hcf⟩, -⟩ := HM2.out.onR HF.out
  obtain ⟨-, ⟨At, ct, hvt, hct⟩, -⟩ := HM2.out.onR HT.out
  have HVF := Lib.hid hvf
  have HVT := Lib.hid hvt
  rw [hvf, hvt]
  clear o0 o1 o2 o3 o4 o5 o6 o7 hb2 HO1 HM1 HB1 HQ2 hvf hvt
  obtain ⟨-, -, p2, p3, p4, p5, -, -⟩ := HO2.out.grow8
  have x1 : ∀ X, (wgrow w2 X).cell? ⟨g, 1, none⟩ = some (.int .i64 m.rk) := fun X => HM2.out.cells.grow X 1 _ rfl
  generalize hPf : plc fb fa m.rk = Pf at *
  generalize hPt : plc tb ta m.rk = Pt at *
  clear hPf hPt
  go_wp2
  refine wp_region_grow (by kernel_rfl) (by kernel_rfl) ?_
  repeat (go_big_quiet_step ((first | (go_at_call_of 126 (Value.agg #[.int .i64 fb, .int .i64 fa]); exact calls_grow (HP1.out _)) | (go_at_call_of 126 (Value.agg #[.int .i64 tb, .int .i64 ta]); exact calls_grow (HP2.out _)))))
  refine wpQuiet_nil ?_
  intro w3 hb3
  have HM3 := Lib.hid (HM2.out.below hb3)
  have HO3 := Lib.hid (CellsAt.below HO2.out hb3 hbw2)
  have HB3 := Lib.hid (HB2.out.trans (hb3.mono HB2.out.size))
  have hbw3 : b < w3.heap.size := Nat.lt_of_lt_of_le hbw2 hb3.size
  have HMV3 := Lib.hid (Mv.of_below (S := S) HB3.out)
  clear hb3 HO2 HM2 HB2 x1 p2 p3 p4 p5 HP1 HP2
  obtain ⟨o0, o1, o2, o3, o4, o5, o6, o7⟩ := HO3.out.eight
  by_cases hp : Pf = Pt
  · subst hp
    have hpn : (Pf != Pf) = false := by simp
    by_cases h0 : (onL m (fb, fa)).length = 0
    · have hc := Lib.hid (hC7.out rfl h0)
      have h0' : (((onL m (fb, fa)).length : Int) == 0) = true := by rw [h0]; rfl
      clear h0 hC8 hC7 hC5 hC0
      go_wp2
      go_ret
      exact DidC.bad HMV3.out hc.out (by omega)
    · have h0' : (((onL m (fb, fa)).length : Int) == 0) = false := by simpa using h0
      by_cases h4 : 4 < (onL m (fb, fa)).length + (onL m (tb, ta)).length
      · have hc := Lib.hid (hC5.out rfl h0 h4)
        have h4' : (4 : Int) < ((onL m (fb, fa)).length : Int) + ((onL m (tb, ta)).length : Int) := by omega
        clear h0 h4 hC8 hC7 hC5 hC0
        go_wp2
        go_ret
        exact DidC.bad HMV3.out hc.out (by omega)
      · have hc := Lib.hid (hC0.out rfl h0 h4)
        have h4' : ¬ (4 : Int) < ((onL m (fb, fa)).length : Int) + ((onL m (tb, ta)).length : Int) := by omega
        clear h0 h4 hC8 hC7 hC5 hC0
        by_cases hb2 : tb = 2
        · subst hb2
          have HRD := Lib.hid ((HM3.out.onR (n := (2, ta)) HT.out).1)
          have HQO := Lib.hid (l00OwnR_any (.slice Af (onL m (fb, fa)).length cf) (onL m (fb, fa)) w3.drew (by have := (HM3.out.onR (n := (fb, fa)) HF.out).1; rw [HVF.out] at this; exact this) (by omega))
          rw [HVT.out] at HRD
          replace HRD := Lib.hid (HRD.out.reads).1
          go_wp2
          go_region_held3 (fun w' => w'.cell? ⟨b, o + 4, none⟩ = some (.int .i64 2) ∧ w'.cell? ⟨b, o + 5, none⟩ = some (.int .i64 ta))
            (first | exact ⟨o4, o5⟩ | exact ⟨q4, q5⟩ | exact ⟨r4, r5⟩ | exact ⟨t4, t5⟩ | go_keep)
            (first
              | (go_at_call 129; refine (HQO.out).mono ?_; rintro e w4 ⟨v4, rfl, hown4, hb4⟩; have hB4 : Below w3.heap.size w3 w4 := (Below.refl w3.heap.size w3).drew.trans hb4; obtain ⟨-, -, -, -, q4, q5, -, -⟩ := (CellsAt.below HO3.out hB4 hbw3).eight; have hrd4 := HRD.out.below hB4; have hsz4 := hB4.size)
              | (refine step_append_any _ (by rfl) _ _ _ (by rfl) w3.heap.size 2 i0 _ 1 8 Tryd.underlying25 hi hz0 hz1 hz2 rfl (by decide) v4 (onL m (fb, fa)).length (vI (onL m (fb, fa))) (by rfl) hown4 w3.heap.size At (onL m (2, ta)).length ct (vI (onL m (2, ta))) (by rfl) hrd4 (vI_one _) (by unfold maxLen; omega) (by omega) hsz4 ?_; intro v5 w5 hown5 hg5 hat5; have hB5 : Below w3.heap.size w3 w5 := hB4.grown hg5 hsz4 (fun q hq => (World.ownsRow.lt hown4 q hq).1); obtain ⟨-, -, -, -, r4, r5, -, -⟩ := (CellsAt.below HO3.out hB5 hbw3).eight; have hm5 := HM3.out.below hB5; (have hown5' : w5.ownsRow B 2 1 v5 (onL m (fb, fa) ++ onL m (2, ta)).length (vI (onL m (fb, fa) ++ onL m (2, ta))) := by (rw [List.length_append, vI_append]; exact own_base hown5 (Nat.le_trans hB HB3.out.size))); have hnew5 : ∀ q, v5.ownBlock = some q → w3.heap.size ≤ q := fun q hq => (World.ownsRow.lt hown5 q hq).1; have hQS := l07Set_any hm5 (2, ta) HT.out v5 (onL m (fb, fa) ++ onL m (2, ta)) (hm5.sp.putX _ hown5' (fun q hq e => by have := (HM3.out.sp.ge e).2; have := hnew5 q hq; omega)) ((HMV3.out.trans (Mv.of_below hB5)).put _ _ (fun q hq => .inr (Nat.le_trans HB3.out.size (hnew5 q hq)))))
              | (go_at_call 135; refine hQS.mono ?_; rintro e w6 ⟨rfl, S6, hm6, hv6⟩; obtain ⟨-, -, t2, t3, t4, t5, -, -⟩ := (hv6.only.cells HNB.out HO0.out).eight))
          have HM6 := Lib.hid hm6
          have HV6 := Lib.hid hv6
          clear hQS hown5' hnew5 hown5 hg5 hat5 hown4 hb4 hB4 hB5 hrd4 hm5 hm6 hv6 r4 r5 q4 q5
          have hWA : Below w6.heap.size w6 (w6.alloc (.cells #[] 2)) := (Below.refl _ _).alloc (Nat.le_refl _) _
          have hn6 : ndIn (setL m (2, ta) (onL m (fb, fa) ++ onL m (2, ta))) (fb, fa) := ndIn_set _ HF.out
          have HMA := Lib.hid (HM6.out.below hWA)
          have hlit := World.ownsRow_lit (base := w6.heap.size) (e := 2) (size := 1) w6 #[] 0 (Nat.le_refl _) (by unfold maxLen; omega) rfl
          have hBw6 : B ≤ w6.heap.size := Nat.le_trans hB HV6.out.size
          have HQS := Lib.hid (l07Set_any HMA.out (fb, fa) hn6 (.slice (some ⟨w6.heap.size, 0, none⟩) 0 0) [] (HMA.out.sp.putX _ (own_base hlit hBw6) (fun q hq e => by have := (HM6.out.sp.ge e).2; injection hq with hq; have hq' : w6.heap.size = q := hq; omega)) ((HV6.out.alloc _).put _ _ (fun q hq => .inr (by injection hq with hq; have hq' : w6.heap.size = q := hq; have := HV6.out.size; omega))))
          clear hWA hn6 hlit
          go_wp2_with fail
          refine (HQS.out).mono ?_
          rintro e w7 ⟨rfl, S7, hm7, hv7⟩
          have HFIN : Hid (DidC w S B g CC M' (.returned (.int .i64 0)) w7) := ⟨by rw [hc.out], S7, hv7, fun _ => by rw [HMV.out]; exact (by unfold mvL; rw [if_pos rfl]; exact hm7)⟩
          clear hm7 hv7
          go_wp2
          go_ret
          exact HFIN.out
        · have hb2' : (tb == 2) = false := by simpa using hb2
          have HRD := Lib.hid ((HM3.out.onR (n := (fb, fa)) HF.out).1)
          have HQO := Lib.hid (l00OwnR_any (.slice At (onL m (tb, ta)).length ct) (onL m (tb, ta)) w3.drew (by have := (HM3.out.onR (n := (tb, ta)) HT.out).1; rw [HVT.out] at this; exact this) (by omega))
          rw [HVF.out] at HRD
          replace HRD := Lib.hid (HRD.out.reads).1
          have HNB2 := Lib.hid hb2
          clear hb2
          go_wp2
          go_region_held3 (fun w' => w'.cell? ⟨b, o + 4, none⟩ = some (.int .i64 tb) ∧ w'.cell? ⟨b, o + 5, none⟩ = some (.int .i64 ta))
            (first | exact ⟨o4, o5⟩ | exact ⟨q4, q5⟩ | exact ⟨r4, r5⟩ | exact ⟨t4, t5⟩ | go_keep)
            (first
              | (go_at_call 129; refine (HQO.out).mono ?_; rintro e w4 ⟨v4, rfl, hown4, hb4⟩; have hB4 : Below w3.heap.size w3 w4 := (Below.refl w3.heap.size w3).drew.trans hb4; obtain ⟨-, -, -, -, q4, q5, -, -⟩ := (CellsAt.below HO3.out hB4 hbw3).eight; have hrd4 := HRD.out.below hB4; have hsz4 := hB4.size)
              | (refine step_append_any _ (by rfl) _ _ _ (by rfl) w3.heap.size 2 i0 _ 1 8 Tryd.underlying25 hi hz0 hz1 hz2 rfl (by decide) v4 (onL m (tb, ta)).length (vI (onL m (tb, ta))) (by rfl) hown4 w3.heap.size Af (onL m (fb, fa)).length cf (vI (onL m (fb, fa))) (by rfl) hrd4 (vI_one _) (by unfold maxLen; omega) (by omega) hsz4 ?_; intro v5 w5 hown5 hg5 hat5; have hB5 : Below w3.heap.size w3 w5 := hB4.grown hg5 hsz4 (fun q hq => (World.ownsRow.lt hown4 q hq).1); obtain ⟨-, -, -, -, r4, r5, -, -⟩ := (CellsAt.below HO3.out hB5 hbw3).eight; have hm5 := HM3.out.below hB5; (have hown5' : w5.ownsRow B 2 1 v5 (onL m (tb, ta) ++ onL m (fb, fa)).length (vI (onL m (tb, ta) ++ onL m (fb, fa))) := by (rw [List.length_append, vI_append]; exact own_base hown5 (Nat.le_trans hB HB3.out.size))); have hnew5 : ∀ q, v5.ownBlock = some q → w3.heap.size ≤ q := fun q hq => (World.ownsRow.lt hown5 q hq).1; have hQS := l07Set_any hm5 (tb, ta) HT.out v5 (onL m (tb, ta) ++ onL m (fb, fa)) (hm5.sp.putX _ hown5' (fun q hq e => by have := (HM3.out.sp.ge e).2; have := hnew5 q hq; omega)) ((HMV3.out.trans (Mv.of_below hB5)).put _ _ (fun q hq => .inr (Nat.le_trans HB3.out.size (hnew5 q hq)))))
              | (go_at_call 135; refine hQS.mono ?_; rintro e w6 ⟨rfl, S6, hm6, hv6⟩; obtain ⟨-, -, t2, t3, t4, t5, -, -⟩ := (hv6.only.cells HNB.out HO0.out).eight))
          have HM6 := Lib.hid hm6
          have HV6 := Lib.hid hv6
          clear hQS hown5' hnew5 hown5 hg5 hat5 hown4 hb4 hB4 hB5 hrd4 hm5 hm6 hv6 r4 r5 q4 q5
          have hWA : Below w6.heap.size w6 (w6.alloc (.cells #[] 2)) := (Below.refl _ _).alloc (Nat.le_refl _) _
          have hn6 : ndIn (setL m (tb, ta) (onL m (tb, ta) ++ onL m (fb, fa))) (fb, fa) := ndIn_set _ HF.out
          have HMA := Lib.hid (HM6.out.below hWA)
          have hlit := World.ownsRow_lit (base := w6.heap.size) (e := 2) (size := 1) w6 #[] 0 (Nat.le_refl _) (by unfold maxLen; omega) rfl
          have hBw6 : B ≤ w6.heap.size := Nat.le_trans hB HV6.out.size
          have HQS := Lib.hid (l07Set_any HMA.out (fb, fa) hn6 (.slice (some ⟨w6.heap.size, 0, none⟩) 0 0) [] (HMA.out.sp.putX _ (own_base hlit hBw6) (fun q hq e => by have := (HM6.out.sp.ge e).2; injection hq with hq; have hq' : w6.heap.size = q := hq; omega)) ((HV6.out.alloc _).put _ _ (fun q hq => .inr (by injection hq with hq; have hq' : w6.heap.size = q := hq; have := HV6.out.size; omega))))
          clear hWA hn6 hlit
          go_wp2_with fail
          refine (HQS.out).mono ?_
          rintro e w7 ⟨rfl, S7, hm7, hv7⟩
          have HFIN : Hid (DidC w S B g CC M' (.returned (.int .i64 0)) w7) := ⟨by rw [hc.out], S7, hv7, fun _ => by rw [HMV.out]; exact (by unfold mvL; rw [if_neg HNB2.out]; exact hm7)⟩
          clear hm7 hv7
          go_wp2
          go_ret
          exact HFIN.out
  · have hc := Lib.hid (hC8.out hp)
    have hpn : (Pf != Pt) = true := by simpa using hp
    clear hp hC8 hC7 hC5 hC0
    go_wp2
    go_ret
    exact DidC.bad HMV3.out hc.out (by omega)

end Go.Proofs.YtccdnmafakaleaaDoor

/-
  The reference's l07Form on a machine of its own.
-/
namespace Go.Proofs.YtccdnmafakaleaaDoor
set_option linter.unusedVariables false
set_option linter.unusedSimpArgs false
open Go.RowKit

/-- A row of one number, just made. -/
theorem lit1 (w : World) (n : Int) : (w.alloc (.cells #[.int .i64 n] 2)).ownsRow w.heap.size 2 1 (.slice (some ⟨w.heap.size, 0, none⟩) 1 1) ([n] : List Int).length (vI [n]) := World.ownsRow_lit (base := w.heap.size) (e := 2) (size := 1) w #[.int .i64 n] 1 (Nat.le_refl _) (by unfold maxLen; omega) rfl
/-- A needle gets a row of one number. -/
theorem set_lit1 {w w0 : World} {B g : Nat} {m : Mc} {S S0 : Nat → Spot} (h : MSt w B g m S) (hm : Mv w0 S0 w S) (hB : B ≤ w.heap.size) (n : Int × Int) (hn : ndIn m n) (k : Int) :
    Calls Tryd.prog 135 #[.pointer (some ⟨g, 0, none⟩), .agg #[.int .i64 n.1, .int .i64 n.2], .slice (some ⟨w.heap.size, 0, none⟩) 1 1] (w.alloc (.cells #[.int .i64 k] 2)) (Did w0 S0 B g (.tuple #[]) (setL m n [k])) := by
  have hWA : Below w.heap.size w (w.alloc (.cells #[.int .i64 k] 2)) := (Below.refl _ _).alloc (Nat.le_refl _) _
  have hMA := h.below hWA
  have hq : ∀ q, (Value.slice (some ⟨w.heap.size, 0, none⟩) 1 1).ownBlock = some q → w.heap.size = q := fun q hq => by injection hq
  exact l07Set_any hMA n hn _ [k] (hMA.sp.putX _ (own_base (lit1 w k) hB) (fun q hq' e => by have := (h.sp.ge e).2; have := hq q hq'; omega)) ((hm.alloc _).put _ _ (fun q hq' => .inr (by have := hm.size; have := hq q hq'; omega)))
theorem lit0 (w : World) : (w.alloc (.cells #[] 2)).ownsRow w.heap.size 2 1 (.slice (some ⟨w.heap.size, 0, none⟩) 0 0) ([] : List Int).length (vI []) := World.ownsRow_lit (base := w.heap.size) (e := 2) (size := 1) w #[] 0 (Nat.le_refl _) (by unfold maxLen; omega) rfl
/-- A needle is emptied. -/
theorem set_lit0 {w w0 : World} {B g : Nat} {m : Mc} {S S0 : Nat → Spot} (h : MSt w B g m S) (hm : Mv w0 S0 w S) (hB : B ≤ w.heap.size) (n : Int × Int) (hn : ndIn m n) :
    Calls Tryd.prog 135 #[.pointer (some ⟨g, 0, none⟩), .agg #[.int .i64 n.1, .int .i64 n.2], .slice (some ⟨w.heap.size, 0, none⟩) 0 0] (w.alloc (.cells #[] 2)) (Did w0 S0 B g (.tuple #[]) (setL m n [])) := by
  have hWA : Below w.heap.size w (w.alloc (.cells #[] 2)) := (Below.refl _ _).alloc (Nat.le_refl _) _
  have hMA := h.below hWA
  have hq : ∀ q, (Value.slice (some ⟨w.heap.size, 0, none⟩) 0 0).ownBlock = some q → w.heap.size = q := fun q hq => by injection hq
  exact l07Set_any hMA n hn _ [] (hMA.sp.putX _ (own_base (lit0 w) hB) (fun q hq' e => by have := (h.sp.ge e).2; have := hq q hq'; omega)) ((hm.alloc _).put _ _ (fun q hq' => .inr (by have := hm.size; have := hq q hq'; omega)))
/-- A needle gets a row that is none of the rows. -/
theorem set_row {w w0 : World} {B g : Nat} {m : Mc} {S S0 : Nat → Spot} (h : MSt w B g m S) (hm : Mv w0 S0 w S) (n : Int × Int) (hn : ndIn m n) (v : Value) (l : List Int) (ho : w.ownsRow B 2 1 v l.length (vI l)) (hnew : ∀ q, v.ownBlock = some q → ¬ blk S q ∧ w0.heap.size ≤ q) :
    Calls Tryd.prog 135 #[.pointer (some ⟨g, 0, none⟩), .agg #[.int .i64 n.1, .int .i64 n.2], v] w (Did w0 S0 B g (.tuple #[]) (setL m n l)) :=
  l07Set_any h n hn v l (h.sp.putX _ ho (fun q hq => (hnew q hq).1)) (hm.put _ _ (fun q hq => .inr (hnew q hq).2))

theorem fm9 {m : Mc} {x : Opr} (h : carOk m x = false) : fmCode m x = 9 := by unfold fmCode; rw [if_pos h]
theorem fm5 {m : Mc} {x : Opr} (h : carOk m x = true) (h1 : 300 ≤ m.ls.length) : fmCode m x = 5 := by unfold fmCode; rw [if_neg (by rw [h]; decide), if_pos h1]
theorem fm1 {m : Mc} {x : Opr} (h : carOk m x = true) (h1 : ¬ 300 ≤ m.ls.length) (hk : x.k = 1) : fmCode m x = 0 := by unfold fmCode; rw [if_neg (by rw [h]; decide), if_neg h1, if_pos hk]
theorem fm25 {m : Mc} {x : Opr} (h : carOk m x = true) (h1 : ¬ 300 ≤ m.ls.length) (hk : x.k = 2) (h4 : 4 ≤ (onL m x.f).length) : fmCode m x = 5 := by unfold fmCode; rw [if_neg (by rw [h]; decide), if_neg h1, if_neg (by omega), if_pos hk, if_pos h4]
theorem fm2 {m : Mc} {x : Opr} (h : carOk m x = true) (h1 : ¬ 300 ≤ m.ls.length) (hk : x.k = 2) (h4 : ¬ 4 ≤ (onL m x.f).length) : fmCode m x = 0 := by unfold fmCode; rw [if_neg (by rw [h]; decide), if_neg h1, if_neg (by omega), if_pos hk, if_neg h4]
theorem fmX {m : Mc} {x : Opr} (h : carOk m x = true) (h1 : ¬ 300 ≤ m.ls.length) (hk : x.k = 5) : fmCode m x = mvCode m x := by unfold fmCode; rw [if_neg (by rw [h]; decide), if_neg h1, if_neg (by omega), if_neg (by omega)]
theorem fmTo1 {m : Mc} {x : Opr} (hk : x.k = 1) : fmTo m x = setL (addLp (carTo m x) x (onL m x.f)) x.f [(m.ls.length : Int)] := by unfold fmTo; rw [if_pos hk]
theorem fmTo2 {m : Mc} {x : Opr} (hk : x.k = 2) : fmTo m x = setL (addLp (carTo m x) x []) x.f (onL m x.f ++ [(m.ls.length : Int)]) := by unfold fmTo; rw [if_neg (by omega), if_pos hk]
theorem fmTo5 {m : Mc} {x : Opr} (hk : x.k = 5) : fmTo m x = setL (addLp (mvTo (carTo m x) x) x (onL m x.f)) x.f [(m.ls.length : Int)] := by unfold fmTo; rw [if_neg (by omega), if_neg (by omega)]

set_option maxHeartbeats 4000000 in
set_option maxRecDepth 100000 in
theorem l07Form_any {w : World} {B g : Nat} {m : Mc} {S : Nat → Spot} (h : MSt w B g m S) (hB : B ≤ w.heap.size) (x : Opr) (b o : Nat) (ho : OpAt w b o x) (hnb : ¬ blk S b) (hok : OkP m) (hk : x.k = 1 ∨ x.k = 2 ∨ x.k = 5) (hc : 1 ≤ x.c ∧ x.c ≤ 4) (hf : ndIn m x.f) (hfa : x.fa ≤ 23)
    (ht : x.k = 5 → ndIn m x.t ∧ x.fb ≠ x.tb ∧ x.ta ≤ 23) :
    Calls Tryd.prog 130 #[.pointer (some ⟨g, 0, none⟩), .pointer (some ⟨b, o, none⟩)] w (DidC w S B g (fmCode m x) (fmTo m x)) := by
  obtain ⟨i0, hi, hz0, hz1, hz2⟩ := info_parts info_int
  have hl4 := hok.on4 x.f
  obtain ⟨o0, o1, o2, o3, o4, o5, o6, o7⟩ := ho.eight
  have hbw : b < w.heap.size := block_lt_of_cell o0
  have HO := Lib.hid ho
  have HNB := Lib.hid hnb
  have HF := Lib.hid hf
  have HQ := Lib.hid (l07Carry_any h x b o ho hnb hc hok.cs ⟨hf.2.1, hfa⟩ hok.rk)
  have HOK := Lib.hid hok
  have H9 := Lib.hid (fun h => fm9 (m := m) (x := x) h)
  have H5 := Lib.hid (fun h h1 => fm5 (m := m) (x := x) h h1)
  have H1 := Lib.hid (fun h h1 h2 => fm1 (m := m) (x := x) h h1 h2)
  have H25 := Lib.hid (fun h h1 h2 h3 => fm25 (m := m) (x := x) h h1 h2 h3)
  have H2 := Lib.hid (fun h h1 h2 h3 => fm2 (m := m) (x := x) h h1 h2 h3)
  have HX := Lib.hid (fun h h1 h2 => fmX (m := m) (x := x) h h1 h2)
  have HT1 := Lib.hid (fun h => fmTo1 (m := m) (x := x) h)
  have HT2 := Lib.hid (fun h => fmTo2 (m := m) (x := x) h)
  have HT5 := Lib.hid (fun h => fmTo5 (m := m) (x := x) h)
  have HT := Lib.hid ht
  generalize fmCode m x = CC at *
  generalize fmTo m x = M' at *
  clear ho hf hnb hok ht
  cases hco : carOk m x
  · have HC := Lib.hid hco
    clear hco
    go_enter Tryd.func130, Tryd.ntmps130
    go_wp2_with fail
    refine (HQ.out).mono ?_
    rintro e w1 ⟨rfl, S1, hm1, hv1⟩
    rw [HC.out]
    have HV1 := Lib.hid hv1
    clear hm1 hv1 o0 o1 o2 o3 o4 o5 o6 o7
    go_wp2
    go_ret
    exact DidC.bad HV1.out (H9.out HC.out) (by omega)
  · have HC := Lib.hid hco
    clear hco
    go_enter Tryd.func130, Tryd.ntmps130
    go_wp2_with fail
    refine (HQ.out).mono ?_
    rintro e w1 ⟨rfl, S1, hm1, hv1⟩
    rw [HC.out]
    rw [carIf_yes HC.out] at hm1
    have HV1 := Lib.hid hv1
    have HM1 := Lib.hid hm1
    have HNB1 := Lib.hid (hv1.nblk HNB.out hbw)
    have HO1 : Hid (OpAt w1 b o x) := hv1.only.cells HNB.out HO.out
    have hbw1 : b < w1.heap.size := Nat.lt_of_lt_of_le hbw hv1.size
    have hB1 : B ≤ w1.heap.size := Nat.le_trans hB hv1.size
    obtain ⟨A4, c4, hv4⟩ : ∃ A c, (S1 4).v = .slice A m.ls.length c := by
      obtain ⟨xs, e4, hown4⟩ := hm1.rowL
      obtain ⟨A, c, h1, -⟩ := (OwC.of_own hown4).cells
      exact ⟨A, c, h1⟩
    have x5 : w1.cell? ⟨g, 5, none⟩ = some (.slice A4 m.ls.length c4) := by rw [← hv4]; exact hm1.cells.seven.2.2.2.2.2.1
    clear hm1 hv1 o0 o1 o2 o3 o4 o5 o6 o7 hv4
    obtain ⟨o0, o1, o2, o3, o4, o5, o6, o7⟩ := HO1.out.eight
    by_cases h300 : 300 ≤ m.ls.length
    · have hc5 := Lib.hid (H5.out HC.out h300)
      have h3' : (300 : Int) ≤ (m.ls.length : Int) := by omega
      clear h300
      go_wp2
      go_ret
      exact DidC.bad HV1.out hc5.out (by omega)
    have h3' : ¬ (300 : Int) ≤ (m.ls.length : Int) := by omega
    have HQ2 := Lib.hid (l07On_any HM1.out x.f HF.out)
    have H300 := Lib.hid h300
    clear h300
    go_wp2_with fail
    refine (HQ2.out).mono ?_
    rintro e w2 ⟨rfl, hb2⟩
    have HM2 := Lib.hid (HM1.out.below hb2)
    have HV2 := Lib.hid (HV1.out.below_ hb2)
    have HO2 : Hid (OpAt w2 b o x) := CellsAt.below HO1.out hb2 hbw1
    have hB2 : B ≤ w2.heap.size := Nat.le_trans hB1 hb2.size
    have hbw2 : b < w2.heap.size := Nat.lt_of_lt_of_le hbw1 hb2.size
    obtain ⟨hrd, ⟨Af, cf, hvf, hcf⟩, -⟩ := HM2.out.onR (n := x.f) HF.out
    have HQ3 := Lib.hid (l00OwnR_any _ (onL m x.f) w2 hrd (by omega))
    rw [hvf] at HQ3
    rw [hvf]
    clear o0 o1 o2 o3 o4 o5 o6 o7 x5 hb2 hrd hvf HQ2 HO1
    go_wp2_with fail
    refine (HQ3.out).mono ?_
    rintro e w3 ⟨v3, rfl, hown3, hb3⟩
    obtain ⟨A3, c3, rfl⟩ : ∃ A c, v3 = .slice A (onL m x.f).length c := by
      obtain ⟨A, c, h1, -⟩ := (OwC.of_own hown3).cells
      exact ⟨A, c, h1⟩
    have HM3 := Lib.hid (HM2.out.below hb3)
    have HV3 := Lib.hid (HV2.out.below_ hb3)
    have HO3 : Hid (OpAt w3 b o x) := CellsAt.below HO2.out hb3 hbw2
    have hB3 : B ≤ w3.heap.size := Nat.le_trans hB2 hb3.size
    have hz3 : w2.heap.size ≤ w3.heap.size := hb3.size
    have HOW3 := Lib.hid hown3
    have HNEW := Lib.hid (fun q hq => (World.ownsRow.lt hown3 q hq).1)
    have HRD3 := Lib.hid (RdI.of_own (OwC.of_own hown3))
    clear hown3 hb3 HO2 HQ3
    obtain ⟨o0, o1, o2, o3, o4, o5, o6, o7⟩ := HO3.out.eight
    rcases hk with hk | hk | hk
    · have hc0 := Lib.hid (H1.out HC.out H300.out hk)
      have HQM := Lib.hid (l07Make_any HM3.out.drew hB3 x b o HO3.out HNB1.out _ (onL m x.f) HRD3.out hl4 (by have := H300.out; show m.ls.length < 300; omega))
      rw [hk] at o0
      go_wp2
      go_region_held3 (fun w' => w'.cell? ⟨b, o + 2, none⟩ = some (.int .i64 x.fb) ∧ w'.cell? ⟨b, o + 3, none⟩ = some (.int .i64 x.fa))
        (first | exact ⟨o2, o3⟩ | exact ⟨t2, t3⟩ | exact ⟨r2, r3⟩ | exact ⟨u2, u3⟩ | go_keep)
        (first
          | (go_at_call 137; refine (HQM.out).mono ?_; rintro e w4 ⟨rfl, S4, hm4, hv4⟩; have hv4' := HV3.out.drew.trans hv4; obtain ⟨-, -, t2, t3, -, -, -, -⟩ := (hv4'.only.cells HNB.out HO.out).eight; have hB4 := Nat.le_trans hB hv4'.size; have hqs := set_lit1 hm4 hv4' hB4 x.f HF.out ((carTo m x).ls.length : Int))
          | (go_at_call 135; refine hqs.mono ?_; rintro e w5 ⟨rfl, S5, hm5, hv5⟩; obtain ⟨-, -, u2, u3, -, -, -, -⟩ := (hv5.only.cells HNB.out HO.out).eight))
      have HFIN : Hid (DidC w S B g CC M' (.returned (.int .i64 0)) w5) := ⟨by rw [hc0.out], S5, hv5, fun _ => by rw [HT1.out hk]; exact hm5⟩
      clear hm5 hv5 hqs hm4 hv4 hv4' t2 t3 u2 u3
      go_wp2
      go_ret
      exact HFIN.out
    · by_cases h4 : 4 ≤ (onL m x.f).length
      · have hc5 := Lib.hid (H25.out HC.out H300.out hk h4)
        have h4' : (4 : Int) ≤ ((onL m x.f).length : Int) := by omega
        rw [hk] at o0
        clear h4
        go_wp2
        go_ret
        exact DidC.bad HV3.out hc5.out (by omega)
      · have hc0 := Lib.hid (H2.out HC.out H300.out hk h4)
        have h4' : ¬ (4 : Int) ≤ ((onL m x.f).length : Int) := by omega
        have HQM := Lib.hid (l07Make_any HM3.out.drew hB3 x b o HO3.out HNB1.out (.slice none 0 0) [] ⟨none, 0, 0, rfl, by omega, rfl, fun k hk => absurd hk (by omega)⟩ (by simp) (by have := H300.out; show m.ls.length < 300; omega))
        rw [hk] at o0
        go_wp2
        go_region_held3 (fun w' => w'.cell? ⟨b, o + 2, none⟩ = some (.int .i64 x.fb) ∧ w'.cell? ⟨b, o + 3, none⟩ = some (.int .i64 x.fa))
          (first | exact ⟨o2, o3⟩ | exact ⟨t2, t3⟩ | exact ⟨r2, r3⟩ | exact ⟨u2, u3⟩ | go_keep)
          (first
            | (go_at_call 137; refine (HQM.out).mono ?_; rintro e w4 ⟨rfl, S4, hm4, hv4⟩; have hv4' := HV3.out.drew.trans hv4; obtain ⟨-, -, t2, t3, -, -, -, -⟩ := (hv4'.only.cells HNB.out HO.out).eight; have hB4 := Nat.le_trans hB hv4'.size; have hown4 := hv4.only.own (show (w3.drew).ownsRow w2.heap.size 2 1 (.slice A3 (onL m x.f).length c3) (onL m x.f).length (vI (onL m x.f)) from HOW3.out) (fun q hq e => by have := (HM2.out.sp.ge e).2; have := HNEW.out q hq; omega); have hz4 : w2.heap.size ≤ w4.heap.size := Nat.le_trans hz3 hv4.size)
            | (refine step_append_lies _ (by rfl) _ _ _ (by rfl) w2.heap.size 2 i0 _ 1 8 Tryd.underlying25 hi hz0 hz1 hz2 rfl (by omega) (.slice A3 (onL m x.f).length c3) (onL m x.f).length (vI (onL m x.f)) (by rfl) (hown4.alloc _) ⟨w4.heap.size, 0, none⟩ 1 1 [.int .i64 ((carTo m x).ls.length : Int)] (by rfl) (by rfl) (World.news_of_block (cs := #[.int .i64 ((carTo m x).ls.length : Int)]) (t := 2) (fr := (0, 0)) (heap_alloc_new w4 _)) (by simp [Value.oneCell']) (by omega) (by unfold maxLen; omega) (by omega) (by simp; omega) (w4.heap.size + 1) (by simp) ?_; intro gg cap w5 hown5 hgrow5 hat5 hlt5; have hnb4 : ∀ q, (Value.slice A3 (onL m x.f).length c3).ownBlock = some q → ¬ blk S4 q := fun q hq e => (hv4.nblk (S := S1) (fun e' => by have := (HM2.out.sp.ge e').2; have := HNEW.out q hq; omega) (by have := (World.ownsRow.lt HOW3.out q hq).2; exact this)) e; have hWA : Below w4.heap.size w4 (w4.alloc (.cells #[.int .i64 ((carTo m x).ls.length : Int)] 2)) := (Below.refl _ _).alloc (Nat.le_refl _) _; have hm5 := (hm4.below hWA).keep (w' := w5) (fun j q hq => hgrow5.block q (by have := (hm4.sp.ge ⟨j, hq⟩).2; simp; omega) (fun e => hnb4 q e.symm ⟨j, hq⟩)); have hv5 : Mv w S w5 S4 := ⟨(hv4'.only.trans (OnlyT.of_below hWA)).grown hgrow5 (fun q hq => .inr (by have := HNEW.out q hq; have := HV2.out.size; omega)), hv4'.new⟩; obtain ⟨-, -, r2, r3, -, -, -, -⟩ := (hv5.only.cells HNB.out HO.out).eight; have hnew5 : ∀ q, (Value.slice (some ⟨gg, 0, none⟩) ((onL m x.f).length + 1) cap).ownBlock = some q → ¬ blk S4 q ∧ w.heap.size ≤ q := fun q hq => (by injection hq with hq; have hq' : gg = q := hq; subst hq'; rcases hat5 with h9 | h9; exact ⟨hnb4 _ h9, by have := HNEW.out _ h9; have := HV2.out.size; omega⟩; exact ⟨fun e => by have := (hm4.sp.ge e).2; omega, by have := hv4'.size; omega⟩); have hqs := set_row hm5 hv5 x.f HF.out _ (onL m x.f ++ [(m.ls.length : Int)]) (by (rw [List.length_append, vI_append]; exact own_base hown5 (Nat.le_trans hB HV2.out.size))) hnew5)
            | (go_at_call 135; refine hqs.mono ?_; rintro e w6 ⟨rfl, S6, hm6, hv6⟩; obtain ⟨-, -, u2, u3, -, -, -, -⟩ := (hv6.only.cells HNB.out HO.out).eight))
        have HFIN : Hid (DidC w S B g CC M' (.returned (.int .i64 0)) w6) := ⟨by rw [hc0.out], S6, hv6, fun _ => by rw [HT2.out hk]; exact hm6⟩
        clear hm6 hv6 hqs hm5 hv5 hm4 hv4 hv4' t2 t3 u2 u3 r2 r3 hown4 hown5 hgrow5 hnb4 hnew5
        go_wp2
        go_ret
        exact HFIN.out
    · have hT5 := HT.out hk
      have hneb : x.fb ≠ x.tb := hT5.2.1
      have HQV := Lib.hid (l07Move_any HM3.out hB3 x b o HO3.out HNB1.out HF.out hT5.1 hT5.2.1 (HOK.out.carTo HC.out HF.out.2.1 (by have h1 : x.fa.toNat < m.fr.length := HF.out.2.2.1; have h2 := HOK.out.fr; have h3 : 0 ≤ x.fa := HF.out.2.1; omega)) hfa hT5.2.2)
      have hcx := Lib.hid (show CC = mvCode (carTo m x) x from HX.out HC.out H300.out hk)
      have HZ := Lib.hid (fun h => mvCode_zero (m := carTo m x) (o := x) h)
      generalize mvCode (carTo m x) x = MC at *
      rw [hk] at o0
      clear hT5 hneb
      go_wp2_with fail
      refine (HQV.out).mono ?_
      rintro e w5 ⟨rfl, S5, hv5, hm5⟩
      have HV5 := Lib.hid (HV3.out.trans hv5)
      have HO5 : Hid (OpAt w5 b o x) := HV5.out.only.cells HNB.out HO.out
      have HOW5 := Lib.hid (hv5.only.own HOW3.out (fun q hq e => by have := (HM2.out.sp.ge e).2; have := HNEW.out q hq; omega))
      have hB5 : B ≤ w5.heap.size := Nat.le_trans hB HV5.out.size
      have HNB5 := Lib.hid (HV5.out.nblk HNB.out hbw)
      clear hv5 HQV o0 o1 o2 o3 o4 o5 o6 o7
      obtain ⟨o0, o1, o2, o3, o4, o5, o6, o7⟩ := HO5.out.eight
      by_cases hmc : MC = 0
      · subst hmc
        have hm5' := hm5 rfl
        have hc0 := Lib.hid (show CC = 0 from hcx.out)
        have hn5 : ndIn (mvTo (carTo m x) x) x.f := ndIn_set _ (ndIn_set _ HF.out)
        have hls5 : (mvTo (carTo m x) x).ls.length = m.ls.length := by unfold mvTo; rw [(setL_fr _ _ _).2.2.2.2.2.1, (setL_fr _ _ _).2.2.2.2.2.1]; rfl
        have HQM := Lib.hid (l07Make_any hm5'.drew hB5 x b o HO5.out HNB5.out _ (onL m x.f) (RdI.of_own (OwC.of_own HOW5.out)) hl4 (by have := H300.out; omega))
        clear hm5 hm5'
        go_wp2
        go_region_held3 (fun w' => w'.cell? ⟨b, o + 2, none⟩ = some (.int .i64 x.fb) ∧ w'.cell? ⟨b, o + 3, none⟩ = some (.int .i64 x.fa))
          (first | exact ⟨o2, o3⟩ | exact ⟨t2, t3⟩ | exact ⟨r2, r3⟩ | exact ⟨u2, u3⟩ | go_keep)
          (first
            | (go_at_call 137; refine (HQM.out).mono ?_; rintro e w4 ⟨rfl, S4, hm4, hv4⟩; have hv4' := HV5.out.drew.trans hv4; obtain ⟨-, -, t2, t3, -, -, -, -⟩ := (hv4'.only.cells HNB.out HO.out).eight; have hB4 := Nat.le_trans hB hv4'.size; have hqs := set_lit1 hm4 hv4' hB4 x.f hn5 (m.ls.length : Int))
            | (go_at_call 135; refine hqs.mono ?_; rintro e w5 ⟨rfl, S5, hm5, hv5⟩; obtain ⟨-, -, u2, u3, -, -, -, -⟩ := (hv5.only.cells HNB.out HO.out).eight))
        have HFIN : Hid (DidC w S B g CC M' (.returned (.int .i64 0)) w5) := ⟨by rw [hc0.out], S5, hv5, fun _ => by rw [HT5.out hk]; exact hm5⟩
        clear hm5 hv5 hqs hm4 hv4 hv4' t2 t3 u2 u3
        go_wp2
        go_ret
        exact HFIN.out
      · have hmn : (MC != 0) = true := by simpa using hmc
        have HMC := Lib.hid hmc
        clear hmc hm5
        go_wp2
        go_ret
        exact DidC.bad HV5.out hcx.out HMC.out

end Go.Proofs.YtccdnmafakaleaaDoor
