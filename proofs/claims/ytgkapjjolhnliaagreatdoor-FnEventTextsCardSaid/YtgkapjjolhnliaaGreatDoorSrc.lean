/-
  The source of choices that the draws read: what next, pick, one and among give.
-/
import Derived.Test.YtgkapjjolhnliaaGreatDoorMark
import Derived.Test.YtgkapjjolhnliaaGreatDoorMem
import Derived.Test.YtgkapjjolhnliaaGreatDoorNst
import Derived.Test.YtgkapjjolhnliaaGreatDoorBx0
import Derived.Test.YtgkapjjolhnliaaGreatDoorSm0
import Derived.Laws.Bits64b
import Derived.RegionTactic
namespace Go.Proofs.YtgkapjjolhnliaaGreatDoor
set_option linter.unusedVariables false
set_option linter.unusedSimpArgs false
open Go.RowKit

/-- Bytes that are read, below block B. -/
def RdB (w : World) (B : Nat) (v : Value) : Prop :=
  ∃ A n c, v = .slice A n c ∧ n ≤ 9223372036854775807 ∧ ∀ k, k < n → ∃ b off x, A = some ⟨b, off, none⟩ ∧ b < B ∧ 0 ≤ x ∧ x ≤ 255 ∧ w.cell? ⟨b, off + k, none⟩ = some (.int .u8 x)
/-- A source in block g, which has been read at most K times. -/
def Src (w : World) (g : Nat) (K : Int) : Prop :=
  ∃ A n c at_ sd, CellsAt w g 0 [.slice A n c, .int .i64 at_, .int .u64 sd] ∧ RdB w g (.slice A n c) ∧ 0 ≤ at_ ∧ at_ ≤ K ∧ K ≤ 1000000000 ∧ ∀ o, w.frozen? ⟨g, o, none⟩ = false
/-- What a draw gives: a number, the source moved on; nothing else has turned. -/
def Drawn (w : World) (g : Nat) (K : Int) (p : Int → Prop) (e : Ending) (w' : World) : Prop := ∃ x, e = .returned (.int .i64 x) ∧ p x ∧ Src w' g K ∧ Only g (g + 1) w w'

theorem and_byte (a : Int) : 0 ≤ bits .and .u64 a 255 ∧ bits .and .u64 a 255 ≤ 255 := by
  have h2 : (BitVec.ofInt 64 255).toNat = 255 := by decide
  have h3 : bits .and .u64 a 255 = IntKind.u64.wrap ((BitVec.ofInt 64 a &&& BitVec.ofInt 64 255).toNat : Int) := rfl
  rw [h3, BitVec.toNat_and, h2, IntKind.wrap_u64]
  have h4 : (BitVec.ofInt 64 a).toNat &&& 255 ≤ 255 := Nat.and_le_right
  omega

theorem drewN_cell (w : World) (n : Nat) (p : Addr) : (w.drewN n).cell? p = w.cell? p := rfl
theorem drewN_frozen (w : World) (n : Nat) (p : Addr) : (w.drewN n).frozen? p = w.frozen? p := rfl
theorem RdB.keep {w w' : World} {B : Nat} {v : Value} (h : RdB w B v) (hk : ∀ b, b < B → w'.heap[b]? = w.heap[b]?) : RdB w' B v := by
  obtain ⟨A, n, c, hv, hn, hb⟩ := h
  refine ⟨A, n, c, hv, hn, fun k hk' => ?_⟩
  obtain ⟨b, off, x, h1, h2, h3, h4, h5⟩ := hb k hk'
  exact ⟨b, off, x, h1, h2, h3, h4, (World.cell?_of_block (hk b h2)).trans h5⟩
theorem Src.drewN {w : World} {g : Nat} {K : Int} (h : Src w g K) (n : Nat) : Src (w.drewN n) g K := h
theorem Src.lt {w : World} {g : Nat} {K : Int} (h : Src w g K) : g < w.heap.size := by
  obtain ⟨A, n, c, a, sd, hc, _⟩ := h
  exact block_lt_of_cell hc.three.1
theorem Src.more {w : World} {g : Nat} {K K' : Int} (h : Src w g K) (h1 : K ≤ K') (h2 : K' ≤ 1000000000) : Src w g K' := by
  obtain ⟨A, n, c, a, sd, hc, hb, h3, h4, h5, h6⟩ := h
  exact ⟨A, n, c, a, sd, hc, hb, h3, by omega, h2, h6⟩
/-- It stays while other blocks change. -/
theorem Src.keep {w w' : World} {g : Nat} {K : Int} (h : Src w g K) (hk : ∀ b, b ≤ g → w'.heap[b]? = w.heap[b]?) : Src w' g K := by
  obtain ⟨A, n, c, a, sd, hc, hb, h3, h4, h5, h6⟩ := h
  exact ⟨A, n, c, a, sd, hc.keep fun o => World.cell?_of_block (hk g (Nat.le_refl _)), hb.keep fun b hb => hk b (by omega), h3, h4, h5, fun o => (World.frozen?_of_block (hk g (Nat.le_refl _))).trans (h6 o)⟩
theorem Src.below {w w' : World} {g B : Nat} {K : Int} (h : Src w g K) (hb : Below B w w') (hB : g < B) : Src w' g K := h.keep fun b h1 => hb.block b (by omega)
theorem Src.set {w : World} {g n c : Nat} {K : Int} {A : Option Addr} {at_ sd : Int} (h0 : CellsAt w g 0 [.slice A n c, .int .i64 at_, .int .u64 sd]) (hb : RdB w g (.slice A n c)) (h3 : 0 ≤ at_) (h4 : at_ ≤ K) (h5 : K ≤ 1000000000) (hf : ∀ o, w.frozen? ⟨g, o, none⟩ = false) : Src w g K :=
  ⟨A, n, c, at_, sd, h0, hb, h3, h4, h5, hf⟩
theorem CellsAt.of3 {w : World} {g : Nat} {u0 u1 u2 : Value} (h0 : w.cell? ⟨g, 0, none⟩ = some u0) (h1 : w.cell? ⟨g, 1, none⟩ = some u1) (h2 : w.cell? ⟨g, 2, none⟩ = some u2) : CellsAt w g 0 [u0, u1, u2] := fun j u hu => by
  rcases j with _ | _ | _ | j <;> simp at hu <;> subst hu <;> assumption
theorem RdB.setCell {w : World} {B : Nat} {v : Value} (h : RdB w B v) {p : Addr} (hp : B ≤ p.block) (u : Value) : RdB (w.setCell p u) B v := h.keep fun b hb => Below.heap_setCell _ _ _ _ (by omega)

/-- Behind the two stores. -/
theorem src_two {w wa : World} {g n c : Nat} {A : Option Addr} {a sd sd2 K : Int} (hO : Only g (g + 1) w wa) (y0 : wa.cell? ⟨g, 0, none⟩ = some (.slice A n c)) (y1 : wa.cell? ⟨g, 1, none⟩ = some (.int .i64 a)) (y2 : wa.cell? ⟨g, 2, none⟩ = some (.int .u64 sd))
    (YF : ∀ o, wa.frozen? ⟨g, o, none⟩ = false) (YB : RdB wa g (.slice A n c)) (h0 : 0 ≤ a) (h1 : a ≤ K) (h2 : K < 1000000000) (W : World) (hW : W = (wa.setCell ⟨g, 1, none⟩ (.int .i64 (a + 1))).setCell ⟨g, 2, none⟩ (.int .u64 sd2)) :
    W.cell? ⟨g, 0, none⟩ = some (.slice A n c) ∧ W.cell? ⟨g, 1, none⟩ = some (.int .i64 (a + 1)) ∧ W.cell? ⟨g, 2, none⟩ = some (.int .u64 sd2) ∧ Src W g (K + 1) ∧ Only g (g + 1) w W := by
  have c0 : W.cell? ⟨g, 0, none⟩ = some (.slice A n c) := by rw [hW, World.cell?_setCell_other _ _ _ _ (by intro e; injection e with _ e; omega), World.cell?_setCell_other _ _ _ _ (by intro e; injection e with _ e; omega)]; exact y0
  have c1 : W.cell? ⟨g, 1, none⟩ = some (.int .i64 (a + 1)) := by
    rw [hW, World.cell?_setCell_other _ _ _ _ (by intro e; injection e with _ e; omega)]
    exact cell_set_same y1
  have c2 : W.cell? ⟨g, 2, none⟩ = some (.int .u64 sd2) := by
    rw [hW]
    exact cell_set_same (u := .int .u64 sd) (by rw [World.cell?_setCell_other _ _ _ _ (by intro e; injection e with _ e; omega)]; exact y2)
  refine ⟨c0, c1, c2, ⟨A, n, c, a + 1, sd2, CellsAt.of3 c0 c1 c2, ?_, by omega, by omega, by omega, fun o => ?_⟩, ?_⟩
  · rw [hW]; exact (YB.setCell (Nat.le_refl _) _).setCell (Nat.le_refl _) _
  · rw [hW]; exact setCell_frozen (setCell_frozen YF) o
  · rw [hW]; exact (hO.setCell (Nat.le_refl _) (Nat.lt_succ_self _) _).setCell (Nat.le_refl _) (Nat.lt_succ_self _) _

set_option maxHeartbeats 1000000 in
theorem next_any (w : World) (g : Nat) (K : Int) (h : Src w g K) (hK : K < 1000000000) : Calls Tryz.prog 49 #[.pointer (some ⟨g, 0, none⟩)] w (Drawn w g (K + 1) fun x => 0 ≤ x ∧ x ≤ 255) := by
  obtain ⟨A, n, c, a, sd, hc, hrb, ha0, haK, hK1, hf⟩ := h
  have HRB := Lib.hid hrb
  obtain ⟨A', n', c', e, hn, hb⟩ := hrb
  injection e with e1 e2 e3
  subst e1 e2 e3
  obtain ⟨x0, x1, x2⟩ := hc.three
  have HF := Lib.hid hf
  have hf1 := hf 1
  have hf2 := hf 2
  clear hc hf
  by_cases hlt : a < (n : Int)
  · obtain ⟨an, rfl⟩ := Int.eq_ofNat_of_zero_le ha0
    obtain ⟨b, off, x, rfl, hbB, hx0, hx1, hcell⟩ := hb an (by omega)
    clear hb
    go_enter Tryz.func49, Tryz.ntmps49
    go_wp2
    go_quiet (fail)
    have hO := Lib.hid (show Only g (g + 1) w (w.drewN nq) from ⟨rfl, rfl, rfl, Nat.le_refl _, fun _ _ _ => rfl⟩)
    have y0 : (w.drewN nq).cell? ⟨g, 0, none⟩ = _ := x0
    have y1 : (w.drewN nq).cell? ⟨g, 1, none⟩ = _ := x1
    have y2 : (w.drewN nq).cell? ⟨g, 2, none⟩ = _ := x2
    have yc : (w.drewN nq).cell? ⟨b, off + an, none⟩ = _ := hcell
    have yf1 : (w.drewN nq).frozen? ⟨g, 1, none⟩ = _ := hf1
    have yf2 : (w.drewN nq).frozen? ⟨g, 2, none⟩ = _ := hf2
    have YF : Hid (∀ o, (w.drewN nq).frozen? ⟨g, o, none⟩ = false) := HF.out
    have YB : Hid (RdB (w.drewN nq) g (.slice (some ⟨b, off, none⟩) n c)) := HRB.out
    clear x0 x1 x2 hcell hf1 hf2 HF HRB
    generalize w.drewN nq = wa at *
    clear nq
    go_wp2
    go_quiet (fail)
    have hO2 := Lib.hid (show Only g (g + 1) w (wa.drewN nq) from ⟨hO.out.os, hO.out.tape, hO.out.output, hO.out.size, hO.out.block⟩)
    have z0 : (wa.drewN nq).cell? ⟨g, 0, none⟩ = _ := y0
    have z1 : (wa.drewN nq).cell? ⟨g, 1, none⟩ = _ := y1
    have z2 : (wa.drewN nq).cell? ⟨g, 2, none⟩ = _ := y2
    have zf1 : (wa.drewN nq).frozen? ⟨g, 1, none⟩ = _ := yf1
    have zf2 : (wa.drewN nq).frozen? ⟨g, 2, none⟩ = _ := yf2
    have ZF : Hid (∀ o, (wa.drewN nq).frozen? ⟨g, o, none⟩ = false) := YF.out
    have ZB : Hid (RdB (wa.drewN nq) g (.slice (some ⟨b, off, none⟩) n c)) := YB.out
    clear y0 y1 y2 yc yf1 yf2 YF YB hO
    generalize wa.drewN nq = wb at *
    have HZ := Lib.hid (And.intro z0 (And.intro z1 z2))
    go_wp2
    generalize IntKind.u64.wrap (IntKind.u64.wrap (IntKind.u64.wrap (sd * 6364136223846793005) + x) + 1442695040888963407) = sd2
    obtain ⟨W, hW⟩ : ∃ W, W = (wb.setCell ⟨g, 1, none⟩ (.int .i64 (↑an + 1))).setCell ⟨g, 2, none⟩ (.int .u64 sd2) := ⟨_, rfl⟩
    have HS := src_two hO2.out HZ.out.1 HZ.out.2.1 HZ.out.2.2 ZF.out ZB.out (by omega) haK hK W hW
    rw [← hW]
    clear hW z0 z1 z2 zf1 zf2 ZF ZB HZ hO2
    obtain ⟨c0, c1, c2, s1, s2⟩ := HS
    have S1 := Lib.hid s1
    have S2 := Lib.hid s2
    have hle : (an : Int) + 1 ≤ (n : Int) := by omega
    clear s1 s2
    go_quiet (fail)
    go_wp2
    go_ret
    exact ⟨x, rfl, ⟨hx0, hx1⟩, S1.out, ⟨S2.out.os, S2.out.tape, S2.out.output, S2.out.size, S2.out.block⟩⟩
  · go_enter Tryz.func49, Tryz.ntmps49
    go_wp2
    go_quiet (fail)
    have hO2 := Lib.hid (show Only g (g + 1) w (w.drewN nq) from ⟨rfl, rfl, rfl, Nat.le_refl _, fun _ _ _ => rfl⟩)
    have z0 : (w.drewN nq).cell? ⟨g, 0, none⟩ = _ := x0
    have z1 : (w.drewN nq).cell? ⟨g, 1, none⟩ = _ := x1
    have z2 : (w.drewN nq).cell? ⟨g, 2, none⟩ = _ := x2
    have zf1 : (w.drewN nq).frozen? ⟨g, 1, none⟩ = _ := hf1
    have zf2 : (w.drewN nq).frozen? ⟨g, 2, none⟩ = _ := hf2
    have ZF : Hid (∀ o, (w.drewN nq).frozen? ⟨g, o, none⟩ = false) := HF.out
    have ZB : Hid (RdB (w.drewN nq) g (.slice A n c)) := HRB.out
    clear x0 x1 x2 hf1 hf2 HF HRB hb
    generalize w.drewN nq = wb at *
    have HZ := Lib.hid (And.intro z0 (And.intro z1 z2))
    go_wp2
    generalize IntKind.u64.wrap (IntKind.u64.wrap (IntKind.u64.wrap (sd * 6364136223846793005)) + 1442695040888963407) = sd2
    obtain ⟨W, hW⟩ : ∃ W, W = (wb.setCell ⟨g, 1, none⟩ (.int .i64 (a + 1))).setCell ⟨g, 2, none⟩ (.int .u64 sd2) := ⟨_, rfl⟩
    have HS := src_two hO2.out HZ.out.1 HZ.out.2.1 HZ.out.2.2 ZF.out ZB.out (by omega) haK hK W hW
    rw [← hW]
    clear hW z0 z1 z2 zf1 zf2 ZF ZB HZ hO2
    obtain ⟨c0, c1, c2, s1, s2⟩ := HS
    have S1 := Lib.hid s1
    have S2 := Lib.hid s2
    have hle : ¬ a + 1 ≤ (n : Int) := by omega
    clear s1 s2
    go_quiet (fail)
    have z2 : (W.drewN nq).cell? ⟨g, 2, none⟩ = _ := c2
    have hO3 : Hid (Only g (g + 1) w (W.drewN nq)) := ⟨S2.out.os, S2.out.tape, S2.out.output, S2.out.size, S2.out.block⟩
    have S3 : Hid (Src (W.drewN nq) g (K + 1)) := S1.out
    clear c0 c1 c2
    generalize W.drewN nq = wd at *
    have HAB := and_byte (sd2 / 1099511627776)
    go_wp2
    go_ret
    exact ⟨_, rfl, HAB, S3.out, hO3.out⟩

/-- What pick gives of n. -/
def PickOk (n x : Int) : Prop := 0 ≤ x ∧ (1 < n → x < n) ∧ (n ≤ 1 → x = 0)
set_option maxHeartbeats 1000000 in
theorem pick_any (w : World) (g : Nat) (n K : Int) (h : Src w g K) (hK : K + 2 ≤ 1000000000) : Calls Tryz.prog 33 #[.pointer (some ⟨g, 0, none⟩), .int .i64 n] w (Drawn w g (K + 2) (PickOk n)) := by
  by_cases h1 : n ≤ 1
  · have HS := Lib.hid (h.more (K' := K + 2) (by omega) hK)
    clear h
    go_enter Tryz.func33, Tryz.ntmps33
    go_wp2
    go_ret
    exact ⟨0, rfl, ⟨Int.le_refl _, by omega, fun _ => rfl⟩, HS.out, Only.refl _ _ _⟩
  · have HS := Lib.hid h
    clear h
    go_enter Tryz.func33, Tryz.ntmps33
    go_wp2_with fail
    refine (next_any _ _ _ HS.out (by omega)).mono ?_
    rintro e w1 ⟨x, rfl, ⟨hx0, hx1⟩, hs, ho⟩
    have S1 := Lib.hid hs
    have O1 := Lib.hid ho
    clear hs ho
    by_cases h2 : 200 < n
    · go_wp2_with fail
      refine (next_any _ _ _ S1.out (by omega)).mono ?_
      rintro e w2 ⟨y, rfl, ⟨hy0, hy1⟩, hs, ho⟩
      have S2 := Lib.hid hs
      have O2 := Lib.hid (O1.out.trans ho)
      clear hs ho
      have hm := Int.emod_nonneg (x * 256 + y) (show n ≠ 0 by omega)
      have hl := Int.emod_lt_of_pos (x * 256 + y) (show 0 < n by omega)
      go_wp2
      go_ret
      exact ⟨_, rfl, ⟨hm, fun _ => hl, by omega⟩, S2.out.more (by omega) hK, O2.out⟩
    · have hm := Int.emod_nonneg x (show n ≠ 0 by omega)
      have hl := Int.emod_lt_of_pos x (show 0 < n by omega)
      go_wp2
      go_ret
      exact ⟨_, rfl, ⟨hm, fun _ => hl, by omega⟩, S1.out.more (by omega) hK, O1.out⟩
/-- A yes or no. -/
def Asked (w : World) (g : Nat) (K : Int) (e : Ending) (w' : World) : Prop := ∃ b, e = .returned (.bool b) ∧ Src w' g K ∧ Only g (g + 1) w w'
theorem one_any (w : World) (g : Nat) (n K : Int) (h : Src w g K) (hK : K + 2 ≤ 1000000000) : Calls Tryz.prog 46 #[.pointer (some ⟨g, 0, none⟩), .int .i64 n] w (Asked w g (K + 2)) := by
  have HS := Lib.hid h
  clear h
  go_enter Tryz.func46, Tryz.ntmps46
  go_wp2_with fail
  refine (pick_any _ _ _ _ HS.out hK).mono ?_
  rintro e w1 ⟨x, rfl, hx, hs, ho⟩
  have S1 := Lib.hid hs
  have O1 := Lib.hid ho
  clear hs ho hx
  go_wp2
  go_ret
  exact ⟨_, rfl, S1.out, O1.out⟩
/-- One of some numbers. -/
theorem among_any (w : World) (g : Nat) (l : List Int) (v : Value) (K : Int) (h : Src w g K) (hK : K + 2 ≤ 1000000000) (hl : RdI w w.heap.size v l) (hg : ∀ A n c, v = .slice A n c → A ≠ none → ∃ b o, A = some ⟨b, o, none⟩ ∧ b ≠ g) (hn : 0 < l.length) :
    Calls Tryz.prog 45 #[.pointer (some ⟨g, 0, none⟩), v] w (Drawn w g (K + 2) fun x => x ∈ l) := by
  have HS := Lib.hid h
  have HL := Lib.hid hl
  obtain ⟨A, n, c, rfl, hn1, hln, gl⟩ := hl
  have hln' := hln.out
  have hnn : 0 < n := by omega
  obtain ⟨b0, off0, x0, rfl, hb0, -⟩ := gl 0 hnn
  obtain ⟨b1, o1, e1, hbg⟩ := hg _ _ _ rfl (by simp)
  injection e1 with e1
  injection e1 with e1 e2
  subst e1 e2
  have GL := Lib.hid gl
  have HLN := Lib.hid hln'
  clear h gl hg hln hln' hn
  have h1 : (1 : Int) < (n : Int) ∨ (n : Int) ≤ 1 := by omega
  go_enter Tryz.func45, Tryz.ntmps45
  go_wp2_with fail
  refine (pick_any _ _ _ _ HS.out hK).mono ?_
  rintro e w1 ⟨x, rfl, ⟨hx0, hx1, hx2⟩, hs, ho⟩
  have S1 := Lib.hid hs
  have O1 := Lib.hid ho
  clear hs ho
  have hxn : x < (n : Int) := by
    rcases h1 with h1 | h1
    · exact hx1 h1
    · have := hx2 h1; omega
  obtain ⟨xn, rfl⟩ := Int.eq_ofNat_of_zero_le hx0
  obtain ⟨b2, off2, y, e2, hb2, hly, hcell⟩ := GL.out xn (by omega)
  injection e2 with e2
  injection e2 with e2 e3
  subst e2 e3
  have hcell1 := (World.cell?_of_block (a := ⟨b0, off0 + xn, none⟩) (O1.out.block b0 (by omega) (by omega))).trans hcell
  have HM := Lib.hid (List.mem_of_getElem? hly)
  clear hcell hly hx1 hx2
  go_wp2
  go_ret
  exact ⟨y, rfl, HM.out, S1.out, O1.out⟩
/-- The source is opened. -/
theorem l00From_any (w : World) (v : Value) (h : RdB w w.heap.size v) : Calls Tryz.prog 12 #[v] w fun e w' => e = .returned (.pointer (some ⟨w.heap.size, 0, none⟩)) ∧ Src w' w.heap.size 0 ∧ Below w.heap.size w w' ∧ w'.heap.size = w.heap.size + 1 := by
  have HB := Lib.hid h
  obtain ⟨A, n, c, rfl, -⟩ := h
  go_enter Tryz.func12, Tryz.ntmps12
  go_wp2
  go_ret
  have hb : Below w.heap.size w (w.alloc (.cells #[.slice A n c, .int .i64 0, .int .u64 0] 63)) := (Below.refl _ _).alloc (Nat.le_refl _) _
  refine ⟨rfl, ⟨A, n, c, 0, 0, CellsAt.of_alloc, HB.out.keep fun b hb' => hb.block b hb', Int.le_refl _, Int.le_refl _, by omega, fun o => ?_⟩, hb, by simp⟩
  exact frozen_of_row _ _ o _ _ (heap_alloc_new w _)

end Go.Proofs.YtgkapjjolhnliaaGreatDoor
