/-
  Texts joined: Src, McLive, DoA, DoB, DoC, McWale.
-/
import Derived.Test.YtolcgopfbbmjgaaMark
import Derived.Test.YtolcgopfbbmjgaaMem
import Derived.Test.YtolcgopfbbmjgaaNst
import Derived.Test.YtolcgopfbbmjgaaBx0
import Derived.Test.YtolcgopfbbmjgaaSm0
import Derived.Laws.Bits64b
import Derived.RegionTactic
import Derived.Test.YtolcgopfbbmjgaaMcFab
import Derived.Test.YtolcgopfbbmjgaaAppend
import Derived.Test.YtolcgopfbbmjgaaPk1
/-
  The source of choices that the draws read: what next, pick, one and among give.
-/
namespace Go.Proofs.Ytolcgopfbbmjgaa
set_option linter.unusedVariables false
set_option linter.unusedSimpArgs false
open Go.RowKit

/-- Bytes that are read, below block B. -/
def RdB (w : World) (B : Nat) (v : Value) : Prop :=
  ∃ A n c, v = .slice A n c ∧ n ≤ 9223372036854775807 ∧ ∀ k, k < n → ∃ b off x, A = some ⟨b, off, none⟩ ∧ b < B ∧ 0 ≤ x ∧ x ≤ 255 ∧ w.cell? ⟨b, off + k, none⟩ = some (.int .u8 x)
/-- A source in block g, which has been read at most K times. -/
def Src (w : World) (g : Nat) (K : Int) : Prop :=
  ∃ A n c at_ sd, CellsAt w g 0 [.slice A n c, .int .i64 at_, .int .u64 sd] ∧ RdB w g (.slice A n c) ∧ 0 ≤ at_ ∧ at_ ≤ K ∧ K ≤ 1000000000 ∧ ∀ o, w.frozen? ⟨g, o, none⟩ = false
/-- What a draw gives: a number, the source moved on; nothing else has turned. -/
def Drawn (w : World) (g : Nat) (K : Int) (p : Int → Prop) (e : Ending) (w' : World) : Prop := ∃ x, e = .returned (.int .i64 x) ∧ p x ∧ Src w' g K ∧ Only g (g + 1) w w'

theorem and_byte (a : Int) : 0 ≤ bits .and .u64 a 255 ∧ bits .and .u64 a 255 ≤ 255 := by
  have h2 : (BitVec.ofInt 64 255).toNat = 255 := by decide
  have h3 : bits .and .u64 a 255 = IntKind.u64.wrap ((BitVec.ofInt 64 a &&& BitVec.ofInt 64 255).toNat : Int) := rfl
  rw [h3, BitVec.toNat_and, h2, IntKind.wrap_u64]
  have h4 : (BitVec.ofInt 64 a).toNat &&& 255 ≤ 255 := Nat.and_le_right
  omega

theorem drewN_cell (w : World) (n : Nat) (p : Addr) : (w.drewN n).cell? p = w.cell? p := rfl
theorem drewN_frozen (w : World) (n : Nat) (p : Addr) : (w.drewN n).frozen? p = w.frozen? p := rfl
theorem RdB.keep {w w' : World} {B : Nat} {v : Value} (h : RdB w B v) (hk : ∀ b, b < B → w'.heap[b]? = w.heap[b]?) : RdB w' B v := by
  obtain ⟨A, n, c, hv, hn, hb⟩ := h
  refine ⟨A, n, c, hv, hn, fun k hk' => ?_⟩
  obtain ⟨b, off, x, h1, h2, h3, h4, h5⟩ := hb k hk'
  exact ⟨b, off, x, h1, h2, h3, h4, (World.cell?_of_block (hk b h2)).trans h5⟩
theorem Src.drewN {w : World} {g : Nat} {K : Int} (h : Src w g K) (n : Nat) : Src (w.drewN n) g K := h
theorem Src.lt {w : World} {g : Nat} {K : Int} (h : Src w g K) : g < w.heap.size := by
  obtain ⟨A, n, c, a, sd, hc, _⟩ := h
  exact block_lt_of_cell hc.three.1
theorem Src.more {w : World} {g : Nat} {K K' : Int} (h : Src w g K) (h1 : K ≤ K') (h2 : K' ≤ 1000000000) : Src w g K' := by
  obtain ⟨A, n, c, a, sd, hc, hb, h3, h4, h5, h6⟩ := h
  exact ⟨A, n, c, a, sd, hc, hb, h3, by omega, h2, h6⟩
/-- It stays while other blocks change. -/
theorem Src.keep {w w' : World} {g : Nat} {K : Int} (h : Src w g K) (hk : ∀ b, b ≤ g → w'.heap[b]? = w.heap[b]?) : Src w' g K := by
  obtain ⟨A, n, c, a, sd, hc, hb, h3, h4, h5, h6⟩ := h
  exact ⟨A, n, c, a, sd, hc.keep fun o => World.cell?_of_block (hk g (Nat.le_refl _)), hb.keep fun b hb => hk b (by omega), h3, h4, h5, fun o => (World.frozen?_of_block (hk g (Nat.le_refl _))).trans (h6 o)⟩
theorem Src.below {w w' : World} {g B : Nat} {K : Int} (h : Src w g K) (hb : Below B w w') (hB : g < B) : Src w' g K := h.keep fun b h1 => hb.block b (by omega)
theorem Src.set {w : World} {g n c : Nat} {K : Int} {A : Option Addr} {at_ sd : Int} (h0 : CellsAt w g 0 [.slice A n c, .int .i64 at_, .int .u64 sd]) (hb : RdB w g (.slice A n c)) (h3 : 0 ≤ at_) (h4 : at_ ≤ K) (h5 : K ≤ 1000000000) (hf : ∀ o, w.frozen? ⟨g, o, none⟩ = false) : Src w g K :=
  ⟨A, n, c, at_, sd, h0, hb, h3, h4, h5, hf⟩
theorem CellsAt.of3 {w : World} {g : Nat} {u0 u1 u2 : Value} (h0 : w.cell? ⟨g, 0, none⟩ = some u0) (h1 : w.cell? ⟨g, 1, none⟩ = some u1) (h2 : w.cell? ⟨g, 2, none⟩ = some u2) : CellsAt w g 0 [u0, u1, u2] := fun j u hu => by
  rcases j with _ | _ | _ | j <;> simp at hu <;> subst hu <;> assumption
theorem RdB.setCell {w : World} {B : Nat} {v : Value} (h : RdB w B v) {p : Addr} (hp : B ≤ p.block) (u : Value) : RdB (w.setCell p u) B v := h.keep fun b hb => Below.heap_setCell _ _ _ _ (by omega)

/-- Behind the two stores. -/
theorem src_two {w wa : World} {g n c : Nat} {A : Option Addr} {a sd sd2 K : Int} (hO : Only g (g + 1) w wa) (y0 : wa.cell? ⟨g, 0, none⟩ = some (.slice A n c)) (y1 : wa.cell? ⟨g, 1, none⟩ = some (.int .i64 a)) (y2 : wa.cell? ⟨g, 2, none⟩ = some (.int .u64 sd))
    (YF : ∀ o, wa.frozen? ⟨g, o, none⟩ = false) (YB : RdB wa g (.slice A n c)) (h0 : 0 ≤ a) (h1 : a ≤ K) (h2 : K < 1000000000) (W : World) (hW : W = (wa.setCell ⟨g, 1, none⟩ (.int .i64 (a + 1))).setCell ⟨g, 2, none⟩ (.int .u64 sd2)) :
    W.cell? ⟨g, 0, none⟩ = some (.slice A n c) ∧ W.cell? ⟨g, 1, none⟩ = some (.int .i64 (a + 1)) ∧ W.cell? ⟨g, 2, none⟩ = some (.int .u64 sd2) ∧ Src W g (K + 1) ∧ Only g (g + 1) w W := by
  have c0 : W.cell? ⟨g, 0, none⟩ = some (.slice A n c) := by rw [hW, World.cell?_setCell_other _ _ _ _ (by intro e; injection e with _ e; omega), World.cell?_setCell_other _ _ _ _ (by intro e; injection e with _ e; omega)]; exact y0
  have c1 : W.cell? ⟨g, 1, none⟩ = some (.int .i64 (a + 1)) := by
    rw [hW, World.cell?_setCell_other _ _ _ _ (by intro e; injection e with _ e; omega)]
    exact cell_set_same y1
  have c2 : W.cell? ⟨g, 2, none⟩ = some (.int .u64 sd2) := by
    rw [hW]
    exact cell_set_same (u := .int .u64 sd) (by rw [World.cell?_setCell_other _ _ _ _ (by intro e; injection e with _ e; omega)]; exact y2)
  refine ⟨c0, c1, c2, ⟨A, n, c, a + 1, sd2, CellsAt.of3 c0 c1 c2, ?_, by omega, by omega, by omega, fun o => ?_⟩, ?_⟩
  · rw [hW]; exact (YB.setCell (Nat.le_refl _) _).setCell (Nat.le_refl _) _
  · rw [hW]; exact setCell_frozen (setCell_frozen YF) o
  · rw [hW]; exact (hO.setCell (Nat.le_refl _) (Nat.lt_succ_self _) _).setCell (Nat.le_refl _) (Nat.lt_succ_self _) _

set_option maxHeartbeats 1000000 in
theorem next_any (w : World) (g : Nat) (K : Int) (h : Src w g K) (hK : K < 1000000000) : Calls Try.prog 80 #[.pointer (some ⟨g, 0, none⟩)] w (Drawn w g (K + 1) fun x => 0 ≤ x ∧ x ≤ 255) := by
  obtain ⟨A, n, c, a, sd, hc, hrb, ha0, haK, hK1, hf⟩ := h
  have HRB := Lib.hid hrb
  obtain ⟨A', n', c', e, hn, hb⟩ := hrb
  injection e with e1 e2 e3
  subst e1 e2 e3
  obtain ⟨x0, x1, x2⟩ := hc.three
  have HF := Lib.hid hf
  have hf1 := hf 1
  have hf2 := hf 2
  clear hc hf
  by_cases hlt : a < (n : Int)
  · obtain ⟨an, rfl⟩ := Int.eq_ofNat_of_zero_le ha0
    obtain ⟨b, off, x, rfl, hbB, hx0, hx1, hcell⟩ := hb an (by omega)
    clear hb
    go_enter Try.func80, Try.ntmps80
    go_wp2
    go_quiet (fail)
    have hO := Lib.hid (show Only g (g + 1) w (w.drewN nq) from ⟨rfl, rfl, rfl, Nat.le_refl _, fun _ _ _ => rfl⟩)
    have y0 : (w.drewN nq).cell? ⟨g, 0, none⟩ = _ := x0
    have y1 : (w.drewN nq).cell? ⟨g, 1, none⟩ = _ := x1
    have y2 : (w.drewN nq).cell? ⟨g, 2, none⟩ = _ := x2
    have yc : (w.drewN nq).cell? ⟨b, off + an, none⟩ = _ := hcell
    have yf1 : (w.drewN nq).frozen? ⟨g, 1, none⟩ = _ := hf1
    have yf2 : (w.drewN nq).frozen? ⟨g, 2, none⟩ = _ := hf2
    have YF : Hid (∀ o, (w.drewN nq).frozen? ⟨g, o, none⟩ = false) := HF.out
    have YB : Hid (RdB (w.drewN nq) g (.slice (some ⟨b, off, none⟩) n c)) := HRB.out
    clear x0 x1 x2 hcell hf1 hf2 HF HRB
    generalize w.drewN nq = wa at *
    clear nq
    go_wp2
    go_quiet (fail)
    have hO2 := Lib.hid (show Only g (g + 1) w (wa.drewN nq) from ⟨hO.out.os, hO.out.tape, hO.out.output, hO.out.size, hO.out.block⟩)
    have z0 : (wa.drewN nq).cell? ⟨g, 0, none⟩ = _ := y0
    have z1 : (wa.drewN nq).cell? ⟨g, 1, none⟩ = _ := y1
    have z2 : (wa.drewN nq).cell? ⟨g, 2, none⟩ = _ := y2
    have zf1 : (wa.drewN nq).frozen? ⟨g, 1, none⟩ = _ := yf1
    have zf2 : (wa.drewN nq).frozen? ⟨g, 2, none⟩ = _ := yf2
    have ZF : Hid (∀ o, (wa.drewN nq).frozen? ⟨g, o, none⟩ = false) := YF.out
    have ZB : Hid (RdB (wa.drewN nq) g (.slice (some ⟨b, off, none⟩) n c)) := YB.out
    clear y0 y1 y2 yc yf1 yf2 YF YB hO
    generalize wa.drewN nq = wb at *
    have HZ := Lib.hid (And.intro z0 (And.intro z1 z2))
    go_wp2
    generalize IntKind.u64.wrap (IntKind.u64.wrap (IntKind.u64.wrap (sd * 6364136223846793005) + x) + 1442695040888963407) = sd2
    obtain ⟨W, hW⟩ : ∃ W, W = (wb.setCell ⟨g, 1, none⟩ (.int .i64 (↑an + 1))).setCell ⟨g, 2, none⟩ (.int .u64 sd2) := ⟨_, rfl⟩
    have HS := src_two hO2.out HZ.out.1 HZ.out.2.1 HZ.out.2.2 ZF.out ZB.out (by omega) haK hK W hW
    rw [← hW]
    clear hW z0 z1 z2 zf1 zf2 ZF ZB HZ hO2
    obtain ⟨c0, c1, c2, s1, s2⟩ := HS
    have S1 := Lib.hid s1
    have S2 := Lib.hid s2
    have hle : (an : Int) + 1 ≤ (n : Int) := by omega
    clear s1 s2
    go_quiet (fail)
    go_wp2
    go_ret
    exact ⟨x, rfl, ⟨hx0, hx1⟩, S1.out, ⟨S2.out.os, S2.out.tape, S2.out.output, S2.out.size, S2.out.block⟩⟩
  · go_enter Try.func80, Try.ntmps80
    go_wp2
    go_quiet (fail)
    have hO2 := Lib.hid (show Only g (g + 1) w (w.drewN nq) from ⟨rfl, rfl, rfl, Nat.le_refl _, fun _ _ _ => rfl⟩)
    have z0 : (w.drewN nq).cell? ⟨g, 0, none⟩ = _ := x0
    have z1 : (w.drewN nq).cell? ⟨g, 1, none⟩ = _ := x1
    have z2 : (w.drewN nq).cell? ⟨g, 2, none⟩ = _ := x2
    have zf1 : (w.drewN nq).frozen? ⟨g, 1, none⟩ = _ := hf1
    have zf2 : (w.drewN nq).frozen? ⟨g, 2, none⟩ = _ := hf2
    have ZF : Hid (∀ o, (w.drewN nq).frozen? ⟨g, o, none⟩ = false) := HF.out
    have ZB : Hid (RdB (w.drewN nq) g (.slice A n c)) := HRB.out
    clear x0 x1 x2 hf1 hf2 HF HRB hb
    generalize w.drewN nq = wb at *
    have HZ := Lib.hid (And.intro z0 (And.intro z1 z2))
    go_wp2
    generalize IntKind.u64.wrap (IntKind.u64.wrap (IntKind.u64.wrap (sd * 6364136223846793005)) + 1442695040888963407) = sd2
    obtain ⟨W, hW⟩ : ∃ W, W = (wb.setCell ⟨g, 1, none⟩ (.int .i64 (a + 1))).setCell ⟨g, 2, none⟩ (.int .u64 sd2) := ⟨_, rfl⟩
    have HS := src_two hO2.out HZ.out.1 HZ.out.2.1 HZ.out.2.2 ZF.out ZB.out (by omega) haK hK W hW
    rw [← hW]
    clear hW z0 z1 z2 zf1 zf2 ZF ZB HZ hO2
    obtain ⟨c0, c1, c2, s1, s2⟩ := HS
    have S1 := Lib.hid s1
    have S2 := Lib.hid s2
    have hle : ¬ a + 1 ≤ (n : Int) := by omega
    clear s1 s2
    go_quiet (fail)
    have z2 : (W.drewN nq).cell? ⟨g, 2, none⟩ = _ := c2
    have hO3 : Hid (Only g (g + 1) w (W.drewN nq)) := ⟨S2.out.os, S2.out.tape, S2.out.output, S2.out.size, S2.out.block⟩
    have S3 : Hid (Src (W.drewN nq) g (K + 1)) := S1.out
    clear c0 c1 c2
    generalize W.drewN nq = wd at *
    have HAB := and_byte (sd2 / 1099511627776)
    go_wp2
    go_ret
    exact ⟨_, rfl, HAB, S3.out, hO3.out⟩

/-- What pick gives of n. -/
def PickOk (n x : Int) : Prop := 0 ≤ x ∧ (1 < n → x < n) ∧ (n ≤ 1 → x = 0)
set_option maxHeartbeats 1000000 in
theorem pick_any (w : World) (g : Nat) (n K : Int) (h : Src w g K) (hK : K + 2 ≤ 1000000000) : Calls Try.prog 64 #[.pointer (some ⟨g, 0, none⟩), .int .i64 n] w (Drawn w g (K + 2) (PickOk n)) := by
  by_cases h1 : n ≤ 1
  · have HS := Lib.hid (h.more (K' := K + 2) (by omega) hK)
    clear h
    go_enter Try.func64, Try.ntmps64
    go_wp2
    go_ret
    exact ⟨0, rfl, ⟨Int.le_refl _, by omega, fun _ => rfl⟩, HS.out, Only.refl _ _ _⟩
  · have HS := Lib.hid h
    clear h
    go_enter Try.func64, Try.ntmps64
    go_wp2_with fail
    refine (next_any _ _ _ HS.out (by omega)).mono ?_
    rintro e w1 ⟨x, rfl, ⟨hx0, hx1⟩, hs, ho⟩
    have S1 := Lib.hid hs
    have O1 := Lib.hid ho
    clear hs ho
    by_cases h2 : 200 < n
    · go_wp2_with fail
      refine (next_any _ _ _ S1.out (by omega)).mono ?_
      rintro e w2 ⟨y, rfl, ⟨hy0, hy1⟩, hs, ho⟩
      have S2 := Lib.hid hs
      have O2 := Lib.hid (O1.out.trans ho)
      clear hs ho
      have hm := Int.emod_nonneg (x * 256 + y) (show n ≠ 0 by omega)
      have hl := Int.emod_lt_of_pos (x * 256 + y) (show 0 < n by omega)
      go_wp2
      go_ret
      exact ⟨_, rfl, ⟨hm, fun _ => hl, by omega⟩, S2.out.more (by omega) hK, O2.out⟩
    · have hm := Int.emod_nonneg x (show n ≠ 0 by omega)
      have hl := Int.emod_lt_of_pos x (show 0 < n by omega)
      go_wp2
      go_ret
      exact ⟨_, rfl, ⟨hm, fun _ => hl, by omega⟩, S1.out.more (by omega) hK, O1.out⟩
/-- A yes or no. -/
def Asked (w : World) (g : Nat) (K : Int) (e : Ending) (w' : World) : Prop := ∃ b, e = .returned (.bool b) ∧ Src w' g K ∧ Only g (g + 1) w w'
theorem one_any (w : World) (g : Nat) (n K : Int) (h : Src w g K) (hK : K + 2 ≤ 1000000000) : Calls Try.prog 85 #[.pointer (some ⟨g, 0, none⟩), .int .i64 n] w (Asked w g (K + 2)) := by
  have HS := Lib.hid h
  clear h
  go_enter Try.func85, Try.ntmps85
  go_wp2_with fail
  refine (pick_any _ _ _ _ HS.out hK).mono ?_
  rintro e w1 ⟨x, rfl, hx, hs, ho⟩
  have S1 := Lib.hid hs
  have O1 := Lib.hid ho
  clear hs ho hx
  go_wp2
  go_ret
  exact ⟨_, rfl, S1.out, O1.out⟩
/-- The source is opened. -/
theorem l00From_any (w : World) (v : Value) (h : RdB w w.heap.size v) : Calls Try.prog 27 #[v] w fun e w' => e = .returned (.pointer (some ⟨w.heap.size, 0, none⟩)) ∧ Src w' w.heap.size 0 ∧ Below w.heap.size w w' ∧ w'.heap.size = w.heap.size + 1 := by
  have HB := Lib.hid h
  obtain ⟨A, n, c, rfl, -⟩ := h
  go_enter Try.func27, Try.ntmps27
  go_wp2
  go_ret
  have hb : Below w.heap.size w (w.alloc (.cells #[.slice A n c, .int .i64 0, .int .u64 0] 88)) := (Below.refl _ _).alloc (Nat.le_refl _) _
  refine ⟨rfl, ⟨A, n, c, 0, 0, CellsAt.of_alloc, HB.out.keep fun b hb' => hb.block b hb', Int.le_refl _, Int.le_refl _, by omega, fun o => ?_⟩, hb, by simp⟩
  exact frozen_of_row _ _ o _ _ (heap_alloc_new w _)

end Go.Proofs.Ytolcgopfbbmjgaa

/-
  Needles and live loops: needles, on, live of the program, l07Live of the reference.
-/
namespace Go.Proofs.Ytolcgopfbbmjgaa
set_option linter.unusedVariables false
set_option linter.unusedSimpArgs false
open Go.RowKit

abbrev ndC (n : Int × Int) : List Value := [.int .i64 n.1, .int .i64 n.2]
theorem ndC_len (n : Int × Int) : (ndC n).length = 2 := rfl
theorem info_nd : (Try.prog.info? 53).map (fun i => (i.zero, i.size, i.bytes)) = some (some (.agg #[.int .i64 0, .int .i64 0]), 2, 16) := by kernel_rfl
theorem nd_one (a b : Int) : ∀ u ∈ [Value.int .i64 a, .int .i64 b], u.oneCell' = true := by
  intro u hu
  simp at hu
  rcases hu with rfl | rfl <;> rfl
theorem vS_snoc {α : Type} (cs : α → List Value) (l : List α) (x : α) : vS cs (l ++ [x]) = vS cs l ++ cs x := by simp [vS]

theorem quiet_s {P : Program} {f : FuncId} {args : Array Value} {w : World} {n : Nat} {v : Value} (h : Calls P f args (w.drewN n) fun e w' => e = .returned v ∧ w.drewN n = w') :
    Calls P f args (w.drewN n) fun e w'' => e = .returned v ∧ ∃ m, w'' = w.drewN m := h.mono fun e w' ⟨h1, h2⟩ => ⟨h1, n, h2.symm⟩
theorem below_drewN {B : Nat} {a w : World} (h : Below B a w) (n : Nat) : Below B a (w.drewN n) := ⟨h.os, h.tape, h.output, h.size, h.block⟩
theorem nd_next {m : Mc} {Y acc : List (Int × Int)} {x : Int} (h : Y = acc ++ ndGo m (m.wd + 3 - x).toNat x) (hx : x < m.wd + 3) : Y = (acc ++ ndX m x) ++ ndGo m (m.wd + 3 - (x + 1)).toNat (x + 1) := by
  rw [h, show (m.wd + 3 - x).toNat = (m.wd + 3 - (x + 1)).toNat + 1 by omega, ndGo, List.append_assoc]
theorem nd_end {m : Mc} {Y acc : List (Int × Int)} {x : Int} (h : Y = acc ++ ndGo m (m.wd + 3 - x).toNat x) (hx : m.wd + 3 ≤ x) : Y = acc := by
  rw [h, show (m.wd + 3 - x).toNat = 0 by omega]; simp [ndGo]
theorem nd_start {m : Mc} (h : 1 ≤ m.wd) : ndL m = [] ++ ndGo m (m.wd + 3 - (-3)).toNat (-3) := by
  unfold ndL
  rw [show (m.wd + 3 - (-3)).toNat = m.wd.toNat + 6 by omega]
  rfl
theorem ndX_tt {m : Mc} {x : Int} (h1 : inB 0 x (m.wd - 1) = true) (h2 : inB 0 (x - m.rk) (m.wd - 1) = true) : ndX m x = [(1, x), (2, x - m.rk)] := by unfold ndX; rw [if_pos h1, if_pos h2]; rfl
theorem ndX_tf {m : Mc} {x : Int} (h1 : inB 0 x (m.wd - 1) = true) (h2 : inB 0 (x - m.rk) (m.wd - 1) = false) : ndX m x = [(1, x)] := by unfold ndX; rw [if_pos h1, if_neg (by rw [h2]; decide)]; rfl
theorem ndX_ft {m : Mc} {x : Int} (h1 : inB 0 x (m.wd - 1) = false) (h2 : inB 0 (x - m.rk) (m.wd - 1) = true) : ndX m x = [(2, x - m.rk)] := by unfold ndX; rw [if_neg (by rw [h1]; decide), if_pos h2]; rfl
theorem ndX_ff {m : Mc} {x : Int} (h1 : inB 0 x (m.wd - 1) = false) (h2 : inB 0 (x - m.rk) (m.wd - 1) = false) : ndX m x = [] := by unfold ndX; rw [if_neg (by rw [h1]; decide), if_neg (by rw [h2]; decide)]; rfl


/-- A pointer to a slice that reads as a list. -/
def GivesPtr (w : World) (l : List Int) (e : Ending) : Prop := ∃ b o A c, e = .returned (.pointer (some ⟨b, o, none⟩)) ∧ b < w.heap.size ∧ w.cell? ⟨b, o, none⟩ = some (.slice A l.length c) ∧ RdI w w.heap.size (.slice A l.length c) l



end Go.Proofs.Ytolcgopfbbmjgaa

/-
  The reference's small words on a machine of its own: l07Bed, l07On, l07Set, l07Carry, l07In.
-/
namespace Go.Proofs.Ytolcgopfbbmjgaa
set_option linter.unusedVariables false
set_option linter.unusedSimpArgs false
open Go.RowKit


theorem l07Bed_s {w : World} {B g : Nat} {m : Mc} {S : Nat → Spot} (h : MSt w B g m S) (b : Int) (hb : b = 1 ∨ b = 2) : Calls Try.prog 71 #[.pointer (some ⟨g, 0, none⟩), .int .i64 b] w fun e w' => e = .returned (bedV S b) ∧ w = w' := by
  obtain ⟨x0, x1, x2, x3, x4, x5, x6⟩ := h.cells.seven
  rcases hb with rfl | rfl
  · have HV := Lib.hid (show bedV S 1 = (S 1).v from rfl)
    clear h
    go_enter Try.func71, Try.ntmps71
    go_wp2
    go_ret
    exact ⟨by rw [HV.out]; rfl, rfl⟩
  · have HV := Lib.hid (show bedV S 2 = (S 2).v from rfl)
    clear h
    go_enter Try.func71, Try.ntmps71
    go_wp2
    go_ret
    exact ⟨by rw [HV.out]; rfl, rfl⟩
set_option maxHeartbeats 1000000 in
theorem l07On_any {w : World} {B g : Nat} {m : Mc} {S : Nat → Spot} (h : MSt w B g m S) (n : Int × Int) (hn : ndIn m n) : Calls Try.prog 54 #[.pointer (some ⟨g, 0, none⟩), .agg #[.int .i64 n.1, .int .i64 n.2]] w fun e w' => e = .returned (S (iN n)).v ∧ Below w.heap.size w w' := by
  obtain ⟨nb, na⟩ := n
  have hW : Below w.heap.size w (w.alloc (.cells #[.int .i64 nb, .int .i64 na] 53)) := (Below.refl _ _).alloc (Nat.le_refl _) _
  have HB := Lib.hid hW
  have HM := Lib.hid (h.below hW)
  obtain ⟨b, c, L, hv, hlt, -, hbw, -, hcell, -, -⟩ := HM.out.nd hn
  obtain ⟨hb12, h0, -⟩ := hn
  have hb12' : nb = 1 ∨ nb = 2 := hb12
  have h0' : 0 ≤ na := h0
  have hlt' : na < (L : Int) := hlt
  obtain ⟨ka, rfl⟩ := Int.eq_ofNat_of_zero_le h0'
  have hcell' : (w.alloc (.cells #[.int .i64 nb, .int .i64 (ka : Int)] 53)).cell? ⟨b, ka, none⟩ = some (S (iN (nb, (ka : Int)))).v := hcell
  have HQ := Lib.hid (fun k => l07Bed_s (HM.out.drewN k) nb hb12')
  have hv' : bedV S nb = _ := hv
  rw [hv'] at HQ
  generalize (S (iN (nb, (ka : Int)))).v = R at *
  clear h hv hlt h0 h0' hb12 hcell hv' hW hb12'
  go_enter Try.func54, Try.ntmps54
  go_wp2
  go_quiet ((go_at_call 71; exact quiet_s (HQ.out _)))
  go_wp2
  go_ret
  exact ⟨rfl, below_drewN HB.out _⟩
/-- The machine behind a step. -/
def Did (w0 : World) (S0 : Nat → Spot) (B g : Nat) (v : Value) (m : Mc) (e : Ending) (w' : World) : Prop := e = .returned v ∧ ∃ S', MSt w' B g m S' ∧ Mv w0 S0 w' S'
set_option maxHeartbeats 1000000 in
theorem l07Set_any {w w0 : World} {B g : Nat} {m : Mc} {S S0 : Nat → Spot} (h : MSt w B g m S) (n : Int × Int) (hn : ndIn m n) (v : Value) (l : List Int) (hsp : SpotsT w B (putS S (iN n) (spI v l))) (hmv : Mv w0 S0 w (putS S (iN n) (spI v l))) :
    Calls Try.prog 56 #[.pointer (some ⟨g, 0, none⟩), .agg #[.int .i64 n.1, .int .i64 n.2], v] w (Did w0 S0 B g (.tuple #[]) (setL m n l)) := by
  obtain ⟨Av, cv, rfl, -⟩ : ∃ A c, v = .slice A l.length c ∧ True := by
    have h1 := hsp.own (iN n)
    rw [putS_same] at h1
    obtain ⟨A, c, h2, -⟩ := (OwC.of_own h1).cells
    exact ⟨A, c, h2, trivial⟩
  obtain ⟨nb, na⟩ := n
  have hW : Below w.heap.size w (w.alloc (.cells #[.int .i64 nb, .int .i64 na] 53)) := (Below.refl _ _).alloc (Nat.le_refl _) _
  have HM := Lib.hid (h.below hW)
  obtain ⟨b, c, L, hv, hlt, -, hbw, -, hcell, hfr, -, hset⟩ := HM.out.nd hn
  have HSET := Lib.hid (hset _ l _ (hsp.below hW))
  have HMV := Lib.hid (hmv.below_ hW)
  obtain ⟨hb12, h0, -⟩ := hn
  have hb12' : nb = 1 ∨ nb = 2 := hb12
  have h0' : 0 ≤ na := h0
  have hlt' : na < (L : Int) := hlt
  obtain ⟨ka, rfl⟩ := Int.eq_ofNat_of_zero_le h0'
  have hcell' : (w.alloc (.cells #[.int .i64 nb, .int .i64 (ka : Int)] 53)).cell? ⟨b, ka, none⟩ = some (S (iN (nb, (ka : Int)))).v := hcell
  have hfr' := hfr ka
  have HQ := Lib.hid (l07Bed_s HM.out nb hb12')
  have hv' : bedV S nb = _ := hv
  rw [hv'] at HQ
  generalize (S (iN (nb, (ka : Int)))).v = R at *
  clear h hv hlt h0 h0' hb12 hcell hv' hW hb12' hset hfr hsp hmv
  go_enter Try.func56, Try.ntmps56
  go_wp2_with fail
  refine (HQ.out).mono ?_
  rintro e w1 ⟨rfl, rfl⟩
  go_wp2
  go_end0
  obtain ⟨S', k1, k2⟩ := HSET.out
  exact ⟨rfl, S', k1, k2 _ _ HMV.out⟩

/-- A pointer to an operation: where its cells lie. -/
abbrev OpAt (w : World) (b o : Nat) (x : Opr) : Prop := CellsAt w b o x.cells
theorem MSt.cars {w : World} {B g : Nat} {m : Mc} {S : Nat → Spot} (h : MSt w B g m S) (c : Int) (h1 : 1 ≤ c) (h4 : c - 1 < (m.cs.length : Int)) : ∃ b cp, (S 3).v = .slice (some ⟨b, 0, none⟩) m.cs.length cp ∧ blk S b ∧ B ≤ b ∧ b < w.heap.size ∧ (S 3).v.ownBlock = some b ∧
    w.cell? ⟨b, (c - 1).toNat * 2, none⟩ = some (.bool (carAt m c).i) ∧ w.cell? ⟨b, (c - 1).toNat * 2 + 1, none⟩ = some (.int .i64 (carAt m c).p) ∧ ∀ o, w.frozen? ⟨b, o, none⟩ = false := by
  obtain ⟨b, cp, hv, hB, hbw, hcp, ho⟩ := h.gC (by omega)
  have hk : (c - 1).toNat < m.cs.length := by omega
  have hx : m.cs[(c - 1).toNat]? = some (carAt m c) := by unfold carAt; rw [List.getD_eq_getElem?_getD, List.getElem?_eq_getElem hk]; rfl
  have h0 := vS_get Car.len m.cs (c - 1).toNat _ hx 0 (by omega)
  have h1' := vS_get Car.len m.cs (c - 1).toNat _ hx 1 (by omega)
  obtain ⟨c0, f0⟩ := Spot.cell (h.sp.own 3) ho (x := .bool (carAt m c).i) (i := (c - 1).toNat * 2) (by rw [h.cs]; exact h0)
  obtain ⟨c1, -⟩ := Spot.cell (h.sp.own 3) ho (x := .int .i64 (carAt m c).p) (i := (c - 1).toNat * 2 + 1) (by rw [h.cs]; exact h1')
  exact ⟨b, cp, hv, ⟨3, ho⟩, hB, hbw, ho, c0, c1, f0⟩
/-- The two cells of a carrier. -/
theorem vS_car {l : List Car} {k : Nat} {x : Car} (hk : k < l.length) (i : Bool) (p : Int) : ((vS Car.cells l).set (k * 2) (.bool i)).set (k * 2 + 1) (.int .i64 p) = vS Car.cells (l.set k ⟨i, p⟩) := by
  refine vS_ext Car.len (by omega) (by rw [List.length_set, List.length_set, List.length_set, vS_len Car.len]) (fun q y hy j hj => ?_)
  have hq : q < l.length := by have := (List.getElem?_eq_some_iff.1 hy).1; rwa [List.length_set] at this
  have hl := vS_len Car.len l
  by_cases e : q = k
  · subst e
    rw [List.getElem?_set_self hq] at hy
    injection hy with hy
    subst hy
    obtain rfl | rfl : j = 0 ∨ j = 1 := by omega
    · rw [List.getElem?_set_ne (by omega), Nat.add_zero, List.getElem?_set_self (by omega)]; rfl
    · rw [List.getElem?_set_self (by rw [List.length_set]; omega)]; rfl
  · rw [List.getElem?_set_ne (fun e' => e e'.symm)] at hy
    rw [List.getElem?_set_ne (by omega), List.getElem?_set_ne (by omega)]
    exact vS_get Car.len l q y hy j hj
theorem vS_carp {l : List Car} {k : Nat} {x : Car} (hx : l[k]? = some x) (p : Int) : (vS Car.cells l).set (k * 2 + 1) (.int .i64 p) = vS Car.cells (l.set k ⟨x.i, p⟩) := by
  have hk := (List.getElem?_eq_some_iff.1 hx).1
  rw [← vS_car (x := x) hk x.i p]
  congr 1
  have h0 := vS_get Car.len l k x hx 0 (by omega)
  apply List.ext_getElem?
  intro i
  by_cases e : i = k * 2
  · subst e
    rw [List.getElem?_set_self (by have := vS_len Car.len l; omega)]
    exact h0
  · rw [List.getElem?_set_ne (fun e' => e e'.symm)]
/-- A carrier is moved. -/
theorem MSt.setCp {w w0 : World} {B g b : Nat} {m : Mc} {S S0 : Nat → Spot} (h : MSt w B g m S) {c : Int} (h1 : 1 ≤ c) (h4 : c - 1 < (m.cs.length : Int)) (ho : (S 3).v.ownBlock = some b) (p : Int) (hm : Mv w0 S0 w S) :
    ∃ S', MSt (w.setCell ⟨b, (c - 1).toNat * 2 + 1, none⟩ (.int .i64 p)) B g (setC m c ⟨(carAt m c).i, p⟩) S' ∧ Mv w0 S0 (w.setCell ⟨b, (c - 1).toNat * 2 + 1, none⟩ (.int .i64 p)) S' ∧ (S' 3).v.ownBlock = some b := by
  have hk : (c - 1).toNat < m.cs.length := by omega
  have hx : m.cs[(c - 1).toNat]? = some (carAt m c) := by unfold carAt; rw [List.getD_eq_getElem?_getD, List.getElem?_eq_getElem hk]; rfl
  have hxs : (S 3).xs = vS Car.cells m.cs := by rw [h.cs]
  have hnz : (S 3).n * (S 3).sz = m.cs.length * 2 := by rw [h.cs]
  have hsp := h.sp.setCell (p := 3) (g := b) (i := (c - 1).toNat * 2 + 1) ho (.int .i64 p) (by rw [hnz]; omega)
  refine ⟨_, h.setCs (cs' := m.cs.set (c - 1).toNat ⟨(carAt m c).i, p⟩) (xs' := (S 3).xs.set ((c - 1).toNat * 2 + 1) (.int .i64 p)) (by rw [List.length_set]) (by rw [hxs]; exact vS_carp hx p) hsp, hm.setCell ho _ _, by rw [putS_same]; exact ho⟩
theorem vS_cari {l : List Car} {k : Nat} {x : Car} (hx : l[k]? = some x) (i : Bool) : (vS Car.cells l).set (k * 2) (.bool i) = vS Car.cells (l.set k ⟨i, x.p⟩) := by
  have hk := (List.getElem?_eq_some_iff.1 hx).1
  rw [← vS_car (x := x) hk i x.p, List.set_comm _ _ (by omega)]
  congr 1
  have h0 := vS_get Car.len l k x hx 1 (by omega)
  apply List.ext_getElem?
  intro q
  by_cases e : q = k * 2 + 1
  · subst e
    rw [List.getElem?_set_self (by have := vS_len Car.len l; omega)]
    exact h0
  · rw [List.getElem?_set_ne (fun e' => e e'.symm)]
/-- A carrier is in, or out. -/
theorem MSt.setCi {w w0 : World} {B g b : Nat} {m : Mc} {S S0 : Nat → Spot} (h : MSt w B g m S) {c : Int} (h1 : 1 ≤ c) (h4 : c - 1 < (m.cs.length : Int)) (ho : (S 3).v.ownBlock = some b) (i : Bool) (hm : Mv w0 S0 w S) :
    ∃ S', MSt (w.setCell ⟨b, (c - 1).toNat * 2, none⟩ (.bool i)) B g (setC m c ⟨i, (carAt m c).p⟩) S' ∧ Mv w0 S0 (w.setCell ⟨b, (c - 1).toNat * 2, none⟩ (.bool i)) S' ∧ (S' 3).v.ownBlock = some b := by
  have hk : (c - 1).toNat < m.cs.length := by omega
  have hx : m.cs[(c - 1).toNat]? = some (carAt m c) := by unfold carAt; rw [List.getD_eq_getElem?_getD, List.getElem?_eq_getElem hk]; rfl
  have hxs : (S 3).xs = vS Car.cells m.cs := by rw [h.cs]
  have hnz : (S 3).n * (S 3).sz = m.cs.length * 2 := by rw [h.cs]
  have hsp := h.sp.setCell (p := 3) (g := b) (i := (c - 1).toNat * 2) ho (.bool i) (by rw [hnz]; omega)
  refine ⟨_, h.setCs (cs' := m.cs.set (c - 1).toNat ⟨i, (carAt m c).p⟩) (xs' := (S 3).xs.set ((c - 1).toNat * 2) (.bool i)) (by rw [List.length_set]) (by rw [hxs]; exact vS_cari hx i) hsp, hm.setCell ho _ _, by rw [putS_same]; exact ho⟩
/-- A carrier is brought in or out. -/
theorem MSt.setCb {w w0 : World} {B g b : Nat} {m : Mc} {S S0 : Nat → Spot} (h : MSt w B g m S) {c : Int} (h1 : 1 ≤ c) (h4 : c - 1 < (m.cs.length : Int)) (ho : (S 3).v.ownBlock = some b) (i : Bool) (p : Int) (hm : Mv w0 S0 w S) :
    ∃ S', MSt ((w.setCell ⟨b, (c - 1).toNat * 2, none⟩ (.bool i)).setCell ⟨b, (c - 1).toNat * 2 + 1, none⟩ (.int .i64 p)) B g (setC m c ⟨i, p⟩) S' ∧ Mv w0 S0 ((w.setCell ⟨b, (c - 1).toNat * 2, none⟩ (.bool i)).setCell ⟨b, (c - 1).toNat * 2 + 1, none⟩ (.int .i64 p)) S' ∧ (S' 3).v.ownBlock = some b := by
  have hk : (c - 1).toNat < m.cs.length := by omega
  have hx : m.cs[(c - 1).toNat]? = some (carAt m c) := by unfold carAt; rw [List.getD_eq_getElem?_getD, List.getElem?_eq_getElem hk]; rfl
  have hxs : (S 3).xs = vS Car.cells m.cs := by rw [h.cs]
  have hnz : (S 3).n * (S 3).sz = m.cs.length * 2 := by rw [h.cs]
  have hsp := h.sp.setCell (p := 3) (g := b) (i := (c - 1).toNat * 2) ho (.bool i) (by rw [hnz]; omega)
  have e1 : putS S 3 { S 3 with xs := (S 3).xs.set ((c - 1).toNat * 2) (.bool i) } 3 = { S 3 with xs := (S 3).xs.set ((c - 1).toNat * 2) (.bool i) } := putS_same _ _ _
  have hsp2 := hsp.setCell (p := 3) (g := b) (i := (c - 1).toNat * 2 + 1) (by rw [e1]; exact ho) (.int .i64 p) (by rw [e1]; show _ < (S 3).n * (S 3).sz; rw [hnz]; omega)
  have hm2 := (hm.setCell ho (.bool i) ((S 3).xs.set ((c - 1).toNat * 2) (.bool i)) (i := (c - 1).toNat * 2)).setCell (p := 3) (g := b) (i := (c - 1).toNat * 2 + 1) (by rw [e1]; exact ho) (.int .i64 p) (((S 3).xs.set ((c - 1).toNat * 2) (.bool i)).set ((c - 1).toNat * 2 + 1) (.int .i64 p))
  rw [e1] at hsp2 hm2
  have e2 : putS (putS S 3 { S 3 with xs := (S 3).xs.set ((c - 1).toNat * 2) (.bool i) }) 3 { S 3 with xs := ((S 3).xs.set ((c - 1).toNat * 2) (.bool i)).set ((c - 1).toNat * 2 + 1) (.int .i64 p) } = putS S 3 { S 3 with xs := ((S 3).xs.set ((c - 1).toNat * 2) (.bool i)).set ((c - 1).toNat * 2 + 1) (.int .i64 p) } := by
    funext j
    by_cases e : j = 3
    · rw [e, putS_same, putS_same]
    · rw [putS_ne e, putS_ne e, putS_ne e]
  rw [e2] at hsp2 hm2
  exact ⟨_, h.setCs (cs' := m.cs.set (c - 1).toNat ⟨i, p⟩) (by rw [List.length_set]) (by rw [hxs]; exact vS_car (x := ⟨i, p⟩) hk i p) hsp2, hm2, by rw [putS_same]; exact ho⟩

end Go.Proofs.Ytolcgopfbbmjgaa

/-
  The reference's l07Carry and l07In on a machine of its own.
-/
namespace Go.Proofs.Ytolcgopfbbmjgaa
set_option linter.unusedVariables false
set_option linter.unusedSimpArgs false
open Go.RowKit

/-- The machine behind l07Carry. -/
def carIf (m : Mc) (x : Opr) : Mc := if carOk m x = true then carTo m x else m
theorem setC_twice (m : Mc) (c : Int) (a b : Car) : setC (setC m c a) c b = setC m c b := by
  unfold setC
  simp
theorem carAt_setC {m : Mc} {c : Int} (a : Car) (h : (c - 1).toNat < m.cs.length) : carAt (setC m c a) c = a := by
  unfold carAt setC
  show (m.cs.set _ _).getD _ _ = _
  rw [List.getD_eq_getElem?_getD, List.getElem?_set_self h]; rfl
theorem carOk_of {m : Mc} {x : Opr} {P p : Int} {i : Bool} (h : plcO m x = P) (hi : (carAt m x.c).i = i) (hp : (carAt m x.c).p = p) : carOk m x = (i && (!(decide (x.d = 1) && decide (P < p)) && !(decide (x.d = -1) && decide (p < P + 1)))) := by
  unfold carOk
  rw [h, hi, hp]
theorem carIf_no {m : Mc} {x : Opr} (h : carOk m x = false) : carIf m x = m := by unfold carIf; rw [h]; rfl
theorem carIf_yes {m : Mc} {x : Opr} (h : carOk m x = true) : carIf m x = carTo m x := by unfold carIf; rw [h]; rfl
set_option maxHeartbeats 2000000 in
theorem l07Carry_any {w : World} {B g : Nat} {m : Mc} {S : Nat → Spot} (h : MSt w B g m S) (x : Opr) (b o : Nat) (ho : OpAt w b o x) (hnb : ¬ blk S b) (hc : 1 ≤ x.c ∧ x.c ≤ 4) (hcs : m.cs.length = 4) (hf : 0 ≤ x.fa ∧ x.fa ≤ 23)
    (hr : -3 ≤ m.rk ∧ m.rk ≤ 3) : Calls Try.prog 52 #[.pointer (some ⟨g, 0, none⟩), .pointer (some ⟨b, o, none⟩)] w (Did w S B g (.bool (carOk m x)) (carIf m x)) := by
  obtain ⟨k, d, fb, fa, tb, ta, c, r⟩ := x
  obtain ⟨c1, c4⟩ := hc
  have c1' : 1 ≤ c := c1
  have c4' : c ≤ 4 := c4
  obtain ⟨j, rfl⟩ : ∃ j : Nat, c = (j : Int) + 1 := ⟨(c - 1).toNat, by omega⟩
  obtain ⟨bc, cp, hv, hbl, hBc, hbw, hoc, hc0, hc1, hfc⟩ := h.cars ((j : Int) + 1) c1' (by omega)
  have hj : ((j : Int) + 1 - 1).toNat = j := by omega
  rw [hj] at hc0 hc1
  rw [hcs] at hv
  obtain ⟨x0, x1, x2, x3, x4, x5, x6⟩ := h.cells.seven
  rw [hv] at x4
  obtain ⟨f0, f1⟩ := hf
  obtain ⟨r0, r1⟩ := hr
  have f0' : 0 ≤ fa := f0
  have f1' : fa ≤ 23 := f1
  obtain ⟨o0, o1, o2, o3, o4, o5, o6, o7⟩ := ho.eight
  have HO := Lib.hid ho
  have HM := Lib.hid h
  have HNB := Lib.hid hnb
  have hjl : (j : Int) < 4 := by omega
  have hj0 : (0 : Int) ≤ (j : Int) := by omega
  clear h ho hv c1 c4 c1' c4' f0 f1
  go_enter Try.func52, Try.ntmps52
  go_wp2
  go_quiet (fail)
  have HM1 := Lib.hid (HM.out.drewN nq)
  have HO1 : Hid (OpAt (w.drewN nq) b o ⟨k, d, fb, fa, tb, ta, (j : Int) + 1, r⟩) := HO.out
  have HB1 := Lib.hid (below_drewN (Below.refl w.heap.size w) nq)
  have hz1 : (w.drewN nq).heap.size = w.heap.size := rfl
  clear x0 x1 x2 x3 x4 x5 x6 o0 o1 o2 o3 o4 o5 o6 o7 hc0 hc1 hfc HM HO
  generalize w.drewN nq = w1 at *
  clear nq
  have hg8 := HO1.out.grow8
  obtain ⟨-, -, o2, o3, -⟩ := hg8
  have x1 : ∀ X, (wgrow w1 X).cell? ⟨g, 0 + 1, none⟩ = some (.int .i64 m.rk) := fun X => HM1.out.cells.grow X 1 _ rfl
  have HQ := Lib.hid (fun X => l07Place_any fb fa m.rk (by omega) (by omega) (by omega) (by omega) X)
  have hPb : -100 ≤ plc fb fa m.rk ∧ plc fb fa m.rk ≤ 100 := by unfold plc; split <;> omega
  generalize hP : plc fb fa m.rk = P at *
  obtain ⟨p0, p1⟩ := hPb
  have HP := Lib.hid hP
  clear hP
  go_wp2
  refine wp_region_grow (by kernel_rfl) (by kernel_rfl) ?_
  repeat (go_big_quiet_step ((go_at_call 21; exact calls_grow (HQ.out _))))
  refine wpQuiet_nil ?_
  intro w2 hb2
  have HM2 := Lib.hid (HM1.out.below hb2)
  have HO2 := Lib.hid (CellsAt.below HO1.out hb2 (block_lt_of_cell HO1.out.eight.1))
  have HB2 := Lib.hid (HB1.out.trans (hb2.mono HB1.out.size))
  clear hb2 x1 o2 o3 HM1 HO1 HB1 HQ
  obtain ⟨bc', cp', hv', -, -, -, hoc', hc0, hc1, hfc⟩ := HM2.out.cars ((j : Int) + 1) (by omega) (by omega)
  rw [hoc] at hoc'
  injection hoc' with hoc'
  subst hoc'
  rw [hj] at hc0 hc1
  obtain ⟨o0, o1, -⟩ := HO2.out.eight
  have hff := hfc (j * 2 + 1)
  have HMV := Lib.hid (Mv.of_below (S := S) HB2.out)
  have HOK := Lib.hid (fun i p => carOk_of (m := m) (x := ⟨k, d, fb, fa, tb, ta, (j : Int) + 1, r⟩) (P := P) (i := i) (p := p) HP.out)
  have HSET := Lib.hid (fun p => HM2.out.setCp (c := (j : Int) + 1) (by omega) (by omega) hoc p HMV.out)
  have HAT := Lib.hid (fun a => carAt_setC (m := m) (c := (j : Int) + 1) a (by omega))
  rw [hj] at HSET
  have HTO := Lib.hid (show carTo m ⟨k, d, fb, fa, tb, ta, (j : Int) + 1, r⟩ = setC m ((j : Int) + 1) ⟨(carAt m ((j : Int) + 1)).i, if d = 1 then P + 1 else P⟩ by unfold carTo; rw [show plcO m ⟨k, d, fb, fa, tb, ta, (j : Int) + 1, r⟩ = P from HP.out])
  generalize hci : (carAt m ((j : Int) + 1)).i = ci at *
  generalize hcp : (carAt m ((j : Int) + 1)).p = pp at *
  have HNO := Lib.hid (fun (hk : carOk m ⟨k, d, fb, fa, tb, ta, (j : Int) + 1, r⟩ = false) => show Did w S B g (.bool (carOk m ⟨k, d, fb, fa, tb, ta, (j : Int) + 1, r⟩)) (carIf m ⟨k, d, fb, fa, tb, ta, (j : Int) + 1, r⟩) (.returned (.bool false)) w2 from ⟨by rw [hk], S, by rw [carIf_no hk]; exact HM2.out, HMV.out⟩)
  have HYES := Lib.hid (fun (hk : carOk m ⟨k, d, fb, fa, tb, ta, (j : Int) + 1, r⟩ = true) (W : World) (h : ∃ S', MSt W B g (carTo m ⟨k, d, fb, fa, tb, ta, (j : Int) + 1, r⟩) S' ∧ Mv w S W S') => show Did w S B g (.bool (carOk m ⟨k, d, fb, fa, tb, ta, (j : Int) + 1, r⟩)) (carIf m ⟨k, d, fb, fa, tb, ta, (j : Int) + 1, r⟩) (.returned (.bool true)) W from by
    obtain ⟨S', h1, h2⟩ := h
    exact ⟨by rw [hk], S', by rw [carIf_yes hk]; exact h1, h2⟩)
  have hk := HOK.out ci pp rfl rfl
  clear HOK hci hcp
  have hne : bc ≠ b := fun e => HNB.out (by rw [← e]; exact hbl)
  have HOS := Lib.hid (fun u => (World.cell?_setCell_other w2 ⟨bc, j * 2 + 1, none⟩ ⟨b, o + 1, none⟩ u (by intro e; injection e with e; exact hne e)).trans o1)
  cases ci
  · have hk' := Lib.hid (HNO.out (by rw [hk]; rfl))
    clear hk HNO HYES
    go_wp2
    go_ret
    exact hk'.out
  by_cases hd1 : d = 1
  · subst hd1
    by_cases hg : P < pp
    · have hk' := Lib.hid (HNO.out (by rw [hk]; simp [hg]))
      clear hk HNO HYES
      go_wp2
      go_ret
      exact hk'.out
    · have HK := Lib.hid (HYES.out (by rw [hk]; simp [hg]))
      clear hk HNO HYES
      have o1s := HOS.out (.int .i64 P)
      go_wp2
      go_ret
      refine HK.out _ ?_
      rw [HTO.out, if_pos trivial]
      obtain ⟨S1, k1, k2, k3⟩ := HSET.out P
      obtain ⟨S2, m1, m2, m3⟩ := k1.setCp (c := (j : Int) + 1) (by omega) (by show (j : Int) + 1 - 1 < ((m.cs.set _ _).length : Int); rw [List.length_set]; omega) k3 (P + 1) k2
      rw [setC_twice, HAT.out, hj] at m1
      rw [hj] at m2
      exact ⟨S2, m1, m2⟩
  · have hd0 : (d == 1) = false := by simpa using hd1
    have o1s := HOS.out (.int .i64 P)
    by_cases hd2 : d = -1
    · subst hd2
      by_cases hg : pp < P + 1
      · have hk' := Lib.hid (HNO.out (by rw [hk]; simp [hg]))
        clear hk HNO HYES
        go_wp2
        go_ret
        exact hk'.out
      · have HK := Lib.hid (HYES.out (by rw [hk]; simp [hg]))
        clear hk HNO HYES
        go_wp2
        go_ret
        refine HK.out _ ?_
        rw [HTO.out, if_neg (by omega)]
        obtain ⟨S1, k1, k2, k3⟩ := HSET.out P
        exact ⟨S1, k1, k2⟩
    · have hd3 : (d == -1) = false := by simpa using hd2
      have HK := Lib.hid (HYES.out (by rw [hk]; simp [hd1, hd2]))
      have HD := Lib.hid hd1
      clear hk HNO HYES hd1 hd2
      go_wp2
      go_ret
      refine HK.out _ ?_
      rw [HTO.out, if_neg HD.out]
      obtain ⟨S1, k1, k2, k3⟩ := HSET.out P
      exact ⟨S1, k1, k2⟩

/-- Brought in: put to nothing, then in, then to a place. -/
theorem MSt.carIn {w w0 : World} {B g b : Nat} {m : Mc} {S S0 : Nat → Spot} (h : MSt w B g m S) {j : Nat} (h4 : j < m.cs.length) (ho : (S 3).v.ownBlock = some b) (p : Int) (hm : Mv w0 S0 w S) :
    ∃ S', MSt ((((w.setCell ⟨b, j * 2, none⟩ (.bool false)).setCell ⟨b, j * 2 + 1, none⟩ (.int .i64 0)).setCell ⟨b, j * 2, none⟩ (.bool true)).setCell ⟨b, j * 2 + 1, none⟩ (.int .i64 p)) B g (setC m ((j : Int) + 1) ⟨true, p⟩) S' ∧
      Mv w0 S0 ((((w.setCell ⟨b, j * 2, none⟩ (.bool false)).setCell ⟨b, j * 2 + 1, none⟩ (.int .i64 0)).setCell ⟨b, j * 2, none⟩ (.bool true)).setCell ⟨b, j * 2 + 1, none⟩ (.int .i64 p)) S' ∧ (S' 3).v.ownBlock = some b := by
  have hj : ((j : Int) + 1 - 1).toNat = j := by omega
  obtain ⟨S1, k1, k2, k3⟩ := h.setCb (c := (j : Int) + 1) (by omega) (by omega) ho false 0 hm
  obtain ⟨S2, l1, l2, l3⟩ := k1.setCi (c := (j : Int) + 1) (by omega) (by show (j : Int) + 1 - 1 < ((m.cs.set _ _).length : Int); rw [List.length_set]; omega) k3 true k2
  rw [setC_twice, carAt_setC _ (by omega)] at l1
  obtain ⟨S3, m1, m2, m3⟩ := l1.setCp (c := (j : Int) + 1) (by omega) (by show (j : Int) + 1 - 1 < ((m.cs.set _ _).length : Int); rw [List.length_set]; omega) l3 p l2
  rw [setC_twice, carAt_setC _ (by omega)] at m1
  simp only [hj] at m1 m2
  exact ⟨S3, m1, m2, m3⟩
/-- The code of l07In. -/
def inC (m : Mc) (x : Opr) : Int := if (carAt m x.c).i = decide (x.k = 8) then 9 else 0
/-- The machine behind l07In. -/
def inM (m : Mc) (x : Opr) : Mc := setC m x.c (if x.k = 8 then ⟨true, if x.d = -1 then m.wd + 3 else -3⟩ else ⟨false, 0⟩)
/-- What a step of a machine gives: a code; if that is OK, the machine behind it. -/
def DidC (w0 : World) (S0 : Nat → Spot) (B g : Nat) (code : Int) (m : Mc) (e : Ending) (w' : World) : Prop := e = .returned (.int .i64 code) ∧ ∃ S', Mv w0 S0 w' S' ∧ (code = 0 → MSt w' B g m S')
set_option maxHeartbeats 2000000 in
theorem l07In_any {w : World} {B g : Nat} {m : Mc} {S : Nat → Spot} (h : MSt w B g m S) (x : Opr) (b o : Nat) (ho : OpAt w b o x) (hnb : ¬ blk S b) (hc : 1 ≤ x.c ∧ x.c ≤ 4) (hcs : m.cs.length = 4) (hk : x.k = 8 ∨ x.k = 9)
    (hwd : 1 ≤ m.wd ∧ m.wd ≤ 24) : Calls Try.prog 57 #[.pointer (some ⟨g, 0, none⟩), .pointer (some ⟨b, o, none⟩)] w (DidC w S B g (inC m x) (inM m x)) := by
  obtain ⟨k, d, fb, fa, tb, ta, c, r⟩ := x
  obtain ⟨c1, c4⟩ := hc
  have c1' : 1 ≤ c := c1
  have c4' : c ≤ 4 := c4
  have hk' : k = 8 ∨ k = 9 := hk
  obtain ⟨j, rfl⟩ : ∃ j : Nat, c = (j : Int) + 1 := ⟨(c - 1).toNat, by omega⟩
  obtain ⟨bc, cp, hv, hbl, hBc, hbw, hoc, hc0, hc1, hfc⟩ := h.cars ((j : Int) + 1) c1' (by omega)
  have hj : ((j : Int) + 1 - 1).toNat = j := by omega
  rw [hj] at hc0 hc1
  rw [hcs] at hv
  obtain ⟨x0, x1, x2, x3, x4, x5, x6⟩ := h.cells.seven
  rw [hv] at x4
  obtain ⟨w0, w1⟩ := hwd
  obtain ⟨o0, o1, o2, o3, o4, o5, o6, o7⟩ := ho.eight
  have HO := Lib.hid ho
  have HM := Lib.hid h
  have HNB := Lib.hid hnb
  have hjl : (j : Int) < 4 := by omega
  have hj0 : (0 : Int) ≤ (j : Int) := by omega
  have hIC : inC m ⟨k, d, fb, fa, tb, ta, (j : Int) + 1, r⟩ = (if (carAt m ((j : Int) + 1)).i = decide (k = 8) then 9 else 0) := rfl
  have hIM : inM m ⟨k, d, fb, fa, tb, ta, (j : Int) + 1, r⟩ = setC m ((j : Int) + 1) (if k = 8 then ⟨true, if d = -1 then m.wd + 3 else -3⟩ else ⟨false, 0⟩) := rfl
  generalize inC m ⟨k, d, fb, fa, tb, ta, (j : Int) + 1, r⟩ = IC at *
  generalize inM m ⟨k, d, fb, fa, tb, ta, (j : Int) + 1, r⟩ = IM at *
  generalize hci : (carAt m ((j : Int) + 1)).i = ci at *
  have HIM := Lib.hid hIM
  have HCI := Lib.hid hci
  clear h ho hv c1 c4 c1' c4' hk hIM hci
  have hz : IC = 9 ∨ IC = 0 := by rw [hIC]; split <;> simp
  rcases hk' with rfl | rfl <;> cases ci
  · have hz : IC = 0 := by rw [hIC]; rfl
    subst hz
    clear hIC
    go_enter Try.func57, Try.ntmps57
    go_wp2
    go_quiet (fail)
    have HM1 := Lib.hid (HM.out.drewN nq)
    have HO1 : Hid (OpAt (w.drewN nq) b o ⟨8, d, fb, fa, tb, ta, (j : Int) + 1, r⟩) := HO.out
    have HB1 := Lib.hid (below_drewN (Below.refl w.heap.size w) nq)
    clear x0 x1 x2 x3 x4 x5 x6 o0 o1 o2 o3 o4 o5 o6 o7 hc0 hc1 hfc HM HO
    generalize w.drewN nq = w1 at *
    clear nq
    obtain ⟨bc', cp', hv', -, -, -, hoc', hc0, hc1, hfc⟩ := HM1.out.cars ((j : Int) + 1) (by omega) (by omega)
    rw [hoc] at hoc'
    injection hoc' with hoc'
    subst hoc'
    rw [hj] at hc0 hc1
    rw [HCI.out] at hc0
    obtain ⟨o0, o1, -⟩ := HO1.out.eight
    go_wp2
    go_quiet (fail)
    have HM2 := Lib.hid (HM1.out.drewN nq)
    have HO2 : Hid (OpAt (w1.drewN nq) b o ⟨8, d, fb, fa, tb, ta, (j : Int) + 1, r⟩) := HO1.out
    have HB2 := Lib.hid (below_drewN HB1.out nq)
    have q0 : (w1.drewN nq).cell? ⟨bc, j * 2, none⟩ = _ := hc0
    have q1 : (w1.drewN nq).cell? ⟨bc, j * 2 + 1, none⟩ = _ := hc1
    have qf : ∀ i, (w1.drewN nq).frozen? ⟨bc, i, none⟩ = false := hfc
    clear o0 o1 hc0 hc1 hfc HM1 HO1 HB1
    generalize w1.drewN nq = w2 at *
    clear nq
    obtain ⟨o0, o1, -⟩ := HO2.out.eight
    obtain ⟨x0, -⟩ := HM2.out.cells.seven
    have hne : bc ≠ b := fun e => HNB.out (by rw [← e]; exact hbl)
    have hng : bc ≠ g := fun e => HM2.out.sp.dis (i := 3) (j := 0) (by omega) (by rw [hoc, e]) HM2.out.gbox
    have hfb := far_cell hne
    have hfg := far_cell hng
    have hn1 := near_cell (show j * 2 ≠ j * 2 + 1 by omega) bc
    have hn0 := near_cell (show j * 2 + 1 ≠ j * 2 by omega) bc
    have HMV := Lib.hid (Mv.of_below (S := S) HB2.out)
    have qf0 := qf (j * 2)
    have qf1 := qf (j * 2 + 1)
    clear qf
    go_wp2
    all_goals go_ret
    all_goals refine ⟨rfl, ?_⟩
    · obtain ⟨S1, k1, k2, k3⟩ := HM2.out.carIn (j := j) (by omega) hoc (-3) HMV.out
      obtain ⟨S2, l1, l2, l3⟩ := k1.setCp (c := (j : Int) + 1) (by omega) (by show (j : Int) + 1 - 1 < ((m.cs.set _ _).length : Int); rw [List.length_set]; omega) k3 (m.wd + 3) k2
      rw [setC_twice, carAt_setC _ (by omega)] at l1
      simp only [hj] at l1 l2
      have hd1 : d = -1 := by simpa using ‹(d == -1) = true›
      refine ⟨S2, l2, fun _ => ?_⟩
      rw [HIM.out, if_pos trivial, if_pos hd1]
      exact l1
    · obtain ⟨S1, k1, k2, k3⟩ := HM2.out.carIn (j := j) (by omega) hoc (-3) HMV.out
      have hd1 : ¬ d = -1 := by simpa using ‹(d == -1) = false›
      refine ⟨S1, k2, fun _ => ?_⟩
      rw [HIM.out, if_pos trivial, if_neg hd1]
      exact k1
  · have hz : IC = 9 := by rw [hIC]; rfl
    subst hz
    clear hIC
    go_enter Try.func57, Try.ntmps57
    go_wp2
    go_quiet (fail)
    have HM1 := Lib.hid (HM.out.drewN nq)
    have HO1 : Hid (OpAt (w.drewN nq) b o ⟨8, d, fb, fa, tb, ta, (j : Int) + 1, r⟩) := HO.out
    have HB1 := Lib.hid (below_drewN (Below.refl w.heap.size w) nq)
    clear x0 x1 x2 x3 x4 x5 x6 o0 o1 o2 o3 o4 o5 o6 o7 hc0 hc1 hfc HM HO
    generalize w.drewN nq = w1 at *
    clear nq
    obtain ⟨bc', cp', hv', -, -, -, hoc', hc0, hc1, hfc⟩ := HM1.out.cars ((j : Int) + 1) (by omega) (by omega)
    rw [hoc] at hoc'
    injection hoc' with hoc'
    subst hoc'
    rw [hj] at hc0 hc1
    rw [HCI.out] at hc0
    obtain ⟨o0, o1, -⟩ := HO1.out.eight
    go_wp2
    go_quiet (fail)
    go_wp2
    go_ret
    exact ⟨rfl, S, (Mv.of_below HB1.out).drewN _, fun e => by omega⟩
  · have hz : IC = 9 := by rw [hIC]; rfl
    subst hz
    clear hIC
    go_enter Try.func57, Try.ntmps57
    go_wp2
    go_quiet (fail)
    have HM1 := Lib.hid (HM.out.drewN nq)
    have HO1 : Hid (OpAt (w.drewN nq) b o ⟨9, d, fb, fa, tb, ta, (j : Int) + 1, r⟩) := HO.out
    have HB1 := Lib.hid (below_drewN (Below.refl w.heap.size w) nq)
    clear x0 x1 x2 x3 x4 x5 x6 o0 o1 o2 o3 o4 o5 o6 o7 hc0 hc1 hfc HM HO
    generalize w.drewN nq = w1 at *
    clear nq
    obtain ⟨bc', cp', hv', -, -, -, hoc', hc0, hc1, hfc⟩ := HM1.out.cars ((j : Int) + 1) (by omega) (by omega)
    rw [hoc] at hoc'
    injection hoc' with hoc'
    subst hoc'
    rw [hj] at hc0 hc1
    rw [HCI.out] at hc0
    obtain ⟨o0, o1, -⟩ := HO1.out.eight
    go_wp2
    go_quiet (fail)
    go_wp2
    go_ret
    exact ⟨rfl, S, (Mv.of_below HB1.out).drewN _, fun e => by omega⟩
  · have hz : IC = 0 := by rw [hIC]; rfl
    subst hz
    clear hIC
    go_enter Try.func57, Try.ntmps57
    go_wp2
    go_quiet (fail)
    have HM1 := Lib.hid (HM.out.drewN nq)
    have HO1 : Hid (OpAt (w.drewN nq) b o ⟨9, d, fb, fa, tb, ta, (j : Int) + 1, r⟩) := HO.out
    have HB1 := Lib.hid (below_drewN (Below.refl w.heap.size w) nq)
    clear x0 x1 x2 x3 x4 x5 x6 o0 o1 o2 o3 o4 o5 o6 o7 hc0 hc1 hfc HM HO
    generalize w.drewN nq = w1 at *
    clear nq
    obtain ⟨bc', cp', hv', -, -, -, hoc', hc0, hc1, hfc⟩ := HM1.out.cars ((j : Int) + 1) (by omega) (by omega)
    rw [hoc] at hoc'
    injection hoc' with hoc'
    subst hoc'
    rw [hj] at hc0 hc1
    rw [HCI.out] at hc0
    obtain ⟨o0, o1, -⟩ := HO1.out.eight
    go_wp2
    go_quiet (fail)
    have HM2 := Lib.hid (HM1.out.drewN nq)
    have HO2 : Hid (OpAt (w1.drewN nq) b o ⟨9, d, fb, fa, tb, ta, (j : Int) + 1, r⟩) := HO1.out
    have HB2 := Lib.hid (below_drewN HB1.out nq)
    have q0 : (w1.drewN nq).cell? ⟨bc, j * 2, none⟩ = _ := hc0
    have q1 : (w1.drewN nq).cell? ⟨bc, j * 2 + 1, none⟩ = _ := hc1
    have qf : ∀ i, (w1.drewN nq).frozen? ⟨bc, i, none⟩ = false := hfc
    clear o0 o1 hc0 hc1 hfc HM1 HO1 HB1
    generalize w1.drewN nq = w2 at *
    clear nq
    obtain ⟨o0, o1, -⟩ := HO2.out.eight
    obtain ⟨x0, -⟩ := HM2.out.cells.seven
    have hne : bc ≠ b := fun e => HNB.out (by rw [← e]; exact hbl)
    have hng : bc ≠ g := fun e => HM2.out.sp.dis (i := 3) (j := 0) (by omega) (by rw [hoc, e]) HM2.out.gbox
    have hfb := far_cell hne
    have hfg := far_cell hng
    have hn1 := near_cell (show j * 2 ≠ j * 2 + 1 by omega) bc
    have hn0 := near_cell (show j * 2 + 1 ≠ j * 2 by omega) bc
    have HMV := Lib.hid (Mv.of_below (S := S) HB2.out)
    have qf0 := qf (j * 2)
    have qf1 := qf (j * 2 + 1)
    clear qf
    go_wp2
    go_ret
    obtain ⟨S1, k1, k2, k3⟩ := HM2.out.setCb (c := (j : Int) + 1) (by omega) (by omega) hoc false 0 HMV.out
    simp only [hj] at k1 k2
    refine ⟨rfl, S1, k2, fun _ => ?_⟩
    rw [HIM.out, if_neg (by omega)]
    exact k1

end Go.Proofs.Ytolcgopfbbmjgaa

/-
  The reference's small lists: a list of one's own, a number put to its place.
-/
namespace Go.Proofs.Ytolcgopfbbmjgaa
set_option linter.unusedVariables false
set_option linter.unusedSimpArgs false
open Go.RowKit

set_option maxHeartbeats 1000000 in
theorem l00OwnR_any (v : Value) (l : List Int) (w : World) (hl : RdI w w.heap.size v l) (hlen : l.length ≤ 1048576) :
    Calls Try.prog 50 #[v] w (GivesRow w 2 1 l.length (vI l)) := by
  obtain ⟨A, c, rfl⟩ := hl.len
  obtain ⟨i0, hi, hz0, hz1, hz2⟩ := info_parts info_int
  have HR := Lib.hid (hl.reads).1
  generalize hn : l.length = n at *
  have HN := Lib.hid hn
  clear hl hn
  go_enter Try.func50, Try.ntmps50
  go_wp2_with (at_builtin; refine wpList_append_any _ rfl _ _ _ rfl w.heap.size 2 i0 _ 1 8 Try.underlying39 hi hz0 hz1 hz2 rfl (by decide) _ 0 [] rfl (World.ownsRow_lit _ _ _ (Nat.le_refl _) (by unfold maxLen; omega) rfl) w.heap.size _ n c (vI l) rfl (HR.out.alloc (Nat.le_refl _) _) (vI_one l) (by unfold maxLen; omega) (by omega) (by simp) ?_)
  intro v1 w1 hown hg hat
  have HB := Lib.hid (((Below.refl w.heap.size w).alloc (Nat.le_refl _) _).grown hg (by simp) (fun kk hkk => by simp [Value.ownBlock] at hkk; omega))
  have HO : Hid (w1.ownsRow w.heap.size 2 1 v1 n (vI l)) := by unfold Hid; simpa using hown
  clear hown hg hat
  go_wp2
  go_ret
  exact ⟨_, rfl, HO.out, HB.out⟩

def putAcc (df : Bool) (acc t : List Int) (x : Int) : List Int := acc ++ (if df = true then t else putI t x)
section
variable {Y acc l : List Int} {k : Nat} {x y : Int} {df : Bool}
theorem put_done (h : Y = putAcc true acc (l.drop k) x) (hy : l[k]? = some y) : Y = putAcc true (acc ++ [y]) (l.drop (k + 1)) x := by
  rw [h, drop_of_get hy]; simp [putAcc]
theorem put_new (h : Y = putAcc false acc (l.drop k) x) (hy : l[k]? = some y) (h1 : x < y) : Y = putAcc true (acc ++ [x] ++ [y]) (l.drop (k + 1)) x := by
  rw [h, drop_of_get hy]; unfold putAcc; rw [if_neg (by decide), if_pos rfl, putI, if_pos (by omega), if_pos h1]; simp
theorem put_same (h : Y = putAcc false acc (l.drop k) x) (hy : l[k]? = some y) (h1 : x = y) : Y = putAcc true (acc ++ [y]) (l.drop (k + 1)) x := by
  rw [h, drop_of_get hy]; unfold putAcc; rw [if_neg (by decide), if_pos rfl, putI, if_pos (by omega), if_neg (by omega)]; simp
theorem put_later (h : Y = putAcc false acc (l.drop k) x) (hy : l[k]? = some y) (h1 : y < x) : Y = putAcc false (acc ++ [y]) (l.drop (k + 1)) x := by
  rw [h, drop_of_get hy]; unfold putAcc; rw [if_neg (by decide), if_neg (by decide), putI, if_neg (by omega)]; simp
theorem put_end (h : Y = putAcc true acc (l.drop k) x) (hk : l.length ≤ k) : Y = acc := by
  rw [h, List.drop_of_length_le hk]; simp [putAcc]
theorem put_end' (h : Y = putAcc false acc (l.drop k) x) (hk : l.length ≤ k) : Y = acc ++ [x] := by
  rw [h, List.drop_of_length_le hk]; simp [putAcc, putI]
end
theorem putI_len : ∀ (l : List Int) (n : Int), (putI l n).length ≤ l.length + 1
  | [], n => by simp [putI]
  | x :: t, n => by
    have := putI_len t n
    rw [putI]
    split
    · split <;> simp
    · simp; omega

set_option maxHeartbeats 4000000 in
theorem l00Put_any (v : Value) (l : List Int) (x : Int) (w : World) (hl : RdI w w.heap.size v l) (hlen : l.length ≤ 1048576) :
    Calls Try.prog 55 #[v, .int .i64 x] w (GivesRow w 2 1 (putI l x).length (vI (putI l x))) := by
  obtain ⟨i0, hi, hz0, hz1, hz2⟩ := info_parts info_int
  obtain ⟨A, n, c, rfl, hln, hl, gl⟩ := hl
  have HGL := Lib.hid gl
  have hl' := hl.out
  have HY := Lib.hid (show putI l x = putAcc false [] (l.drop 0) x by simp [putAcc])
  have hYl : n ≤ 1048576 := by omega
  generalize putI l x = Y at *
  clear gl hlen hl'
  go_enter Try.func55, Try.ntmps55
  go_wp2
  go_loopw [5, 6, 7] (fun t dn i wr => ∃ (k : Nat) (acc : List Int) (df : Bool), k ≤ n ∧ i = .int .i64 k ∧ dn = .bool df ∧ Hid (wr.ownsRow w.heap.size 2 1 t acc.length (vI acc)) ∧ acc.length ≤ k + 1 ∧ (df = false → acc.length ≤ k) ∧ Hid (Y = putAcc df acc (l.drop k) x) ∧ Hid (Below w.heap.size w wr)) (fun _ _ i _ => n - (intOf i).toNat)
  case atStart => exact ⟨0, [], false, Nat.zero_le _, rfl, rfl, World.ownsRow_lit _ _ _ (Nat.le_refl _) (by unfold maxLen; omega) rfl, by simp, by simp, HY.out, (Below.refl _ _).alloc (Nat.le_refl _) _⟩
  case round =>
    rename_i wr
    obtain ⟨k, acc, df, hk, rfl, rfl, HO, hak, hdf, HD, HB⟩ := hrel
    by_cases hlt : k < n
    · obtain ⟨b, off, y, rfl, hbb, hlk, hc⟩ := HGL.out k hlt
      have hc1 : wr.cell? ⟨b, off + k, none⟩ = some (.int .i64 y) := (HB.out.cell (p := ⟨b, off + k, none⟩) hbb).trans hc
      have HLK := Lib.hid hlk
      have HC1 := Lib.hid hc1
      have HBB := Lib.hid hbb
      clear hlk hc
      cases df
      · have hak' := hdf rfl
        clear hdf
        by_cases h1 : x ≤ y
        · by_cases h2 : x < y
          · have HN := Lib.hid (put_new HD.out HLK.out h2)
            -- a row acc of numbers (owned by HO.out from block w.heap.size on, the world told by HB.out) gets one number x more; new names end in 1
            go_wp2_with (at_builtin; refine wpList_append_own_at _ rfl _ _ 39 rfl w.heap.size 2 i0 _ 1 8 Try.underlying39 hi hz0 hz1 hz2 rfl (by decide) _ _ _ rfl (HO.out.alloc _) ⟨_, 0, none⟩ 1 1 [.int .i64 x] rfl rfl (new_cells' _ _ (by first | rfl | simp)) (int_one _) (by (try simp only [List.length_nil, List.length_append, List.length_singleton]); unfold maxLen; omega) (by (try simp only [List.length_nil, List.length_append, List.length_singleton]); omega) (by have := HB.out.size; (try simp at this); (try simp); omega) ?_)
            intro v1 w1 hown1 hgrow1 _ hat1
            have HB1 := Lib.hid (below_append' (HB.out.alloc HB.out.size _) (by have := HB.out.size; (try simp at this); (try simp); omega) HO.out (by simp) hgrow1)
            have HO1 : Hid (w1.ownsRow w.heap.size 2 1 v1 (acc ++ [x]).length (vI (acc ++ [x]))) := by unfold Hid; rw [vI_snoc, List.length_append]; first | exact hown1 | (have h9 := hown1; simp only [List.length_append, List.length_singleton] at h9 ⊢; exact h9)
            have hc2 : w1.cell? ⟨b, off + k, none⟩ = some (.int .i64 y) := ((HB1.out.cell (p := ⟨b, off + k, none⟩) hbb).trans ((HB.out.cell (p := ⟨b, off + k, none⟩) hbb).symm)).trans hc1
            clear hown1 hgrow1 hat1 hc1
            -- a row (acc ++ [x]) of numbers (owned by HO1.out from block w.heap.size on, the world told by HB1.out) gets one number y more; new names end in 2
            go_wp2_with (at_builtin; refine wpList_append_own_at _ rfl _ _ 39 rfl w.heap.size 2 i0 _ 1 8 Try.underlying39 hi hz0 hz1 hz2 rfl (by decide) _ _ _ rfl (HO1.out.alloc _) ⟨_, 0, none⟩ 1 1 [.int .i64 y] rfl rfl (new_cells' _ _ (by first | rfl | simp)) (int_one _) (by (try simp only [List.length_nil, List.length_append, List.length_singleton]); unfold maxLen; omega) (by (try simp only [List.length_nil, List.length_append, List.length_singleton]); omega) (by have := HB1.out.size; (try simp at this); (try simp); omega) ?_)
            intro v2 w2 hown2 hgrow2 _ hat2
            have HB2 := Lib.hid (below_append' (HB1.out.alloc HB1.out.size _) (by have := HB1.out.size; (try simp at this); (try simp); omega) HO1.out (by simp) hgrow2)
            have HO2 : Hid (w2.ownsRow w.heap.size 2 1 v2 ((acc ++ [x]) ++ [y]).length (vI ((acc ++ [x]) ++ [y]))) := by unfold Hid; rw [vI_snoc, List.length_append]; first | exact hown2 | (have h9 := hown2; simp only [List.length_append, List.length_singleton] at h9 ⊢; exact h9)
            clear hown2 hgrow2 hat2
            go_wp2
            exact ⟨⟨k + 1, acc ++ [x] ++ [y], true, by omega, by go_num, rfl, HO2.out, by simp; omega, by simp, HN.out, HB2.out⟩, by simp [intOf]; omega⟩
          · have HN := Lib.hid (put_same HD.out HLK.out (by omega))
            -- a row acc of numbers (owned by HO.out from block w.heap.size on, the world told by HB.out) gets one number y more; new names end in 1
            go_wp2_with (at_builtin; refine wpList_append_own_at _ rfl _ _ 39 rfl w.heap.size 2 i0 _ 1 8 Try.underlying39 hi hz0 hz1 hz2 rfl (by decide) _ _ _ rfl (HO.out.alloc _) ⟨_, 0, none⟩ 1 1 [.int .i64 y] rfl rfl (new_cells' _ _ (by first | rfl | simp)) (int_one _) (by (try simp only [List.length_nil, List.length_append, List.length_singleton]); unfold maxLen; omega) (by (try simp only [List.length_nil, List.length_append, List.length_singleton]); omega) (by have := HB.out.size; (try simp at this); (try simp); omega) ?_)
            intro v1 w1 hown1 hgrow1 _ hat1
            have HB1 := Lib.hid (below_append' (HB.out.alloc HB.out.size _) (by have := HB.out.size; (try simp at this); (try simp); omega) HO.out (by simp) hgrow1)
            have HO1 : Hid (w1.ownsRow w.heap.size 2 1 v1 (acc ++ [y]).length (vI (acc ++ [y]))) := by unfold Hid; rw [vI_snoc, List.length_append]; first | exact hown1 | (have h9 := hown1; simp only [List.length_append, List.length_singleton] at h9 ⊢; exact h9)
            clear hown1 hgrow1 hat1
            go_wp2
            exact ⟨⟨k + 1, acc ++ [y], true, by omega, by go_num, rfl, HO1.out, by simp; omega, by simp, HN.out, HB1.out⟩, by simp [intOf]; omega⟩
        · have HN := Lib.hid (put_later HD.out HLK.out (by omega))
          -- a row acc of numbers (owned by HO.out from block w.heap.size on, the world told by HB.out) gets one number y more; new names end in 1
          go_wp2_with (at_builtin; refine wpList_append_own_at _ rfl _ _ 39 rfl w.heap.size 2 i0 _ 1 8 Try.underlying39 hi hz0 hz1 hz2 rfl (by decide) _ _ _ rfl (HO.out.alloc _) ⟨_, 0, none⟩ 1 1 [.int .i64 y] rfl rfl (new_cells' _ _ (by first | rfl | simp)) (int_one _) (by (try simp only [List.length_nil, List.length_append, List.length_singleton]); unfold maxLen; omega) (by (try simp only [List.length_nil, List.length_append, List.length_singleton]); omega) (by have := HB.out.size; (try simp at this); (try simp); omega) ?_)
          intro v1 w1 hown1 hgrow1 _ hat1
          have HB1 := Lib.hid (below_append' (HB.out.alloc HB.out.size _) (by have := HB.out.size; (try simp at this); (try simp); omega) HO.out (by simp) hgrow1)
          have HO1 : Hid (w1.ownsRow w.heap.size 2 1 v1 (acc ++ [y]).length (vI (acc ++ [y]))) := by unfold Hid; rw [vI_snoc, List.length_append]; first | exact hown1 | (have h9 := hown1; simp only [List.length_append, List.length_singleton] at h9 ⊢; exact h9)
          clear hown1 hgrow1 hat1
          go_wp2
          exact ⟨⟨k + 1, acc ++ [y], false, by omega, by go_num, rfl, HO1.out, by simp; omega, by simp; omega, HN.out, HB1.out⟩, by simp [intOf]; omega⟩
      · have HN := Lib.hid (put_done HD.out HLK.out)
        clear hdf
        -- a row acc of numbers (owned by HO.out from block w.heap.size on, the world told by HB.out) gets one number y more; new names end in 1
        go_wp2_with (at_builtin; refine wpList_append_own_at _ rfl _ _ 39 rfl w.heap.size 2 i0 _ 1 8 Try.underlying39 hi hz0 hz1 hz2 rfl (by decide) _ _ _ rfl (HO.out.alloc _) ⟨_, 0, none⟩ 1 1 [.int .i64 y] rfl rfl (new_cells' _ _ (by first | rfl | simp)) (int_one _) (by (try simp only [List.length_nil, List.length_append, List.length_singleton]); unfold maxLen; omega) (by (try simp only [List.length_nil, List.length_append, List.length_singleton]); omega) (by have := HB.out.size; (try simp at this); (try simp); omega) ?_)
        intro v1 w1 hown1 hgrow1 _ hat1
        have HB1 := Lib.hid (below_append' (HB.out.alloc HB.out.size _) (by have := HB.out.size; (try simp at this); (try simp); omega) HO.out (by simp) hgrow1)
        have HO1 : Hid (w1.ownsRow w.heap.size 2 1 v1 (acc ++ [y]).length (vI (acc ++ [y]))) := by unfold Hid; rw [vI_snoc, List.length_append]; first | exact hown1 | (have h9 := hown1; simp only [List.length_append, List.length_singleton] at h9 ⊢; exact h9)
        clear hown1 hgrow1 hat1
        go_wp2
        exact ⟨⟨k + 1, acc ++ [y], true, by omega, by go_num, rfl, HO1.out, by simp; omega, by simp, HN.out, HB1.out⟩, by simp [intOf]; omega⟩
    · cases df
      · have HN := Lib.hid (put_end' HD.out (by have := hl.out; omega))
        -- a row acc of numbers (owned by HO.out from block w.heap.size on, the world told by HB.out) gets one number x more; new names end in 1
        go_wp2_with (at_builtin; refine wpList_append_own_at _ rfl _ _ 39 rfl w.heap.size 2 i0 _ 1 8 Try.underlying39 hi hz0 hz1 hz2 rfl (by decide) _ _ _ rfl (HO.out.alloc _) ⟨_, 0, none⟩ 1 1 [.int .i64 x] rfl rfl (new_cells' _ _ (by first | rfl | simp)) (int_one _) (by (try simp only [List.length_nil, List.length_append, List.length_singleton]); unfold maxLen; omega) (by (try simp only [List.length_nil, List.length_append, List.length_singleton]); omega) (by have := HB.out.size; (try simp at this); (try simp); omega) ?_)
        intro v1 w1 hown1 hgrow1 _ hat1
        have HB1 := Lib.hid (below_append' (HB.out.alloc HB.out.size _) (by have := HB.out.size; (try simp at this); (try simp); omega) HO.out (by simp) hgrow1)
        have HO1 : Hid (w1.ownsRow w.heap.size 2 1 v1 (acc ++ [x]).length (vI (acc ++ [x]))) := by unfold Hid; rw [vI_snoc, List.length_append]; first | exact hown1 | (have h9 := hown1; simp only [List.length_append, List.length_singleton] at h9 ⊢; exact h9)
        clear hown1 hgrow1 hat1
        go_wp2
        go_ret
        exact ⟨_, rfl, by rw [HN.out]; exact HO1.out, HB1.out⟩
      · have HN := Lib.hid (put_end HD.out (by have := hl.out; omega))
        go_wp2
        go_ret
        exact ⟨_, rfl, by rw [HN.out]; exact HO.out, HB.out⟩

end Go.Proofs.Ytolcgopfbbmjgaa

/-
  Wales: wale of the program, l11Wale of the reference; l11Children, l07Live of the reference.
-/
namespace Go.Proofs.Ytolcgopfbbmjgaa
set_option linter.unusedVariables false
set_option linter.unusedSimpArgs false
open Go.RowKit



theorem lv_next {m : Mc} {Y acc : List Int} {x : Int} (h : Y = acc ++ (ndGo m (m.wd + 3 - x).toNat x).flatMap (onL m)) (hx : x < m.wd + 3) : Y = (acc ++ (ndX m x).flatMap (onL m)) ++ (ndGo m (m.wd + 3 - (x + 1)).toNat (x + 1)).flatMap (onL m) := by
  rw [h, show (m.wd + 3 - x).toNat = (m.wd + 3 - (x + 1)).toNat + 1 by omega, ndGo, List.flatMap_append, List.append_assoc]
theorem onL_fr {m : Mc} {x : Int} {n : Nat} {l : List Int} (h : x = (n : Int)) (hl : m.fr[n]? = some l) : onL m (1, x) = l := by
  subst h
  unfold onL
  rw [if_neg (by simp), List.getD_eq_getElem?_getD, show ((1 : Int), (n : Int)).2.toNat = n by simp, hl]; rfl
theorem onL_bk {m : Mc} {x : Int} {n : Nat} {l : List Int} (h : x = (n : Int)) (hl : m.bk[n]? = some l) : onL m (2, x) = l := by
  subst h
  unfold onL
  rw [if_pos rfl, List.getD_eq_getElem?_getD, show ((2 : Int), (n : Int)).2.toNat = n by simp, hl]; rfl

set_option maxHeartbeats 4000000 in
set_option maxRecDepth 100000 in
theorem l07Live_any (m : Mc) (g : Nat) (w : World) (h : RdP w g m) (ok : okM m = true) :
    Calls Try.prog 66 #[.pointer (some ⟨g, 0, none⟩)] w (GivesOw w 2 1 (liveL m).length (vI (liveL m))) := by
  obtain ⟨i0, hi, hz0, hz1, hz2⟩ := info_parts info_int
  have hgl := h.lt
  obtain ⟨F, G, C, L, D, hc, h1, h2, h3, h4, h5, h6⟩ := h
  obtain ⟨d1, d2, d3, d4, d5, d6, -⟩ := ok_wd ok
  obtain ⟨AF, cF, rfl⟩ := RdN.shape h1
  obtain ⟨AG, cG, rfl⟩ := RdN.shape h2
  have HC := Lib.hid hc
  have HF := Lib.hid h1
  have HG := Lib.hid h2
  have HOK := Lib.hid ok
  have HY := Lib.hid (show liveL m = [] ++ (ndGo m (m.wd + 3 - (-3)).toNat (-3)).flatMap (onL m) by unfold liveL; rw [nd_start d1]; rfl)
  have hwr1 : IntKind.i64.wrap (m.wd - 1) = m.wd - 1 := IntWalk.i64_in _ (by omega)
  have hwr3 : IntKind.i64.wrap (m.wd + 3) = m.wd + 3 := IntWalk.i64_in _ (by omega)
  clear hc h1 h2 h3 h4 h5 h6 ok
  generalize liveL m = Y at *
  generalize hnf : m.fr.length = nf at *
  generalize hnb : m.bk.length = nb at *
  have HNF := Lib.hid hnf
  have HNB := Lib.hid hnb
  clear hnf hnb
  go_enter Try.func66, Try.ntmps66
  go_wp2
  go_loopw [3, 4] (fun t i wr => ∃ (x : Int) (acc : List Int), -3 ≤ x ∧ x ≤ m.wd + 3 ∧ i = .int .i64 x ∧ wr.ownsRow w.heap.size 2 1 t acc.length (vI acc) ∧ (acc.length : Int) ≤ 8 * (x + 3) ∧ Hid (Y = acc ++ (ndGo m (m.wd + 3 - x).toNat x).flatMap (onL m)) ∧ Below w.heap.size w wr) (fun _ i _ => (m.wd + 3 - intOf i).toNat)
  case atStart => exact ⟨-3, [], by omega, by omega, rfl, World.ownsRow_lit _ _ _ (Nat.le_refl _) (by unfold maxLen; omega) rfl, by simp, HY.out, (Below.refl _ _).alloc (Nat.le_refl _) _⟩
  case round =>
    rename_i wr
    obtain ⟨x, acc, q1, q2, rfl, hown, hak, hd, hb⟩ := hrel
    obtain ⟨y0, y1, y2, y3, y4, y5, y6⟩ := (HC.out.below hb hgl).seven
    by_cases hlt : x < m.wd + 3
    · have HN := lv_next hd.out hlt
      have HB := Lib.hid hb
      have HO := Lib.hid hown
      have hz := hb.size
      cases hb1 : inB 0 x (m.wd - 1) <;> cases hb2 : inB 0 (x - m.rk) (m.wd - 1)
      · rw [ndX_ff hb1 hb2] at HN
        have I1 := Lib.hid hb1
        have I2 := Lib.hid hb2
        have HD := Lib.hid (show Y = acc ++ (ndGo m (m.wd + 3 - (x + 1)).toNat (x + 1)).flatMap (onL m) by rw [HN]; simp)
        clear HN hb hown hd
        clear hb1 hb2
        go_wp2_with (go_at_call 49; refine (l00In_s _ _ _ _).mono ?_; rintro e w' ⟨rfl, rfl⟩; first | rw [I1.out] | rw [I2.out])
        exact ⟨⟨x + 1, acc, by omega, by omega, by go_num, HO.out, by omega, HD.out, HB.out⟩, by simp [intOf]; omega⟩
      · rw [ndX_ft hb1 hb2] at HN
        have I1 := Lib.hid hb1
        have I2 := Lib.hid hb2
        obtain ⟨zn, hzn⟩ := Int.eq_ofNat_of_zero_le (inB_iff.1 I2.out).1
        have hzf : zn < nb := by have := (inB_iff.1 I2.out).2; omega
        obtain ⟨bG, oG, xG, sG, hAG, hbbG, hlG, hcG, hsG⟩ := (RdLL.below HG.out HB.out).at_ hzf
        obtain ⟨AsG, csG, rfl⟩ := hsG.len
        have hxG4 : xG.length ≤ 4 := by have := onL_len HOK.out (2, x - m.rk); rw [onL_bk hzn hlG] at this; exact this
        have HXG := Lib.hid (onL_bk hzn hlG)
        have HRG := Lib.hid (hsG.reads).1
        have hzi0 : (0 : Int) ≤ x - m.rk := by omega
        have hzi1 : x - m.rk < (nb : Int) := by omega
        have hzt : (x - m.rk).toNat = zn := by omega
        subst hAG
        rw [← hzt] at hcG
        clear hlG hsG hzt hzn
        have HD := Lib.hid (show Y = (acc ++ xG) ++ (ndGo m (m.wd + 3 - (x + 1)).toNat (x + 1)).flatMap (onL m) by rw [HN]; simp [HXG.out])
        clear HN hb hown hd
        clear hb1 hb2
        go_wp2_with (first | (go_at_call 49; refine (l00In_s _ _ _ _).mono ?_; rintro e w' ⟨rfl, rfl⟩; first | rw [I1.out] | rw [I2.out]) | (at_builtin; refine wpList_append_any _ rfl _ _ _ rfl w.heap.size 2 i0 _ 1 8 Try.underlying39 hi hz0 hz1 hz2 rfl (by decide) _ _ _ rfl HO.out _ AsG xG.length csG (vI xG) rfl HRG.out (vI_one xG) (by first | (unfold maxLen; omega) | (rw [List.length_append]; unfold maxLen; omega)) (by first | omega | (rw [List.length_append]; omega)) HB.out.size ?_))
        intro v2 w2 hown2 hg2 hat2
        have HB2 := Lib.hid (HB.out.grown hg2 HB.out.size (fun kk hkk => (HO.out.lt kk hkk).1))
        have HO2 : Hid (w2.ownsRow w.heap.size 2 1 v2 (acc ++ xG).length (vI (acc ++ xG))) := by unfold Hid; rw [List.length_append, vI_append]; first | exact hown2 | (rw [List.length_append]; exact hown2)
        clear hown2 hg2 hat2 HO HB y0 y1 y2 y3 y4 y5 y6
        have HB := HB2
        have HO := HO2
        clear HB2 HO2
        obtain ⟨y0, y1, y2, y3, y4, y5, y6⟩ := (HC.out.below HB.out hgl).seven
        go_wp2
        exact ⟨⟨x + 1, acc ++ xG, by omega, by omega, by go_num, HO.out, by simp; omega, HD.out, HB.out⟩, by simp [intOf]; omega⟩
      · rw [ndX_tf hb1 hb2] at HN
        have I1 := Lib.hid hb1
        have I2 := Lib.hid hb2
        obtain ⟨xn, hxn⟩ := Int.eq_ofNat_of_zero_le (inB_iff.1 I1.out).1
        have hxf : xn < nf := by have := (inB_iff.1 I1.out).2; omega
        obtain ⟨bF, oF, xF, sF, hAF, hbbF, hlF, hcF, hsF⟩ := (RdLL.below HF.out HB.out).at_ hxf
        obtain ⟨AsF, csF, rfl⟩ := hsF.len
        have hxF4 : xF.length ≤ 4 := by have := onL_len HOK.out (1, x); rw [onL_fr hxn hlF] at this; exact this
        have HXF := Lib.hid (onL_fr hxn hlF)
        have HRF := Lib.hid (hsF.reads).1
        have hxi0 : (0 : Int) ≤ x := by omega
        have hxi1 : x < (nf : Int) := by omega
        have hxt : x.toNat = xn := by omega
        subst hAF
        rw [← hxt] at hcF
        clear hlF hsF hxt hxn
        have HD := Lib.hid (show Y = (acc ++ xF) ++ (ndGo m (m.wd + 3 - (x + 1)).toNat (x + 1)).flatMap (onL m) by rw [HN]; simp [HXF.out])
        clear HN hb hown hd
        clear hb1
        go_wp2_with (first | (go_at_call 49; refine (l00In_s _ _ _ _).mono ?_; rintro e w' ⟨rfl, rfl⟩; first | rw [I1.out] | rw [I2.out]) | (at_builtin; refine wpList_append_any _ rfl _ _ _ rfl w.heap.size 2 i0 _ 1 8 Try.underlying39 hi hz0 hz1 hz2 rfl (by decide) _ _ _ rfl HO.out _ AsF xF.length csF (vI xF) rfl HRF.out (vI_one xF) (by first | (unfold maxLen; omega) | (rw [List.length_append]; unfold maxLen; omega)) (by first | omega | (rw [List.length_append]; omega)) HB.out.size ?_))
        intro v1 w1 hown1 hg1 hat1
        have HB1 := Lib.hid (HB.out.grown hg1 HB.out.size (fun kk hkk => (HO.out.lt kk hkk).1))
        have HO1 : Hid (w1.ownsRow w.heap.size 2 1 v1 (acc ++ xF).length (vI (acc ++ xF))) := by unfold Hid; rw [List.length_append, vI_append]; first | exact hown1 | (rw [List.length_append]; exact hown1)
        clear hown1 hg1 hat1 HO HB y0 y1 y2 y3 y4 y5 y6
        have HB := HB1
        have HO := HO1
        clear HB1 HO1
        obtain ⟨y0, y1, y2, y3, y4, y5, y6⟩ := (HC.out.below HB.out hgl).seven
        clear hb2
        go_wp2_with (go_at_call 49; refine (l00In_s _ _ _ _).mono ?_; rintro e w' ⟨rfl, rfl⟩; rw [I2.out])
        exact ⟨⟨x + 1, acc ++ xF, by omega, by omega, by go_num, HO.out, by simp; omega, HD.out, HB.out⟩, by simp [intOf]; omega⟩
      · rw [ndX_tt hb1 hb2] at HN
        have I1 := Lib.hid hb1
        have I2 := Lib.hid hb2
        obtain ⟨xn, hxn⟩ := Int.eq_ofNat_of_zero_le (inB_iff.1 I1.out).1
        have hxf : xn < nf := by have := (inB_iff.1 I1.out).2; omega
        obtain ⟨bF, oF, xF, sF, hAF, hbbF, hlF, hcF, hsF⟩ := (RdLL.below HF.out HB.out).at_ hxf
        obtain ⟨AsF, csF, rfl⟩ := hsF.len
        have hxF4 : xF.length ≤ 4 := by have := onL_len HOK.out (1, x); rw [onL_fr hxn hlF] at this; exact this
        have HXF := Lib.hid (onL_fr hxn hlF)
        have HRF := Lib.hid (hsF.reads).1
        have hxi0 : (0 : Int) ≤ x := by omega
        have hxi1 : x < (nf : Int) := by omega
        have hxt : x.toNat = xn := by omega
        subst hAF
        rw [← hxt] at hcF
        clear hlF hsF hxt hxn
        have HN1 := Lib.hid HN
        clear HN hb hown hd
        clear hb1
        go_wp2_with (first | (go_at_call 49; refine (l00In_s _ _ _ _).mono ?_; rintro e w' ⟨rfl, rfl⟩; first | rw [I1.out] | rw [I2.out]) | (at_builtin; refine wpList_append_any _ rfl _ _ _ rfl w.heap.size 2 i0 _ 1 8 Try.underlying39 hi hz0 hz1 hz2 rfl (by decide) _ _ _ rfl HO.out _ AsF xF.length csF (vI xF) rfl HRF.out (vI_one xF) (by first | (unfold maxLen; omega) | (rw [List.length_append]; unfold maxLen; omega)) (by first | omega | (rw [List.length_append]; omega)) HB.out.size ?_))
        intro v1 w1 hown1 hg1 hat1
        have HB1 := Lib.hid (HB.out.grown hg1 HB.out.size (fun kk hkk => (HO.out.lt kk hkk).1))
        have HO1 : Hid (w1.ownsRow w.heap.size 2 1 v1 (acc ++ xF).length (vI (acc ++ xF))) := by unfold Hid; rw [List.length_append, vI_append]; first | exact hown1 | (rw [List.length_append]; exact hown1)
        clear hown1 hg1 hat1 HO HB y0 y1 y2 y3 y4 y5 y6
        have HB := HB1
        have HO := HO1
        clear HB1 HO1
        obtain ⟨y0, y1, y2, y3, y4, y5, y6⟩ := (HC.out.below HB.out hgl).seven
        obtain ⟨zn, hzn⟩ := Int.eq_ofNat_of_zero_le (inB_iff.1 I2.out).1
        have hzf : zn < nb := by have := (inB_iff.1 I2.out).2; omega
        obtain ⟨bG, oG, xG, sG, hAG, hbbG, hlG, hcG, hsG⟩ := (RdLL.below HG.out HB.out).at_ hzf
        obtain ⟨AsG, csG, rfl⟩ := hsG.len
        have hxG4 : xG.length ≤ 4 := by have := onL_len HOK.out (2, x - m.rk); rw [onL_bk hzn hlG] at this; exact this
        have HXG := Lib.hid (onL_bk hzn hlG)
        have HRG := Lib.hid (hsG.reads).1
        have hzi0 : (0 : Int) ≤ x - m.rk := by omega
        have hzi1 : x - m.rk < (nb : Int) := by omega
        have hzt : (x - m.rk).toNat = zn := by omega
        subst hAG
        rw [← hzt] at hcG
        clear hlG hsG hzt hzn
        have HD := Lib.hid (show Y = ((acc ++ xF) ++ xG) ++ (ndGo m (m.wd + 3 - (x + 1)).toNat (x + 1)).flatMap (onL m) by rw [HN1.out]; simp [HXF.out, HXG.out])
        clear hb2
        go_wp2_with (first | (go_at_call 49; refine (l00In_s _ _ _ _).mono ?_; rintro e w' ⟨rfl, rfl⟩; first | rw [I1.out] | rw [I2.out]) | (at_builtin; refine wpList_append_any _ rfl _ _ _ rfl w.heap.size 2 i0 _ 1 8 Try.underlying39 hi hz0 hz1 hz2 rfl (by decide) _ _ _ rfl HO.out _ AsG xG.length csG (vI xG) rfl HRG.out (vI_one xG) (by first | (unfold maxLen; omega) | (rw [List.length_append]; unfold maxLen; omega)) (by first | omega | (rw [List.length_append]; omega)) HB.out.size ?_))
        intro v2 w2 hown2 hg2 hat2
        have HB2 := Lib.hid (HB.out.grown hg2 HB.out.size (fun kk hkk => (HO.out.lt kk hkk).1))
        have HO2 : Hid (w2.ownsRow w.heap.size 2 1 v2 ((acc ++ xF) ++ xG).length (vI ((acc ++ xF) ++ xG))) := by unfold Hid; rw [List.length_append, vI_append]; first | exact hown2 | (rw [List.length_append]; exact hown2)
        clear hown2 hg2 hat2 HO HB y0 y1 y2 y3 y4 y5 y6
        have HB := HB2
        have HO := HO2
        clear HB2 HO2
        obtain ⟨y0, y1, y2, y3, y4, y5, y6⟩ := (HC.out.below HB.out hgl).seven
        go_wp2
        exact ⟨⟨x + 1, (acc ++ xF) ++ xG, by omega, by omega, by go_num, HO.out, by simp; omega, HD.out, HB.out⟩, by simp [intOf]; omega⟩
    · have HB := Lib.hid hb
      have HO := Lib.hid hown
      have HD := Lib.hid (show Y = acc by rw [hd.out, show (m.wd + 3 - x).toNat = 0 by omega]; simp [ndGo])
      clear hb hown hd
      go_wp2
      go_ret
      exact ⟨_, rfl, by rw [HD.out]; exact OwC.of_own HO.out, HB.out⟩

end Go.Proofs.Ytolcgopfbbmjgaa
