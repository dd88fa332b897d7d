/-
  The program's readYarn.
-/
import Derived.Test.YtgkapjjolhnliaaDoorRdC
import Derived.Test.YtgkapjjolhnliaaDoorRdE
namespace Go.Proofs.YtgkapjjolhnliaaDoor
set_option linter.unusedVariables false
set_option linter.unusedSimpArgs false
open Go.RowKit Go.Shelf

/-- What readYarn leaves. -/
def YarnC (B : Nat) (w0 : World) (gr gw ge : Nat) (ws : List (List UInt8)) (k p c : Int) (xl : List UInt8) (e : Ending) (w' : World) : Prop :=
  e = .returned (.tuple #[]) ∧ ∃ b y d, RdSt B w0 w' gr gw ge ws k p c b y d ∧ ((3 ≤ xl.length ∧ YarnR xl ⟨k, p, c, b, y, d⟩) ∨ (¬ 3 ≤ xl.length ∧ Bare ⟨k, p, c, b, y, d⟩))
set_option maxHeartbeats 8000000 in
set_option maxRecDepth 100000 in
theorem readYarn_any (xl : List UInt8) (hx : xl.length ≤ 1048576) (B0 : Nat) (w0 wq : World) (gr gw ge : Nat) (ws : List (List UInt8)) (k p c : Int) (hB : B0 ≤ w0.heap.size) (hL : LibW B0 w0) (h : RdSt w0.heap.size w0 wq gr gw ge ws k p c 0 0 0) :
    Calls Tryd.prog 22 #[.pointer (some ⟨ge, 0, none⟩), strV xl] wq (YarnC w0.heap.size w0 gr gw ge ws k p c xl) := by
  have HR := Lib.hid h
  have HLW := Lib.hid hL
  have HB0 := Lib.hid hB
  obtain ⟨d0, d1, d2, d3, d4, d5⟩ := h.box.six
  have df := h.box.2.1
  obtain ⟨bs, hbs⟩ : ∃ bs : ByteArray, bs = ⟨xl.toArray⟩ := ⟨_, rfl⟩
  have HBL : Hid (bs.data.toList = xl) := by unfold Hid; rw [hbs]
  have HBZ : Hid (bs.size = xl.length) := by unfold Hid; rw [← ba_len, HBL.out]
  rw [show strV xl = .string bs by rw [hbs]; rfl]
  clear hbs hB hL h
  by_cases hlt : bs.size < 3
  · have Hn := Lib.hid (show ¬ 3 ≤ xl.length by rw [← HBZ.out]; omega)
    go_enter Tryd.func22, Tryd.ntmps22
    go_wp2
    go_end0
    exact ⟨rfl, 0, 0, 0, HR.out, .inr ⟨Hn.out, rfl, rfl, rfl⟩⟩
  have Hn := Lib.hid (show 3 ≤ xl.length by rw [← HBZ.out]; omega)
  have HG0 := Lib.hid (ba_getD bs xl HBL.out 0 (by omega))
  have HG1 := Lib.hid (ba_getD bs xl HBL.out 1 (by omega))
  have hN : ∀ (W : World), B0 ≤ W.heap.size → LibW B0 W → Calls Tryd.prog 21 #[.string (bs.extract 2 bs.size)] W (NumC (bs.extract 2 bs.size).data.toList W) := fun W h1 h2 => ReadDecimal_any (bs.extract 2 bs.size) (by have := HBZ.out; simp; omega) B0 W h1 h2
  have HNL := Lib.hid hN
  have HDR : Hid ((bs.extract 2 bs.size).data.toList = xl.drop 2) := by unfold Hid; rw [ba_drop, HBL.out]
  have P3 := Lib.hid (HR.out.put (i := 3) (by omega) (.int .i64 1) (k' := k) (p' := p) (c' := c) (b' := 1) (y' := 0) (d' := 0) rfl)
  clear hN
  obtain ⟨q0, hq0⟩ : ∃ q0 : Bool, (((bs[0]).toNat : Int) == 98) = q0 := ⟨_, rfl⟩
  obtain ⟨q1, hq1⟩ : ∃ q1 : Bool, (((bs[1]).toNat : Int) == 45) = q1 := ⟨_, rfl⟩
  have HB0b : Hid ((xl.getD 0 0 = 98) ↔ q0 = true) := by rw [HG0.out, ← hq0]; exact ba_num _ 98 (by omega)
  have HB1 : Hid ((xl.getD 1 0 = 45) ↔ q1 = true) := by rw [HG1.out, ← hq1]; exact ba_num _ 45 (by omega)
  clear HG0 HG1
  go_enter Tryd.func22, Tryd.ntmps22
  rcases q0 with _ | _ <;> rcases q1 with _ | _
  · have PB := P3
    have PD := Lib.hid (PB.out.put (i := 5) (by omega) (.int .i64 1) (k' := k) (p' := p) (c' := c) (b' := 1) (y' := 0) (d' := 1) rfl)
    clear P3 PB
    go_upto_region 7 with fail
    generalize (wq.setCell ⟨ge, 3, none⟩ (.int .i64 1)).setCell ⟨ge, 5, none⟩ (.int .i64 1) = W5 at *
    have HL5 := Lib.hid (HLW.out.on (PD.out.below.mono HB0.out))
    go_wp2_with (go_at_call 21; refine (HNL.out _ (Nat.le_trans HB0.out (Nat.le_trans PD.out.below.size (Nat.le_refl _))) HL5.out).mono ?_; rintro e w6 ⟨y, oky, rfl, hNum, hb6⟩; have HNY : Hid (NumR (xl.drop 2) y) := HDR.out ▸ hNum; have HS6 := Lib.hid (PD.out.on hb6); have P7 := Lib.hid (HS6.out.put (i := 4) (by omega) (.int .i64 y) (k' := k) (p' := p) (c' := c) (b' := 1) (y' := y) (d' := 1) rfl); clear d0 d1 d2 d3 d4 d5 df hNum hb6; obtain ⟨d0, d1, d2, d3, d4, d5⟩ := HS6.out.box.six; have df := HS6.out.box.2.1)
    go_end0
    exact ⟨rfl, 1, y, 1, P7.out, .inl ⟨Hn.out, by rw [if_neg (fun e => by have := HB0b.out.1 e; cases this)], by rw [if_neg (fun e => by have := HB1.out.1 e; cases this)], HNY.out⟩⟩
  · have PB := P3
    have PD := Lib.hid (PB.out.put (i := 5) (by omega) (.int .i64 1) (k' := k) (p' := p) (c' := c) (b' := 1) (y' := 0) (d' := 1) rfl)
    replace PD := Lib.hid (PD.out.put (i := 5) (by omega) (.int .i64 (-1)) (k' := k) (p' := p) (c' := c) (b' := 1) (y' := 0) (d' := -1) rfl)
    clear P3 PB
    go_upto_region 7 with fail
    generalize ((wq.setCell ⟨ge, 3, none⟩ (.int .i64 1)).setCell ⟨ge, 5, none⟩ (.int .i64 1)).setCell ⟨ge, 5, none⟩ (.int .i64 (-1)) = W5 at *
    have HL5 := Lib.hid (HLW.out.on (PD.out.below.mono HB0.out))
    go_wp2_with (go_at_call 21; refine (HNL.out _ (Nat.le_trans HB0.out (Nat.le_trans PD.out.below.size (Nat.le_refl _))) HL5.out).mono ?_; rintro e w6 ⟨y, oky, rfl, hNum, hb6⟩; have HNY : Hid (NumR (xl.drop 2) y) := HDR.out ▸ hNum; have HS6 := Lib.hid (PD.out.on hb6); have P7 := Lib.hid (HS6.out.put (i := 4) (by omega) (.int .i64 y) (k' := k) (p' := p) (c' := c) (b' := 1) (y' := y) (d' := -1) rfl); clear d0 d1 d2 d3 d4 d5 df hNum hb6; obtain ⟨d0, d1, d2, d3, d4, d5⟩ := HS6.out.box.six; have df := HS6.out.box.2.1)
    go_end0
    exact ⟨rfl, 1, y, -1, P7.out, .inl ⟨Hn.out, by rw [if_neg (fun e => by have := HB0b.out.1 e; cases this)], by rw [if_pos (HB1.out.2 (by first | rfl | trivial))], HNY.out⟩⟩
  · have PB := Lib.hid (P3.out.put (i := 3) (by omega) (.int .i64 2) (k' := k) (p' := p) (c' := c) (b' := 2) (y' := 0) (d' := 0) rfl)
    have PD := Lib.hid (PB.out.put (i := 5) (by omega) (.int .i64 1) (k' := k) (p' := p) (c' := c) (b' := 2) (y' := 0) (d' := 1) rfl)
    clear P3 PB
    go_upto_region 7 with fail
    generalize ((wq.setCell ⟨ge, 3, none⟩ (.int .i64 1)).setCell ⟨ge, 3, none⟩ (.int .i64 2)).setCell ⟨ge, 5, none⟩ (.int .i64 1) = W5 at *
    have HL5 := Lib.hid (HLW.out.on (PD.out.below.mono HB0.out))
    go_wp2_with (go_at_call 21; refine (HNL.out _ (Nat.le_trans HB0.out (Nat.le_trans PD.out.below.size (Nat.le_refl _))) HL5.out).mono ?_; rintro e w6 ⟨y, oky, rfl, hNum, hb6⟩; have HNY : Hid (NumR (xl.drop 2) y) := HDR.out ▸ hNum; have HS6 := Lib.hid (PD.out.on hb6); have P7 := Lib.hid (HS6.out.put (i := 4) (by omega) (.int .i64 y) (k' := k) (p' := p) (c' := c) (b' := 2) (y' := y) (d' := 1) rfl); clear d0 d1 d2 d3 d4 d5 df hNum hb6; obtain ⟨d0, d1, d2, d3, d4, d5⟩ := HS6.out.box.six; have df := HS6.out.box.2.1)
    go_end0
    exact ⟨rfl, 2, y, 1, P7.out, .inl ⟨Hn.out, by rw [if_pos (HB0b.out.2 (by first | rfl | trivial))], by rw [if_neg (fun e => by have := HB1.out.1 e; cases this)], HNY.out⟩⟩
  · have PB := Lib.hid (P3.out.put (i := 3) (by omega) (.int .i64 2) (k' := k) (p' := p) (c' := c) (b' := 2) (y' := 0) (d' := 0) rfl)
    have PD := Lib.hid (PB.out.put (i := 5) (by omega) (.int .i64 1) (k' := k) (p' := p) (c' := c) (b' := 2) (y' := 0) (d' := 1) rfl)
    replace PD := Lib.hid (PD.out.put (i := 5) (by omega) (.int .i64 (-1)) (k' := k) (p' := p) (c' := c) (b' := 2) (y' := 0) (d' := -1) rfl)
    clear P3 PB
    go_upto_region 7 with fail
    generalize (((wq.setCell ⟨ge, 3, none⟩ (.int .i64 1)).setCell ⟨ge, 3, none⟩ (.int .i64 2)).setCell ⟨ge, 5, none⟩ (.int .i64 1)).setCell ⟨ge, 5, none⟩ (.int .i64 (-1)) = W5 at *
    have HL5 := Lib.hid (HLW.out.on (PD.out.below.mono HB0.out))
    go_wp2_with (go_at_call 21; refine (HNL.out _ (Nat.le_trans HB0.out (Nat.le_trans PD.out.below.size (Nat.le_refl _))) HL5.out).mono ?_; rintro e w6 ⟨y, oky, rfl, hNum, hb6⟩; have HNY : Hid (NumR (xl.drop 2) y) := HDR.out ▸ hNum; have HS6 := Lib.hid (PD.out.on hb6); have P7 := Lib.hid (HS6.out.put (i := 4) (by omega) (.int .i64 y) (k' := k) (p' := p) (c' := c) (b' := 2) (y' := y) (d' := -1) rfl); clear d0 d1 d2 d3 d4 d5 df hNum hb6; obtain ⟨d0, d1, d2, d3, d4, d5⟩ := HS6.out.box.six; have df := HS6.out.box.2.1)
    go_end0
    exact ⟨rfl, 2, y, -1, P7.out, .inl ⟨Hn.out, by rw [if_pos (HB0b.out.2 (by first | rfl | trivial))], by rw [if_pos (HB1.out.2 (by first | rfl | trivial))], HNY.out⟩⟩

end Go.Proofs.YtgkapjjolhnliaaDoor
