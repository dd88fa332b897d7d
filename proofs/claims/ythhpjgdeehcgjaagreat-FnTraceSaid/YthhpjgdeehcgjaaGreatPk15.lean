/-
  Texts joined: RkI, RkL, RkS, RkO, RkP, RkQ, RkR.
-/
import Derived.Test.YthhpjgdeehcgjaaGreatPk12
import Derived.Test.YthhpjgdeehcgjaaGreatPk13
import Derived.Test.YthhpjgdeehcgjaaGreatPk14
/-
  The program's crossings of all the steps to a rack.
-/
namespace Go.Proofs.YthhpjgdeehcgjaaGreat
set_option linter.unusedVariables false
set_option linter.unusedSimpArgs false
open Go.RowKit

theorem rackEvents_any (m : Mc) (g : Nat) (w : World) (h : RdP w g m) (ok : okM m = true) (up : Bool) :
    Calls Tryz.prog 92 #[.pointer (some ⟨g, 0, none⟩), .int .i64 (if up = true then 1 else -1)] w (GivesOw w 47 6 (crEs (rkS m up)).length (vE (crEs (rkS m up)))) := by
  obtain ⟨d1, -, d3, -⟩ := ok_wd ok
  rw [← rk_same d1 d3 up]
  cases up with
  | true => exact rackEvents_up m g w h ok true rfl
  | false => exact rackEvents_dn m g w h ok false rfl
/-- A copy of a machine's header, the rack another. -/
theorem RdP.copy {w w' : World} {m : Mc} {F G C L D : Value} {nb : Nat} {r : Int} (h1 : RdLL w w.heap.size F m.fr) (h2 : RdLL w w.heap.size G m.bk) (h3 : RdCs w w.heap.size C m.cs) (h4 : RdIs w w.heap.size L m.ls) (h5 : RdI w w.heap.size D m.dr) (h6 : CapOk D)
    (hb : Below w.heap.size w w') (hc : CellsAt w' nb 0 [.int .i64 m.wd, .int .i64 r, F, G, C, L, D]) : RdP w' nb (rkM m r) :=
  ⟨F, G, C, L, D, hc, RdLL.more (RdLL.below h1 hb) hb.size, RdLL.more (RdLL.below h2 hb) hb.size, (RdS.below h3 hb).more hb.size, RdIs.more (RdIs.below h4 hb) hb.size, (h5.below hb).more hb.size, h6⟩
theorem crEs_app (a b : List (Int × Int)) : crEs (a ++ b) = crEs a ++ crEs b := by simp [crEs]

set_option maxHeartbeats 8000000 in
set_option maxRecDepth 100000 in
theorem rackAll_any (m : Mc) (g : Nat) (w : World) (h : RdP w g m) (ok : okM m = true) (R : Int) (hR0 : -3 ≤ R) (hR1 : R ≤ 3) :
    Calls Tryz.prog 56 #[.pointer (some ⟨g, 0, none⟩), .int .i64 R] w (GivesOw w 47 6 (crEs (rkAll m R)).length (vE (crEs (rkAll m R)))) := by
  obtain ⟨i0, hi, hz0, hz1, hz2⟩ := info_parts info_ev
  obtain ⟨d1, d2, d3, d4, -, -, -⟩ := ok_wd ok
  obtain ⟨F, G, C, Lv, D, hc, h1, h2, h3, h4, h5, h6⟩ := h
  have hgl : g < w.heap.size := block_lt_of_cell hc.seven.1
  have HCP := Lib.hid (fun (w' : World) (r : Int) (hb : Below w.heap.size w w') (hx : CellsAt w' w.heap.size 0 [.int .i64 m.wd, .int .i64 r, F, G, C, Lv, D]) => RdP.copy h1 h2 h3 h4 h5 h6 hb hx)
  have HOK := Lib.hid ok
  obtain ⟨AF, cF, rfl⟩ := RdN.shape h1
  obtain ⟨AB, cB, rfl⟩ := RdN.shape h2
  obtain ⟨AC, nC, cC, e3, -⟩ := id h3
  subst e3
  obtain ⟨AL, cL, rfl⟩ := RdN.shape h4
  obtain ⟨AD, nD, cD, rfl⟩ := RdI.shape' h5
  obtain ⟨x0, x1, x2, x3, x4, x5, x6⟩ := hc.seven
  obtain ⟨Y, hYE⟩ : ∃ Y, Y = crEs (rkAll m R) := ⟨_, rfl⟩
  rw [← hYE]
  have HY := Lib.hid (show Y = [] ++ crEs (rkAll (rkM m m.rk) R) by rw [hYE]; rfl)
  have BX := Lib.hid (Bx.new w [.int .i64 m.wd, .int .i64 m.rk, .slice AF m.fr.length cF, .slice AB m.bk.length cB, .slice AC nC cC, .slice AL m.ls.length cL, .slice AD nD cD] 34)
  have BW := Lib.hid ((Below.refl w.heap.size w).alloc (Nat.le_refl _) (.cells #[.int .i64 m.wd, .int .i64 m.rk, .slice AF m.fr.length cF, .slice AB m.bk.length cB, .slice AC nC cC, .slice AL m.ls.length cL, .slice AD nD cD] 34))
  have hs0 : (w.alloc (.cells #[.int .i64 m.wd, .int .i64 m.rk, .slice AF m.fr.length cF, .slice AB m.bk.length cB, .slice AC nC cC, .slice AL m.ls.length cL, .slice AD nD cD] 34)).heap.size = w.heap.size + 1 := by simp
  have hO0 := (World.ownsRow_lit (base := w.heap.size + 1) (e := 47) (size := 6) (w.alloc (.cells #[.int .i64 m.wd, .int .i64 m.rk, .slice AF m.fr.length cF, .slice AB m.bk.length cB, .slice AC nC cC, .slice AL m.ls.length cL, .slice AD nD cD] 34)) #[] 0 (by rw [hs0]; omega) (by unfold maxLen; omega) rfl)
  rw [hs0] at hO0
  have HO0 := Lib.hid hO0
  clear hc h1 h2 h3 h4 h5 h6 ok hYE hO0
  go_enter Tryz.func56, Tryz.ntmps56
  go_wp2
  go_loopw [6] (fun v wr => ∃ (r : Int) (acc : List Ev), -3 ≤ r ∧ r ≤ 3 ∧ wr.ownsRow (w.heap.size + 1) 47 6 v acc.length (vE acc) ∧ acc.length + 384 * (R - r).natAbs ≤ 2304 ∧ Hid (Y = acc ++ crEs (rkAll (rkM m r) R)) ∧ Hid (Bx wr w.heap.size [.int .i64 m.wd, .int .i64 r, .slice AF m.fr.length cF, .slice AB m.bk.length cB, .slice AC nC cC, .slice AL m.ls.length cL, .slice AD nD cD]) ∧ Hid (Below w.heap.size w wr)) (fun _ wr => match wr.cell? ⟨w.heap.size, 1, none⟩ with | some (.int _ r) => (R - r).natAbs | _ => 0)
  case atStart => exact ⟨m.rk, [], d3, d4, HO0.out, by simp; omega, HY.out, BX.out.alloc _, BW.out.alloc BW.out.size _⟩
  case round =>
    rename_i wr
    obtain ⟨r, acc, r0, r1, hown, hac, hd, hx, hb⟩ := hrel
    obtain ⟨y0, y1, y2, y3, y4, y5, y6⟩ := hx.out.1.seven
    have hfz := hx.out.2.1 1
    have hnw : w.heap.size < wr.heap.size := hx.out.2.2
    have HO := Lib.hid hown
    clear hown
    have hokr := okM_rk HOK.out r0 r1
    have hrp := HCP.out wr r hb.out hx.out.1
    by_cases he : r = R
    · subst he
      have HD := Lib.hid (show Y = acc by rw [hd.out, show rkAll (rkM m r) r = [] from rkAll_eq (rkM m r)]; simp [crEs])
      clear hd
      go_wp2
      go_ret
      exact ⟨_, rfl, by rw [HD.out]; exact (OwC.of_own HO.out).wide (by omega) (Nat.le_refl _), hb.out⟩
    · by_cases hl : R < r
      · have HDN := Lib.hid (show Y = (acc ++ crEs (rkS (rkM m r) false)) ++ crEs (rkAll (rkM m (r - 1)) R) by rw [hd.out, rkAll_dn (m := rkM m r) (r := R) hl, crEs_app, List.append_assoc]; rfl)
        have HQ := Lib.hid (rackEvents_any (rkM m r) w.heap.size wr hrp hokr false)
        have hlen : (crEs (rkS (rkM m r) false)).length ≤ 384 := by unfold crEs; rw [List.length_map]; exact rkS_len hokr false
        generalize crEs (rkS (rkM m r) false) = X at *
        have hne : (r == R) = false := by simpa using he
        clear hd hrp hokr he
        go_wp2_with fail
        refine (HQ.out).mono ?_
        rintro e w2 ⟨v2, rfl, ho2, hb2⟩
        obtain ⟨A2, c2, rfl, -⟩ := ho2.cells
        have HRD := Lib.hid (RdS.reads Ev.len (by decide) (RdS.of_own Ev.len ho2)).1
        have HO2 := Lib.hid (own_below HO.out hb2)
        have HX2 := Lib.hid (hx.out.below hb2 hx.out.2.2)
        have HB2 := Lib.hid (hb.out.trans (hb2.mono hb.out.size))
        have hsz2 : w.heap.size + 1 ≤ w2.heap.size := by have := hb2.size; omega
        clear ho2 hb2 y0 y1 y2 y3 y4 y5 y6
        go_wp2_with (at_builtin; refine wpList_append_any _ rfl _ _ _ rfl (w.heap.size + 1) 47 i0 _ 6 48 Tryz.underlying26 hi hz0 hz1 hz2 rfl (by decide) _ _ _ rfl HO2.out _ A2 X.length c2 (vE X) rfl HRD.out (vE_one X) (by unfold maxLen; omega) (by omega) hsz2 ?_; intro v5 w5 hown5 hg5 hat5; obtain ⟨y0, y1, y2, y3, y4, y5, y6⟩ := ((HX2.out).keep (hg5.block w.heap.size (by omega) (fun e => by have h9 := (World.ownsRow.lt HO2.out _ e.symm).1; omega)) hg5.size).1.seven; have hf5 := ((HX2.out).keep (hg5.block w.heap.size (by omega) (fun e => by have h9 := (World.ownsRow.lt HO2.out _ e.symm).1; omega)) hg5.size).2.1 1)
        have HX5 := Lib.hid ((HX2.out).keep (hg5.block w.heap.size (by omega) (fun e => by have h9 := (World.ownsRow.lt HO2.out _ e.symm).1; omega)) hg5.size)
        have HB5 := Lib.hid (HB2.out.grown hg5 (by omega) (fun q' hq' => by have := (World.ownsRow.lt HO2.out q' hq').1; omega))
        have HO5 : Hid (w5.ownsRow (w.heap.size + 1) 47 6 v5 (acc ++ X).length (vE (acc ++ X))) := by unfold Hid; rw [List.length_append, vE_app]; exact hown5
        have HX6 := Lib.hid (HX5.out.set (i := 1) (by simp) (.int .i64 (r + -1)))
        have HO6 := Lib.hid (own_far HO5.out (p := ⟨w.heap.size, 1, none⟩) (fun e => by have h9 := (World.ownsRow.lt HO5.out _ e).1; simp at h9; omega) (.int .i64 (r + -1)))
        have HB6 := Lib.hid (HB5.out.setCell (p := ⟨w.heap.size, 1, none⟩) (Nat.le_refl _) (.int .i64 (r + -1)))
        clear hown5 hg5 hat5
        go_wp2
        refine ⟨⟨r + -1, acc ++ X, by omega, by omega, HO6.out, by rw [List.length_append]; omega, HDN, HX6, HB6⟩, ?_⟩
        have q1 : (w5.setCell ⟨w.heap.size, 1, none⟩ (.int .i64 (r + -1))).cell? ⟨w.heap.size, 1, none⟩ = some (.int .i64 (r + -1)) := HX6.out.1.seven.2.1
        have q2 : wr.cell? ⟨w.heap.size, 1, none⟩ = some (.int .i64 r) := hx.out.1.seven.2.1
        rw [q1, q2]
        show (R - (r + -1)).natAbs < (R - r).natAbs
        omega
      · have hl2 : r < R := by omega
        have HDN := Lib.hid (show Y = (acc ++ crEs (rkS (rkM m r) true)) ++ crEs (rkAll (rkM m (r + 1)) R) by rw [hd.out, rkAll_up (m := rkM m r) (r := R) (show r < R by omega), crEs_app, List.append_assoc]; rfl)
        have HQ := Lib.hid (rackEvents_any (rkM m r) w.heap.size wr hrp hokr true)
        have hlen : (crEs (rkS (rkM m r) true)).length ≤ 384 := by unfold crEs; rw [List.length_map]; exact rkS_len hokr true
        generalize crEs (rkS (rkM m r) true) = X at *
        have hne : (r == R) = false := by simpa using he
        clear hd hrp hokr he
        go_wp2_with fail
        refine (HQ.out).mono ?_
        rintro e w2 ⟨v2, rfl, ho2, hb2⟩
        obtain ⟨A2, c2, rfl, -⟩ := ho2.cells
        have HRD := Lib.hid (RdS.reads Ev.len (by decide) (RdS.of_own Ev.len ho2)).1
        have HO2 := Lib.hid (own_below HO.out hb2)
        have HX2 := Lib.hid (hx.out.below hb2 hx.out.2.2)
        have HB2 := Lib.hid (hb.out.trans (hb2.mono hb.out.size))
        have hsz2 : w.heap.size + 1 ≤ w2.heap.size := by have := hb2.size; omega
        clear ho2 hb2 y0 y1 y2 y3 y4 y5 y6
        go_wp2_with (at_builtin; refine wpList_append_any _ rfl _ _ _ rfl (w.heap.size + 1) 47 i0 _ 6 48 Tryz.underlying26 hi hz0 hz1 hz2 rfl (by decide) _ _ _ rfl HO2.out _ A2 X.length c2 (vE X) rfl HRD.out (vE_one X) (by unfold maxLen; omega) (by omega) hsz2 ?_; intro v5 w5 hown5 hg5 hat5; obtain ⟨y0, y1, y2, y3, y4, y5, y6⟩ := ((HX2.out).keep (hg5.block w.heap.size (by omega) (fun e => by have h9 := (World.ownsRow.lt HO2.out _ e.symm).1; omega)) hg5.size).1.seven; have hf5 := ((HX2.out).keep (hg5.block w.heap.size (by omega) (fun e => by have h9 := (World.ownsRow.lt HO2.out _ e.symm).1; omega)) hg5.size).2.1 1)
        have HX5 := Lib.hid ((HX2.out).keep (hg5.block w.heap.size (by omega) (fun e => by have h9 := (World.ownsRow.lt HO2.out _ e.symm).1; omega)) hg5.size)
        have HB5 := Lib.hid (HB2.out.grown hg5 (by omega) (fun q' hq' => by have := (World.ownsRow.lt HO2.out q' hq').1; omega))
        have HO5 : Hid (w5.ownsRow (w.heap.size + 1) 47 6 v5 (acc ++ X).length (vE (acc ++ X))) := by unfold Hid; rw [List.length_append, vE_app]; exact hown5
        have HX6 := Lib.hid (HX5.out.set (i := 1) (by simp) (.int .i64 (r + 1)))
        have HO6 := Lib.hid (own_far HO5.out (p := ⟨w.heap.size, 1, none⟩) (fun e => by have h9 := (World.ownsRow.lt HO5.out _ e).1; simp at h9; omega) (.int .i64 (r + 1)))
        have HB6 := Lib.hid (HB5.out.setCell (p := ⟨w.heap.size, 1, none⟩) (Nat.le_refl _) (.int .i64 (r + 1)))
        clear hown5 hg5 hat5
        go_wp2
        refine ⟨⟨r + 1, acc ++ X, by omega, by omega, HO6.out, by rw [List.length_append]; omega, HDN, HX6, HB6⟩, ?_⟩
        have q1 : (w5.setCell ⟨w.heap.size, 1, none⟩ (.int .i64 (r + 1))).cell? ⟨w.heap.size, 1, none⟩ = some (.int .i64 (r + 1)) := HX6.out.1.seven.2.1
        have q2 : wr.cell? ⟨w.heap.size, 1, none⟩ = some (.int .i64 r) := hx.out.1.seven.2.1
        rw [q1, q2]
        show (R - (r + 1)).natAbs < (R - r).natAbs
        omega

end Go.Proofs.YthhpjgdeehcgjaaGreat

/-
  The events of an operation, in plain Lean; the program's opEvents.
-/
namespace Go.Proofs.YthhpjgdeehcgjaaGreat
set_option linter.unusedVariables false
set_option linter.unusedSimpArgs false
open Go.RowKit

/-- The events of an operation that can be executed. -/
def evD (m : Mc) (x : Opr) : List Ev :=
  if x.k = 1 then [⟨2, befS m x.f, szN m x.f, x.fb, x.c, x.d⟩]
  else if x.k = 2 then [⟨3, befS m x.f + szN m x.f, 0, x.fb, x.c, x.d⟩]
  else if x.k = 5 then [⟨5, if x.fb = 2 then befS m x.f + szN m x.f else befS m x.f, szN m x.f, x.fb, x.c, x.d⟩]
  else if x.k = 6 then [⟨4, befS m x.f, szN m x.f, 0, 0, 0⟩]
  else if x.k = 7 then crEs (rkAll m x.r) else []
theorem evD1 {m : Mc} {x : Opr} (h : x.k = 1) : evD m x = [⟨2, befS m x.f, szN m x.f, x.fb, x.c, x.d⟩] := by unfold evD; rw [if_pos h]
theorem evD2 {m : Mc} {x : Opr} (h : x.k = 2) : evD m x = [⟨3, befS m x.f + szN m x.f, 0, x.fb, x.c, x.d⟩] := by unfold evD; rw [if_neg (by omega), if_pos h]
theorem evD5 {m : Mc} {x : Opr} (h : x.k = 5) : evD m x = [⟨5, if x.fb = 2 then befS m x.f + szN m x.f else befS m x.f, szN m x.f, x.fb, x.c, x.d⟩] := by unfold evD; rw [if_neg (by omega), if_neg (by omega), if_pos h]
theorem evD6 {m : Mc} {x : Opr} (h : x.k = 6) : evD m x = [⟨4, befS m x.f, szN m x.f, 0, 0, 0⟩] := by unfold evD; rw [if_neg (by omega), if_neg (by omega), if_neg (by omega), if_pos h]
theorem evD7 {m : Mc} {x : Opr} (h : x.k = 7) : evD m x = crEs (rkAll m x.r) := by unfold evD; rw [if_neg (by omega), if_neg (by omega), if_neg (by omega), if_neg (by omega), if_pos h]
theorem evD0 {m : Mc} {x : Opr} (h1 : x.k ≠ 1) (h2 : x.k ≠ 2) (h5 : x.k ≠ 5) (h6 : x.k ≠ 6) (h7 : x.k ≠ 7) : evD m x = [] := by unfold evD; rw [if_neg h1, if_neg h2, if_neg h5, if_neg h6, if_neg h7]
theorem ow_one (w : World) (B : Nat) (hB : B ≤ w.heap.size) (e : Ev) : OwC (w.alloc (.cells #[.int .i64 e.k, .int .i64 e.p, .int .i64 e.c, .int .i64 e.b, .int .i64 e.y, .int .i64 e.d] 47)) B (w.alloc (.cells #[.int .i64 e.k, .int .i64 e.p, .int .i64 e.c, .int .i64 e.b, .int .i64 e.y, .int .i64 e.d] 47)).heap.size 47 6 (.slice (some ⟨w.heap.size, 0, none⟩) 1 1) [e].length (vE [e]) :=
  OwC.of_own (World.ownsRow_lit (base := B) (e := 47) (size := 6) w #[.int .i64 e.k, .int .i64 e.p, .int .i64 e.c, .int .i64 e.b, .int .i64 e.y, .int .i64 e.d] 1 hB (by unfold maxLen; omega) rfl)

theorem ow_one2 {W : World} {B N : Nat} (hB : B ≤ W.heap.size) (hN : N = W.heap.size) (e : Ev) : OwC (W.alloc (.cells #[.int .i64 e.k, .int .i64 e.p, .int .i64 e.c, .int .i64 e.b, .int .i64 e.y, .int .i64 e.d] 47)) B (W.alloc (.cells #[.int .i64 e.k, .int .i64 e.p, .int .i64 e.c, .int .i64 e.b, .int .i64 e.y, .int .i64 e.d] 47)).heap.size 47 6 (.slice (some ⟨N, 0, none⟩) 1 1) [e].length (vE [e]) := by
  subst hN
  exact ow_one W B hB e

end Go.Proofs.YthhpjgdeehcgjaaGreat

/-
  How many events an operation has.
-/
namespace Go.Proofs.YthhpjgdeehcgjaaGreat
set_option linter.unusedVariables false
set_option linter.unusedSimpArgs false
open Go.RowKit

theorem rkUp_len : ∀ (f : Nat) (m : Mc), okM m = true → m.rk + (f : Int) ≤ 3 → (rkUp f m).length ≤ 384 * f
  | 0, m, _, _ => by simp [rkUp]
  | f + 1, m, ok, h => by
    obtain ⟨-, -, d3, d4, -⟩ := ok_wd ok
    have h1 := rkS_len ok true
    have h2 := rkUp_len f (rkM m (m.rk + 1)) (okM_rk ok (by omega) (by omega)) (by show m.rk + 1 + (f : Int) ≤ 3; omega)
    rw [rkUp, List.length_append]
    omega
theorem rkDn_len : ∀ (f : Nat) (m : Mc), okM m = true → -3 ≤ m.rk - (f : Int) → (rkDn f m).length ≤ 384 * f
  | 0, m, _, _ => by simp [rkDn]
  | f + 1, m, ok, h => by
    obtain ⟨-, -, d3, d4, -⟩ := ok_wd ok
    have h1 := rkS_len ok false
    have h2 := rkDn_len f (rkM m (m.rk - 1)) (okM_rk ok (by omega) (by omega)) (by show -3 ≤ m.rk - 1 - (f : Int); omega)
    rw [rkDn, List.length_append]
    omega
theorem rkAll_len {m : Mc} {r : Int} (ok : okM m = true) (h0 : -3 ≤ r) (h1 : r ≤ 3) : (rkAll m r).length ≤ 2304 := by
  obtain ⟨-, -, d3, d4, -⟩ := ok_wd ok
  unfold rkAll
  split
  · have := rkUp_len (r - m.rk).toNat m ok (by omega)
    omega
  · have := rkDn_len (m.rk - r).toNat m ok (by omega)
    omega
theorem evD_len {m : Mc} {x : Opr} (ok : okM m = true) (hx : okOpW m.wd x = true) : (evD m x).length ≤ 2304 := by
  unfold evD
  repeat' split
  all_goals first | (simp; done) | skip
  rename_i h7
  have hx := (okOpW_iff.1 hx).1
  have hr : -3 ≤ x.r ∧ x.r ≤ 3 := by
    rcases okOp_kinds hx with h | h | h | h | h | h | h <;> omega
  unfold crEs
  rw [List.length_map]
  exact rkAll_len ok hr.1 hr.2

end Go.Proofs.YthhpjgdeehcgjaaGreat

/-
  The reference's l10Do on a machine of its own: what makes an event.
-/
namespace Go.Proofs.YthhpjgdeehcgjaaGreat
set_option linter.unusedVariables false
set_option linter.unusedSimpArgs false
open Go.RowKit

/-- The events of an operation, none if it cannot be executed. -/
def evO (m : Mc) (x : Opr) : List Ev := if doCode m x = 0 then evD m x else []
/-- What l10Do gives on a machine of its own. -/
def DidE (w : World) (S : Nat → Spot) (B g : Nat) (code : Int) (L : List Ev) (m' : Mc) (e : Ending) (w' : World) : Prop :=
  ∃ (v : Value) (S' : Nat → Spot), e = .returned (.tuple #[v, .int .i64 code]) ∧ w'.ownsRow w.heap.size 47 6 v L.length (vE L) ∧ Mv w S w' S' ∧ (code = 0 → MSt w' B g m' S') ∧ ∀ q, v.ownBlock = some q → ¬ blk S' q
theorem MSt.farN {w : World} {B g : Nat} {m : Mc} {S : Nat → Spot} (h : MSt w B g m S) {p : Addr} (hp : ¬ blk S p.block) (u : Value) : MSt (w.setCell p u) B g m S :=
  h.keep fun j q hq => Below.heap_setCell _ _ _ _ (fun e => hp ⟨j, by rw [← e]; exact hq⟩)
/-- While the event is made: the machine behind the operation, the empty row, the event's box. -/
structure EvSt (w : World) (S : Nat → Spot) (B g : Nat) (m' : Mc) (S2 : Nat → Spot) (ne : Nat) (us : List Value) (W : World) : Prop where
  ms : MSt W B g m' S2
  mv : Mv w S W S2
  own : W.ownsRow w.heap.size 47 6 (.slice (some ⟨w.heap.size, 0, none⟩) 0 0) 0 []
  bx : Bx W ne us
  lt : w.heap.size < ne
  n1 : ¬ blk S2 ne
  n0 : ¬ blk S2 w.heap.size
section
variable {w W : World} {S S2 : Nat → Spot} {B g ne : Nat} {m' : Mc} {us : List Value}
theorem EvSt.set (h : EvSt w S B g m' S2 ne us W) (i : Nat) (hi : i < us.length) (u : Value) : EvSt w S B g m' S2 ne (us.set i u) (W.setCell ⟨ne, i, none⟩ u) :=
  ⟨h.ms.farN h.n1 u, ⟨h.mv.only.setCell (.inr (Nat.le_of_lt h.lt)) u, h.mv.new⟩, own_far h.own (fun e => by have h9 : w.heap.size = ne := Option.some.inj e; have := h.lt; omega) u, h.bx.set hi u, h.lt, h.n1, h.n0⟩
theorem EvSt.alloc (h : EvSt w S B g m' S2 ne us W) (o : Obj) : EvSt w S B g m' S2 ne us (W.alloc o) :=
  ⟨h.ms.below ((Below.refl _ _).alloc (Nat.le_refl _) _), h.mv.alloc o, h.own.alloc o, h.bx.alloc o, h.lt, h.n1, h.n0⟩
theorem EvSt.fin {c : Int} {L : List Ev} {v : Value} {w' : World} {n : Nat} {xs : List Value} (h : EvSt w S B g m' S2 ne us W) (hown : w'.ownsRow w.heap.size 47 6 v n xs) (hn : n = L.length) (hx : xs = vE L) (hg : W.grownBy w' (some w.heap.size)) (hat : v.ownBlock = some w.heap.size ∨ v.ownBlock = some W.heap.size) (hc : c = 0) :
    DidE w S B g c L m' (.returned (.tuple #[v, .int .i64 0])) w' := by
  subst hc
  rw [hn, hx] at hown
  have hlt : ∀ q, blk S2 q → q < W.heap.size := fun q hq => (h.ms.sp.ge hq).2
  refine ⟨v, S2, rfl, hown, ⟨h.mv.only.grown hg (fun q hq => .inr (by injection hq with hq; omega)), h.mv.new⟩, fun _ => h.ms.keep fun j q hq => hg.block q (hlt q ⟨j, hq⟩) (fun e => by injection e with e; exact h.n0 ⟨j, by rw [← e]; exact hq⟩), fun q hq e => ?_⟩
  rcases hat with h1 | h1
  · rw [h1] at hq; injection hq with hq; subst hq; exact h.n0 e
  · rw [h1] at hq; injection hq with hq; have := hlt q e; omega
end
theorem ow_nil (w : World) (B : Nat) : w.ownsRow B 47 6 (.slice none 0 0) 0 [] := ⟨rfl, .inl ⟨rfl, rfl⟩⟩
theorem befG_le' {m : Mc} (ok : okM m = true) (n : Nd) : befS m n ≤ 1000 := Nat.le_trans (befS_le ok n) (by decide)
set_option maxHeartbeats 4000000 in
set_option maxRecDepth 100000 in
theorem l10Do_1 {w : World} {B g : Nat} {m : Mc} {S : Nat → Spot} (hM : MSt w B g m S) (hB : B ≤ w.heap.size) (d fb fa tb ta c r : Int) (b o : Nat) (ho : OpAt w b o ⟨1, d, fb, fa, tb, ta, c, r⟩) (hnb : ¬ blk S b) (ok : okM m = true) (hop : okOpW m.wd ⟨1, d, fb, fa, tb, ta, c, r⟩ = true) (a0 : 0 ≤ fa)
    (s : Nat) (hs : s ≤ 4) (hon : ∀ W, MSt W B g m S → Calls Tryz.prog 68 #[.pointer (some ⟨g, 0, none⟩), .agg #[.int .i64 fb, .int .i64 fa]] W fun e w' => (∃ A c, e = .returned (.slice A s c)) ∧ Below W.heap.size W w')
    (hL : doCode m ⟨1, d, fb, fa, tb, ta, c, r⟩ = 0 → evO m ⟨1, d, fb, fa, tb, ta, c, r⟩ = [⟨2, befS m (fb, fa), s, fb, c, d⟩]) :
    Calls Tryz.prog 42 #[.pointer (some ⟨g, 0, none⟩), .pointer (some ⟨b, o, none⟩)] w (DidE w S B g (doCode m ⟨1, d, fb, fa, tb, ta, c, r⟩) (evO m ⟨1, d, fb, fa, tb, ta, c, r⟩) (doTo m ⟨1, d, fb, fa, tb, ta, c, r⟩)) := by
  obtain ⟨i0, hi, hz0, hz1, hz2⟩ := info_parts info_ev
  have hfw : fa < m.wd := (okOpW_iff.1 hop).2.1
  have hbl := befG_le' ok (fb, fa)
  have HM := Lib.hid hM
  have HOK := Lib.hid ok
  have HOP := Lib.hid hop
  have HNB := Lib.hid hnb
  have HON := Lib.hid hon
  have HDO := Lib.hid (fun (W : World) (SX : MSt W B g m S) (hx : OpAt W b o ⟨1, d, fb, fa, tb, ta, c, r⟩) (hBW : B ≤ W.heap.size) => l07Do_any SX hBW ⟨1, d, fb, fa, tb, ta, c, r⟩ b o hx HNB.out HOK.out HOP.out)
  have HBE := Lib.hid (fun (W : World) (hp : RdP W g m) => l10Before_gen m g (fb, fa) W hp HOK.out a0 hfw)
  have HBAD := Lib.hid (fun (h : doCode m ⟨1, d, fb, fa, tb, ta, c, r⟩ ≠ 0) => show evO m ⟨1, d, fb, fa, tb, ta, c, r⟩ = [] by unfold evO; rw [if_neg h])
  have HGOOD := Lib.hid hL
  generalize doCode m ⟨1, d, fb, fa, tb, ta, c, r⟩ = cc at *
  generalize evO m ⟨1, d, fb, fa, tb, ta, c, r⟩ = L at *
  generalize doTo m ⟨1, d, fb, fa, tb, ta, c, r⟩ = m' at *
  generalize befS m (fb, fa) = q at *
  have hbw : Below w.heap.size w (w.alloc (.cells #[] 47)) := (Below.refl _ _).alloc (Nat.le_refl _) _
  have hbs : b < w.heap.size := block_lt_of_cell ho.eight.1
  have HM1 := Lib.hid (HM.out.below hbw)
  have HO1 := Lib.hid (CellsAt.below ho hbw hbs)
  have HV1 := Lib.hid (Mv.of_below (S := S) hbw)
  have HR1 := Lib.hid (World.ownsRow_lit (base := w.heap.size) (e := 47) (size := 6) w #[] 0 (Nat.le_refl _) (by unfold maxLen; omega) rfl)
  have hsw1 : w.heap.size < (w.alloc (.cells #[] 47)).heap.size := by simp
  have hN0 : ¬ blk S w.heap.size := fun e => by have := (HM.out.sp.ge e).2; omega
  have HN0 := Lib.hid hN0
  clear hM ok hop hnb hon hL ho hbw hN0
  go_enter Tryz.func42, Tryz.ntmps42
  obtain ⟨o0, o1, o2, o3, o4, o5, o6, o7⟩ := HO1.out.eight
  go_wp2_with fail
  generalize w.alloc (.cells #[] 47) = W1 at *
  refine (HBE.out _ HM1.out.rd).mono ?_
  rintro e w2 ⟨rfl, hb2⟩
  have HM2 := Lib.hid (HM1.out.below hb2)
  have HO2 := Lib.hid (CellsAt.below HO1.out hb2 (by omega))
  have HV2 := Lib.hid (HV1.out.below_ hb2)
  have HR2 := Lib.hid (own_below HR1.out hb2)
  have hsw2 : w.heap.size < w2.heap.size := Nat.lt_of_lt_of_le hsw1 hb2.size
  clear hb2 o0 o1 o2 o3 o4 o5 o6 o7 HM1 HO1 HV1 HR1 HBE
  obtain ⟨o0, o1, o2, o3, o4, o5, o6, o7⟩ := HO2.out.eight
  go_wp2_with fail
  refine (HON.out _ HM2.out).mono ?_
  rintro e w3 ⟨⟨A3, c3, rfl⟩, hb3⟩
  have HM3 := Lib.hid (HM2.out.below hb3)
  have HO3 := Lib.hid (CellsAt.below HO2.out hb3 (by omega))
  have HV3 := Lib.hid (HV2.out.below_ hb3)
  have HR3 := Lib.hid (own_below HR2.out hb3)
  have hsw3 : w.heap.size < w3.heap.size := Nat.lt_of_lt_of_le hsw2 hb3.size
  clear hb3 o0 o1 o2 o3 o4 o5 o6 o7 HM2 HO2 HV2 HR2 HON
  obtain ⟨o0, o1, o2, o3, o4, o5, o6, o7⟩ := HO3.out.eight
  go_wp2_with fail
  refine (HDO.out _ HM3.out HO3.out (by omega)).mono ?_
  rintro e w4 ⟨rfl, S2, hv4, hm4⟩
  have HV4 := Lib.hid (HV3.out.trans hv4)
  have HO4 := Lib.hid (show OpAt w4 b o ⟨1, d, fb, fa, tb, ta, c, r⟩ from hv4.only.cells HNB.out HO3.out)
  have HR4 := Lib.hid (hv4.only.own HR3.out (fun q hq => by have h9 : w.heap.size = q := Option.some.inj hq; rw [← h9]; exact HN0.out))
  have HN4 := Lib.hid (hv4.nblk HN0.out hsw3)
  have hsw4 : w.heap.size < w4.heap.size := Nat.lt_of_lt_of_le hsw3 hv4.size
  clear hv4 o0 o1 o2 o3 o4 o5 o6 o7 HM3 HO3 HV3 HR3 HDO
  by_cases h0 : cc = 0
  · have HL := Lib.hid (HGOOD.out h0)
    have HM4 := Lib.hid (hm4 h0)
    subst h0
    clear hm4 HGOOD HBAD
    obtain ⟨o0, o1, o2, o3, o4, o5, o6, o7⟩ := HO4.out.eight
    have hbw4 : b < w4.heap.size := block_lt_of_cell o0
    have x1 : ∀ ob, (w4.alloc ob).cell? ⟨b, o + 1, none⟩ = some (.int .i64 d) := fun ob => (HO4.out.alloc hbw4 ob).eight.2.1
    have x2 : ∀ ob, (w4.alloc ob).cell? ⟨b, o + 2, none⟩ = some (.int .i64 fb) := fun ob => (HO4.out.alloc hbw4 ob).eight.2.2.1
    have x6 : ∀ ob, (w4.alloc ob).cell? ⟨b, o + 6, none⟩ = some (.int .i64 c) := fun ob => (HO4.out.alloc hbw4 ob).eight.2.2.2.2.2.2.1
    go_wp2
    go_region
    have E5 : Hid (EvSt w S B g m' S2 w4.heap.size [.int .i64 0, .int .i64 q, .int .i64 0, .int .i64 fb, .int .i64 c, .int .i64 d] (w4.alloc (.cells #[.int .i64 0, .int .i64 q, .int .i64 0, .int .i64 fb, .int .i64 c, .int .i64 d] 47)).drew) :=
      ⟨(HM4.out.below ((Below.refl _ _).alloc (Nat.le_refl _) _)).drew, (HV4.out.alloc _).drew, (HR4.out.alloc _), Bx.new w4 [.int .i64 0, .int .i64 q, .int .i64 0, .int .i64 fb, .int .i64 c, .int .i64 d] _, hsw4, fun e => by have := (HM4.out.sp.ge e).2; omega, HN4.out⟩
    have HO5 : Hid (OpAt (w4.alloc (.cells #[.int .i64 0, .int .i64 q, .int .i64 0, .int .i64 fb, .int .i64 c, .int .i64 d] 47)).drew b o ⟨1, d, fb, fa, tb, ta, c, r⟩) := HO4.out.alloc hbw4 _
    clear o0 o1 o2 o3 o4 o5 o6 o7 x1 x2 x6 HM4 HV4 HR4 HN4 HO4
    generalize (w4.alloc (.cells #[.int .i64 0, .int .i64 q, .int .i64 0, .int .i64 fb, .int .i64 c, .int .i64 d] 47)).drew = W5 at *
    obtain ⟨ne, hne⟩ : ∃ n, n = w4.heap.size := ⟨_, rfl⟩
    rw [← hne] at E5 hsw4 hbw4 ⊢
    clear hne
    obtain ⟨o0, o1, o2, o3, o4, o5, o6, o7⟩ := HO5.out.eight
    have hbne : b ≠ ne := by omega
    obtain ⟨z0, z1, z2, z3, z4, z5⟩ := CellsAt.six E5.out.bx.1
    have zf := E5.out.bx.2.1
    have hw5 : w.heap.size ≤ W5.heap.size := E5.out.mv.size
    have E6 := Lib.hid (((E5.out.set 0 (by simp) (.int .i64 2)).set 2 (by simp) (.int .i64 s)).alloc (.cells #[.int .i64 2, .int .i64 q, .int .i64 s, .int .i64 fb, .int .i64 c, .int .i64 d] 47))
    go_wp2_with (at_builtin; refine wpList_append_own_at _ rfl _ _ 26 rfl w.heap.size 47 i0 _ 6 48 Tryz.underlying26 hi hz0 hz1 hz2 rfl (by decide) (.slice (some ⟨w.heap.size, 0, none⟩) 0 0) 0 [] rfl (by exact E6.out.own) ⟨W5.heap.size, 0, none⟩ 1 1 [.int .i64 2, .int .i64 q, .int .i64 s, .int .i64 fb, .int .i64 c, .int .i64 d] rfl rfl (new_cells' _ _ (by simp)) (by intro u hu; simp at hu; rcases hu with rfl | rfl | rfl | rfl | rfl | rfl <;> rfl) (by unfold maxLen; omega) (by omega) (by simp; omega) ?_)
    intro v6 w6 hown6 hg6 _ hat6
    have HFIN := Lib.hid (E6.out.fin (c := 0) (L := [⟨2, q, s, fb, c, d⟩]) hown6 rfl rfl hg6 (by simpa [Value.ownBlock] using hat6) rfl)
    rw [← HL.out] at HFIN
    clear hown6 hg6 hat6 E5 E6
    go_wp2
    refine bodyPost_ret (v := .tuple #[_, .int .i64 0]) (by simp [results, Tryz.results42, go_sem]; rfl) rfl ?_
    exact HFIN.out
  · have HL := Lib.hid (HBAD.out h0)
    have hc0 : (cc != 0) = true := by simpa using h0
    have HC := Lib.hid h0
    clear hm4 HGOOD HBAD h0
    have HFIN : Hid (DidE w S B g cc L m' (.returned (.tuple #[.slice none 0 0, .int .i64 cc])) w4) := by
      rw [HL.out]
      exact ⟨_, S2, rfl, ow_nil _ _, HV4.out, fun e => absurd e HC.out, fun q hq => by cases hq⟩
    go_wp2
    refine bodyPost_ret (v := .tuple #[_, .int .i64 cc]) (by simp [results, Tryz.results42, go_sem]; rfl) rfl ?_
    exact HFIN.out
set_option maxHeartbeats 4000000 in
set_option maxRecDepth 100000 in
theorem l10Do_2 {w : World} {B g : Nat} {m : Mc} {S : Nat → Spot} (hM : MSt w B g m S) (hB : B ≤ w.heap.size) (d fb fa tb ta c r : Int) (b o : Nat) (ho : OpAt w b o ⟨2, d, fb, fa, tb, ta, c, r⟩) (hnb : ¬ blk S b) (ok : okM m = true) (hop : okOpW m.wd ⟨2, d, fb, fa, tb, ta, c, r⟩ = true) (a0 : 0 ≤ fa)
    (s : Nat) (hs : s ≤ 4) (hon : ∀ W, MSt W B g m S → Calls Tryz.prog 68 #[.pointer (some ⟨g, 0, none⟩), .agg #[.int .i64 fb, .int .i64 fa]] W fun e w' => (∃ A c, e = .returned (.slice A s c)) ∧ Below W.heap.size W w')
    (hL : doCode m ⟨2, d, fb, fa, tb, ta, c, r⟩ = 0 → evO m ⟨2, d, fb, fa, tb, ta, c, r⟩ = [⟨3, (befS m (fb, fa) : Int) + s, 0, fb, c, d⟩]) :
    Calls Tryz.prog 42 #[.pointer (some ⟨g, 0, none⟩), .pointer (some ⟨b, o, none⟩)] w (DidE w S B g (doCode m ⟨2, d, fb, fa, tb, ta, c, r⟩) (evO m ⟨2, d, fb, fa, tb, ta, c, r⟩) (doTo m ⟨2, d, fb, fa, tb, ta, c, r⟩)) := by
  obtain ⟨i0, hi, hz0, hz1, hz2⟩ := info_parts info_ev
  have hfw : fa < m.wd := (okOpW_iff.1 hop).2.1
  have hbl := befG_le' ok (fb, fa)
  have HM := Lib.hid hM
  have HOK := Lib.hid ok
  have HOP := Lib.hid hop
  have HNB := Lib.hid hnb
  have HON := Lib.hid hon
  have HDO := Lib.hid (fun (W : World) (SX : MSt W B g m S) (hx : OpAt W b o ⟨2, d, fb, fa, tb, ta, c, r⟩) (hBW : B ≤ W.heap.size) => l07Do_any SX hBW ⟨2, d, fb, fa, tb, ta, c, r⟩ b o hx HNB.out HOK.out HOP.out)
  have HBE := Lib.hid (fun (W : World) (hp : RdP W g m) => l10Before_gen m g (fb, fa) W hp HOK.out a0 hfw)
  have HBAD := Lib.hid (fun (h : doCode m ⟨2, d, fb, fa, tb, ta, c, r⟩ ≠ 0) => show evO m ⟨2, d, fb, fa, tb, ta, c, r⟩ = [] by unfold evO; rw [if_neg h])
  have HGOOD := Lib.hid hL
  generalize doCode m ⟨2, d, fb, fa, tb, ta, c, r⟩ = cc at *
  generalize evO m ⟨2, d, fb, fa, tb, ta, c, r⟩ = L at *
  generalize doTo m ⟨2, d, fb, fa, tb, ta, c, r⟩ = m' at *
  generalize befS m (fb, fa) = q at *
  have hbw : Below w.heap.size w (w.alloc (.cells #[] 47)) := (Below.refl _ _).alloc (Nat.le_refl _) _
  have hbs : b < w.heap.size := block_lt_of_cell ho.eight.1
  have HM1 := Lib.hid (HM.out.below hbw)
  have HO1 := Lib.hid (CellsAt.below ho hbw hbs)
  have HV1 := Lib.hid (Mv.of_below (S := S) hbw)
  have HR1 := Lib.hid (World.ownsRow_lit (base := w.heap.size) (e := 47) (size := 6) w #[] 0 (Nat.le_refl _) (by unfold maxLen; omega) rfl)
  have hsw1 : w.heap.size < (w.alloc (.cells #[] 47)).heap.size := by simp
  have hN0 : ¬ blk S w.heap.size := fun e => by have := (HM.out.sp.ge e).2; omega
  have HN0 := Lib.hid hN0
  clear hM ok hop hnb hon hL ho hbw hN0
  go_enter Tryz.func42, Tryz.ntmps42
  obtain ⟨o0, o1, o2, o3, o4, o5, o6, o7⟩ := HO1.out.eight
  go_wp2_with fail
  generalize w.alloc (.cells #[] 47) = W1 at *
  refine (HBE.out _ HM1.out.rd).mono ?_
  rintro e w2 ⟨rfl, hb2⟩
  have HM2 := Lib.hid (HM1.out.below hb2)
  have HO2 := Lib.hid (CellsAt.below HO1.out hb2 (by omega))
  have HV2 := Lib.hid (HV1.out.below_ hb2)
  have HR2 := Lib.hid (own_below HR1.out hb2)
  have hsw2 : w.heap.size < w2.heap.size := Nat.lt_of_lt_of_le hsw1 hb2.size
  clear hb2 o0 o1 o2 o3 o4 o5 o6 o7 HM1 HO1 HV1 HR1 HBE
  obtain ⟨o0, o1, o2, o3, o4, o5, o6, o7⟩ := HO2.out.eight
  go_wp2_with fail
  refine (HON.out _ HM2.out).mono ?_
  rintro e w3 ⟨⟨A3, c3, rfl⟩, hb3⟩
  have HM3 := Lib.hid (HM2.out.below hb3)
  have HO3 := Lib.hid (CellsAt.below HO2.out hb3 (by omega))
  have HV3 := Lib.hid (HV2.out.below_ hb3)
  have HR3 := Lib.hid (own_below HR2.out hb3)
  have hsw3 : w.heap.size < w3.heap.size := Nat.lt_of_lt_of_le hsw2 hb3.size
  clear hb3 o0 o1 o2 o3 o4 o5 o6 o7 HM2 HO2 HV2 HR2 HON
  obtain ⟨o0, o1, o2, o3, o4, o5, o6, o7⟩ := HO3.out.eight
  go_wp2_with fail
  refine (HDO.out _ HM3.out HO3.out (by omega)).mono ?_
  rintro e w4 ⟨rfl, S2, hv4, hm4⟩
  have HV4 := Lib.hid (HV3.out.trans hv4)
  have HO4 := Lib.hid (show OpAt w4 b o ⟨2, d, fb, fa, tb, ta, c, r⟩ from hv4.only.cells HNB.out HO3.out)
  have HR4 := Lib.hid (hv4.only.own HR3.out (fun q hq => by have h9 : w.heap.size = q := Option.some.inj hq; rw [← h9]; exact HN0.out))
  have HN4 := Lib.hid (hv4.nblk HN0.out hsw3)
  have hsw4 : w.heap.size < w4.heap.size := Nat.lt_of_lt_of_le hsw3 hv4.size
  clear hv4 o0 o1 o2 o3 o4 o5 o6 o7 HM3 HO3 HV3 HR3 HDO
  by_cases h0 : cc = 0
  · have HL := Lib.hid (HGOOD.out h0)
    have HM4 := Lib.hid (hm4 h0)
    subst h0
    clear hm4 HGOOD HBAD
    obtain ⟨o0, o1, o2, o3, o4, o5, o6, o7⟩ := HO4.out.eight
    have hbw4 : b < w4.heap.size := block_lt_of_cell o0
    have x1 : ∀ ob, (w4.alloc ob).cell? ⟨b, o + 1, none⟩ = some (.int .i64 d) := fun ob => (HO4.out.alloc hbw4 ob).eight.2.1
    have x2 : ∀ ob, (w4.alloc ob).cell? ⟨b, o + 2, none⟩ = some (.int .i64 fb) := fun ob => (HO4.out.alloc hbw4 ob).eight.2.2.1
    have x6 : ∀ ob, (w4.alloc ob).cell? ⟨b, o + 6, none⟩ = some (.int .i64 c) := fun ob => (HO4.out.alloc hbw4 ob).eight.2.2.2.2.2.2.1
    go_wp2
    go_region
    have E5 : Hid (EvSt w S B g m' S2 w4.heap.size [.int .i64 0, .int .i64 q, .int .i64 0, .int .i64 fb, .int .i64 c, .int .i64 d] (w4.alloc (.cells #[.int .i64 0, .int .i64 q, .int .i64 0, .int .i64 fb, .int .i64 c, .int .i64 d] 47)).drew) :=
      ⟨(HM4.out.below ((Below.refl _ _).alloc (Nat.le_refl _) _)).drew, (HV4.out.alloc _).drew, (HR4.out.alloc _), Bx.new w4 [.int .i64 0, .int .i64 q, .int .i64 0, .int .i64 fb, .int .i64 c, .int .i64 d] _, hsw4, fun e => by have := (HM4.out.sp.ge e).2; omega, HN4.out⟩
    have HO5 : Hid (OpAt (w4.alloc (.cells #[.int .i64 0, .int .i64 q, .int .i64 0, .int .i64 fb, .int .i64 c, .int .i64 d] 47)).drew b o ⟨2, d, fb, fa, tb, ta, c, r⟩) := HO4.out.alloc hbw4 _
    clear o0 o1 o2 o3 o4 o5 o6 o7 x1 x2 x6 HM4 HV4 HR4 HN4 HO4
    generalize (w4.alloc (.cells #[.int .i64 0, .int .i64 q, .int .i64 0, .int .i64 fb, .int .i64 c, .int .i64 d] 47)).drew = W5 at *
    obtain ⟨ne, hne⟩ : ∃ n, n = w4.heap.size := ⟨_, rfl⟩
    rw [← hne] at E5 hsw4 hbw4 ⊢
    clear hne
    obtain ⟨o0, o1, o2, o3, o4, o5, o6, o7⟩ := HO5.out.eight
    have hbne : b ≠ ne := by omega
    obtain ⟨z0, z1, z2, z3, z4, z5⟩ := CellsAt.six E5.out.bx.1
    have zf := E5.out.bx.2.1
    have hw5 : w.heap.size ≤ W5.heap.size := E5.out.mv.size
    have E6 := Lib.hid (((E5.out.set 0 (by simp) (.int .i64 3)).set 1 (by simp) (.int .i64 ((q : Int) + (s : Int)))).alloc (.cells #[.int .i64 3, .int .i64 ((q : Int) + (s : Int)), .int .i64 0, .int .i64 fb, .int .i64 c, .int .i64 d] 47))
    go_wp2_with (at_builtin; refine wpList_append_own_at _ rfl _ _ 26 rfl w.heap.size 47 i0 _ 6 48 Tryz.underlying26 hi hz0 hz1 hz2 rfl (by decide) (.slice (some ⟨w.heap.size, 0, none⟩) 0 0) 0 [] rfl (by exact E6.out.own) ⟨W5.heap.size, 0, none⟩ 1 1 [.int .i64 3, .int .i64 ((q : Int) + (s : Int)), .int .i64 0, .int .i64 fb, .int .i64 c, .int .i64 d] rfl rfl (new_cells' _ _ (by simp)) (by intro u hu; simp at hu; rcases hu with rfl | rfl | rfl | rfl | rfl | rfl <;> rfl) (by unfold maxLen; omega) (by omega) (by simp; omega) ?_)
    intro v6 w6 hown6 hg6 _ hat6
    have HFIN := Lib.hid (E6.out.fin (c := 0) (L := [⟨3, (q : Int) + s, 0, fb, c, d⟩]) hown6 rfl rfl hg6 (by simpa [Value.ownBlock] using hat6) rfl)
    rw [← HL.out] at HFIN
    clear hown6 hg6 hat6 E5 E6
    go_wp2
    refine bodyPost_ret (v := .tuple #[_, .int .i64 0]) (by simp [results, Tryz.results42, go_sem]; rfl) rfl ?_
    exact HFIN.out
  · have HL := Lib.hid (HBAD.out h0)
    have hc0 : (cc != 0) = true := by simpa using h0
    have HC := Lib.hid h0
    clear hm4 HGOOD HBAD h0
    have HFIN : Hid (DidE w S B g cc L m' (.returned (.tuple #[.slice none 0 0, .int .i64 cc])) w4) := by
      rw [HL.out]
      exact ⟨_, S2, rfl, ow_nil _ _, HV4.out, fun e => absurd e HC.out, fun q hq => by cases hq⟩
    go_wp2
    refine bodyPost_ret (v := .tuple #[_, .int .i64 cc]) (by simp [results, Tryz.results42, go_sem]; rfl) rfl ?_
    exact HFIN.out

end Go.Proofs.YthhpjgdeehcgjaaGreat

/-
  The reference's l10Do on a machine of its own: splits and drops.
-/
namespace Go.Proofs.YthhpjgdeehcgjaaGreat
set_option linter.unusedVariables false
set_option linter.unusedSimpArgs false
open Go.RowKit

set_option maxHeartbeats 4000000 in
set_option maxRecDepth 100000 in
theorem l10Do_5f {w : World} {B g : Nat} {m : Mc} {S : Nat → Spot} (hM : MSt w B g m S) (hB : B ≤ w.heap.size) (d fb fa tb ta c r : Int) (b o : Nat) (ho : OpAt w b o ⟨5, d, fb, fa, tb, ta, c, r⟩) (hnb : ¬ blk S b) (ok : okM m = true) (hop : okOpW m.wd ⟨5, d, fb, fa, tb, ta, c, r⟩ = true) (a0 : 0 ≤ fa) (hfb : (fb == 2) = false)
    (s : Nat) (hs : s ≤ 4) (hon : ∀ W, MSt W B g m S → Calls Tryz.prog 68 #[.pointer (some ⟨g, 0, none⟩), .agg #[.int .i64 fb, .int .i64 fa]] W fun e w' => (∃ A c, e = .returned (.slice A s c)) ∧ Below W.heap.size W w')
    (hL : doCode m ⟨5, d, fb, fa, tb, ta, c, r⟩ = 0 → evO m ⟨5, d, fb, fa, tb, ta, c, r⟩ = [⟨5, befS m (fb, fa), s, fb, c, d⟩]) :
    Calls Tryz.prog 42 #[.pointer (some ⟨g, 0, none⟩), .pointer (some ⟨b, o, none⟩)] w (DidE w S B g (doCode m ⟨5, d, fb, fa, tb, ta, c, r⟩) (evO m ⟨5, d, fb, fa, tb, ta, c, r⟩) (doTo m ⟨5, d, fb, fa, tb, ta, c, r⟩)) := by
  obtain ⟨i0, hi, hz0, hz1, hz2⟩ := info_parts info_ev
  have hfw : fa < m.wd := (okOpW_iff.1 hop).2.1
  have hbl := befG_le' ok (fb, fa)
  have HM := Lib.hid hM
  have HOK := Lib.hid ok
  have HOP := Lib.hid hop
  have HNB := Lib.hid hnb
  have HON := Lib.hid hon
  have HDO := Lib.hid (fun (W : World) (SX : MSt W B g m S) (hx : OpAt W b o ⟨5, d, fb, fa, tb, ta, c, r⟩) (hBW : B ≤ W.heap.size) => l07Do_any SX hBW ⟨5, d, fb, fa, tb, ta, c, r⟩ b o hx HNB.out HOK.out HOP.out)
  have HBE := Lib.hid (fun (W : World) (hp : RdP W g m) => l10Before_gen m g (fb, fa) W hp HOK.out a0 hfw)
  have HBAD := Lib.hid (fun (h : doCode m ⟨5, d, fb, fa, tb, ta, c, r⟩ ≠ 0) => show evO m ⟨5, d, fb, fa, tb, ta, c, r⟩ = [] by unfold evO; rw [if_neg h])
  have HGOOD := Lib.hid hL
  generalize doCode m ⟨5, d, fb, fa, tb, ta, c, r⟩ = cc at *
  generalize evO m ⟨5, d, fb, fa, tb, ta, c, r⟩ = L at *
  generalize doTo m ⟨5, d, fb, fa, tb, ta, c, r⟩ = m' at *
  generalize befS m (fb, fa) = q at *
  have hbw : Below w.heap.size w (w.alloc (.cells #[] 47)) := (Below.refl _ _).alloc (Nat.le_refl _) _
  have hbs : b < w.heap.size := block_lt_of_cell ho.eight.1
  have HM1 := Lib.hid (HM.out.below hbw)
  have HO1 := Lib.hid (CellsAt.below ho hbw hbs)
  have HV1 := Lib.hid (Mv.of_below (S := S) hbw)
  have HR1 := Lib.hid (World.ownsRow_lit (base := w.heap.size) (e := 47) (size := 6) w #[] 0 (Nat.le_refl _) (by unfold maxLen; omega) rfl)
  have hsw1 : w.heap.size < (w.alloc (.cells #[] 47)).heap.size := by simp
  have hN0 : ¬ blk S w.heap.size := fun e => by have := (HM.out.sp.ge e).2; omega
  have HN0 := Lib.hid hN0
  clear hM ok hop hnb hon hL ho hbw hN0
  go_enter Tryz.func42, Tryz.ntmps42
  obtain ⟨o0, o1, o2, o3, o4, o5, o6, o7⟩ := HO1.out.eight
  go_wp2_with fail
  generalize w.alloc (.cells #[] 47) = W1 at *
  refine (HBE.out _ HM1.out.rd).mono ?_
  rintro e w2 ⟨rfl, hb2⟩
  have HM2 := Lib.hid (HM1.out.below hb2)
  have HO2 := Lib.hid (CellsAt.below HO1.out hb2 (by omega))
  have HV2 := Lib.hid (HV1.out.below_ hb2)
  have HR2 := Lib.hid (own_below HR1.out hb2)
  have hsw2 : w.heap.size < w2.heap.size := Nat.lt_of_lt_of_le hsw1 hb2.size
  clear hb2 o0 o1 o2 o3 o4 o5 o6 o7 HM1 HO1 HV1 HR1 HBE
  obtain ⟨o0, o1, o2, o3, o4, o5, o6, o7⟩ := HO2.out.eight
  go_wp2_with fail
  refine (HON.out _ HM2.out).mono ?_
  rintro e w3 ⟨⟨A3, c3, rfl⟩, hb3⟩
  have HM3 := Lib.hid (HM2.out.below hb3)
  have HO3 := Lib.hid (CellsAt.below HO2.out hb3 (by omega))
  have HV3 := Lib.hid (HV2.out.below_ hb3)
  have HR3 := Lib.hid (own_below HR2.out hb3)
  have hsw3 : w.heap.size < w3.heap.size := Nat.lt_of_lt_of_le hsw2 hb3.size
  clear hb3 o0 o1 o2 o3 o4 o5 o6 o7 HM2 HO2 HV2 HR2 HON
  obtain ⟨o0, o1, o2, o3, o4, o5, o6, o7⟩ := HO3.out.eight
  go_wp2_with fail
  refine (HDO.out _ HM3.out HO3.out (by omega)).mono ?_
  rintro e w4 ⟨rfl, S2, hv4, hm4⟩
  have HV4 := Lib.hid (HV3.out.trans hv4)
  have HO4 := Lib.hid (show OpAt w4 b o ⟨5, d, fb, fa, tb, ta, c, r⟩ from hv4.only.cells HNB.out HO3.out)
  have HR4 := Lib.hid (hv4.only.own HR3.out (fun q hq => by have h9 : w.heap.size = q := Option.some.inj hq; rw [← h9]; exact HN0.out))
  have HN4 := Lib.hid (hv4.nblk HN0.out hsw3)
  have hsw4 : w.heap.size < w4.heap.size := Nat.lt_of_lt_of_le hsw3 hv4.size
  clear hv4 o0 o1 o2 o3 o4 o5 o6 o7 HM3 HO3 HV3 HR3 HDO
  by_cases h0 : cc = 0
  · have HL := Lib.hid (HGOOD.out h0)
    have HM4 := Lib.hid (hm4 h0)
    subst h0
    clear hm4 HGOOD HBAD
    obtain ⟨o0, o1, o2, o3, o4, o5, o6, o7⟩ := HO4.out.eight
    have hbw4 : b < w4.heap.size := block_lt_of_cell o0
    have x1 : ∀ ob, (w4.alloc ob).cell? ⟨b, o + 1, none⟩ = some (.int .i64 d) := fun ob => (HO4.out.alloc hbw4 ob).eight.2.1
    have x2 : ∀ ob, (w4.alloc ob).cell? ⟨b, o + 2, none⟩ = some (.int .i64 fb) := fun ob => (HO4.out.alloc hbw4 ob).eight.2.2.1
    have x6 : ∀ ob, (w4.alloc ob).cell? ⟨b, o + 6, none⟩ = some (.int .i64 c) := fun ob => (HO4.out.alloc hbw4 ob).eight.2.2.2.2.2.2.1
    go_wp2
    go_region
    have E5 : Hid (EvSt w S B g m' S2 w4.heap.size [.int .i64 0, .int .i64 q, .int .i64 0, .int .i64 fb, .int .i64 c, .int .i64 d] (w4.alloc (.cells #[.int .i64 0, .int .i64 q, .int .i64 0, .int .i64 fb, .int .i64 c, .int .i64 d] 47)).drew) :=
      ⟨(HM4.out.below ((Below.refl _ _).alloc (Nat.le_refl _) _)).drew, (HV4.out.alloc _).drew, (HR4.out.alloc _), Bx.new w4 [.int .i64 0, .int .i64 q, .int .i64 0, .int .i64 fb, .int .i64 c, .int .i64 d] _, hsw4, fun e => by have := (HM4.out.sp.ge e).2; omega, HN4.out⟩
    have HO5 : Hid (OpAt (w4.alloc (.cells #[.int .i64 0, .int .i64 q, .int .i64 0, .int .i64 fb, .int .i64 c, .int .i64 d] 47)).drew b o ⟨5, d, fb, fa, tb, ta, c, r⟩) := HO4.out.alloc hbw4 _
    clear o0 o1 o2 o3 o4 o5 o6 o7 x1 x2 x6 HM4 HV4 HR4 HN4 HO4
    generalize (w4.alloc (.cells #[.int .i64 0, .int .i64 q, .int .i64 0, .int .i64 fb, .int .i64 c, .int .i64 d] 47)).drew = W5 at *
    obtain ⟨ne, hne⟩ : ∃ n, n = w4.heap.size := ⟨_, rfl⟩
    rw [← hne] at E5 hsw4 hbw4 ⊢
    clear hne
    obtain ⟨o0, o1, o2, o3, o4, o5, o6, o7⟩ := HO5.out.eight
    have hbne : b ≠ ne := by omega
    obtain ⟨z0, z1, z2, z3, z4, z5⟩ := CellsAt.six E5.out.bx.1
    have zf := E5.out.bx.2.1
    have hw5 : w.heap.size ≤ W5.heap.size := E5.out.mv.size
    have E6 := Lib.hid (((E5.out.set 0 (by simp) (.int .i64 5)).set 2 (by simp) (.int .i64 s)).alloc (.cells #[.int .i64 5, .int .i64 q, .int .i64 s, .int .i64 fb, .int .i64 c, .int .i64 d] 47))
    go_wp2_with (at_builtin; refine wpList_append_own_at _ rfl _ _ 26 rfl w.heap.size 47 i0 _ 6 48 Tryz.underlying26 hi hz0 hz1 hz2 rfl (by decide) (.slice (some ⟨w.heap.size, 0, none⟩) 0 0) 0 [] rfl (by exact E6.out.own) ⟨W5.heap.size, 0, none⟩ 1 1 [.int .i64 5, .int .i64 q, .int .i64 s, .int .i64 fb, .int .i64 c, .int .i64 d] rfl rfl (new_cells' _ _ (by simp)) (by intro u hu; simp at hu; rcases hu with rfl | rfl | rfl | rfl | rfl | rfl <;> rfl) (by unfold maxLen; omega) (by omega) (by simp; omega) ?_)
    intro v6 w6 hown6 hg6 _ hat6
    have HFIN := Lib.hid (E6.out.fin (c := 0) (L := [⟨5, q, s, fb, c, d⟩]) hown6 rfl rfl hg6 (by simpa [Value.ownBlock] using hat6) rfl)
    rw [← HL.out] at HFIN
    clear hown6 hg6 hat6 E5 E6
    go_wp2
    refine bodyPost_ret (v := .tuple #[_, .int .i64 0]) (by simp [results, Tryz.results42, go_sem]; rfl) rfl ?_
    exact HFIN.out
  · have HL := Lib.hid (HBAD.out h0)
    have hc0 : (cc != 0) = true := by simpa using h0
    have HC := Lib.hid h0
    clear hm4 HGOOD HBAD h0
    have HFIN : Hid (DidE w S B g cc L m' (.returned (.tuple #[.slice none 0 0, .int .i64 cc])) w4) := by
      rw [HL.out]
      exact ⟨_, S2, rfl, ow_nil _ _, HV4.out, fun e => absurd e HC.out, fun q hq => by cases hq⟩
    go_wp2
    refine bodyPost_ret (v := .tuple #[_, .int .i64 cc]) (by simp [results, Tryz.results42, go_sem]; rfl) rfl ?_
    exact HFIN.out
set_option maxHeartbeats 4000000 in
set_option maxRecDepth 100000 in
theorem l10Do_5b {w : World} {B g : Nat} {m : Mc} {S : Nat → Spot} (hM : MSt w B g m S) (hB : B ≤ w.heap.size) (d fa tb ta c r : Int) (b o : Nat) (ho : OpAt w b o ⟨5, d, 2, fa, tb, ta, c, r⟩) (hnb : ¬ blk S b) (ok : okM m = true) (hop : okOpW m.wd ⟨5, d, 2, fa, tb, ta, c, r⟩ = true) (a0 : 0 ≤ fa)
    (s : Nat) (hs : s ≤ 4) (hon : ∀ W, MSt W B g m S → Calls Tryz.prog 68 #[.pointer (some ⟨g, 0, none⟩), .agg #[.int .i64 2, .int .i64 fa]] W fun e w' => (∃ A c, e = .returned (.slice A s c)) ∧ Below W.heap.size W w')
    (hL : doCode m ⟨5, d, 2, fa, tb, ta, c, r⟩ = 0 → evO m ⟨5, d, 2, fa, tb, ta, c, r⟩ = [⟨5, (befS m (2, fa) : Int) + s, s, 2, c, d⟩]) :
    Calls Tryz.prog 42 #[.pointer (some ⟨g, 0, none⟩), .pointer (some ⟨b, o, none⟩)] w (DidE w S B g (doCode m ⟨5, d, 2, fa, tb, ta, c, r⟩) (evO m ⟨5, d, 2, fa, tb, ta, c, r⟩) (doTo m ⟨5, d, 2, fa, tb, ta, c, r⟩)) := by
  obtain ⟨i0, hi, hz0, hz1, hz2⟩ := info_parts info_ev
  have hfw : fa < m.wd := (okOpW_iff.1 hop).2.1
  have hbl := befG_le' ok (2, fa)
  have HM := Lib.hid hM
  have HOK := Lib.hid ok
  have HOP := Lib.hid hop
  have HNB := Lib.hid hnb
  have HON := Lib.hid hon
  have HDO := Lib.hid (fun (W : World) (SX : MSt W B g m S) (hx : OpAt W b o ⟨5, d, 2, fa, tb, ta, c, r⟩) (hBW : B ≤ W.heap.size) => l07Do_any SX hBW ⟨5, d, 2, fa, tb, ta, c, r⟩ b o hx HNB.out HOK.out HOP.out)
  have HBE := Lib.hid (fun (W : World) (hp : RdP W g m) => l10Before_gen m g (2, fa) W hp HOK.out a0 hfw)
  have HBAD := Lib.hid (fun (h : doCode m ⟨5, d, 2, fa, tb, ta, c, r⟩ ≠ 0) => show evO m ⟨5, d, 2, fa, tb, ta, c, r⟩ = [] by unfold evO; rw [if_neg h])
  have HGOOD := Lib.hid hL
  generalize doCode m ⟨5, d, 2, fa, tb, ta, c, r⟩ = cc at *
  generalize evO m ⟨5, d, 2, fa, tb, ta, c, r⟩ = L at *
  generalize doTo m ⟨5, d, 2, fa, tb, ta, c, r⟩ = m' at *
  generalize befS m (2, fa) = q at *
  have hbw : Below w.heap.size w (w.alloc (.cells #[] 47)) := (Below.refl _ _).alloc (Nat.le_refl _) _
  have hbs : b < w.heap.size := block_lt_of_cell ho.eight.1
  have HM1 := Lib.hid (HM.out.below hbw)
  have HO1 := Lib.hid (CellsAt.below ho hbw hbs)
  have HV1 := Lib.hid (Mv.of_below (S := S) hbw)
  have HR1 := Lib.hid (World.ownsRow_lit (base := w.heap.size) (e := 47) (size := 6) w #[] 0 (Nat.le_refl _) (by unfold maxLen; omega) rfl)
  have hsw1 : w.heap.size < (w.alloc (.cells #[] 47)).heap.size := by simp
  have hN0 : ¬ blk S w.heap.size := fun e => by have := (HM.out.sp.ge e).2; omega
  have HN0 := Lib.hid hN0
  clear hM ok hop hnb hon hL ho hbw hN0
  go_enter Tryz.func42, Tryz.ntmps42
  obtain ⟨o0, o1, o2, o3, o4, o5, o6, o7⟩ := HO1.out.eight
  go_wp2_with fail
  generalize w.alloc (.cells #[] 47) = W1 at *
  refine (HBE.out _ HM1.out.rd).mono ?_
  rintro e w2 ⟨rfl, hb2⟩
  have HM2 := Lib.hid (HM1.out.below hb2)
  have HO2 := Lib.hid (CellsAt.below HO1.out hb2 (by omega))
  have HV2 := Lib.hid (HV1.out.below_ hb2)
  have HR2 := Lib.hid (own_below HR1.out hb2)
  have hsw2 : w.heap.size < w2.heap.size := Nat.lt_of_lt_of_le hsw1 hb2.size
  clear hb2 o0 o1 o2 o3 o4 o5 o6 o7 HM1 HO1 HV1 HR1 HBE
  obtain ⟨o0, o1, o2, o3, o4, o5, o6, o7⟩ := HO2.out.eight
  go_wp2_with fail
  refine (HON.out _ HM2.out).mono ?_
  rintro e w3 ⟨⟨A3, c3, rfl⟩, hb3⟩
  have HM3 := Lib.hid (HM2.out.below hb3)
  have HO3 := Lib.hid (CellsAt.below HO2.out hb3 (by omega))
  have HV3 := Lib.hid (HV2.out.below_ hb3)
  have HR3 := Lib.hid (own_below HR2.out hb3)
  have hsw3 : w.heap.size < w3.heap.size := Nat.lt_of_lt_of_le hsw2 hb3.size
  clear hb3 o0 o1 o2 o3 o4 o5 o6 o7 HM2 HO2 HV2 HR2 HON
  obtain ⟨o0, o1, o2, o3, o4, o5, o6, o7⟩ := HO3.out.eight
  go_wp2_with fail
  refine (HDO.out _ HM3.out HO3.out (by omega)).mono ?_
  rintro e w4 ⟨rfl, S2, hv4, hm4⟩
  have HV4 := Lib.hid (HV3.out.trans hv4)
  have HO4 := Lib.hid (show OpAt w4 b o ⟨5, d, 2, fa, tb, ta, c, r⟩ from hv4.only.cells HNB.out HO3.out)
  have HR4 := Lib.hid (hv4.only.own HR3.out (fun q hq => by have h9 : w.heap.size = q := Option.some.inj hq; rw [← h9]; exact HN0.out))
  have HN4 := Lib.hid (hv4.nblk HN0.out hsw3)
  have hsw4 : w.heap.size < w4.heap.size := Nat.lt_of_lt_of_le hsw3 hv4.size
  clear hv4 o0 o1 o2 o3 o4 o5 o6 o7 HM3 HO3 HV3 HR3 HDO
  by_cases h0 : cc = 0
  · have HL := Lib.hid (HGOOD.out h0)
    have HM4 := Lib.hid (hm4 h0)
    subst h0
    clear hm4 HGOOD HBAD
    obtain ⟨o0, o1, o2, o3, o4, o5, o6, o7⟩ := HO4.out.eight
    have hbw4 : b < w4.heap.size := block_lt_of_cell o0
    have x1 : ∀ ob, (w4.alloc ob).cell? ⟨b, o + 1, none⟩ = some (.int .i64 d) := fun ob => (HO4.out.alloc hbw4 ob).eight.2.1
    have x2 : ∀ ob, (w4.alloc ob).cell? ⟨b, o + 2, none⟩ = some (.int .i64 2) := fun ob => (HO4.out.alloc hbw4 ob).eight.2.2.1
    have x6 : ∀ ob, (w4.alloc ob).cell? ⟨b, o + 6, none⟩ = some (.int .i64 c) := fun ob => (HO4.out.alloc hbw4 ob).eight.2.2.2.2.2.2.1
    go_wp2
    go_region
    have E5 : Hid (EvSt w S B g m' S2 w4.heap.size [.int .i64 0, .int .i64 q, .int .i64 0, .int .i64 2, .int .i64 c, .int .i64 d] (w4.alloc (.cells #[.int .i64 0, .int .i64 q, .int .i64 0, .int .i64 2, .int .i64 c, .int .i64 d] 47)).drew) :=
      ⟨(HM4.out.below ((Below.refl _ _).alloc (Nat.le_refl _) _)).drew, (HV4.out.alloc _).drew, (HR4.out.alloc _), Bx.new w4 [.int .i64 0, .int .i64 q, .int .i64 0, .int .i64 2, .int .i64 c, .int .i64 d] _, hsw4, fun e => by have := (HM4.out.sp.ge e).2; omega, HN4.out⟩
    have HO5 : Hid (OpAt (w4.alloc (.cells #[.int .i64 0, .int .i64 q, .int .i64 0, .int .i64 2, .int .i64 c, .int .i64 d] 47)).drew b o ⟨5, d, 2, fa, tb, ta, c, r⟩) := HO4.out.alloc hbw4 _
    clear o0 o1 o2 o3 o4 o5 o6 o7 x1 x2 x6 HM4 HV4 HR4 HN4 HO4
    generalize (w4.alloc (.cells #[.int .i64 0, .int .i64 q, .int .i64 0, .int .i64 2, .int .i64 c, .int .i64 d] 47)).drew = W5 at *
    obtain ⟨ne, hne⟩ : ∃ n, n = w4.heap.size := ⟨_, rfl⟩
    rw [← hne] at E5 hsw4 hbw4 ⊢
    clear hne
    obtain ⟨o0, o1, o2, o3, o4, o5, o6, o7⟩ := HO5.out.eight
    have hbne : b ≠ ne := by omega
    obtain ⟨z0, z1, z2, z3, z4, z5⟩ := CellsAt.six E5.out.bx.1
    have zf := E5.out.bx.2.1
    have hw5 : w.heap.size ≤ W5.heap.size := E5.out.mv.size
    have E6 := Lib.hid ((((E5.out.set 0 (by simp) (.int .i64 5)).set 2 (by simp) (.int .i64 s)).set 1 (by simp) (.int .i64 ((q : Int) + (s : Int)))).alloc (.cells #[.int .i64 5, .int .i64 ((q : Int) + (s : Int)), .int .i64 s, .int .i64 2, .int .i64 c, .int .i64 d] 47))
    go_wp2_with (at_builtin; refine wpList_append_own_at _ rfl _ _ 26 rfl w.heap.size 47 i0 _ 6 48 Tryz.underlying26 hi hz0 hz1 hz2 rfl (by decide) (.slice (some ⟨w.heap.size, 0, none⟩) 0 0) 0 [] rfl (by exact E6.out.own) ⟨W5.heap.size, 0, none⟩ 1 1 [.int .i64 5, .int .i64 ((q : Int) + (s : Int)), .int .i64 s, .int .i64 2, .int .i64 c, .int .i64 d] rfl rfl (new_cells' _ _ (by simp)) (by intro u hu; simp at hu; rcases hu with rfl | rfl | rfl | rfl | rfl | rfl <;> rfl) (by unfold maxLen; omega) (by omega) (by simp; omega) ?_)
    intro v6 w6 hown6 hg6 _ hat6
    have HFIN := Lib.hid (E6.out.fin (c := 0) (L := [⟨5, (q : Int) + s, s, 2, c, d⟩]) hown6 rfl rfl hg6 (by simpa [Value.ownBlock] using hat6) rfl)
    rw [← HL.out] at HFIN
    clear hown6 hg6 hat6 E5 E6
    go_wp2
    refine bodyPost_ret (v := .tuple #[_, .int .i64 0]) (by simp [results, Tryz.results42, go_sem]; rfl) rfl ?_
    exact HFIN.out
  · have HL := Lib.hid (HBAD.out h0)
    have hc0 : (cc != 0) = true := by simpa using h0
    have HC := Lib.hid h0
    clear hm4 HGOOD HBAD h0
    have HFIN : Hid (DidE w S B g cc L m' (.returned (.tuple #[.slice none 0 0, .int .i64 cc])) w4) := by
      rw [HL.out]
      exact ⟨_, S2, rfl, ow_nil _ _, HV4.out, fun e => absurd e HC.out, fun q hq => by cases hq⟩
    go_wp2
    refine bodyPost_ret (v := .tuple #[_, .int .i64 cc]) (by simp [results, Tryz.results42, go_sem]; rfl) rfl ?_
    exact HFIN.out
set_option maxHeartbeats 4000000 in
set_option maxRecDepth 100000 in
theorem l10Do_6 {w : World} {B g : Nat} {m : Mc} {S : Nat → Spot} (hM : MSt w B g m S) (hB : B ≤ w.heap.size) (d fb fa tb ta c r : Int) (b o : Nat) (ho : OpAt w b o ⟨6, d, fb, fa, tb, ta, c, r⟩) (hnb : ¬ blk S b) (ok : okM m = true) (hop : okOpW m.wd ⟨6, d, fb, fa, tb, ta, c, r⟩ = true) (a0 : 0 ≤ fa)
    (s : Nat) (hs : s ≤ 4) (hon : ∀ W, MSt W B g m S → Calls Tryz.prog 68 #[.pointer (some ⟨g, 0, none⟩), .agg #[.int .i64 fb, .int .i64 fa]] W fun e w' => (∃ A c, e = .returned (.slice A s c)) ∧ Below W.heap.size W w')
    (hL : doCode m ⟨6, d, fb, fa, tb, ta, c, r⟩ = 0 → evO m ⟨6, d, fb, fa, tb, ta, c, r⟩ = [⟨4, befS m (fb, fa), s, 0, 0, 0⟩]) :
    Calls Tryz.prog 42 #[.pointer (some ⟨g, 0, none⟩), .pointer (some ⟨b, o, none⟩)] w (DidE w S B g (doCode m ⟨6, d, fb, fa, tb, ta, c, r⟩) (evO m ⟨6, d, fb, fa, tb, ta, c, r⟩) (doTo m ⟨6, d, fb, fa, tb, ta, c, r⟩)) := by
  obtain ⟨i0, hi, hz0, hz1, hz2⟩ := info_parts info_ev
  have hfw : fa < m.wd := (okOpW_iff.1 hop).2.1
  have hbl := befG_le' ok (fb, fa)
  have HM := Lib.hid hM
  have HOK := Lib.hid ok
  have HOP := Lib.hid hop
  have HNB := Lib.hid hnb
  have HON := Lib.hid hon
  have HDO := Lib.hid (fun (W : World) (SX : MSt W B g m S) (hx : OpAt W b o ⟨6, d, fb, fa, tb, ta, c, r⟩) (hBW : B ≤ W.heap.size) => l07Do_any SX hBW ⟨6, d, fb, fa, tb, ta, c, r⟩ b o hx HNB.out HOK.out HOP.out)
  have HBE := Lib.hid (fun (W : World) (hp : RdP W g m) => l10Before_gen m g (fb, fa) W hp HOK.out a0 hfw)
  have HBAD := Lib.hid (fun (h : doCode m ⟨6, d, fb, fa, tb, ta, c, r⟩ ≠ 0) => show evO m ⟨6, d, fb, fa, tb, ta, c, r⟩ = [] by unfold evO; rw [if_neg h])
  have HGOOD := Lib.hid hL
  generalize doCode m ⟨6, d, fb, fa, tb, ta, c, r⟩ = cc at *
  generalize evO m ⟨6, d, fb, fa, tb, ta, c, r⟩ = L at *
  generalize doTo m ⟨6, d, fb, fa, tb, ta, c, r⟩ = m' at *
  generalize befS m (fb, fa) = q at *
  have hbw : Below w.heap.size w (w.alloc (.cells #[] 47)) := (Below.refl _ _).alloc (Nat.le_refl _) _
  have hbs : b < w.heap.size := block_lt_of_cell ho.eight.1
  have HM1 := Lib.hid (HM.out.below hbw)
  have HO1 := Lib.hid (CellsAt.below ho hbw hbs)
  have HV1 := Lib.hid (Mv.of_below (S := S) hbw)
  have HR1 := Lib.hid (World.ownsRow_lit (base := w.heap.size) (e := 47) (size := 6) w #[] 0 (Nat.le_refl _) (by unfold maxLen; omega) rfl)
  have hsw1 : w.heap.size < (w.alloc (.cells #[] 47)).heap.size := by simp
  have hN0 : ¬ blk S w.heap.size := fun e => by have := (HM.out.sp.ge e).2; omega
  have HN0 := Lib.hid hN0
  clear hM ok hop hnb hon hL ho hbw hN0
  go_enter Tryz.func42, Tryz.ntmps42
  obtain ⟨o0, o1, o2, o3, o4, o5, o6, o7⟩ := HO1.out.eight
  go_wp2_with fail
  generalize w.alloc (.cells #[] 47) = W1 at *
  refine (HBE.out _ HM1.out.rd).mono ?_
  rintro e w2 ⟨rfl, hb2⟩
  have HM2 := Lib.hid (HM1.out.below hb2)
  have HO2 := Lib.hid (CellsAt.below HO1.out hb2 (by omega))
  have HV2 := Lib.hid (HV1.out.below_ hb2)
  have HR2 := Lib.hid (own_below HR1.out hb2)
  have hsw2 : w.heap.size < w2.heap.size := Nat.lt_of_lt_of_le hsw1 hb2.size
  clear hb2 o0 o1 o2 o3 o4 o5 o6 o7 HM1 HO1 HV1 HR1 HBE
  obtain ⟨o0, o1, o2, o3, o4, o5, o6, o7⟩ := HO2.out.eight
  go_wp2_with fail
  refine (HON.out _ HM2.out).mono ?_
  rintro e w3 ⟨⟨A3, c3, rfl⟩, hb3⟩
  have HM3 := Lib.hid (HM2.out.below hb3)
  have HO3 := Lib.hid (CellsAt.below HO2.out hb3 (by omega))
  have HV3 := Lib.hid (HV2.out.below_ hb3)
  have HR3 := Lib.hid (own_below HR2.out hb3)
  have hsw3 : w.heap.size < w3.heap.size := Nat.lt_of_lt_of_le hsw2 hb3.size
  clear hb3 o0 o1 o2 o3 o4 o5 o6 o7 HM2 HO2 HV2 HR2 HON
  obtain ⟨o0, o1, o2, o3, o4, o5, o6, o7⟩ := HO3.out.eight
  go_wp2_with fail
  refine (HDO.out _ HM3.out HO3.out (by omega)).mono ?_
  rintro e w4 ⟨rfl, S2, hv4, hm4⟩
  have HV4 := Lib.hid (HV3.out.trans hv4)
  have HO4 := Lib.hid (show OpAt w4 b o ⟨6, d, fb, fa, tb, ta, c, r⟩ from hv4.only.cells HNB.out HO3.out)
  have HR4 := Lib.hid (hv4.only.own HR3.out (fun q hq => by have h9 : w.heap.size = q := Option.some.inj hq; rw [← h9]; exact HN0.out))
  have HN4 := Lib.hid (hv4.nblk HN0.out hsw3)
  have hsw4 : w.heap.size < w4.heap.size := Nat.lt_of_lt_of_le hsw3 hv4.size
  clear hv4 o0 o1 o2 o3 o4 o5 o6 o7 HM3 HO3 HV3 HR3 HDO
  by_cases h0 : cc = 0
  · have HL := Lib.hid (HGOOD.out h0)
    have HM4 := Lib.hid (hm4 h0)
    subst h0
    clear hm4 HGOOD HBAD
    obtain ⟨o0, o1, o2, o3, o4, o5, o6, o7⟩ := HO4.out.eight
    have hbw4 : b < w4.heap.size := block_lt_of_cell o0
    have x1 : ∀ ob, (w4.alloc ob).cell? ⟨b, o + 1, none⟩ = some (.int .i64 d) := fun ob => (HO4.out.alloc hbw4 ob).eight.2.1
    have x2 : ∀ ob, (w4.alloc ob).cell? ⟨b, o + 2, none⟩ = some (.int .i64 fb) := fun ob => (HO4.out.alloc hbw4 ob).eight.2.2.1
    have x6 : ∀ ob, (w4.alloc ob).cell? ⟨b, o + 6, none⟩ = some (.int .i64 c) := fun ob => (HO4.out.alloc hbw4 ob).eight.2.2.2.2.2.2.1
    go_wp2
    go_region
    have E5 : Hid (EvSt w S B g m' S2 w4.heap.size [.int .i64 0, .int .i64 q, .int .i64 0, .int .i64 fb, .int .i64 c, .int .i64 d] (w4.alloc (.cells #[.int .i64 0, .int .i64 q, .int .i64 0, .int .i64 fb, .int .i64 c, .int .i64 d] 47)).drew) :=
      ⟨(HM4.out.below ((Below.refl _ _).alloc (Nat.le_refl _) _)).drew, (HV4.out.alloc _).drew, (HR4.out.alloc _), Bx.new w4 [.int .i64 0, .int .i64 q, .int .i64 0, .int .i64 fb, .int .i64 c, .int .i64 d] _, hsw4, fun e => by have := (HM4.out.sp.ge e).2; omega, HN4.out⟩
    have HO5 : Hid (OpAt (w4.alloc (.cells #[.int .i64 0, .int .i64 q, .int .i64 0, .int .i64 fb, .int .i64 c, .int .i64 d] 47)).drew b o ⟨6, d, fb, fa, tb, ta, c, r⟩) := HO4.out.alloc hbw4 _
    clear o0 o1 o2 o3 o4 o5 o6 o7 x1 x2 x6 HM4 HV4 HR4 HN4 HO4
    generalize (w4.alloc (.cells #[.int .i64 0, .int .i64 q, .int .i64 0, .int .i64 fb, .int .i64 c, .int .i64 d] 47)).drew = W5 at *
    obtain ⟨ne, hne⟩ : ∃ n, n = w4.heap.size := ⟨_, rfl⟩
    rw [← hne] at E5 hsw4 hbw4 ⊢
    clear hne
    obtain ⟨o0, o1, o2, o3, o4, o5, o6, o7⟩ := HO5.out.eight
    have hbne : b ≠ ne := by omega
    obtain ⟨z0, z1, z2, z3, z4, z5⟩ := CellsAt.six E5.out.bx.1
    have zf := E5.out.bx.2.1
    have hw5 : w.heap.size ≤ W5.heap.size := E5.out.mv.size
    have E6 := Lib.hid (((((((E5.out.set 0 (by simp) (.int .i64 4)).set 1 (by simp) (.int .i64 q)).set 2 (by simp) (.int .i64 s)).set 3 (by simp) (.int .i64 0)).set 4 (by simp) (.int .i64 0)).set 5 (by simp) (.int .i64 0)).alloc (.cells #[.int .i64 4, .int .i64 q, .int .i64 s, .int .i64 0, .int .i64 0, .int .i64 0] 47))
    go_wp2_with (at_builtin; refine wpList_append_own_at _ rfl _ _ 26 rfl w.heap.size 47 i0 _ 6 48 Tryz.underlying26 hi hz0 hz1 hz2 rfl (by decide) (.slice (some ⟨w.heap.size, 0, none⟩) 0 0) 0 [] rfl (by exact E6.out.own) ⟨W5.heap.size, 0, none⟩ 1 1 [.int .i64 4, .int .i64 q, .int .i64 s, .int .i64 0, .int .i64 0, .int .i64 0] rfl rfl (new_cells' _ _ (by simp)) (by intro u hu; simp at hu; rcases hu with rfl | rfl | rfl | rfl | rfl | rfl <;> rfl) (by unfold maxLen; omega) (by omega) (by simp; omega) ?_)
    intro v6 w6 hown6 hg6 _ hat6
    have HFIN := Lib.hid (E6.out.fin (c := 0) (L := [⟨4, q, s, 0, 0, 0⟩]) hown6 rfl rfl hg6 (by simpa [Value.ownBlock] using hat6) rfl)
    rw [← HL.out] at HFIN
    clear hown6 hg6 hat6 E5 E6
    go_wp2
    refine bodyPost_ret (v := .tuple #[_, .int .i64 0]) (by simp [results, Tryz.results42, go_sem]; rfl) rfl ?_
    exact HFIN.out
  · have HL := Lib.hid (HBAD.out h0)
    have hc0 : (cc != 0) = true := by simpa using h0
    have HC := Lib.hid h0
    clear hm4 HGOOD HBAD h0
    have HFIN : Hid (DidE w S B g cc L m' (.returned (.tuple #[.slice none 0 0, .int .i64 cc])) w4) := by
      rw [HL.out]
      exact ⟨_, S2, rfl, ow_nil _ _, HV4.out, fun e => absurd e HC.out, fun q hq => by cases hq⟩
    go_wp2
    refine bodyPost_ret (v := .tuple #[_, .int .i64 cc]) (by simp [results, Tryz.results42, go_sem]; rfl) rfl ?_
    exact HFIN.out

end Go.Proofs.YthhpjgdeehcgjaaGreat

/-
  The reference's l10Do on a machine of its own: what makes no event.
-/
namespace Go.Proofs.YthhpjgdeehcgjaaGreat
set_option linter.unusedVariables false
set_option linter.unusedSimpArgs false
open Go.RowKit

set_option maxHeartbeats 4000000 in
set_option maxRecDepth 100000 in
theorem l10Do_3 {w : World} {B g : Nat} {m : Mc} {S : Nat → Spot} (hM : MSt w B g m S) (hB : B ≤ w.heap.size) (d fb fa tb ta c r : Int) (b o : Nat) (ho : OpAt w b o ⟨3, d, fb, fa, tb, ta, c, r⟩) (hnb : ¬ blk S b) (ok : okM m = true) (hop : okOpW m.wd ⟨3, d, fb, fa, tb, ta, c, r⟩ = true) (a0 : 0 ≤ fa)
    (s : Nat) (hs : s ≤ 4) (hon : ∀ W, MSt W B g m S → Calls Tryz.prog 68 #[.pointer (some ⟨g, 0, none⟩), .agg #[.int .i64 fb, .int .i64 fa]] W fun e w' => (∃ A c, e = .returned (.slice A s c)) ∧ Below W.heap.size W w')
    (hL : doCode m ⟨3, d, fb, fa, tb, ta, c, r⟩ = 0 → evO m ⟨3, d, fb, fa, tb, ta, c, r⟩ = []) :
    Calls Tryz.prog 42 #[.pointer (some ⟨g, 0, none⟩), .pointer (some ⟨b, o, none⟩)] w (DidE w S B g (doCode m ⟨3, d, fb, fa, tb, ta, c, r⟩) (evO m ⟨3, d, fb, fa, tb, ta, c, r⟩) (doTo m ⟨3, d, fb, fa, tb, ta, c, r⟩)) := by
  obtain ⟨i0, hi, hz0, hz1, hz2⟩ := info_parts info_ev
  have hfw : fa < m.wd := (okOpW_iff.1 hop).2.1
  have hbl := befG_le' ok (fb, fa)
  have HM := Lib.hid hM
  have HOK := Lib.hid ok
  have HOP := Lib.hid hop
  have HNB := Lib.hid hnb
  have HON := Lib.hid hon
  have HDO := Lib.hid (fun (W : World) (SX : MSt W B g m S) (hx : OpAt W b o ⟨3, d, fb, fa, tb, ta, c, r⟩) (hBW : B ≤ W.heap.size) => l07Do_any SX hBW ⟨3, d, fb, fa, tb, ta, c, r⟩ b o hx HNB.out HOK.out HOP.out)
  have HBE := Lib.hid (fun (W : World) (hp : RdP W g m) => l10Before_gen m g (fb, fa) W hp HOK.out a0 hfw)
  have HBAD := Lib.hid (fun (h : doCode m ⟨3, d, fb, fa, tb, ta, c, r⟩ ≠ 0) => show evO m ⟨3, d, fb, fa, tb, ta, c, r⟩ = [] by unfold evO; rw [if_neg h])
  have HGOOD := Lib.hid hL
  generalize doCode m ⟨3, d, fb, fa, tb, ta, c, r⟩ = cc at *
  generalize evO m ⟨3, d, fb, fa, tb, ta, c, r⟩ = L at *
  generalize doTo m ⟨3, d, fb, fa, tb, ta, c, r⟩ = m' at *
  generalize befS m (fb, fa) = q at *
  have hbw : Below w.heap.size w (w.alloc (.cells #[] 47)) := (Below.refl _ _).alloc (Nat.le_refl _) _
  have hbs : b < w.heap.size := block_lt_of_cell ho.eight.1
  have HM1 := Lib.hid (HM.out.below hbw)
  have HO1 := Lib.hid (CellsAt.below ho hbw hbs)
  have HV1 := Lib.hid (Mv.of_below (S := S) hbw)
  have HR1 := Lib.hid (World.ownsRow_lit (base := w.heap.size) (e := 47) (size := 6) w #[] 0 (Nat.le_refl _) (by unfold maxLen; omega) rfl)
  have hsw1 : w.heap.size < (w.alloc (.cells #[] 47)).heap.size := by simp
  have hN0 : ¬ blk S w.heap.size := fun e => by have := (HM.out.sp.ge e).2; omega
  have HN0 := Lib.hid hN0
  clear hM ok hop hnb hon hL ho hbw hN0
  go_enter Tryz.func42, Tryz.ntmps42
  obtain ⟨o0, o1, o2, o3, o4, o5, o6, o7⟩ := HO1.out.eight
  go_wp2_with fail
  generalize w.alloc (.cells #[] 47) = W1 at *
  refine (HBE.out _ HM1.out.rd).mono ?_
  rintro e w2 ⟨rfl, hb2⟩
  have HM2 := Lib.hid (HM1.out.below hb2)
  have HO2 := Lib.hid (CellsAt.below HO1.out hb2 (by omega))
  have HV2 := Lib.hid (HV1.out.below_ hb2)
  have HR2 := Lib.hid (own_below HR1.out hb2)
  have hsw2 : w.heap.size < w2.heap.size := Nat.lt_of_lt_of_le hsw1 hb2.size
  clear hb2 o0 o1 o2 o3 o4 o5 o6 o7 HM1 HO1 HV1 HR1 HBE
  obtain ⟨o0, o1, o2, o3, o4, o5, o6, o7⟩ := HO2.out.eight
  go_wp2_with fail
  refine (HON.out _ HM2.out).mono ?_
  rintro e w3 ⟨⟨A3, c3, rfl⟩, hb3⟩
  have HM3 := Lib.hid (HM2.out.below hb3)
  have HO3 := Lib.hid (CellsAt.below HO2.out hb3 (by omega))
  have HV3 := Lib.hid (HV2.out.below_ hb3)
  have HR3 := Lib.hid (own_below HR2.out hb3)
  have hsw3 : w.heap.size < w3.heap.size := Nat.lt_of_lt_of_le hsw2 hb3.size
  clear hb3 o0 o1 o2 o3 o4 o5 o6 o7 HM2 HO2 HV2 HR2 HON
  obtain ⟨o0, o1, o2, o3, o4, o5, o6, o7⟩ := HO3.out.eight
  go_wp2_with fail
  refine (HDO.out _ HM3.out HO3.out (by omega)).mono ?_
  rintro e w4 ⟨rfl, S2, hv4, hm4⟩
  have HV4 := Lib.hid (HV3.out.trans hv4)
  have HO4 := Lib.hid (show OpAt w4 b o ⟨3, d, fb, fa, tb, ta, c, r⟩ from hv4.only.cells HNB.out HO3.out)
  have HR4 := Lib.hid (hv4.only.own HR3.out (fun q hq => by have h9 : w.heap.size = q := Option.some.inj hq; rw [← h9]; exact HN0.out))
  have HN4 := Lib.hid (hv4.nblk HN0.out hsw3)
  have hsw4 : w.heap.size < w4.heap.size := Nat.lt_of_lt_of_le hsw3 hv4.size
  clear hv4 o0 o1 o2 o3 o4 o5 o6 o7 HM3 HO3 HV3 HR3 HDO
  by_cases h0 : cc = 0
  · have HL := Lib.hid (HGOOD.out h0)
    have HM4 := Lib.hid (hm4 h0)
    subst h0
    clear hm4 HGOOD HBAD
    obtain ⟨o0, o1, o2, o3, o4, o5, o6, o7⟩ := HO4.out.eight
    have hbw4 : b < w4.heap.size := block_lt_of_cell o0
    have x1 : ∀ ob, (w4.alloc ob).cell? ⟨b, o + 1, none⟩ = some (.int .i64 d) := fun ob => (HO4.out.alloc hbw4 ob).eight.2.1
    have x2 : ∀ ob, (w4.alloc ob).cell? ⟨b, o + 2, none⟩ = some (.int .i64 fb) := fun ob => (HO4.out.alloc hbw4 ob).eight.2.2.1
    have x6 : ∀ ob, (w4.alloc ob).cell? ⟨b, o + 6, none⟩ = some (.int .i64 c) := fun ob => (HO4.out.alloc hbw4 ob).eight.2.2.2.2.2.2.1
    go_wp2
    go_region
    have E5 : Hid (EvSt w S B g m' S2 w4.heap.size [.int .i64 0, .int .i64 q, .int .i64 0, .int .i64 fb, .int .i64 c, .int .i64 d] (w4.alloc (.cells #[.int .i64 0, .int .i64 q, .int .i64 0, .int .i64 fb, .int .i64 c, .int .i64 d] 47)).drew) :=
      ⟨(HM4.out.below ((Below.refl _ _).alloc (Nat.le_refl _) _)).drew, (HV4.out.alloc _).drew, (HR4.out.alloc _), Bx.new w4 [.int .i64 0, .int .i64 q, .int .i64 0, .int .i64 fb, .int .i64 c, .int .i64 d] _, hsw4, fun e => by have := (HM4.out.sp.ge e).2; omega, HN4.out⟩
    have HO5 : Hid (OpAt (w4.alloc (.cells #[.int .i64 0, .int .i64 q, .int .i64 0, .int .i64 fb, .int .i64 c, .int .i64 d] 47)).drew b o ⟨3, d, fb, fa, tb, ta, c, r⟩) := HO4.out.alloc hbw4 _
    clear o0 o1 o2 o3 o4 o5 o6 o7 x1 x2 x6 HM4 HV4 HR4 HN4 HO4
    generalize (w4.alloc (.cells #[.int .i64 0, .int .i64 q, .int .i64 0, .int .i64 fb, .int .i64 c, .int .i64 d] 47)).drew = W5 at *
    obtain ⟨ne, hne⟩ : ∃ n, n = w4.heap.size := ⟨_, rfl⟩
    rw [← hne] at E5 hsw4 hbw4 ⊢
    clear hne
    obtain ⟨o0, o1, o2, o3, o4, o5, o6, o7⟩ := HO5.out.eight
    have hbne : b ≠ ne := by omega
    have HFIN : Hid (DidE w S B g 0 L m' (.returned (.tuple #[.slice (some ⟨w.heap.size, 0, none⟩) 0 0, .int .i64 0])) W5) := by
      rw [HL.out]
      exact ⟨_, S2, rfl, E5.out.own, E5.out.mv, fun _ => E5.out.ms, fun q hq => by have h9 : w.heap.size = q := Option.some.inj hq; rw [← h9]; exact E5.out.n0⟩
    go_wp2
    refine bodyPost_ret (v := .tuple #[_, .int .i64 0]) (by simp [results, Tryz.results42, go_sem]; rfl) rfl ?_
    exact HFIN.out
  · have HL := Lib.hid (HBAD.out h0)
    have hc0 : (cc != 0) = true := by simpa using h0
    have HC := Lib.hid h0
    clear hm4 HGOOD HBAD h0
    have HFIN : Hid (DidE w S B g cc L m' (.returned (.tuple #[.slice none 0 0, .int .i64 cc])) w4) := by
      rw [HL.out]
      exact ⟨_, S2, rfl, ow_nil _ _, HV4.out, fun e => absurd e HC.out, fun q hq => by cases hq⟩
    go_wp2
    refine bodyPost_ret (v := .tuple #[_, .int .i64 cc]) (by simp [results, Tryz.results42, go_sem]; rfl) rfl ?_
    exact HFIN.out
set_option maxHeartbeats 4000000 in
set_option maxRecDepth 100000 in
theorem l10Do_4 {w : World} {B g : Nat} {m : Mc} {S : Nat → Spot} (hM : MSt w B g m S) (hB : B ≤ w.heap.size) (d fb fa tb ta c r : Int) (b o : Nat) (ho : OpAt w b o ⟨4, d, fb, fa, tb, ta, c, r⟩) (hnb : ¬ blk S b) (ok : okM m = true) (hop : okOpW m.wd ⟨4, d, fb, fa, tb, ta, c, r⟩ = true) (a0 : 0 ≤ fa)
    (s : Nat) (hs : s ≤ 4) (hon : ∀ W, MSt W B g m S → Calls Tryz.prog 68 #[.pointer (some ⟨g, 0, none⟩), .agg #[.int .i64 fb, .int .i64 fa]] W fun e w' => (∃ A c, e = .returned (.slice A s c)) ∧ Below W.heap.size W w')
    (hL : doCode m ⟨4, d, fb, fa, tb, ta, c, r⟩ = 0 → evO m ⟨4, d, fb, fa, tb, ta, c, r⟩ = []) :
    Calls Tryz.prog 42 #[.pointer (some ⟨g, 0, none⟩), .pointer (some ⟨b, o, none⟩)] w (DidE w S B g (doCode m ⟨4, d, fb, fa, tb, ta, c, r⟩) (evO m ⟨4, d, fb, fa, tb, ta, c, r⟩) (doTo m ⟨4, d, fb, fa, tb, ta, c, r⟩)) := by
  obtain ⟨i0, hi, hz0, hz1, hz2⟩ := info_parts info_ev
  have hfw : fa < m.wd := (okOpW_iff.1 hop).2.1
  have hbl := befG_le' ok (fb, fa)
  have HM := Lib.hid hM
  have HOK := Lib.hid ok
  have HOP := Lib.hid hop
  have HNB := Lib.hid hnb
  have HON := Lib.hid hon
  have HDO := Lib.hid (fun (W : World) (SX : MSt W B g m S) (hx : OpAt W b o ⟨4, d, fb, fa, tb, ta, c, r⟩) (hBW : B ≤ W.heap.size) => l07Do_any SX hBW ⟨4, d, fb, fa, tb, ta, c, r⟩ b o hx HNB.out HOK.out HOP.out)
  have HBE := Lib.hid (fun (W : World) (hp : RdP W g m) => l10Before_gen m g (fb, fa) W hp HOK.out a0 hfw)
  have HBAD := Lib.hid (fun (h : doCode m ⟨4, d, fb, fa, tb, ta, c, r⟩ ≠ 0) => show evO m ⟨4, d, fb, fa, tb, ta, c, r⟩ = [] by unfold evO; rw [if_neg h])
  have HGOOD := Lib.hid hL
  generalize doCode m ⟨4, d, fb, fa, tb, ta, c, r⟩ = cc at *
  generalize evO m ⟨4, d, fb, fa, tb, ta, c, r⟩ = L at *
  generalize doTo m ⟨4, d, fb, fa, tb, ta, c, r⟩ = m' at *
  generalize befS m (fb, fa) = q at *
  have hbw : Below w.heap.size w (w.alloc (.cells #[] 47)) := (Below.refl _ _).alloc (Nat.le_refl _) _
  have hbs : b < w.heap.size := block_lt_of_cell ho.eight.1
  have HM1 := Lib.hid (HM.out.below hbw)
  have HO1 := Lib.hid (CellsAt.below ho hbw hbs)
  have HV1 := Lib.hid (Mv.of_below (S := S) hbw)
  have HR1 := Lib.hid (World.ownsRow_lit (base := w.heap.size) (e := 47) (size := 6) w #[] 0 (Nat.le_refl _) (by unfold maxLen; omega) rfl)
  have hsw1 : w.heap.size < (w.alloc (.cells #[] 47)).heap.size := by simp
  have hN0 : ¬ blk S w.heap.size := fun e => by have := (HM.out.sp.ge e).2; omega
  have HN0 := Lib.hid hN0
  clear hM ok hop hnb hon hL ho hbw hN0
  go_enter Tryz.func42, Tryz.ntmps42
  obtain ⟨o0, o1, o2, o3, o4, o5, o6, o7⟩ := HO1.out.eight
  go_wp2_with fail
  generalize w.alloc (.cells #[] 47) = W1 at *
  refine (HBE.out _ HM1.out.rd).mono ?_
  rintro e w2 ⟨rfl, hb2⟩
  have HM2 := Lib.hid (HM1.out.below hb2)
  have HO2 := Lib.hid (CellsAt.below HO1.out hb2 (by omega))
  have HV2 := Lib.hid (HV1.out.below_ hb2)
  have HR2 := Lib.hid (own_below HR1.out hb2)
  have hsw2 : w.heap.size < w2.heap.size := Nat.lt_of_lt_of_le hsw1 hb2.size
  clear hb2 o0 o1 o2 o3 o4 o5 o6 o7 HM1 HO1 HV1 HR1 HBE
  obtain ⟨o0, o1, o2, o3, o4, o5, o6, o7⟩ := HO2.out.eight
  go_wp2_with fail
  refine (HON.out _ HM2.out).mono ?_
  rintro e w3 ⟨⟨A3, c3, rfl⟩, hb3⟩
  have HM3 := Lib.hid (HM2.out.below hb3)
  have HO3 := Lib.hid (CellsAt.below HO2.out hb3 (by omega))
  have HV3 := Lib.hid (HV2.out.below_ hb3)
  have HR3 := Lib.hid (own_below HR2.out hb3)
  have hsw3 : w.heap.size < w3.heap.size := Nat.lt_of_lt_of_le hsw2 hb3.size
  clear hb3 o0 o1 o2 o3 o4 o5 o6 o7 HM2 HO2 HV2 HR2 HON
  obtain ⟨o0, o1, o2, o3, o4, o5, o6, o7⟩ := HO3.out.eight
  go_wp2_with fail
  refine (HDO.out _ HM3.out HO3.out (by omega)).mono ?_
  rintro e w4 ⟨rfl, S2, hv4, hm4⟩
  have HV4 := Lib.hid (HV3.out.trans hv4)
  have HO4 := Lib.hid (show OpAt w4 b o ⟨4, d, fb, fa, tb, ta, c, r⟩ from hv4.only.cells HNB.out HO3.out)
  have HR4 := Lib.hid (hv4.only.own HR3.out (fun q hq => by have h9 : w.heap.size = q := Option.some.inj hq; rw [← h9]; exact HN0.out))
  have HN4 := Lib.hid (hv4.nblk HN0.out hsw3)
  have hsw4 : w.heap.size < w4.heap.size := Nat.lt_of_lt_of_le hsw3 hv4.size
  clear hv4 o0 o1 o2 o3 o4 o5 o6 o7 HM3 HO3 HV3 HR3 HDO
  by_cases h0 : cc = 0
  · have HL := Lib.hid (HGOOD.out h0)
    have HM4 := Lib.hid (hm4 h0)
    subst h0
    clear hm4 HGOOD HBAD
    obtain ⟨o0, o1, o2, o3, o4, o5, o6, o7⟩ := HO4.out.eight
    have hbw4 : b < w4.heap.size := block_lt_of_cell o0
    have x1 : ∀ ob, (w4.alloc ob).cell? ⟨b, o + 1, none⟩ = some (.int .i64 d) := fun ob => (HO4.out.alloc hbw4 ob).eight.2.1
    have x2 : ∀ ob, (w4.alloc ob).cell? ⟨b, o + 2, none⟩ = some (.int .i64 fb) := fun ob => (HO4.out.alloc hbw4 ob).eight.2.2.1
    have x6 : ∀ ob, (w4.alloc ob).cell? ⟨b, o + 6, none⟩ = some (.int .i64 c) := fun ob => (HO4.out.alloc hbw4 ob).eight.2.2.2.2.2.2.1
    go_wp2
    go_region
    have E5 : Hid (EvSt w S B g m' S2 w4.heap.size [.int .i64 0, .int .i64 q, .int .i64 0, .int .i64 fb, .int .i64 c, .int .i64 d] (w4.alloc (.cells #[.int .i64 0, .int .i64 q, .int .i64 0, .int .i64 fb, .int .i64 c, .int .i64 d] 47)).drew) :=
      ⟨(HM4.out.below ((Below.refl _ _).alloc (Nat.le_refl _) _)).drew, (HV4.out.alloc _).drew, (HR4.out.alloc _), Bx.new w4 [.int .i64 0, .int .i64 q, .int .i64 0, .int .i64 fb, .int .i64 c, .int .i64 d] _, hsw4, fun e => by have := (HM4.out.sp.ge e).2; omega, HN4.out⟩
    have HO5 : Hid (OpAt (w4.alloc (.cells #[.int .i64 0, .int .i64 q, .int .i64 0, .int .i64 fb, .int .i64 c, .int .i64 d] 47)).drew b o ⟨4, d, fb, fa, tb, ta, c, r⟩) := HO4.out.alloc hbw4 _
    clear o0 o1 o2 o3 o4 o5 o6 o7 x1 x2 x6 HM4 HV4 HR4 HN4 HO4
    generalize (w4.alloc (.cells #[.int .i64 0, .int .i64 q, .int .i64 0, .int .i64 fb, .int .i64 c, .int .i64 d] 47)).drew = W5 at *
    obtain ⟨ne, hne⟩ : ∃ n, n = w4.heap.size := ⟨_, rfl⟩
    rw [← hne] at E5 hsw4 hbw4 ⊢
    clear hne
    obtain ⟨o0, o1, o2, o3, o4, o5, o6, o7⟩ := HO5.out.eight
    have hbne : b ≠ ne := by omega
    have HFIN : Hid (DidE w S B g 0 L m' (.returned (.tuple #[.slice (some ⟨w.heap.size, 0, none⟩) 0 0, .int .i64 0])) W5) := by
      rw [HL.out]
      exact ⟨_, S2, rfl, E5.out.own, E5.out.mv, fun _ => E5.out.ms, fun q hq => by have h9 : w.heap.size = q := Option.some.inj hq; rw [← h9]; exact E5.out.n0⟩
    go_wp2
    refine bodyPost_ret (v := .tuple #[_, .int .i64 0]) (by simp [results, Tryz.results42, go_sem]; rfl) rfl ?_
    exact HFIN.out
  · have HL := Lib.hid (HBAD.out h0)
    have hc0 : (cc != 0) = true := by simpa using h0
    have HC := Lib.hid h0
    clear hm4 HGOOD HBAD h0
    have HFIN : Hid (DidE w S B g cc L m' (.returned (.tuple #[.slice none 0 0, .int .i64 cc])) w4) := by
      rw [HL.out]
      exact ⟨_, S2, rfl, ow_nil _ _, HV4.out, fun e => absurd e HC.out, fun q hq => by cases hq⟩
    go_wp2
    refine bodyPost_ret (v := .tuple #[_, .int .i64 cc]) (by simp [results, Tryz.results42, go_sem]; rfl) rfl ?_
    exact HFIN.out
set_option maxHeartbeats 4000000 in
set_option maxRecDepth 100000 in
theorem l10Do_8 {w : World} {B g : Nat} {m : Mc} {S : Nat → Spot} (hM : MSt w B g m S) (hB : B ≤ w.heap.size) (d fb fa tb ta c r : Int) (b o : Nat) (ho : OpAt w b o ⟨8, d, fb, fa, tb, ta, c, r⟩) (hnb : ¬ blk S b) (ok : okM m = true) (hop : okOpW m.wd ⟨8, d, fb, fa, tb, ta, c, r⟩ = true) (a0 : 0 ≤ fa)
    (s : Nat) (hs : s ≤ 4) (hon : ∀ W, MSt W B g m S → Calls Tryz.prog 68 #[.pointer (some ⟨g, 0, none⟩), .agg #[.int .i64 fb, .int .i64 fa]] W fun e w' => (∃ A c, e = .returned (.slice A s c)) ∧ Below W.heap.size W w')
    (hL : doCode m ⟨8, d, fb, fa, tb, ta, c, r⟩ = 0 → evO m ⟨8, d, fb, fa, tb, ta, c, r⟩ = []) :
    Calls Tryz.prog 42 #[.pointer (some ⟨g, 0, none⟩), .pointer (some ⟨b, o, none⟩)] w (DidE w S B g (doCode m ⟨8, d, fb, fa, tb, ta, c, r⟩) (evO m ⟨8, d, fb, fa, tb, ta, c, r⟩) (doTo m ⟨8, d, fb, fa, tb, ta, c, r⟩)) := by
  obtain ⟨i0, hi, hz0, hz1, hz2⟩ := info_parts info_ev
  have hfw : fa < m.wd := (okOpW_iff.1 hop).2.1
  have hbl := befG_le' ok (fb, fa)
  have HM := Lib.hid hM
  have HOK := Lib.hid ok
  have HOP := Lib.hid hop
  have HNB := Lib.hid hnb
  have HON := Lib.hid hon
  have HDO := Lib.hid (fun (W : World) (SX : MSt W B g m S) (hx : OpAt W b o ⟨8, d, fb, fa, tb, ta, c, r⟩) (hBW : B ≤ W.heap.size) => l07Do_any SX hBW ⟨8, d, fb, fa, tb, ta, c, r⟩ b o hx HNB.out HOK.out HOP.out)
  have HBE := Lib.hid (fun (W : World) (hp : RdP W g m) => l10Before_gen m g (fb, fa) W hp HOK.out a0 hfw)
  have HBAD := Lib.hid (fun (h : doCode m ⟨8, d, fb, fa, tb, ta, c, r⟩ ≠ 0) => show evO m ⟨8, d, fb, fa, tb, ta, c, r⟩ = [] by unfold evO; rw [if_neg h])
  have HGOOD := Lib.hid hL
  generalize doCode m ⟨8, d, fb, fa, tb, ta, c, r⟩ = cc at *
  generalize evO m ⟨8, d, fb, fa, tb, ta, c, r⟩ = L at *
  generalize doTo m ⟨8, d, fb, fa, tb, ta, c, r⟩ = m' at *
  generalize befS m (fb, fa) = q at *
  have hbw : Below w.heap.size w (w.alloc (.cells #[] 47)) := (Below.refl _ _).alloc (Nat.le_refl _) _
  have hbs : b < w.heap.size := block_lt_of_cell ho.eight.1
  have HM1 := Lib.hid (HM.out.below hbw)
  have HO1 := Lib.hid (CellsAt.below ho hbw hbs)
  have HV1 := Lib.hid (Mv.of_below (S := S) hbw)
  have HR1 := Lib.hid (World.ownsRow_lit (base := w.heap.size) (e := 47) (size := 6) w #[] 0 (Nat.le_refl _) (by unfold maxLen; omega) rfl)
  have hsw1 : w.heap.size < (w.alloc (.cells #[] 47)).heap.size := by simp
  have hN0 : ¬ blk S w.heap.size := fun e => by have := (HM.out.sp.ge e).2; omega
  have HN0 := Lib.hid hN0
  clear hM ok hop hnb hon hL ho hbw hN0
  go_enter Tryz.func42, Tryz.ntmps42
  obtain ⟨o0, o1, o2, o3, o4, o5, o6, o7⟩ := HO1.out.eight
  go_wp2_with fail
  generalize w.alloc (.cells #[] 47) = W1 at *
  refine (HBE.out _ HM1.out.rd).mono ?_
  rintro e w2 ⟨rfl, hb2⟩
  have HM2 := Lib.hid (HM1.out.below hb2)
  have HO2 := Lib.hid (CellsAt.below HO1.out hb2 (by omega))
  have HV2 := Lib.hid (HV1.out.below_ hb2)
  have HR2 := Lib.hid (own_below HR1.out hb2)
  have hsw2 : w.heap.size < w2.heap.size := Nat.lt_of_lt_of_le hsw1 hb2.size
  clear hb2 o0 o1 o2 o3 o4 o5 o6 o7 HM1 HO1 HV1 HR1 HBE
  obtain ⟨o0, o1, o2, o3, o4, o5, o6, o7⟩ := HO2.out.eight
  go_wp2_with fail
  refine (HON.out _ HM2.out).mono ?_
  rintro e w3 ⟨⟨A3, c3, rfl⟩, hb3⟩
  have HM3 := Lib.hid (HM2.out.below hb3)
  have HO3 := Lib.hid (CellsAt.below HO2.out hb3 (by omega))
  have HV3 := Lib.hid (HV2.out.below_ hb3)
  have HR3 := Lib.hid (own_below HR2.out hb3)
  have hsw3 : w.heap.size < w3.heap.size := Nat.lt_of_lt_of_le hsw2 hb3.size
  clear hb3 o0 o1 o2 o3 o4 o5 o6 o7 HM2 HO2 HV2 HR2 HON
  obtain ⟨o0, o1, o2, o3, o4, o5, o6, o7⟩ := HO3.out.eight
  go_wp2_with fail
  refine (HDO.out _ HM3.out HO3.out (by omega)).mono ?_
  rintro e w4 ⟨rfl, S2, hv4, hm4⟩
  have HV4 := Lib.hid (HV3.out.trans hv4)
  have HO4 := Lib.hid (show OpAt w4 b o ⟨8, d, fb, fa, tb, ta, c, r⟩ from hv4.only.cells HNB.out HO3.out)
  have HR4 := Lib.hid (hv4.only.own HR3.out (fun q hq => by have h9 : w.heap.size = q := Option.some.inj hq; rw [← h9]; exact HN0.out))
  have HN4 := Lib.hid (hv4.nblk HN0.out hsw3)
  have hsw4 : w.heap.size < w4.heap.size := Nat.lt_of_lt_of_le hsw3 hv4.size
  clear hv4 o0 o1 o2 o3 o4 o5 o6 o7 HM3 HO3 HV3 HR3 HDO
  by_cases h0 : cc = 0
  · have HL := Lib.hid (HGOOD.out h0)
    have HM4 := Lib.hid (hm4 h0)
    subst h0
    clear hm4 HGOOD HBAD
    obtain ⟨o0, o1, o2, o3, o4, o5, o6, o7⟩ := HO4.out.eight
    have hbw4 : b < w4.heap.size := block_lt_of_cell o0
    have x1 : ∀ ob, (w4.alloc ob).cell? ⟨b, o + 1, none⟩ = some (.int .i64 d) := fun ob => (HO4.out.alloc hbw4 ob).eight.2.1
    have x2 : ∀ ob, (w4.alloc ob).cell? ⟨b, o + 2, none⟩ = some (.int .i64 fb) := fun ob => (HO4.out.alloc hbw4 ob).eight.2.2.1
    have x6 : ∀ ob, (w4.alloc ob).cell? ⟨b, o + 6, none⟩ = some (.int .i64 c) := fun ob => (HO4.out.alloc hbw4 ob).eight.2.2.2.2.2.2.1
    go_wp2
    go_region
    have E5 : Hid (EvSt w S B g m' S2 w4.heap.size [.int .i64 0, .int .i64 q, .int .i64 0, .int .i64 fb, .int .i64 c, .int .i64 d] (w4.alloc (.cells #[.int .i64 0, .int .i64 q, .int .i64 0, .int .i64 fb, .int .i64 c, .int .i64 d] 47)).drew) :=
      ⟨(HM4.out.below ((Below.refl _ _).alloc (Nat.le_refl _) _)).drew, (HV4.out.alloc _).drew, (HR4.out.alloc _), Bx.new w4 [.int .i64 0, .int .i64 q, .int .i64 0, .int .i64 fb, .int .i64 c, .int .i64 d] _, hsw4, fun e => by have := (HM4.out.sp.ge e).2; omega, HN4.out⟩
    have HO5 : Hid (OpAt (w4.alloc (.cells #[.int .i64 0, .int .i64 q, .int .i64 0, .int .i64 fb, .int .i64 c, .int .i64 d] 47)).drew b o ⟨8, d, fb, fa, tb, ta, c, r⟩) := HO4.out.alloc hbw4 _
    clear o0 o1 o2 o3 o4 o5 o6 o7 x1 x2 x6 HM4 HV4 HR4 HN4 HO4
    generalize (w4.alloc (.cells #[.int .i64 0, .int .i64 q, .int .i64 0, .int .i64 fb, .int .i64 c, .int .i64 d] 47)).drew = W5 at *
    obtain ⟨ne, hne⟩ : ∃ n, n = w4.heap.size := ⟨_, rfl⟩
    rw [← hne] at E5 hsw4 hbw4 ⊢
    clear hne
    obtain ⟨o0, o1, o2, o3, o4, o5, o6, o7⟩ := HO5.out.eight
    have hbne : b ≠ ne := by omega
    have HFIN : Hid (DidE w S B g 0 L m' (.returned (.tuple #[.slice (some ⟨w.heap.size, 0, none⟩) 0 0, .int .i64 0])) W5) := by
      rw [HL.out]
      exact ⟨_, S2, rfl, E5.out.own, E5.out.mv, fun _ => E5.out.ms, fun q hq => by have h9 : w.heap.size = q := Option.some.inj hq; rw [← h9]; exact E5.out.n0⟩
    go_wp2
    refine bodyPost_ret (v := .tuple #[_, .int .i64 0]) (by simp [results, Tryz.results42, go_sem]; rfl) rfl ?_
    exact HFIN.out
  · have HL := Lib.hid (HBAD.out h0)
    have hc0 : (cc != 0) = true := by simpa using h0
    have HC := Lib.hid h0
    clear hm4 HGOOD HBAD h0
    have HFIN : Hid (DidE w S B g cc L m' (.returned (.tuple #[.slice none 0 0, .int .i64 cc])) w4) := by
      rw [HL.out]
      exact ⟨_, S2, rfl, ow_nil _ _, HV4.out, fun e => absurd e HC.out, fun q hq => by cases hq⟩
    go_wp2
    refine bodyPost_ret (v := .tuple #[_, .int .i64 cc]) (by simp [results, Tryz.results42, go_sem]; rfl) rfl ?_
    exact HFIN.out
set_option maxHeartbeats 4000000 in
set_option maxRecDepth 100000 in
theorem l10Do_9 {w : World} {B g : Nat} {m : Mc} {S : Nat → Spot} (hM : MSt w B g m S) (hB : B ≤ w.heap.size) (d fb fa tb ta c r : Int) (b o : Nat) (ho : OpAt w b o ⟨9, d, fb, fa, tb, ta, c, r⟩) (hnb : ¬ blk S b) (ok : okM m = true) (hop : okOpW m.wd ⟨9, d, fb, fa, tb, ta, c, r⟩ = true) (a0 : 0 ≤ fa)
    (s : Nat) (hs : s ≤ 4) (hon : ∀ W, MSt W B g m S → Calls Tryz.prog 68 #[.pointer (some ⟨g, 0, none⟩), .agg #[.int .i64 fb, .int .i64 fa]] W fun e w' => (∃ A c, e = .returned (.slice A s c)) ∧ Below W.heap.size W w')
    (hL : doCode m ⟨9, d, fb, fa, tb, ta, c, r⟩ = 0 → evO m ⟨9, d, fb, fa, tb, ta, c, r⟩ = []) :
    Calls Tryz.prog 42 #[.pointer (some ⟨g, 0, none⟩), .pointer (some ⟨b, o, none⟩)] w (DidE w S B g (doCode m ⟨9, d, fb, fa, tb, ta, c, r⟩) (evO m ⟨9, d, fb, fa, tb, ta, c, r⟩) (doTo m ⟨9, d, fb, fa, tb, ta, c, r⟩)) := by
  obtain ⟨i0, hi, hz0, hz1, hz2⟩ := info_parts info_ev
  have hfw : fa < m.wd := (okOpW_iff.1 hop).2.1
  have hbl := befG_le' ok (fb, fa)
  have HM := Lib.hid hM
  have HOK := Lib.hid ok
  have HOP := Lib.hid hop
  have HNB := Lib.hid hnb
  have HON := Lib.hid hon
  have HDO := Lib.hid (fun (W : World) (SX : MSt W B g m S) (hx : OpAt W b o ⟨9, d, fb, fa, tb, ta, c, r⟩) (hBW : B ≤ W.heap.size) => l07Do_any SX hBW ⟨9, d, fb, fa, tb, ta, c, r⟩ b o hx HNB.out HOK.out HOP.out)
  have HBE := Lib.hid (fun (W : World) (hp : RdP W g m) => l10Before_gen m g (fb, fa) W hp HOK.out a0 hfw)
  have HBAD := Lib.hid (fun (h : doCode m ⟨9, d, fb, fa, tb, ta, c, r⟩ ≠ 0) => show evO m ⟨9, d, fb, fa, tb, ta, c, r⟩ = [] by unfold evO; rw [if_neg h])
  have HGOOD := Lib.hid hL
  generalize doCode m ⟨9, d, fb, fa, tb, ta, c, r⟩ = cc at *
  generalize evO m ⟨9, d, fb, fa, tb, ta, c, r⟩ = L at *
  generalize doTo m ⟨9, d, fb, fa, tb, ta, c, r⟩ = m' at *
  generalize befS m (fb, fa) = q at *
  have hbw : Below w.heap.size w (w.alloc (.cells #[] 47)) := (Below.refl _ _).alloc (Nat.le_refl _) _
  have hbs : b < w.heap.size := block_lt_of_cell ho.eight.1
  have HM1 := Lib.hid (HM.out.below hbw)
  have HO1 := Lib.hid (CellsAt.below ho hbw hbs)
  have HV1 := Lib.hid (Mv.of_below (S := S) hbw)
  have HR1 := Lib.hid (World.ownsRow_lit (base := w.heap.size) (e := 47) (size := 6) w #[] 0 (Nat.le_refl _) (by unfold maxLen; omega) rfl)
  have hsw1 : w.heap.size < (w.alloc (.cells #[] 47)).heap.size := by simp
  have hN0 : ¬ blk S w.heap.size := fun e => by have := (HM.out.sp.ge e).2; omega
  have HN0 := Lib.hid hN0
  clear hM ok hop hnb hon hL ho hbw hN0
  go_enter Tryz.func42, Tryz.ntmps42
  obtain ⟨o0, o1, o2, o3, o4, o5, o6, o7⟩ := HO1.out.eight
  go_wp2_with fail
  generalize w.alloc (.cells #[] 47) = W1 at *
  refine (HBE.out _ HM1.out.rd).mono ?_
  rintro e w2 ⟨rfl, hb2⟩
  have HM2 := Lib.hid (HM1.out.below hb2)
  have HO2 := Lib.hid (CellsAt.below HO1.out hb2 (by omega))
  have HV2 := Lib.hid (HV1.out.below_ hb2)
  have HR2 := Lib.hid (own_below HR1.out hb2)
  have hsw2 : w.heap.size < w2.heap.size := Nat.lt_of_lt_of_le hsw1 hb2.size
  clear hb2 o0 o1 o2 o3 o4 o5 o6 o7 HM1 HO1 HV1 HR1 HBE
  obtain ⟨o0, o1, o2, o3, o4, o5, o6, o7⟩ := HO2.out.eight
  go_wp2_with fail
  refine (HON.out _ HM2.out).mono ?_
  rintro e w3 ⟨⟨A3, c3, rfl⟩, hb3⟩
  have HM3 := Lib.hid (HM2.out.below hb3)
  have HO3 := Lib.hid (CellsAt.below HO2.out hb3 (by omega))
  have HV3 := Lib.hid (HV2.out.below_ hb3)
  have HR3 := Lib.hid (own_below HR2.out hb3)
  have hsw3 : w.heap.size < w3.heap.size := Nat.lt_of_lt_of_le hsw2 hb3.size
  clear hb3 o0 o1 o2 o3 o4 o5 o6 o7 HM2 HO2 HV2 HR2 HON
  obtain ⟨o0, o1, o2, o3, o4, o5, o6, o7⟩ := HO3.out.eight
  go_wp2_with fail
  refine (HDO.out _ HM3.out HO3.out (by omega)).mono ?_
  rintro e w4 ⟨rfl, S2, hv4, hm4⟩
  have HV4 := Lib.hid (HV3.out.trans hv4)
  have HO4 := Lib.hid (show OpAt w4 b o ⟨9, d, fb, fa, tb, ta, c, r⟩ from hv4.only.cells HNB.out HO3.out)
  have HR4 := Lib.hid (hv4.only.own HR3.out (fun q hq => by have h9 : w.heap.size = q := Option.some.inj hq; rw [← h9]; exact HN0.out))
  have HN4 := Lib.hid (hv4.nblk HN0.out hsw3)
  have hsw4 : w.heap.size < w4.heap.size := Nat.lt_of_lt_of_le hsw3 hv4.size
  clear hv4 o0 o1 o2 o3 o4 o5 o6 o7 HM3 HO3 HV3 HR3 HDO
  by_cases h0 : cc = 0
  · have HL := Lib.hid (HGOOD.out h0)
    have HM4 := Lib.hid (hm4 h0)
    subst h0
    clear hm4 HGOOD HBAD
    obtain ⟨o0, o1, o2, o3, o4, o5, o6, o7⟩ := HO4.out.eight
    have hbw4 : b < w4.heap.size := block_lt_of_cell o0
    have x1 : ∀ ob, (w4.alloc ob).cell? ⟨b, o + 1, none⟩ = some (.int .i64 d) := fun ob => (HO4.out.alloc hbw4 ob).eight.2.1
    have x2 : ∀ ob, (w4.alloc ob).cell? ⟨b, o + 2, none⟩ = some (.int .i64 fb) := fun ob => (HO4.out.alloc hbw4 ob).eight.2.2.1
    have x6 : ∀ ob, (w4.alloc ob).cell? ⟨b, o + 6, none⟩ = some (.int .i64 c) := fun ob => (HO4.out.alloc hbw4 ob).eight.2.2.2.2.2.2.1
    go_wp2
    go_region
    have E5 : Hid (EvSt w S B g m' S2 w4.heap.size [.int .i64 0, .int .i64 q, .int .i64 0, .int .i64 fb, .int .i64 c, .int .i64 d] (w4.alloc (.cells #[.int .i64 0, .int .i64 q, .int .i64 0, .int .i64 fb, .int .i64 c, .int .i64 d] 47)).drew) :=
      ⟨(HM4.out.below ((Below.refl _ _).alloc (Nat.le_refl _) _)).drew, (HV4.out.alloc _).drew, (HR4.out.alloc _), Bx.new w4 [.int .i64 0, .int .i64 q, .int .i64 0, .int .i64 fb, .int .i64 c, .int .i64 d] _, hsw4, fun e => by have := (HM4.out.sp.ge e).2; omega, HN4.out⟩
    have HO5 : Hid (OpAt (w4.alloc (.cells #[.int .i64 0, .int .i64 q, .int .i64 0, .int .i64 fb, .int .i64 c, .int .i64 d] 47)).drew b o ⟨9, d, fb, fa, tb, ta, c, r⟩) := HO4.out.alloc hbw4 _
    clear o0 o1 o2 o3 o4 o5 o6 o7 x1 x2 x6 HM4 HV4 HR4 HN4 HO4
    generalize (w4.alloc (.cells #[.int .i64 0, .int .i64 q, .int .i64 0, .int .i64 fb, .int .i64 c, .int .i64 d] 47)).drew = W5 at *
    obtain ⟨ne, hne⟩ : ∃ n, n = w4.heap.size := ⟨_, rfl⟩
    rw [← hne] at E5 hsw4 hbw4 ⊢
    clear hne
    obtain ⟨o0, o1, o2, o3, o4, o5, o6, o7⟩ := HO5.out.eight
    have hbne : b ≠ ne := by omega
    have HFIN : Hid (DidE w S B g 0 L m' (.returned (.tuple #[.slice (some ⟨w.heap.size, 0, none⟩) 0 0, .int .i64 0])) W5) := by
      rw [HL.out]
      exact ⟨_, S2, rfl, E5.out.own, E5.out.mv, fun _ => E5.out.ms, fun q hq => by have h9 : w.heap.size = q := Option.some.inj hq; rw [← h9]; exact E5.out.n0⟩
    go_wp2
    refine bodyPost_ret (v := .tuple #[_, .int .i64 0]) (by simp [results, Tryz.results42, go_sem]; rfl) rfl ?_
    exact HFIN.out
  · have HL := Lib.hid (HBAD.out h0)
    have hc0 : (cc != 0) = true := by simpa using h0
    have HC := Lib.hid h0
    clear hm4 HGOOD HBAD h0
    have HFIN : Hid (DidE w S B g cc L m' (.returned (.tuple #[.slice none 0 0, .int .i64 cc])) w4) := by
      rw [HL.out]
      exact ⟨_, S2, rfl, ow_nil _ _, HV4.out, fun e => absurd e HC.out, fun q hq => by cases hq⟩
    go_wp2
    refine bodyPost_ret (v := .tuple #[_, .int .i64 cc]) (by simp [results, Tryz.results42, go_sem]; rfl) rfl ?_
    exact HFIN.out

end Go.Proofs.YthhpjgdeehcgjaaGreat

/-
  The reference's l10Do on a machine of its own, at any operation that fits.
-/
namespace Go.Proofs.YthhpjgdeehcgjaaGreat
set_option linter.unusedVariables false
set_option linter.unusedSimpArgs false
open Go.RowKit

theorem on_gives {B g : Nat} {m : Mc} {S : Nat → Spot} (n : Int × Int) (hn : ndIn m n) : ∀ W, MSt W B g m S → Calls Tryz.prog 68 #[.pointer (some ⟨g, 0, none⟩), .agg #[.int .i64 n.1, .int .i64 n.2]] W fun e w' => (∃ A c, e = .returned (.slice A (szN m n) c)) ∧ Below W.heap.size W w' := fun W hW =>
  (l07On_any hW n hn).mono fun e w' h => by
    obtain ⟨rfl, hb⟩ := h
    obtain ⟨-, ⟨A, c, h1, -⟩, -⟩ := hW.onR hn
    exact ⟨⟨A, c, by rw [h1]; rfl⟩, hb⟩
theorem on_gives0 {B g : Nat} {m : Mc} {S : Nat → Spot} (hn : ndIn m (2, 0)) : ∀ W, MSt W B g m S → Calls Tryz.prog 68 #[.pointer (some ⟨g, 0, none⟩), .agg #[.int .i64 0, .int .i64 0]] W fun e w' => (∃ A c, e = .returned (.slice A (szN m (2, 0)) c)) ∧ Below W.heap.size W w' := fun W hW =>
  (l07On_zero hW hn).mono fun e w' h => by
    obtain ⟨rfl, hb⟩ := h
    obtain ⟨-, ⟨A, c, h1, -⟩, -⟩ := hW.onR hn
    exact ⟨⟨A, c, by rw [h1]; rfl⟩, hb⟩
theorem evO_ok {m : Mc} {x : Opr} (h : doCode m x = 0) : evO m x = evD m x := by unfold evO; rw [if_pos h]
theorem l10Do_any {w : World} {B g : Nat} {m : Mc} {S : Nat → Spot} (hM : MSt w B g m S) (hB : B ≤ w.heap.size) (x : Opr) (b o : Nat) (ho : OpAt w b o x) (hnb : ¬ blk S b) (ok : okM m = true) (hop : okOpW m.wd x = true) :
    Calls Tryz.prog 42 #[.pointer (some ⟨g, 0, none⟩), .pointer (some ⟨b, o, none⟩)] w (DidE w S B g (doCode m x) (evO m x) (doTo m x)) := by
  obtain ⟨h0, hfw, htw⟩ := okOpW_iff.1 hop
  have hok := okM_iff.1 ok
  obtain ⟨k, d, fb, fa, tb, ta, c, r⟩ := x
  have hn : ndB fb fa = true → ndIn m (fb, fa) ∧ 0 ≤ fa := fun hf => by
    obtain ⟨h1, h2, h3⟩ := ndB_iff.1 hf
    exact ⟨hok.need h1 h2 hfw, h2⟩
  have h20 : ndIn m (2, 0) := hok.need (.inr rfl) (Int.le_refl _) (by have := hok.wd; show (0 : Int) < m.wd; omega)
  have hs4 := fun n => szN_le ok n
  rcases okOp_kinds h0 with ⟨hk, hd, hf, -⟩ | ⟨hk, hf, -⟩ | ⟨hk, hf, -⟩ | ⟨hk, hf, -⟩ | ⟨hk, hr1, hr2, -⟩ | ⟨hk, -, -, -, e1, e2, -⟩ | ⟨hk, -, -, -, e1, e2, -⟩
  · rcases hk with hk | hk | hk
    · have hk' : k = 1 := hk
      subst hk'
      exact l10Do_1 hM hB d fb fa tb ta c r b o ho hnb ok hop (hn hf).2 _ (hs4 _) (on_gives (fb, fa) (hn hf).1) (fun h => by rw [evO_ok h, evD1 rfl])
    · have hk' : k = 2 := hk
      subst hk'
      exact l10Do_2 hM hB d fb fa tb ta c r b o ho hnb ok hop (hn hf).2 _ (hs4 _) (on_gives (fb, fa) (hn hf).1) (fun h => by rw [evO_ok h, evD2 rfl])
    · have hk' : k = 3 := hk
      subst hk'
      exact l10Do_3 hM hB d fb fa tb ta c r b o ho hnb ok hop (hn hf).2 _ (hs4 _) (on_gives (fb, fa) (hn hf).1) (fun h => by rw [evO_ok h]; rfl)
  · have hk' : k = 4 := hk
    subst hk'
    exact l10Do_4 hM hB d fb fa tb ta c r b o ho hnb ok hop (hn hf).2 _ (hs4 _) (on_gives (fb, fa) (hn hf).1) (fun h => by rw [evO_ok h]; rfl)
  · have hk' : k = 5 := hk
    subst hk'
    by_cases hfb : fb = 2
    · subst hfb
      exact l10Do_5b hM hB d fa tb ta c r b o ho hnb ok hop (hn hf).2 _ (hs4 _) (on_gives (2, fa) (hn hf).1) (fun h => by rw [evO_ok h, evD5 rfl, if_pos rfl])
    · exact l10Do_5f hM hB d fb fa tb ta c r b o ho hnb ok hop (hn hf).2 (by simpa using hfb) _ (hs4 _) (on_gives (fb, fa) (hn hf).1) (fun h => by rw [evO_ok h, evD5 rfl, if_neg hfb])
  · have hk' : k = 6 := hk
    subst hk'
    exact l10Do_6 hM hB d fb fa tb ta c r b o ho hnb ok hop (hn hf).2 _ (hs4 _) (on_gives (fb, fa) (hn hf).1) (fun h => by rw [evO_ok h, evD6 rfl])
  · have hk' : k = 7 := hk
    subst hk'
    obtain ⟨c1, c2⟩ := do7 (m := m) (x := ⟨7, d, fb, fa, tb, ta, c, r⟩) rfl
    refine (l10Do_rack hM hB ⟨7, d, fb, fa, tb, ta, c, r⟩ b o ho hnb ok rfl hr1 hr2).mono ?_
    rintro e w' ⟨v, rfl, h1, S', h2, h3, h4⟩
    rw [evO_ok c1, evD7 rfl, c1, c2]
    exact ⟨v, S', rfl, h1, h3, fun _ => h2, h4⟩
  · have hk' : k = 8 := hk
    have e1' : fb = 0 := e1
    have e2' : fa = 0 := e2
    subst hk' e1' e2'
    exact l10Do_8 hM hB d 0 0 tb ta c r b o ho hnb ok hop (Int.le_refl _) _ (hs4 (2, 0)) (on_gives0 h20) (fun h => by rw [evO_ok h]; rfl)
  · have hk' : k = 9 := hk
    have e1' : fb = 0 := e1
    have e2' : fa = 0 := e2
    subst hk' e1' e2'
    exact l10Do_9 hM hB d 0 0 tb ta c r b o ho hnb ok hop (Int.le_refl _) _ (hs4 (2, 0)) (on_gives0 h20) (fun h => by rw [evO_ok h]; rfl)

end Go.Proofs.YthhpjgdeehcgjaaGreat
