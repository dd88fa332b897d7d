/-
  The text of an event: the reference's l10Text.
-/
import Derived.Test.YtccdnmafakaleaaGreatDoorEvtA
import Derived.Test.YtccdnmafakaleaaGreatDoorDec
namespace Go.Proofs.YtccdnmafakaleaaGreatDoor
set_option linter.unusedVariables false
set_option linter.unusedSimpArgs false
open Go.RowKit

attribute [local go_sem] strV
@[go_sem] def ldTxt : Oper := { dst := some 12, op := Op.load 9 (Operand.tmp 11), type := 9, pos := "l10_traces.go:247", after := #[{ on := 5, ground := Ground.data }], guard := none }
@[go_sem] def adTxt1 : Oper := { dst := some 13, op := Op.binOp BinOp.add 9 (Operand.tmp 12) (Operand.const (Value.string { data := #[32] })) 9, type := 9, pos := "l10_traces.go:247", after := #[{ on := 6, ground := Ground.data }], guard := none }
@[go_sem] def adTxt2 : Oper := { dst := some 19, op := Op.binOp BinOp.add 9 (Operand.tmp 13) (Operand.tmp 18) 9, type := 9, pos := "l10_traces.go:247", after := #[{ on := 7, ground := Ground.data }, { on := 12, ground := Ground.data }], guard := none }
theorem app_sp (a b : List UInt8) : (Value.string ((⟨a.toArray⟩ : ByteArray) ++ ⟨#[32]⟩ ++ ⟨b.toArray⟩)) = strV (a ++ 32 :: b) := by
  rw [show (⟨#[32]⟩ : ByteArray) = ⟨[32].toArray⟩ from rfl, str_app, str_app]
  simp [strV]
theorem app_sp2 (a b : List UInt8) : (Value.string ((⟨a.toArray⟩ : ByteArray) ++ (⟨#[32]⟩ ++ ⟨b.toArray⟩))) = strV (a ++ 32 :: b) := by
  rw [show (⟨#[32]⟩ : ByteArray) = ⟨[32].toArray⟩ from rfl, str_app, str_app]
  simp [strV]
theorem app_fin (a l : List UInt8) (m s : UInt8) : (Value.string ((⟨a.toArray⟩ : ByteArray) ++ ⟨#[32, m]⟩ ++ ⟨#[s]⟩ ++ ⟨l.toArray⟩)) = strV (a ++ 32 :: m :: s :: l) := by
  rw [show (⟨#[32, m]⟩ : ByteArray) = ⟨[32, m].toArray⟩ from rfl, show (⟨#[s]⟩ : ByteArray) = ⟨[s].toArray⟩ from rfl, str_app, str_app, str_app]
  simp [strV]
theorem wk_len (k : Nat) : (wordK (k : Int)).length ≤ 5 := wordK_len _
set_option maxHeartbeats 8000000 in
set_option maxRecDepth 100000 in
theorem l10Text_any (k : Nat) (p c b y d : Int) (hk1 : 1 ≤ k) (hk5 : k ≤ 5) (hp : 0 ≤ p ∧ p ≤ 1000) (hc : -1000 ≤ c ∧ c ≤ 1000) (hy : 0 ≤ y ∧ y ≤ 1000) (hd : Hid (y ≠ 0 → (d = 1 ∨ d = -1))) (g o : Nat) (w : World) (hb : CellsAt w g o (Ev.cells ⟨k, p, c, b, y, d⟩)) :
    Calls Tryz.prog 12 #[.pointer (some ⟨g, o, none⟩)] w fun e w' => e = .returned (strV (evT ⟨k, p, c, b, y, d⟩)) ∧ Below w.heap.size w w' := by
  have hD := Lib.hid (fun (n : Int) (h0 : -1000 ≤ n) (h1 : n ≤ 1000) (W : World) => l01Dec_any n (by omega) (by omega) W)
  have HW := Lib.hid (words_at k hk1 hk5)
  have BX := Lib.hid hb
  obtain ⟨x0, x1, x2, x3, x4, x5⟩ := hb.six
  have hgw : g < w.heap.size := block_lt_of_cell x0
  have hkl := wk_len k
  have hpl := itoa_len p (by omega) hp.2
  have hcl := itoa_len c hc.1 hc.2
  have hyl := itoa_len y (by omega) hy.2
  clear hb
  go_enter Tryz.func12, Tryz.ntmps12
  go_wp2
  go_cut [3] (fun s3 wx => ∃ (wy : World), wy = wx ∧ s3 = strV (wordK k ++ 32 :: Lib.itoa p) ∧ Hid (Below w.heap.size w wx))
  case first =>
    have hk6 : (k : Int) < 6 := by omega
    have hk0 : (0 : Int) ≤ (k : Int) := by omega
    rw [show ({ dst := some 13, op := Op.binOp BinOp.add 9 (Operand.tmp 12) (Operand.const (Value.string { data := #[32] })) 9, type := 9, pos := "l10_traces.go:247", after := #[{ on := 6, ground := Ground.data }], guard := none } : Oper) = adTxt1 from rfl, show ({ dst := some 19, op := Op.binOp BinOp.add 9 (Operand.tmp 13) (Operand.tmp 18) 9, type := 9, pos := "l10_traces.go:247", after := #[{ on := 7, ground := Ground.data }, { on := 12, ground := Ground.data }], guard := none } : Oper) = adTxt2 from rfl]
    rw [show ({ dst := some 12, op := Op.load 9 (Operand.tmp 11), type := 9, pos := "l10_traces.go:247", after := #[{ on := 5, ground := Ground.data }], guard := none } : Oper) = ldTxt from rfl]
    go_region_held3 (fun w' => w'.cell? ⟨g, o, none⟩ = some (.int .i64 k) ∧ w'.cell? ⟨g, o + 1, none⟩ = some (.int .i64 p))
      (first | exact ⟨x0, x1⟩ | exact ⟨y0, y1⟩ | exact ⟨z0, z1⟩ | go_keep)
      (first
        | (go_at_call 24; refine (l10Words_any _).mono ?_; rintro e w2 ⟨q, rfl, hgl, hgc, hgb⟩; have y0 : w2.cell? ⟨g, o, none⟩ = some (.int .i64 k) := (hgb.cell (p := ⟨g, o, none⟩) hgw).trans x0; have y1 : w2.cell? ⟨g, o + 1, none⟩ = some (.int .i64 p) := (hgb.cell (p := ⟨g, o + 1, none⟩) hgw).trans x1; have yw : w2.cell? ⟨q, k, none⟩ = some (strV (wordK k)) := (by have h9 := hgc k _ HW.out; rw [Nat.zero_add] at h9; exact h9); have hz2 : g < w2.heap.size := Nat.lt_of_lt_of_le hgw (show w.heap.size ≤ _ from hgb.size))
        | (go_at_call 23; refine (hD.out p (by omega) (by omega) _).mono ?_; rintro e w3 ⟨rfl, hpb⟩; have z0 : w3.cell? ⟨g, o, none⟩ = some (.int .i64 k) := (hpb.cell (p := ⟨g, o, none⟩) hz2).trans y0; have z1 : w3.cell? ⟨g, o + 1, none⟩ = some (.int .i64 p) := (hpb.cell (p := ⟨g, o + 1, none⟩) hz2).trans y1; have zw : w3.cell? ⟨q, k, none⟩ = some (strV (wordK k)) := (hpb.cell (p := ⟨q, k, none⟩) (block_lt_of_cell yw)).trans yw))
    all_goals
      have HB3 := Lib.hid (show Below w.heap.size w w3 from ((Below.refl _ _).drew.trans hgb).trans (hpb.mono (show w.heap.size ≤ _ from hgb.size)))
      clear hpb hgb
      go_wp2_with fail
      go_meet
      exact ⟨_, rfl, app_sp _ _, HB3.out⟩
  case rest =>
    obtain ⟨wy, hwy, rfl, HX⟩ := hcut
    subst hwy
    have hgy : g < wy.heap.size := Nat.lt_of_lt_of_le hgw HX.out.size
    obtain ⟨a0, a1, a2, a3, a4, a5⟩ := (BX.out.below HX.out hgw).six
    clear x0 x1 x2 x3 x4 x5
    obtain ⟨A, hA⟩ : ∃ A, A = wordK k ++ 32 :: Lib.itoa p := ⟨_, rfl⟩
    have hAl : A.length ≤ 27 := by rw [hA]; simp; omega
    rw [← hA]
    have HA := Lib.hid hA
    clear hA hkl hpl HW
    go_upto_if 24 with fail
    go_cut [3] (fun s3 wx => ∃ (A2 : List UInt8) (wz : World), wz = wx ∧ s3 = strV A2 ∧ A2.length ≤ 49 ∧ Hid (A2 = A ++ if (k : Int) = 3 then [] else 32 :: Lib.itoa c) ∧ Hid (Below w.heap.size w wx))
    case first =>
      by_cases hk3 : (k : Int) = 3
      · have hk3' : ((k : Int) != 3) = false := by simp [hk3]
        have HK := Lib.hid hk3
        clear hk3
        go_wp2_with fail
        go_meet
        exact ⟨A, _, rfl, rfl, by omega, by unfold Hid; rw [if_pos HK.out]; simp, HX.out⟩
      · have hk3' : ((k : Int) != 3) = true := by simpa using hk3
        have HK := Lib.hid hk3
        clear hk3
        go_wp2_with (go_at_call 23; refine (hD.out c (by omega) (by omega) _).mono ?_; rintro e w4 ⟨rfl, hcb⟩)
        go_meet
        exact ⟨A ++ 32 :: Lib.itoa c, _, rfl, app_sp2 _ _, by simp; omega, by unfold Hid; rw [if_neg HK.out], HX.out.trans (hcb.mono HX.out.size)⟩
    case rest =>
      obtain ⟨A2, wz, hwz, rfl, hA2, HA2, HZ⟩ := hcut
      subst hwz
      obtain ⟨b0, b1, b2, b3, b4, b5⟩ := (BX.out.below HZ.out hgw).six
      clear a0 a1 a2 a3 a4 a5 hAl hcl
      by_cases hy0 : y = 0
      · have hy0' : (y == 0) = true := by simp [hy0]
        have HE := Lib.hid (show evT ⟨k, p, c, b, y, d⟩ = A2 by unfold evT; rw [HA2.out, HA.out]; simp [hy0])
        clear hy0
        go_wp2_with fail
        go_ret
        exact ⟨by rw [HE.out]; rfl, HZ.out⟩
      · have hy0' : (y == 0) = false := by simpa using hy0
        have hdd := hd.out hy0
        have HE := Lib.hid (show evT ⟨k, p, c, b, y, d⟩ = A2 ++ 32 :: (if b = 2 then 98 else 102) :: (if d = -1 then 45 else 43) :: Lib.itoa y by unfold evT yarnT; rw [HA2.out, HA.out]; simp [hy0])
        clear hy0 hd
        by_cases hb2 : b = 2 <;> rcases hdd with hd1 | hd1
        all_goals
          first
            | (have hb2' : (b == 2) = true := by simp [hb2])
            | (have hb2' : (b == 2) = false := by simpa using hb2)
          first
            | (have hd1' : (d == -1) = true := by simp [hd1])
            | (have hd1' : (d == -1) = false := by simp [hd1])
          have HB2 := Lib.hid hb2
          have HD1 := Lib.hid hd1
          clear hb2 hd1
          go_wp2_with (go_at_call 23; refine (hD.out y (by omega) (by omega) _).mono ?_; rintro e w4 ⟨rfl, hcb⟩)
          go_ret
          have h1 := HB2.out
          have h2 := HD1.out
          refine ⟨?_, HZ.out.trans (hcb.mono HZ.out.size)⟩
          rw [HE.out]
          refine congrArg Ending.returned ((app_fin _ _ _ _).trans ?_)
          simp [h1, h2]

end Go.Proofs.YtccdnmafakaleaaGreatDoor
