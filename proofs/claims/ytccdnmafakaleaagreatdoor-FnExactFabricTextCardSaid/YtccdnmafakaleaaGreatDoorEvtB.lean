/-
  The text of an event: the program's eventText.
-/
import Derived.Test.YtccdnmafakaleaaGreatDoorEvtA
import Derived.Test.YtccdnmafakaleaaGreatDoorJoin
namespace Go.Proofs.YtccdnmafakaleaaGreatDoor
set_option linter.unusedVariables false
set_option linter.unusedSimpArgs false
open Go.RowKit

attribute [local go_sem] strV
@[go_sem] def ldEvt : Oper := { dst := some 9, op := Op.load 9 (Operand.tmp 8), type := 9, pos := "l10_traces.go:286", after := #[{ on := 3, ground := Ground.data }], guard := none }
theorem yarn_cells (a b : UInt8) (l : List UInt8) : [Value.string ((⟨#[a]⟩ : ByteArray) ++ ⟨#[b]⟩ ++ ⟨l.toArray⟩)] = sC [a :: b :: l] := by
  have h : ((⟨#[a]⟩ : ByteArray) ++ ⟨#[b]⟩ ++ ⟨l.toArray⟩) = ⟨(a :: b :: l).toArray⟩ := by
    rw [show (⟨#[a]⟩ : ByteArray) = ⟨[a].toArray⟩ from rfl, show (⟨#[b]⟩ : ByteArray) = ⟨[b].toArray⟩ from rfl, str_app, str_app]
    rfl
  rw [h]
  rfl
set_option maxHeartbeats 8000000 in
set_option maxRecDepth 100000 in
theorem eventText_any (k : Nat) (p c b y d : Int) (hk1 : 1 ≤ k) (hk5 : k ≤ 5) (hp : 0 ≤ p ∧ p ≤ 1000) (hc : -1000 ≤ c ∧ c ≤ 1000) (hy : 0 ≤ y ∧ y ≤ 1000) (hby : Hid (b = 0 ↔ y = 0)) (hd : Hid (y ≠ 0 → (d = 1 ∨ d = -1))) (w : World) (ht : TabW w.heap.size w) :
    Calls Tryz.prog 17 #[(⟨k, p, c, b, y, d⟩ : Ev).v] w fun e w' => e = .returned (strV (evT ⟨k, p, c, b, y, d⟩)) ∧ Below w.heap.size w w' := by
  obtain ⟨i0, hi, hz0, hz1, hz2⟩ := info_parts info_str
  have HT := Lib.hid ht
  have hD := Lib.hid (fun (n : Int) (h0 : -1000 ≤ n) (h1 : n ≤ 1000) (W : World) (hT : TabW w.heap.size W) => Decimal_any n (by omega) (by omega) w.heap.size W hT)
  have HW := Lib.hid (words_at k hk1 hk5)
  clear ht
  go_enter Tryz.func17, Tryz.ntmps17
  go_wp2
  have HB : CellsAt (w.alloc (.cells #[.int .i64 k, .int .i64 p, .int .i64 c, .int .i64 b, .int .i64 y, .int .i64 d] 45)) w.heap.size 0 (Ev.cells ⟨k, p, c, b, y, d⟩) := box_cells (us := Ev.cells ⟨k, p, c, b, y, d⟩)
  have hL1 : Below w.heap.size w (w.alloc (.cells #[.int .i64 k, .int .i64 p, .int .i64 c, .int .i64 b, .int .i64 y, .int .i64 d] 45)) := (Below.refl _ _).alloc (Nat.le_refl _) _
  have hZ1 : w.heap.size < (w.alloc (.cells #[.int .i64 k, .int .i64 p, .int .i64 c, .int .i64 b, .int .i64 y, .int .i64 d] 45)).heap.size := by simp
  generalize w.alloc (.cells #[.int .i64 k, .int .i64 p, .int .i64 c, .int .i64 b, .int .i64 y, .int .i64 d] 45) = w1 at *
  have BX := Lib.hid HB
  have HL1 := Lib.hid hL1
  obtain ⟨x0, x1, x2, x3, x4, x5⟩ := HB.six
  clear HB hL1
  go_cut [3] (fun s3 wx => ∃ (g cp : Nat) (wy : World), wy = wx ∧ s3 = .slice (some ⟨g, 0, none⟩) 2 cp ∧ Hid (TxW w1 wx (w.heap.size + 1) (.slice (some ⟨g, 0, none⟩) 2 cp) [wordK k, Lib.itoa p]))
  case first =>
    have X0 := x0
    have hk6 : (k : Int) < 6 := by omega
    have hk0 : (0 : Int) ≤ (k : Int) := by omega
    rw [show ({ dst := some 9, op := Op.load 9 (Operand.tmp 8), type := 9, pos := "l10_traces.go:286", after := #[{ on := 3, ground := Ground.data }], guard := none } : Oper) = ldEvt from rfl]
    have X1 := x1
    go_region_held3 (fun w' => w'.cell? ⟨w.heap.size, 0, none⟩ = some (.int .i64 k) ∧ w'.cell? ⟨w.heap.size, 1, none⟩ = some (.int .i64 p))
      (first | exact ⟨x0, x1⟩ | exact ⟨y0, y1⟩ | exact ⟨z0, z1⟩ | exact ⟨y0b _, y1b _⟩ | exact ⟨z0b _, z1b _⟩ | go_keep)
      (first
        | (go_at_call 29; refine (eventWords_any _).mono ?_; rintro e w2 ⟨g, rfl, hgl, hgc, hgb⟩; have y0 : w2.cell? ⟨w.heap.size, 0, none⟩ = some (.int .i64 k) := (by first | exact (hgb.cell (p := ⟨w.heap.size, 0, none⟩) (block_lt_of_cell x0)).trans x0 | exact (hgb.cell (p := ⟨w.heap.size, 0, none⟩) (block_lt_of_cell z0)).trans z0); have y1 : w2.cell? ⟨w.heap.size, 1, none⟩ = some (.int .i64 p) := (by first | exact (hgb.cell (p := ⟨w.heap.size, 1, none⟩) (block_lt_of_cell x1)).trans x1 | exact (hgb.cell (p := ⟨w.heap.size, 1, none⟩) (block_lt_of_cell z1)).trans z1); have yw : w2.cell? ⟨g, k, none⟩ = some (strV (wordK k)) := (by have h9 := hgc k _ HW.out; rw [Nat.zero_add] at h9; exact h9); have y0b : ∀ o, (w2.alloc o).cell? ⟨w.heap.size, 0, none⟩ = some (.int .i64 k) := fun o => (World.cell?_alloc_lt w2 o ⟨w.heap.size, 0, none⟩ (block_lt_of_cell y0)).trans y0; have y1b : ∀ o, (w2.alloc o).cell? ⟨w.heap.size, 1, none⟩ = some (.int .i64 p) := fun o => (World.cell?_alloc_lt w2 o ⟨w.heap.size, 1, none⟩ (block_lt_of_cell y1)).trans y1)
        | (go_at_call 28; refine (hD.out p (by omega) (by omega) _ (by first | exact HT.out.on HL1.out.drew | exact HT.out.on HL1.out | exact HT.out.on (HL1.out.drew.trans (hgb.mono (Nat.le_of_lt hZ1))))).mono ?_; rintro e w3 ⟨rfl, hpb⟩; have z0 : w3.cell? ⟨w.heap.size, 0, none⟩ = some (.int .i64 k) := (by first | exact (hpb.cell (p := ⟨w.heap.size, 0, none⟩) (block_lt_of_cell x0)).trans x0 | exact (hpb.cell (p := ⟨w.heap.size, 0, none⟩) (block_lt_of_cell y0)).trans y0); have z1 : w3.cell? ⟨w.heap.size, 1, none⟩ = some (.int .i64 p) := (by first | exact (hpb.cell (p := ⟨w.heap.size, 1, none⟩) (block_lt_of_cell x1)).trans x1 | exact (hpb.cell (p := ⟨w.heap.size, 1, none⟩) (block_lt_of_cell y1)).trans y1); try have zw : w3.cell? ⟨g, k, none⟩ = some (strV (wordK k)) := (hpb.cell (p := ⟨g, k, none⟩) (block_lt_of_cell yw)).trans yw; have z0b : ∀ o, (w3.alloc o).cell? ⟨w.heap.size, 0, none⟩ = some (.int .i64 k) := fun o => (World.cell?_alloc_lt w3 o ⟨w.heap.size, 0, none⟩ (block_lt_of_cell z0)).trans z0; have z1b : ∀ o, (w3.alloc o).cell? ⟨w.heap.size, 1, none⟩ = some (.int .i64 p) := fun o => (World.cell?_alloc_lt w3 o ⟨w.heap.size, 1, none⟩ (block_lt_of_cell z1)).trans z1))
    all_goals
      have hb3 : Below (w.heap.size + 1) w1 w3 := ((Below.refl _ _).drew.trans (hgb.mono (by show _ ≤ w1.heap.size; omega))).trans (hpb.mono (by have := hgb.size; have : w1.drew.heap.size = w1.heap.size := rfl; omega))
      have HX := Lib.hid (TxW.lit [wordK k, Lib.itoa p] hb3 hZ1 (by simp))
      clear hb3 hpb hgb
      go_wp2_with fail
      go_meet
      exact ⟨_, _, _, rfl, rfl, HX.out⟩
  case rest =>
    obtain ⟨g, cp, wy, hwy, rfl, HX⟩ := hcut
    subst hwy
    have HTb := Lib.hid (HT.out.on (HL1.out.trans (HX.out.below.mono (Nat.le_succ _))))
    obtain ⟨a0, a1, a2, a3, a4, a5⟩ := (BX.out.below HX.out.below (Nat.lt_succ_self _)).six
    clear x0 x1 x2 x3 x4 x5
    go_upto_if 16 with fail
    go_cut [3] (fun s3 wx => ∃ (v : Value) (wz : World), wz = wx ∧ s3 = v ∧ Hid (TxW w1 wx (w.heap.size + 1) v ([wordK k, Lib.itoa p] ++ if (k : Int) = 3 then [] else [Lib.itoa c])))
    case first =>
      by_cases hk3 : (k : Int) = 3
      · have hk3' : ((k : Int) != 3) = false := by simp [hk3]
        have H2 : Hid (TxW w1 wy (w.heap.size + 1) (.slice (some ⟨g, 0, none⟩) 2 cp) ([wordK k, Lib.itoa p] ++ if (k : Int) = 3 then [] else [Lib.itoa c])) := by rw [if_pos hk3]; exact HX
        clear hk3
        go_wp2_with fail
        go_meet
        exact ⟨_, _, rfl, rfl, H2.out⟩
      · have hk3' : ((k : Int) != 3) = true := by simpa using hk3
        have HK := Lib.hid hk3
        clear hk3
        go_wp2_with (first
          | (go_at_call 28; refine (hD.out c (by omega) (by omega) _ HTb.out).mono ?_; rintro e w4 ⟨rfl, hcb⟩; have HX4 := Lib.hid (HX.out.on hcb))
          | (at_builtin; refine wpList_append_own _ rfl _ _ 65 rfl (w.heap.size + 1) 9 i0 _ 1 16 Tryz.underlying65 hi hz0 hz1 hz2 rfl (by decide) _ _ _ rfl (HX4.out.own.alloc _) ⟨w4.heap.size, 0, none⟩ 1 1 (sC [Lib.itoa c]) rfl rfl ?c1 ?c2 ?c3 ?c4 ?c5 ?_))
        case c1 => exact new_cells w4 9 (sC [Lib.itoa c])
        case c2 => exact sC_one _
        case c3 => unfold maxLen; simp
        case c4 => first | omega | simp | (simp; omega)
        case c5 => have := HX4.out.below.size; have := HX4.out.sz; simp; omega
        intro v' w5 hown5 hg5 _
        have H5 := Lib.hid (HX4.out.app (Lib.itoa c) hown5 hg5)
        clear hown5 hg5
        go_wp2_with fail
        go_meet
        exact ⟨_, _, rfl, rfl, by rw [if_neg HK.out]; exact H5.out⟩
    case rest =>
      obtain ⟨v, wz, hwz, rfl, HZ⟩ := hcut
      subst hwz
      have HTc := Lib.hid (HT.out.on (HL1.out.trans (HZ.out.below.mono (Nat.le_succ _))))
      have HEL := Lib.hid (evT_len ⟨k, p, c, b, y, d⟩ ⟨by show -1000 ≤ p; omega, by show p ≤ 1000; omega⟩ ⟨by show -1000 ≤ c; omega, by show c ≤ 1000; omega⟩ ⟨by show -1000 ≤ y; omega, by show y ≤ 1000; omega⟩)
      obtain ⟨b0, b1, b2, b3, b4, b5⟩ := (BX.out.below HZ.out.below (Nat.lt_succ_self _)).six
      clear a0 a1 a2 a3 a4 a5 HX HTb
      by_cases hy0 : y = 0
      · have hb0 : (b != 0) = false := by have := hby.out.2 hy0; simp [this]
        have HE := Lib.hid (show [wordK k, Lib.itoa p] ++ (if (k : Int) = 3 then [] else [Lib.itoa c]) = evW ⟨k, p, c, b, y, d⟩ by unfold evW; simp [hy0])
        rw [HE.out] at HZ
        clear hy0
        go_wp2_with (go_at_call 30; refine (join_any HZ.out (by simp [evW]) (by unfold evW; repeat' split; all_goals simp) (by rw [evT_join]; exact HEL.out)).mono ?_; rintro e w6 ⟨rfl, hj⟩)
        go_ret
        exact ⟨by rw [evT_join]; rfl, (HL1.out.trans (HZ.out.below.mono (Nat.le_succ _))).trans (hj.mono (by have := HZ.out.below.size; have := HZ.out.sz; omega))⟩
      · have hb0 : (b != 0) = true := by have := fun h => hy0 (hby.out.1 h); simpa using this
        have hdd := hd.out hy0
        have HE := Lib.hid (show ([wordK k, Lib.itoa p] ++ (if (k : Int) = 3 then [] else [Lib.itoa c])) ++ [yarnT ⟨k, p, c, b, y, d⟩] = evW ⟨k, p, c, b, y, d⟩ by unfold evW; simp [hy0])
        have hsz : ([wordK k, Lib.itoa p] ++ (if (k : Int) = 3 then [] else [Lib.itoa c])).length ≤ 3 := by split <;> simp
        generalize ([wordK k, Lib.itoa p] ++ (if (k : Int) = 3 then [] else [Lib.itoa c])) = L at *
        have HH := Lib.hid (show yarnT ⟨k, p, c, b, y, d⟩ = (if b = 2 then 98 else 102) :: (if d = -1 then 45 else 43) :: Lib.itoa y from rfl)
        clear hy0 hd hby
        by_cases hb2 : b = 2 <;> rcases hdd with hd1 | hd1
        all_goals
          first
            | (have hb2' : (b == 2) = true := by simp [hb2])
            | (have hb2' : (b == 2) = false := by simpa using hb2)
          first
            | (have hd1' : (d == 1) = true := by simp [hd1])
            | (have hd1' : (d == 1) = false := by simp [hd1])
          have HB2 := Lib.hid hb2
          have HD1 := Lib.hid hd1
        all_goals
          clear hd1 hb2
          have hyl := itoa_len y (by omega) hy.2
          go_wp2_with (first
            | (go_at_call 28; refine (hD.out y (by omega) (by omega) _ HTc.out).mono ?_; rintro e w4 ⟨rfl, hcb⟩; have HX4 := Lib.hid (HZ.out.on hcb))
            | (at_builtin; refine wpList_append_own _ rfl _ _ 65 rfl (w.heap.size + 1) 9 i0 _ 1 16 Tryz.underlying65 hi hz0 hz1 hz2 rfl (by decide) _ _ _ rfl (HX4.out.own.alloc _) ⟨w4.heap.size, 0, none⟩ 1 1 (sC [yarnT ⟨k, p, c, b, y, d⟩]) rfl rfl ?c1 ?c2 ?c3 ?c4 ?c5 ?_))
          case c1 =>
            have h1 := HB2.out
            have h2 := HD1.out
            first
              | (rw [show yarnT ⟨k, p, c, b, y, d⟩ = 98 :: 43 :: Lib.itoa y by (rw [HH.out]; simp [h1, h2]), ← yarn_cells]; exact new_cells w4 _ _)
              | (rw [show yarnT ⟨k, p, c, b, y, d⟩ = 98 :: 45 :: Lib.itoa y by (rw [HH.out]; simp [h1, h2]), ← yarn_cells]; exact new_cells w4 _ _)
              | (rw [show yarnT ⟨k, p, c, b, y, d⟩ = 102 :: 43 :: Lib.itoa y by (rw [HH.out]; simp [h1, h2]), ← yarn_cells]; exact new_cells w4 _ _)
              | (rw [show yarnT ⟨k, p, c, b, y, d⟩ = 102 :: 45 :: Lib.itoa y by (rw [HH.out]; simp [h1, h2]), ← yarn_cells]; exact new_cells w4 _ _)
          case c2 => exact sC_one _
          case c3 => unfold maxLen; omega
          case c4 => first | omega | simp | (simp; omega)
          case c5 => have := HX4.out.below.size; have := HX4.out.sz; simp; omega
          intro v' w5 hown5 hg5 _
          have H5 := Lib.hid (HX4.out.app (yarnT ⟨k, p, c, b, y, d⟩) hown5 hg5)
          clear hown5 hg5
          rw [HE.out] at H5
          go_wp2_with (go_at_call 30; refine (join_any H5.out (by simp [evW]) (by unfold evW; repeat' split; all_goals simp) (by rw [evT_join]; exact HEL.out)).mono ?_; rintro e w6 ⟨rfl, hj⟩)
          go_ret
          exact ⟨by rw [evT_join]; rfl, (HL1.out.trans (H5.out.below.mono (Nat.le_succ _))).trans (hj.mono (by have := H5.out.below.size; have := H5.out.sz; omega))⟩

end Go.Proofs.YtccdnmafakaleaaGreatDoor
