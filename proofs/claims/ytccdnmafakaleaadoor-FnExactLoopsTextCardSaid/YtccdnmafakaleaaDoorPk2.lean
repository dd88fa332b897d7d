/-
  Texts joined: LtA, LtB, LtC, LtD, LtE.
-/
import Derived.Test.YtccdnmafakaleaaDoorLtP
import Derived.Test.YtccdnmafakaleaaDoorJoin
import Derived.Test.YtccdnmafakaleaaDoorDec
import Derived.Test.YtccdnmafakaleaaDoorMcFab
import Derived.Deep.QuietTactic
import Derived.BigQuiet
import Derived.Deep.RegionWith
import Derived.Deep.DeepCutAuto
import Derived.Deep.CutRange
import Derived.Deep.CutBlock
import Derived.Test.YtccdnmafakaleaaDoorPk1
import Derived.Deep.RegionHeld3
/-
  The text of loops: small texts (numbers in a row, needles, words), of the program and of the reference.
-/
namespace Go.Proofs.YtccdnmafakaleaaDoor
set_option linter.unusedVariables false
set_option linter.unusedSimpArgs false
open Go.RowKit

theorem itoa_l (n : Int) (h0 : -1000000000 ≤ n) (h1 : n ≤ 1000000000) : (Lib.itoa n).length ≤ 21 := Lib.itoa_length_le n (by omega) (by omega)
theorem numsT_len (l : List Int) (h : ∀ x ∈ l, -1000 ≤ x ∧ x ≤ 1000) : (numsT l).length ≤ 22 * l.length := by
  induction l with
  | nil => simp [numsT]
  | cons a r ih =>
    have h1 := h a (by simp)
    have h2 := itoa_l a (by omega) (by omega)
    have h3 := ih (fun x hx => h x (by simp [hx]))
    have e : numsT (a :: r) = (32 :: Lib.itoa a) ++ numsT r := by simp [numsT]
    rw [e]
    simp
    omega
set_option maxHeartbeats 4000000 in
set_option maxRecDepth 100000 in
theorem needleText_any (b p : Int) (h0 : -1000 ≤ p) (h1 : p ≤ 1000) (B : Nat) (w : World) (hB : B ≤ w.heap.size) (ht : TabW B w) :
    Calls Tryd.prog 33 #[.agg #[.int .i64 b, .int .i64 p]] w fun e w' => e = .returned (strV (ndW b p)) ∧ Below w.heap.size w w' := by
  have hD := Lib.hid (fun (W : World) (hW : Below w.heap.size w W) => Decimal_any p (by omega) (by omega) B W (ht.on (hW.mono hB)))
  have hl := itoa_l p (by omega) (by omega)
  clear ht hB
  have HBX := Lib.hid ((Below.refl w.heap.size w).alloc (Nat.le_refl _) (.cells #[.int .i64 b, .int .i64 p] 50))
  by_cases hb : b = 1
  · have hb' : (b == 1) = true := by simp [hb]
    have HN := Lib.hid (show ndW b p = 102 :: Lib.itoa p by unfold ndW; rw [if_pos hb])
    clear hb
    go_enter Tryd.func33, Tryd.ntmps33
    go_wp2_with (go_at_call 31; refine (hD.out _ HBX.out).mono ?_; rintro e w1 ⟨rfl, hb1⟩; unfold strV)
    go_ret
    exact ⟨by rw [HN.out]; rfl, HBX.out.trans (hb1.mono HBX.out.size)⟩
  · have hb' : (b == 1) = false := by simpa using hb
    have HN := Lib.hid (show ndW b p = 98 :: Lib.itoa p by unfold ndW; rw [if_neg hb])
    clear hb
    go_enter Tryd.func33, Tryd.ntmps33
    go_wp2_with (go_at_call 31; refine (hD.out _ HBX.out).mono ?_; rintro e w1 ⟨rfl, hb1⟩; unfold strV)
    go_ret
    exact ⟨by rw [HN.out]; rfl, HBX.out.trans (hb1.mono HBX.out.size)⟩
set_option maxHeartbeats 4000000 in
set_option maxRecDepth 100000 in
theorem l01Text_any (b p : Int) (h0 : -1000 ≤ p) (h1 : p ≤ 1000) (w : World) :
    Calls Tryd.prog 60 #[.agg #[.int .i64 b, .int .i64 p]] w fun e w' => e = .returned (strV (ndW b p)) ∧ Below w.heap.size w w' := by
  have hD := Lib.hid (fun (W : World) => l01Dec_any p (by omega) (by omega) W)
  have hl := itoa_l p (by omega) (by omega)
  have HBX := Lib.hid ((Below.refl w.heap.size w).alloc (Nat.le_refl _) (.cells #[.int .i64 b, .int .i64 p] 50))
  by_cases hb : b = 1
  · have hb' : (b == 1) = true := by simp [hb]
    have HN := Lib.hid (show ndW b p = 102 :: Lib.itoa p by unfold ndW; rw [if_pos hb])
    clear hb
    go_enter Tryd.func60, Tryd.ntmps60
    go_wp2_with (go_at_call 59; refine (hD.out _).mono ?_; rintro e w1 ⟨rfl, hb1⟩; unfold strV)
    go_ret
    exact ⟨by rw [HN.out]; rfl, HBX.out.trans (hb1.mono HBX.out.size)⟩
  · have hb' : (b == 1) = false := by simpa using hb
    have HN := Lib.hid (show ndW b p = 98 :: Lib.itoa p by unfold ndW; rw [if_neg hb])
    clear hb
    go_enter Tryd.func60, Tryd.ntmps60
    go_wp2_with (go_at_call 59; refine (hD.out _).mono ?_; rintro e w1 ⟨rfl, hb1⟩; unfold strV)
    go_ret
    exact ⟨by rw [HN.out]; rfl, HBX.out.trans (hb1.mono HBX.out.size)⟩
attribute [local go_sem] strV
set_option maxHeartbeats 8000000 in
set_option maxRecDepth 100000 in
theorem decimals_any (l : List Int) (v : Value) (h4 : l.length ≤ 16) (h0 : l ≠ []) (hr : ∀ x ∈ l, -1000 ≤ x ∧ x ≤ 1000) (B : Nat) (w : World) (hB : B ≤ w.heap.size) (ht : TabW B w) (hv : RdI w w.heap.size v l) :
    Calls Tryd.prog 34 #[v] w fun e w' => e = .returned (strV (Lib.join (l.map Lib.itoa) [32])) ∧ Below w.heap.size w w' := by
  obtain ⟨i0, hi, hz0, hz1, hz2⟩ := info_parts info_str
  have hD := Lib.hid (fun (n : Int) (h : n ∈ l) (W : World) (hW : Below w.heap.size w W) => Decimal_any n (by have := hr n h; omega) (by have := hr n h; omega) B W (ht.on (hW.mono hB)))
  have HR := Lib.hid hr
  obtain ⟨A, n, c, rfl, hn1, hln, gl⟩ := hv
  have HLN := Lib.hid hln.out
  have GL := Lib.hid gl
  have hn16 : n ≤ 16 := by rw [← HLN.out]; exact h4
  have HNE : Hid (n ≠ 0) := fun e => h0 (List.eq_nil_of_length_eq_zero (by rw [HLN.out]; exact e))
  have HX0 := Lib.hid (TxW.lit (w1 := w) (wx := w) (B := w.heap.size) [] (Below.refl _ _) (Nat.le_refl _) (by simp))
  have HJL : Hid ((Lib.join (l.map Lib.itoa) [32]).length ≤ 1000) := by
    obtain ⟨a, r, rfl⟩ : ∃ a r, l = a :: r := by
      cases l with
      | nil => exact absurd rfl h0
      | cons a r => exact ⟨a, r, rfl⟩
    have h1 := congrArg List.length (join_nums a r)
    have h2 := numsT_len (a :: r) hr
    unfold Hid
    rw [List.length_cons] at h1
    omega
  clear ht hB gl hln h4 h0 hr
  go_enter Tryd.func34, Tryd.ntmps34
  go_wp2_with fail
  go_loopw [3, 9] (fun v3 v9 wr => ∃ (k : Nat) (wq : World), wq = wr ∧ v9 = .int .i64 (k : Int) ∧ k ≤ n ∧ Hid (TxW w wq w.heap.size v3 ((l.take k).map Lib.itoa))) (fun _ v9 _ => n - (intOf v9).toNat)
  case atStart => exact ⟨0, _, rfl, rfl, Nat.zero_le _, HX0.out⟩
  case round =>
    obtain ⟨k, wq, hwq, rfl, hk, HX⟩ := hrel
    subst hwq
    clear HX0
    by_cases hlt : k < n
    · obtain ⟨b, off, x, rfl, hbb, hlk, hc⟩ := GL.out k hlt
      have c0 := (HX.out.below.cell (p := ⟨b, off + k, none⟩) hbb).trans hc
      have HM := Lib.hid (List.mem_of_getElem? hlk)
      have HTK : Hid ((l.take (k + 1)).map Lib.itoa = (l.take k).map Lib.itoa ++ [Lib.itoa x]) := by unfold Hid; rw [List.take_add_one, hlk]; simp
      have HLL : Hid (((l.take k).map Lib.itoa).length = k) := by unfold Hid; rw [List.length_map, List.length_take, HLN.out]; omega
      clear hlk hc
      generalize (l.take k).map Lib.itoa = L at *
      have hL16 : L.length ≤ 16 := by rw [HLL.out]; omega
      obtain ⟨A3, c3, rfl⟩ := own_shape HX.out.own
      go_wp2_with (first
        | (go_at_call 31; refine (hD.out x HM.out _ HX.out.below).mono ?_; rintro e w4 ⟨rfl, hcb⟩; have HX4 := Lib.hid (HX.out.on hcb))
        | (at_builtin; refine wpList_append_own_at _ rfl _ _ 72 rfl w.heap.size 9 i0 _ 1 16 Tryd.underlying72 hi hz0 hz1 hz2 rfl (by decide) _ _ _ rfl (HX4.out.own.alloc _) ⟨w4.heap.size, 0, none⟩ 1 1 (sC [Lib.itoa x]) rfl rfl (new_cells w4 9 (sC [Lib.itoa x])) (sC_one _) (by unfold maxLen; omega) (by first | omega | simp | (simp; omega)) (by have := HX4.out.below.size; have := HX4.out.sz; simp; omega) ?_))
      intro v' w5 hown5 hg5 _ _
      have H5 := Lib.hid (HX4.out.app (Lib.itoa x) hown5 hg5)
      rw [← HTK.out] at H5
      clear hown5 hg5
      go_wp2_with fail
      exact ⟨⟨k + 1, _, rfl, by go_num, by omega, H5.out⟩, by simp [intOf]; omega⟩
    · obtain rfl : k = n := by omega
      have HE : Hid (l.take k = l) := List.take_of_length_le (by rw [HLN.out]; exact Nat.le_refl _)
      rw [HE.out] at HX
      have HL2 : Hid ((l.map Lib.itoa).length = k) := by unfold Hid; rw [List.length_map]; exact HLN.out
      clear hlt hk
      go_wp2_with (go_at_call 36; refine (join_any HX.out (by rw [HL2.out]; exact HNE.out) (by rw [HL2.out]; exact hn16) HJL.out).mono ?_; rintro e w6 ⟨rfl, hj⟩)
      go_ret
      exact ⟨rfl, HX.out.below.trans (hj.mono HX.out.below.size)⟩

end Go.Proofs.YtccdnmafakaleaaDoor

/-
  The text of loops: a loop's line, of the reference.
-/
namespace Go.Proofs.YtccdnmafakaleaaDoor
set_option linter.unusedVariables false
set_option linter.unusedSimpArgs false
open Go.RowKit

theorem opW_len (k : Int) : (opW k).length ≤ 5 := by unfold opW; split; simp; split <;> simp
theorem stW_len (k : Int) : (stW k).length ≤ 7 := by unfold stW; split; simp; split; simp; split <;> simp
def statesL : List Value := [strV [], strV (stW 1), strV (stW 2), strV (stW 3), strV (stW 4)]
theorem states_at (s : Nat) (h1 : 1 ≤ s) (h4 : s ≤ 4) : statesL[s]? = some (strV (stW (s : Int))) := by
  have : s = 1 ∨ s = 2 ∨ s = 3 ∨ s = 4 := by omega
  rcases this with rfl | rfl | rfl | rfl <;> rfl
attribute [local go_sem] strV
set_option maxHeartbeats 8000000 in
set_option maxRecDepth 100000 in
theorem l11Line_any (m : Mc) (g k : Nat) (x : Inf) (st : Nat) (w : World) (h : RdP w g m) (hx : m.ls[k]? = some x) (hk : k ≤ 1000) (hp : -1000 ≤ x.p ∧ x.p ≤ 1000) (hy : -1000 ≤ x.y ∧ x.y ≤ 1000) (hps : ∀ n ∈ x.ps, -1000 ≤ n ∧ n ≤ 1000) (hpl : x.ps.length ≤ 16)
    (hs1 : 1 ≤ st) (hs4 : st ≤ 4) (HST : ∀ W, Below w.heap.size w W → Calls Tryd.prog 61 #[.pointer (some ⟨g, 0, none⟩), .int .i64 (k : Int)] W fun e w' => e = .returned (.int .i64 (st : Int)) ∧ Below W.heap.size W w') :
    Calls Tryd.prog 24 #[.pointer (some ⟨g, 0, none⟩), .int .i64 (k : Int)] w fun e w' => e = .returned (strV (ltT k x st)) ∧ Below w.heap.size w w' := by
  have HS := Lib.hid HST
  have hgl := h.lt
  obtain ⟨F, G, C, L, D, hc, -, -, -, h4, -, -⟩ := h
  obtain ⟨A, c, rfl⟩ := RdN.shape h4
  have hkl : k < m.ls.length := (List.getElem?_eq_some_iff.1 hx).1
  obtain ⟨b, off, x', A1, c1, rfl, hbb, hxx, hcx, hri, -⟩ := h4.at_cap hkl
  obtain rfl : x = x' := by rw [hx] at hxx; injection hxx
  have HC := Lib.hid hc
  have HX := Lib.hid hcx
  have HRI := Lib.hid hri
  have hln : (0 : Int) ≤ (k : Int) := by omega
  have hln2 : (k : Int) < (m.ls.length : Int) := by omega
  obtain ⟨x0, x1, x2, x3, x4, x5⟩ := hcx.six
  obtain ⟨c0, c1', c2, c3, c4, c5, c6⟩ := hc.seven
  have hD := Lib.hid (fun (n : Int) (h0 : -1000 ≤ n) (h1 : n ≤ 1000) (W : World) => l01Dec_any n (by omega) (by omega) W)
  have hT := Lib.hid (fun (W : World) => l01Text_any x.b x.p hp.1 hp.2 W)
  have HPS := Lib.hid hps
  have HYB := Lib.hid hy
  clear HST hc hcx hri hx hxx h4 hps hy
  go_enter Tryd.func24, Tryd.ntmps24
  go_upto_region 2 with fail
  clear c0 c1' c2 c3 c4 c5 c6
  go_upto_block 0 with fail
  go_cut [6] (fun s6 wx => w = wx ∧ s6 = strV (opW x.k))
  case first =>
    by_cases k1 : x.k = 1
    · have e1 : (x.k == 1) = true := by simp [k1]
      have HK := Lib.hid k1
      clear k1
      go_wp2_with fail
      go_meet
      exact ⟨rfl, by rw [HK.out]; rfl⟩
    · have e1 : (x.k == 1) = false := by simpa using k1
      by_cases k2 : x.k = 2
      · have e2 : (x.k == 2) = true := by simp [k2]
        have HK := Lib.hid k2
        clear k1 k2
        go_wp2_with fail
        go_meet
        exact ⟨rfl, by rw [HK.out]; rfl⟩
      · have e2 : (x.k == 2) = false := by simpa using k2
        have HK := Lib.hid (show opW x.k = [115, 112, 108, 105, 116] by unfold opW; rw [if_neg k1, if_neg k2])
        clear k1 k2
        go_wp2_with fail
        go_meet
        exact ⟨rfl, by rw [HK.out]; rfl⟩
  case rest =>
  obtain ⟨hw0, rfl⟩ := hcut
  subst hw0
  have hwl := opW_len x.k
  obtain ⟨wd, hwd⟩ : ∃ wd, wd = opW x.k := ⟨_, rfl⟩
  rw [← hwd] at hwl ⊢
  rw [show strV wd = Value.string ⟨wd.toArray⟩ from rfl]
  have HWD := Lib.hid hwd
  clear hwd
  have hil := itoa_l (k : Int) (by omega) (by omega)
  have hyl := itoa_l x.y (by have := HYB.out; omega) (by have := HYB.out; omega)
  have hnl : (ndW x.b x.p).length ≤ 22 := by unfold ndW; have := itoa_l x.p (by omega) (by omega); simp; omega
  have hk0 : -1000000000 ≤ (k : Int) ∧ (k : Int) ≤ 1000000000 := ⟨by omega, by omega⟩
  have HD1 := Lib.hid (fun (W : World) => l01Dec_any (k : Int) (by omega) (by omega) W)
  have HD2 := Lib.hid (fun (W : World) => hD.out x.y (HYB.out.1) (HYB.out.2) W)
  go_upto_region 8 with fail
  go_cut [7] (fun s7 wx => ∃ wq : World, wq = wx ∧ s7 = strV (Lib.itoa (k : Int) ++ 32 :: wd ++ 32 :: ndW x.b x.p ++ [32, 121] ++ Lib.itoa x.y) ∧ Hid (Below w.heap.size w wx))
  case first =>
    obtain ⟨g0, g1, g2, g3, g4, g5⟩ := HX.out.grow6
    clear x0 x1 x2 x3 x4 x5
    refine wp_region_grow (by kernel_rfl) (by kernel_rfl) ?_
    repeat (go_big_quiet_step ((first | (go_at_call_of 59 (Value.int .i64 (k : Int)); exact calls_grow (HD1.out _)) | (go_at_call_of 59 (Value.int .i64 x.y); exact calls_grow (HD2.out _)) | (go_at_call 60; exact calls_grow (hT.out _)))))
    refine wpQuiet_nil ?_
    intro w1 hb1
    go_wp2_with fail
    go_meet
    refine ⟨_, rfl, ?_, hb1⟩
    unfold strV
    congr 1
    apply ByteArray.ext
    simp
  case rest =>
    obtain ⟨wq, hwq, rfl, HB⟩ := hcut
    subst hwq
    have hT8 : (Lib.itoa (k : Int) ++ 32 :: wd ++ 32 :: ndW x.b x.p ++ [32, 121] ++ Lib.itoa x.y).length ≤ 100 := by simp; omega
    obtain ⟨T8, h8⟩ : ∃ T8, T8 = Lib.itoa (k : Int) ++ 32 :: wd ++ 32 :: ndW x.b x.p ++ [32, 121] ++ Lib.itoa x.y := ⟨_, rfl⟩
    rw [← h8] at hT8 ⊢
    have H8 := Lib.hid h8
    clear h8 hil hyl hnl hwl x0 x1 x2 x3 x4 x5
    obtain ⟨x0, x1, x2, x3, x4, x5⟩ := (HX.out.below HB.out hbb).six
    go_upto_if 51 with fail
    go_cut [7] (fun s7 wx => wq = wx ∧ s7 = strV (T8 ++ 32 :: sideW x.d))
    case first =>
      by_cases d1 : x.d = 1
      · have e1 : (x.d == 1) = true := by simp [d1]
        have HK := Lib.hid (show sideW x.d = [114, 105, 103, 104, 116] by unfold sideW; rw [if_pos d1])
        clear d1
        go_wp2_with fail
        go_meet
        exact ⟨rfl, by rw [HK.out]; exact congrArg Value.string (str_app T8 _)⟩
      · have e1 : (x.d == 1) = false := by simpa using d1
        have HK := Lib.hid (show sideW x.d = [108, 101, 102, 116] by unfold sideW; rw [if_neg d1])
        clear d1
        go_wp2_with fail
        go_meet
        exact ⟨rfl, by rw [HK.out]; exact congrArg Value.string (str_app T8 _)⟩
    case rest =>
      obtain ⟨hw1, rfl⟩ := hcut
      subst hw1
      have hT9 : (T8 ++ 32 :: sideW x.d).length ≤ 110 := by unfold sideW; split <;> simp <;> omega
      obtain ⟨T9, h9⟩ : ∃ T9, T9 = T8 ++ 32 :: sideW x.d := ⟨_, rfl⟩
      rw [← h9] at hT9 ⊢
      have H9 := Lib.hid h9
      have hsl := stW_len (st : Int)
      clear h9 hT8
      go_upto_region 12 with fail
      go_cut [7] (fun s7 wx => ∃ w2 : World, w2 = wx ∧ s7 = strV (T9 ++ 32 :: stW st) ∧ Hid (Below w.heap.size w wx))
      case first =>
        have HSA := Lib.hid (states_at st hs1 hs4)
        have hst0 : (0 : Int) ≤ (st : Int) := by omega
        have hst5 : (st : Int) < 5 := by omega
        have hc6 : CellsAt (wq.alloc (.cells statesL.toArray 9)) wq.heap.size 0 statesL := CellsAt.of_alloc
        go_wp2_with (go_at_call 61; refine (HS.out _ (HB.out.alloc HB.out.size (.cells statesL.toArray 9))).mono ?_; rintro e w3 ⟨rfl, hb3⟩; have q0 : w3.cell? ⟨wq.heap.size, st, none⟩ = some (strV (stW st)) := (by have h9 := (hc6.below hb3 (by rw [World.size_alloc]; exact Nat.lt_succ_self _)) st _ HSA.out; rw [Nat.zero_add] at h9; exact h9))
        go_meet
        refine ⟨_, rfl, ?_, (HB.out.alloc HB.out.size _).trans (hb3.mono (by have := HB.out.size; simp; omega))⟩
        first
          | rfl
          | (unfold strV; congr 1; done)
          | (unfold strV; congr 1; apply ByteArray.ext; done)
          | (unfold strV; congr 1; apply ByteArray.ext; simp; done)
      case rest =>
        obtain ⟨w2, hw2, rfl, HB2⟩ := hcut
        subst hw2
        have hT10 : (T9 ++ 32 :: stW (st : Int)).length ≤ 120 := by simp; omega
        have HFIN : Hid (T9 ++ 32 :: stW (st : Int) ++ (if x.ps = [] then [] else [32, 111, 102] ++ numsT x.ps) = ltT k x st) := by
          unfold Hid ltT
          rw [H9.out, H8.out, HWD.out]
        obtain ⟨T10, h10⟩ : ∃ T10, T10 = T9 ++ 32 :: stW (st : Int) := ⟨_, rfl⟩
        rw [← h10] at hT10 HFIN ⊢
        clear h10 hT9 hsl HB x0 x1 x2 x3 x4 x5
        obtain ⟨n, hn⟩ : ∃ n, n = x.ps.length := ⟨_, rfl⟩
        rw [← hn] at hpl
        have HN := Lib.hid hn
        have HX2 := Lib.hid (show CellsAt w b (off + k * 6) [.int .i64 x.k, .int .i64 x.y, .int .i64 x.b, .int .i64 x.p, .int .i64 x.d, .slice A1 n c1] by rw [hn]; exact HX.out)
        have HRI2 := Lib.hid (show RdI w w.heap.size (.slice A1 n c1) x.ps by rw [hn]; exact HRI.out)
        clear hn HX HRI
        go_wp2_with fail
        go_loopw [7, 8] (fun v7 v8 wr => ∃ (j : Nat) (acc : List UInt8) (w3 : World), w3 = wr ∧ v8 = .int .i64 (j : Int) ∧ j ≤ n ∧ v7 = strV acc ∧ acc.length ≤ 130 + 25 * j ∧ Hid (acc = T10 ++ (if j = 0 then [] else [32, 111, 102] ++ numsT (x.ps.take j))) ∧ Hid (Below w.heap.size w w3)) (fun _ v8 _ => n - (intOf v8).toNat)
        case atStart => exact ⟨0, T10, _, rfl, rfl, Nat.zero_le _, rfl, by omega, by simp [Hid], HB2.out⟩
        case round =>
          obtain ⟨j, acc, w3, hw3, rfl, hj, rfl, hal, HA, HB3⟩ := hrel
          subst hw3
          clear HB2
          obtain ⟨x0, x1, x2, x3, x4, x5⟩ := (HX2.out.below HB3.out hbb).six
          by_cases hlt : j < n
          · obtain ⟨b2, o2, pn, rfl, hb2, hp2, hc2⟩ : ∃ b2 o2 pn, A1 = some ⟨b2, o2, none⟩ ∧ b2 < w.heap.size ∧ x.ps[j]? = some pn ∧ w.cell? ⟨b2, o2 + j, none⟩ = some (.int .i64 pn) := by
              obtain ⟨A', n', c', e, -, -, gl⟩ := HRI2.out
              injection e with e1 e2 e3
              subst e1 e2 e3
              obtain ⟨b2, o2, pn, q1, q2, q3, q4⟩ := gl j hlt
              exact ⟨b2, o2, pn, q1, q2, q3, q4⟩
            have q0 := (HB3.out.cell (p := ⟨b2, o2 + j, none⟩) hb2).trans hc2
            have hpb := HPS.out pn (List.mem_of_getElem? hp2)
            have hpi := itoa_l pn (by omega) (by omega)
            have HDP := Lib.hid (fun (W : World) => hD.out pn hpb.1 hpb.2 W)
            have hj0 : (0 : Int) ≤ (j : Int) := by omega
            have hj1 : (j : Int) < (n : Int) := by omega
            have HTK : Hid (numsT (x.ps.take (j + 1)) = numsT (x.ps.take j) ++ 32 :: Lib.itoa pn) := by unfold Hid numsT; rw [List.take_add_one, hp2]; simp
            clear hp2 hc2 hpb
            by_cases hz : j = 0
            · have hz' : ((j : Int) == 0) = true := by simp [hz]
              have HA3 : Hid (acc ++ [32, 111, 102] ++ 32 :: Lib.itoa pn = T10 ++ (if j + 1 = 0 then [] else [32, 111, 102] ++ numsT (x.ps.take (j + 1)))) := by
                unfold Hid
                rw [HA.out, if_pos hz, if_neg (by omega), HTK.out, hz]
                simp [numsT]
              clear hz
              go_wp2_with (go_at_call 59; refine (HDP.out _).mono ?_; rintro e w4 ⟨rfl, hb4⟩)
              exact ⟨⟨j + 1, acc ++ [32, 111, 102] ++ 32 :: Lib.itoa pn, w4, rfl, by go_num, by omega, by (first | rfl | (unfold strV; congr 1; done) | (unfold strV; congr 1; apply ByteArray.ext; done) | (unfold strV; congr 1; apply ByteArray.ext; simp; done)), by simp; omega, HA3.out, HB3.out.trans (hb4.mono HB3.out.size)⟩, by simp [intOf]; omega⟩
            · have hz' : ((j : Int) == 0) = false := by simpa using hz
              have HA3 : Hid (acc ++ 32 :: Lib.itoa pn = T10 ++ (if j + 1 = 0 then [] else [32, 111, 102] ++ numsT (x.ps.take (j + 1)))) := by
                unfold Hid
                rw [HA.out, if_neg hz, if_neg (by omega), HTK.out]
                simp
              clear hz
              go_wp2_with (go_at_call 59; refine (HDP.out _).mono ?_; rintro e w4 ⟨rfl, hb4⟩)
              exact ⟨⟨j + 1, acc ++ 32 :: Lib.itoa pn, w4, rfl, by go_num, by omega, by (first | rfl | (unfold strV; congr 1; done) | (unfold strV; congr 1; apply ByteArray.ext; done) | (unfold strV; congr 1; apply ByteArray.ext; simp; done)), by simp; omega, HA3.out, HB3.out.trans (hb4.mono HB3.out.size)⟩, by simp [intOf]; omega⟩
          · have hjn : j = n := by omega
            have HE : Hid (acc = ltT k x st) := by
              unfold Hid
              rw [HA.out, ← HFIN.out]
              congr 1
              have h1 := HN.out
              by_cases h0 : x.ps = []
              · rw [if_pos h0, if_pos (by rw [hjn, h1, h0]; rfl)]
              · rw [if_neg h0, if_neg (fun e => h0 (List.eq_nil_of_length_eq_zero (by omega))), List.take_of_length_le (by omega)]
            clear hjn
            go_wp2_with fail
            go_ret
            exact ⟨by rw [HE.out]; rfl, HB3.out⟩

end Go.Proofs.YtccdnmafakaleaaDoor

/-
  The text of loops: LoopsText of the reference.
-/
namespace Go.Proofs.YtccdnmafakaleaaDoor
set_option linter.unusedVariables false
set_option linter.unusedSimpArgs false
open Go.RowKit

/-- The text of a machine's loops, nothing if it is not valid. -/
def ltAll (m : Mc) : List UInt8 := if okM m = true then ltsT 0 m.ls (fun i => stM m (i : Int)) else []
theorem lts_next {R acc : List UInt8} {ls : List Inf} {f : Nat → Int} {j : Nat} {x : Inf} (h : R = acc ++ ltsT j (ls.drop j) f) (hx : ls[j]? = some x) : R = (acc ++ (ltT j x (f j) ++ [10])) ++ ltsT (j + 1) (ls.drop (j + 1)) f := by
  rw [h, drop_of_get hx, ltsT]
  simp
theorem ltT_len (i : Nat) (x : Inf) (s : Int) (hi : i ≤ 1000) (hp : -1000 ≤ x.p ∧ x.p ≤ 1000) (hy : -1000 ≤ x.y ∧ x.y ≤ 1000) (hps : ∀ n ∈ x.ps, -1000 ≤ n ∧ n ≤ 1000) (hpl : x.ps.length ≤ 16) : (ltT i x s).length ≤ 600 := by
  have h1 := itoa_l (i : Int) (by omega) (by omega)
  have h2 := itoa_l x.y (by omega) (by omega)
  have h3 := itoa_l x.p (by omega) (by omega)
  have h4 := opW_len x.k
  have h5 := stW_len s
  have h6 : (ndW x.b x.p).length ≤ 22 := by unfold ndW; simp; omega
  have h7 : (sideW x.d).length ≤ 5 := by unfold sideW; split <;> simp
  have h8 := numsT_len x.ps hps
  unfold ltT
  have h9 : (if x.ps = [] then ([] : List UInt8) else [32, 111, 102] ++ numsT x.ps).length ≤ 3 + 22 * 16 := by
    split
    · simp
    · simp; omega
  simp only [List.length_append, List.length_cons, List.length_nil] at h9 ⊢
  omega

/-- What is known of a loop's parts. -/
def InfOk (m : Mc) : Prop := ∀ (j : Nat) (x : Inf), m.ls[j]? = some x → (-1000 ≤ x.p ∧ x.p ≤ 1000) ∧ (-1000 ≤ x.y ∧ x.y ≤ 1000) ∧ (∀ n ∈ x.ps, -1000 ≤ n ∧ n ≤ 1000) ∧ x.ps.length ≤ 16 ∧ (x.d = 1 ∨ x.d = -1)
attribute [local go_sem] strV
set_option maxHeartbeats 8000000 in
set_option maxRecDepth 100000 in
theorem specLoopsText_any (v : Value) (m : Mc) (w : World) (hl : RdM w w.heap.size v m) (hf : FitM m) (hin : okM m = true → InfOk m) :
    Calls Tryd.prog 6 #[v] w fun e w' => e = .returned (strV (ltAll m)) ∧ Below w.heap.size w w' := by
  have hdr := hf.dr
  have HIN := Lib.hid hin
  clear hin
  have hl0 := hl
  obtain ⟨f, b, cs, ls, d, rfl, h1, h2, h3, h4, h5, h6⟩ := hl
  obtain ⟨AF, cF, rfl⟩ := RdN.shape h1
  obtain ⟨AG, cG, rfl⟩ := RdN.shape h2
  obtain ⟨AC, cC, rfl⟩ := RdS.lens h3
  obtain ⟨AI, cI, rfl⟩ := RdN.shape h4
  obtain ⟨AD, cD, rfl⟩ := RdI.len h5
  have BW := Lib.hid (show Below w.heap.size w (w.alloc (.cells #[.int .i64 m.wd, .int .i64 m.rk, .slice AF m.fr.length cF, .slice AG m.bk.length cG, .slice AC m.cs.length cC, .slice AI m.ls.length cI, .slice AD m.dr.length cD] 33)) from (Below.refl _ _).alloc (Nat.le_refl _) _)
  have HP := Lib.hid (RdP.box (T := 33) h1 h2 h3 h4 h5 h6)
  have HM := Lib.hid (hl0.up BW.out BW.out.size)
  clear h1 h2 h3 h4 h5 h6 hl0
  go_enter Tryd.func6, Tryd.ntmps6
  go_wp2_with fail
  refine (l07Ok_p m _ _ HP.out hdr).mono ?_
  rintro e w1 ⟨rfl, hb⟩
  have HB := Lib.hid (BW.out.trans (hb.mono BW.out.size))
  cases hok : okM m with
  | false =>
    have HE := Lib.hid (show ltAll m = [] by unfold ltAll; rw [hok]; rfl)
    clear hb hok
    go_wp2_with fail
    go_ret
    exact ⟨by rw [HE.out]; rfl, HB.out⟩
  | true =>
    have HI := Lib.hid (HIN.out hok)
    have HOK := Lib.hid hok
    have h300 := ls_len hok
    have HP1 := Lib.hid (HP.out.below hb)
    have HE := Lib.hid (show ltAll m = ltsT 0 m.ls (fun i => stM m (i : Int)) by unfold ltAll; rw [hok]; rfl)
    have hg1 : w.heap.size < w1.heap.size := HP1.out.lt
    clear hb hok HIN HP HM BW
    go_wp2_with fail
    go_loopw [3, 4] (fun v3 v4 wr => ∃ (j : Nat) (acc : List UInt8) (w3 : World), w3 = wr ∧ v4 = .int .i64 (j : Int) ∧ j ≤ m.ls.length ∧ v3 = strV acc ∧ acc.length ≤ 601 * j ∧ Hid (ltAll m = acc ++ ltsT j (m.ls.drop j) (fun i => stM m (i : Int))) ∧ Hid (Below w1.heap.size w1 w3)) (fun _ v4 _ => m.ls.length - (intOf v4).toNat)
    case atStart => exact ⟨0, [], _, rfl, rfl, Nat.zero_le _, rfl, Nat.zero_le _, by unfold Hid; rw [HE.out]; rfl, Below.refl _ _⟩
    case round =>
      obtain ⟨j, acc, w3, hw3, rfl, hj, rfl, hal, HA, HB3⟩ := hrel
      subst hw3
      have HP3 := Lib.hid (HP1.out.below HB3.out)
      obtain ⟨F, G, C, L, D, hc, -, -, -, h4, -, -⟩ := id HP3.out
      obtain ⟨A, c, rfl⟩ := RdN.shape h4
      obtain ⟨c0, c1, c2, c3, c4, c5, c6⟩ := hc.seven
      clear hc h4
      by_cases hlt : j < m.ls.length
      · obtain ⟨x, hx⟩ : ∃ x, m.ls[j]? = some x := ⟨_, List.getElem?_eq_getElem hlt⟩
        obtain ⟨p1, p2, p3, p4, -⟩ := HI.out j x hx
        have hst := stM_rng m (j : Int)
        obtain ⟨st, hst2⟩ : ∃ st : Nat, stM m (j : Int) = (st : Int) := ⟨(stM m (j : Int)).toNat, by omega⟩
        have HLN := Lib.hid (l11Line_any m w.heap.size j x st w3 HP3.out hx (by omega) p1 p2 p3 p4 (by omega) (by omega) (fun W hW => by rw [← hst2]; exact l11State_any m w.heap.size (j : Int) W (HP3.out.below hW) HOK.out))
        have hll := ltT_len j x (st : Int) (by omega) p1 p2 p3 p4
        have HA2 := Lib.hid (lts_next HA.out hx)
        rw [hst2] at HA2
        clear hx p1 p2 p3 p4 hst hst2
        go_wp2_with (go_at_call 24; refine HLN.out.mono ?_; rintro e w4 ⟨rfl, hb4⟩)
        exact ⟨⟨j + 1, acc ++ (ltT j x (st : Int) ++ [10]), w4, rfl, by go_num, by omega, by first | rfl | (unfold strV; congr 1; done) | (unfold strV; congr 1; apply ByteArray.ext; done) | (unfold strV; congr 1; apply ByteArray.ext; simp; done), by simp; omega, HA2.out, HB3.out.trans (hb4.mono HB3.out.size)⟩, by simp [intOf]; omega⟩
      · have HF : Hid (ltAll m = acc) := by
          unfold Hid
          rw [HA.out, List.drop_of_length_le (by omega)]
          simp [ltsT]
        go_wp2_with fail
        go_ret
        exact ⟨by rw [HF.out]; rfl, HB.out.trans (HB3.out.mono HB.out.size)⟩

end Go.Proofs.YtccdnmafakaleaaDoor

/-
  The text of loops: what LoopsText of the program stands on (words, the builder).
-/
namespace Go.Proofs.YtccdnmafakaleaaDoor
set_option linter.unusedVariables false
set_option linter.unusedSimpArgs false
open Go.RowKit

theorem okI_of {m : Mc} (h : okM m = true) : InfOk m := by
  intro j x hx
  have h300 := ls_len h
  have hjl : j < m.ls.length := by
    rcases Nat.lt_or_ge j m.ls.length with h | h
    · exact h
    · rw [List.getElem?_eq_none h] at hx; cases hx
  obtain ⟨hp, hl⟩ := ok_loop h hx
  unfold okM at h
  simp at h
  have hw := headM_yes h.1
  have h1 := infs_at h.2.2.2.2.1 hx
  unfold okInf headI dirM at h1
  simp only [Bool.and_eq_true, decide_eq_true_eq, inB_iff] at h1
  obtain ⟨-, ⟨⟨y1, y2⟩, -, ⟨p1, p2⟩, hd⟩, -⟩ := h1
  exact ⟨⟨by omega, by omega⟩, ⟨by omega, by omega⟩, fun n hn => by have := hp n hn; omega, by omega, hd⟩
theorem okI_kind {m : Mc} (h : okM m = true) {j : Nat} {x : Inf} (hx : m.ls[j]? = some x) : x.k = 1 ∨ x.k = 2 ∨ x.k = 5 := by
  unfold okM at h
  simp at h
  have h1 := infs_at h.2.2.2.2.1 hx
  unfold okInf kindM at h1
  simp only [Bool.and_eq_true, decide_eq_true_eq] at h1
  exact h1.1
/-- The words of operations. -/
def opsW10 : List Value := [strV [], strV [107, 110, 105, 116], strV [116, 117, 99, 107], strV [109, 105, 115, 115], strV [120, 102, 101, 114], strV [115, 112, 108, 105, 116], strV [100, 114, 111, 112], strV [114, 97, 99, 107], strV [105, 110], strV [111, 117, 116]]
theorem opsW_at (k : Nat) (h : k = 1 ∨ k = 2 ∨ k = 5) : opsW10[k]? = some (strV (opW (k : Int))) := by
  rcases h with rfl | rfl | rfl <;> rfl
/-- The words of states. -/
def stsW : List Value := [strV [], strV [104, 101, 108, 100], strV [108, 105, 118, 101], strV [100, 114, 111, 112, 112, 101, 100], strV [108, 111, 111, 115, 101]]
theorem stsW_at (k : Nat) (h1 : 1 ≤ k) (h4 : k ≤ 4) : stsW[k]? = some (strV (stW (k : Int))) := by
  obtain rfl | rfl | rfl | rfl : k = 1 ∨ k = 2 ∨ k = 3 ∨ k = 4 := by omega
  all_goals rfl
def OpWRes (w : World) (e : Ending) (w' : World) : Prop := ∃ g, e = .returned (.slice (some ⟨g, 0, none⟩) 10 10) ∧ w.heap.size ≤ g ∧ CellsAt w' g 0 opsW10 ∧ Below w.heap.size w w'
set_option maxHeartbeats 4000000 in
set_option maxRecDepth 100000 in
theorem opWords_any (w : World) : Calls Tryd.prog 32 #[] w (OpWRes w) := by
  go_enter Tryd.func32, Tryd.ntmps32
  go_wp2
  go_ret
  exact ⟨_, rfl, Nat.le_refl _, box_cells (us := opsW10), (Below.refl _ _).alloc (Nat.le_refl _) _⟩

/-! ### The builder -/
theorem bld_below {T E : TypeId} {B b : Nat} {bs : List Value} {w w' : World} (h : Lib.IsBuilder T E B b bs w) (hb : Below w.heap.size w w') : Lib.IsBuilder T E B b bs w' := by
  have key : ∀ p, Lib.BuilderAt T E B b p bs w → Lib.BuilderAt T E B b p bs w' := by
    intro p h
    have hlt := h.lt
    obtain ⟨h1, v, h2, h3, h4⟩ := h
    exact ⟨h1, v, (hb.block b hlt).trans h2, own_below h3 hb, h4⟩
  rcases h with h | h
  · exact .inl (key _ h)
  · exact .inr (key _ h)
theorem bld_lt {T E : TypeId} {B b : Nat} {bs : List Value} {w : World} (h : Lib.IsBuilder T E B b bs w) : b < w.heap.size := by
  rcases h with h | h
  · exact h.lt
  · exact h.lt
theorem bldWrite {B b : Nat} {l : List UInt8} {w : World} (s : ByteArray) (h : Lib.IsBuilder 76 5 B b (Lib.byteCells l) w) (hl : l.length + s.size ≤ 140737488355328) (hB : B ≤ w.heap.size) :
    Calls Tryd.prog 35 #[.pointer (some ⟨b, 0, none⟩), .string s] w fun e w' => e = .returned (.tuple #[.int .i64 s.size, .nilIface]) ∧ Lib.IsBuilder 76 5 B b (Lib.byteCells (l ++ s.data.toList)) w' ∧ Below B w w' := by
  refine (Any.Builder_WriteString { joinLay with } joinExtra B b _ s w h (by rw [Lib.byteCells_length]; exact hl) hB).mono ?_
  rintro e w' ⟨rfl, h2, hb⟩
  refine ⟨rfl, .inr ?_, hb⟩
  rw [Lib.byteCells_append, ← Lib.strCells_eq]
  exact h2
theorem bldString {B b : Nat} {l : List UInt8} {w : World} (h : Lib.IsBuilder 76 5 B b (Lib.byteCells l) w) (hB : B ≤ w.heap.size) :
    Calls Tryd.prog 37 #[.pointer (some ⟨b, 0, none⟩)] w fun e w' => e = .returned (strV l) ∧ Below B w w' :=
  Any.Builder_String_any { joinLay with } joinExtra B b l w h hB

theorem bldLine {B b : Nat} {l : List UInt8} {w : World} (a : List UInt8) (h : Lib.IsBuilder 76 5 B b (Lib.byteCells l) w) (hl : l.length + a.length ≤ 100000000) (hB : B ≤ w.heap.size) :
    Calls Tryd.prog 35 #[.pointer (some ⟨b, 0, none⟩), .string ((⟨a.toArray⟩ : ByteArray) ++ ⟨#[10]⟩)] w fun e w' => e = .returned (.tuple #[.int .i64 ((⟨a.toArray⟩ : ByteArray) ++ ⟨#[10]⟩ : ByteArray).size, .nilIface]) ∧ Lib.IsBuilder 76 5 B b (Lib.byteCells (l ++ (a ++ [10]))) w' ∧ Below B w w' := by
  have e : ((⟨a.toArray⟩ : ByteArray) ++ ⟨#[10]⟩) = ⟨(a ++ [10]).toArray⟩ := by
    rw [show (⟨#[10]⟩ : ByteArray) = ⟨[10].toArray⟩ from rfl, str_app]
  rw [e]
  have h2 := bldWrite (⟨(a ++ [10]).toArray⟩ : ByteArray) h (by show l.length + (a ++ [10]).toArray.size ≤ _; simp; omega) hB
  exact h2

/-! ### The region that makes a line's words -/
section
variable {w w' : World} {p0 p1 p2 p3 p4 p5 : Addr} {u0 u1 u2 u3 u4 u5 : Value} {wy : World}
theorem lt6_next (hb : Below w.heap.size w w') (h : w.cell? p0 = some u0 ∧ w.cell? p1 = some u1 ∧ w.cell? p2 = some u2 ∧ w.cell? p3 = some u3 ∧ w.cell? p4 = some u4 ∧ w.cell? p5 = some u5 ∧ Hid (Below wy.heap.size wy w)) :
    w'.cell? p0 = some u0 ∧ w'.cell? p1 = some u1 ∧ w'.cell? p2 = some u2 ∧ w'.cell? p3 = some u3 ∧ w'.cell? p4 = some u4 ∧ w'.cell? p5 = some u5 ∧ Hid (Below wy.heap.size wy w') := by
  obtain ⟨h0, h1, h2, h3, h4, h5, h6⟩ := h
  have k := fun {p : Addr} {u : Value} (h : w.cell? p = some u) => (hb.cell (p := p) (block_lt_of_cell h)).trans h
  exact ⟨k h0, k h1, k h2, k h3, k h4, k h5, h6.out.trans (hb.mono h6.out.size)⟩
theorem cell_next {p : Addr} {u : Value} (hb : Below w.heap.size w w') (h : w.cell? p = some u) : w'.cell? p = some u := (hb.cell (p := p) (block_lt_of_cell h)).trans h
theorem lt6_bnext (hb : Below w.heap.size w w') (h : w.cell? p0 = some u0 ∧ w.cell? p1 = some u1 ∧ w.cell? p2 = some u2 ∧ w.cell? p3 = some u3 ∧ w.cell? p4 = some u4 ∧ w.cell? p5 = some u5 ∧ Hid (Below wy.heap.size wy w)) : Below wy.heap.size wy w' := h.2.2.2.2.2.2.out.trans (hb.mono h.2.2.2.2.2.2.out.size)
theorem lt6_bel (h : w.cell? p0 = some u0 ∧ w.cell? p1 = some u1 ∧ w.cell? p2 = some u2 ∧ w.cell? p3 = some u3 ∧ w.cell? p4 = some u4 ∧ w.cell? p5 = some u5 ∧ Hid (Below wy.heap.size wy w)) : Below wy.heap.size wy w := h.2.2.2.2.2.2.out
end
theorem lt_six (a b c y d e : List UInt8) : #[Value.string ⟨a.toArray⟩, .string ⟨b.toArray⟩, .string ⟨c.toArray⟩, .string ((⟨#[121]⟩ : ByteArray) ++ ⟨y.toArray⟩), .string ⟨d.toArray⟩, .string ⟨e.toArray⟩] = (sC [a, b, c, 121 :: y, d, e]).toArray := by
  have h : ((⟨#[121]⟩ : ByteArray) ++ ⟨y.toArray⟩) = ⟨(121 :: y).toArray⟩ := by
    rw [show (⟨#[121]⟩ : ByteArray) = ⟨[121].toArray⟩ from rfl, str_app]
    rfl
  rw [h]
  rfl
theorem TxW.apps {w1 wx w5 : World} {B : Nat} {v v' : Value} {l : List (List UInt8)} {o : Obj} (x : List (List UInt8)) (h : TxW w1 wx B v l) (hown : w5.ownsRow B 9 1 v' (l.length + x.length) (sC l ++ sC x)) (hg : (wx.alloc o).grownBy w5 v.ownBlock) : TxW w1 w5 B v' (l ++ x) :=
  ⟨by rw [sC_app, List.length_append]; exact hown, below_append h.below (by have := h.below.size; have := h.sz; omega) h.own hg, h.sz⟩

end Go.Proofs.YtccdnmafakaleaaDoor

/-
  The text of loops: LoopsText of the program.
-/
namespace Go.Proofs.YtccdnmafakaleaaDoor
set_option linter.unusedVariables false
set_option linter.unusedSimpArgs false
open Go.RowKit

attribute [local go_sem] strV
@[go_sem] def ldLtW : Oper := { dst := some 33, op := Op.load 9 (Operand.tmp 32), type := 9, pos := "l11_fabric.go:208", after := #[{ on := 5, ground := Ground.data }], guard := none }
@[go_sem] def adLtY : Oper := { dst := some 43, op := Op.binOp BinOp.add 9 (Operand.const (Value.string { data := #[121] })) (Operand.tmp 42) 9, type := 9, pos := "l11_fabric.go:208", after := #[{ on := 15, ground := Ground.data }], guard := none }
set_option maxHeartbeats 16000000 in
set_option maxRecDepth 100000 in
theorem implLoopsText_any (v : Value) (m : Mc) (w : World) (hl : RdM w w.heap.size v m) (hf : FitM m) (ht : TabW w.heap.size w) :
    Calls Tryd.prog 8 #[v] w fun e w' => e = .returned (strV (ltAll m)) ∧ Below w.heap.size w w' := by
  obtain ⟨i0, hi, hz0, hz1, hz2⟩ := info_parts info_str
  have HT := Lib.hid ht
  clear ht
  have hdr := hf.dr
  have hl0 := hl
  obtain ⟨f, b, cs, ls, d, rfl, h1, h2, h3, h4, h5, h6⟩ := hl
  obtain ⟨AF, cF, rfl⟩ := RdN.shape h1
  obtain ⟨AG, cG, rfl⟩ := RdN.shape h2
  obtain ⟨AC, cC, rfl⟩ := RdS.lens h3
  obtain ⟨AI, cI, rfl⟩ := RdN.shape h4
  obtain ⟨AD, cD, rfl⟩ := RdI.len h5
  have BW := Lib.hid (show Below w.heap.size w (w.alloc (.cells #[.int .i64 m.wd, .int .i64 m.rk, .slice AF m.fr.length cF, .slice AG m.bk.length cG, .slice AC m.cs.length cC, .slice AI m.ls.length cI, .slice AD m.dr.length cD] 33)) from (Below.refl _ _).alloc (Nat.le_refl _) _)
  have HP := Lib.hid (RdP.box (T := 33) h1 h2 h3 h4 h5 h6)
  have HM := Lib.hid (hl0.up BW.out BW.out.size)
  clear h1 h2 h3 h4 h5 h6 hl0
  have HQ := Lib.hid (validMachine_any _ m _ HM.out)
  cases hok : okM m
  · have HN := Lib.hid (fun w' hb => (show Below w.heap.size w w' → (Ending.returned (strV []) = .returned (strV (ltAll m)) ∧ Below w.heap.size w w') from fun hb => ⟨by rw [show ltAll m = [] by unfold ltAll; rw [hok]; rfl], hb⟩) hb)
    have HK := Lib.hid hok
    clear hok
    go_enter Tryd.func8, Tryd.ntmps8
    go_wp2_with fail
    refine HQ.out.mono ?_
    rintro e w1 ⟨rfl, hb⟩
    rw [HK.out]
    have HB := Lib.hid (BW.out.trans (hb.mono BW.out.size))
    clear hb
    go_wp2
    go_ret
    exact HN.out _ HB.out
  have HOK := Lib.hid hok
  have h300 := ls_len hok
  clear hok
  go_enter Tryd.func8, Tryd.ntmps8
  go_wp2_with fail
  refine HQ.out.mono ?_
  rintro e w1 ⟨rfl, hb⟩
  rw [HOK.out]
  have HB := Lib.hid (BW.out.trans (hb.mono BW.out.size))
  have HP1 := Lib.hid (HP.out.below hb)
  clear hb HM HP HQ
  have HIN := Lib.hid (okI_of HOK.out)
  have HE := Lib.hid (show ltAll m = ltsT 0 m.ls (fun i => stM m (i : Int)) by unfold ltAll; rw [HOK.out]; rfl)
  have hg1 : w.heap.size < w1.heap.size := HP1.out.lt
  go_wp2_with fail
  refine (states_any m _ _ (HP1.out.below ((Below.refl _ _).alloc (Nat.le_refl _) _)) HOK.out).mono ?_
  rintro e w2 ⟨v2, rfl, ho, hb⟩
  have HNM := Lib.hid (CellsAt.below (box_cells (us := stsW)) hb (by simp))
  have HB12 := Lib.hid (((Below.refl w1.heap.size w1).alloc (Nat.le_refl _) _).trans (hb.mono (by simp)))
  have HP2 := Lib.hid (HP1.out.below HB12.out)
  have hz12 : w1.heap.size < w2.heap.size := by have := hb.size; simp at this; omega
  have HO := Lib.hid (ho.wide (show w1.heap.size ≤ _ by simp) (Nat.le_refl _))
  have HOL := Lib.hid (show (stL m).length = m.ls.length by simp [stL])
  have HSV := Lib.hid (fun (j : Nat) (hj : j < m.ls.length) => show (vI (stL m))[j]? = some (.int .i64 (stM m (j : Int))) by simp [vI, stL, hj])
  have HSR := Lib.hid (fun k => stM_rng m k)
  have HKD := Lib.hid (fun (j : Nat) (x : Inf) (hx : m.ls[j]? = some x) => okI_kind HOK.out hx)
  obtain ⟨A2, c2, rfl, -⟩ := ho.cells
  clear ho hb
  obtain ⟨F, G, C, L, D, hc, -, -, -, h4, -, -⟩ := id HP2.out
  obtain ⟨A, c, rfl⟩ := RdN.shape h4
  have HLS := Lib.hid h4
  obtain ⟨c0, c1, c2', c3, c4, c5, c6⟩ := hc.seven
  clear hc h4
  have HBW := Lib.hid (HB.out.trans (HB12.out.mono HB.out.size))
  have hww2 : w.heap.size ≤ w2.heap.size := HBW.out.size
  have hw2l : w.heap.size < w2.heap.size := by omega
  generalize hLL : ltAll m = R at *
  generalize hst : stM m = ST at *
  generalize hln : m.ls.length = n at *
  have HLN := Lib.hid hln
  have HLL := Lib.hid hLL
  clear hLL hst hln
  go_wp2_with fail
  clear c0 c1 c2' c3 c4 c5 c6
  go_loopw [19] (fun v19 wr => ∃ (j : Nat) (acc : List UInt8) (wq : World), wq = wr ∧ v19 = .int .i64 (j : Int) ∧ j ≤ n ∧ acc.length ≤ 601 * j ∧ Hid (R = acc ++ ltsT j (m.ls.drop j) (fun i => ST (i : Int))) ∧ Hid (Lib.IsBuilder 76 5 w2.heap.size w2.heap.size (Lib.byteCells acc) wq) ∧ Hid (Below w2.heap.size w2 wq)) (fun v19 _ => n - (intOf v19).toNat)
  case atStart => exact ⟨0, [], _, rfl, rfl, Nat.zero_le _, Nat.zero_le _, by unfold Hid; rw [HE.out]; rfl, Lib.fresh_isBuilder _ _ _, (Below.refl _ _).alloc (Nat.le_refl _) _⟩
  case round =>
    obtain ⟨j, acc, wq, hwq, rfl, hj, hal, HA, HIB, HB3⟩ := hrel
    subst hwq
    have hzq : w2.heap.size < wq.heap.size := bld_lt HIB.out
    by_cases hlt : j < n
    · obtain ⟨b, off, x, A1, cc1, rfl, hb1, hlk, hcc, hps, hcp⟩ := (RdIs.below HLS.out HB3.out).at_cap (k := j) (by have := HLN.out; omega)
      obtain ⟨q0, q1, q2, q3, q4, q5⟩ := hcc.six
      obtain ⟨p1, p2, p3, p4, pd⟩ := HIN.out j x hlk
      have hkk := HKD.out j x hlk
      have hl16 := ltT_len j x (ST (j : Int)) (by omega) p1 p2 p3 p4
      have HA2 : Hid (R = (acc ++ (ltT j x (ST (j : Int)) ++ [10])) ++ ltsT (j + 1) (m.ls.drop (j + 1)) (fun i => ST (i : Int))) := lts_next HA.out hlk
      obtain ⟨xk, xy, xb, xp, xd, xps⟩ := x
      simp only at p1 p2 p3 p4 pd hkk q0 q1 q2 q3 q4 q5 hps hcp
      obtain ⟨kn, rfl⟩ : ∃ kn : Nat, xk = (kn : Int) := ⟨xk.toNat, by omega⟩
      have hkn : kn = 1 ∨ kn = 2 ∨ kn = 5 := by omega
      have HWK := Lib.hid (opsW_at kn hkn)
      have hk0 : (0 : Int) ≤ (kn : Int) := by omega
      have hk10 : (kn : Int) < 10 := by omega
      have hsr := HSR.out (j : Int)
      have hsv := HSV.out j hlt
      generalize hsj : ST (j : Int) = sj at *
      obtain ⟨st, rfl⟩ : ∃ st : Nat, sj = (st : Int) := ⟨sj.toNat, by omega⟩
      have hs0 : (0 : Int) ≤ (st : Int) := by omega
      have hs5 : (st : Int) < 5 := by omega
      have hnm := HNM.out st _ (stsW_at st (by omega) (by omega))
      rw [Nat.zero_add] at hnm
      have hgn := block_lt_of_cell hnm
      have hown := OwC.below HO.out HB3.out
      obtain ⟨A2', c2', e2, -, hcell⟩ := hown.cells
      injection e2 with e3 e4 e5
      subst e3 e5
      obtain ⟨gS, rfl, hg0, hg1, -, hcx⟩ := hcell j (by have := HLN.out; omega)
      have cs := hcx j (.int .i64 (st : Int)) (by omega) hsv
      have hnm2 := (HB3.out.cell (p := ⟨w1.heap.size, st, none⟩) hgn).trans hnm
      have HP := Lib.hid p3
      have HPL := Lib.hid p4
      have HRP := Lib.hid hps
      have HHL := Lib.hid hl16
      have HHJ := Lib.hid hsj
      clear hlk hcc hown hcell hcx hsv hnm hkk hkn p3 p4 hsr hps hl16 hsj
      go_upto_if 26 with fail
      have HXB : CellsAt (wq.alloc (.cells #[.int .i64 kn, .int .i64 xy, .int .i64 xb, .int .i64 xp, .int .i64 xd, .slice A1 xps.length cc1] 78)) wq.heap.size 0 [.int .i64 kn, .int .i64 xy, .int .i64 xb, .int .i64 xp, .int .i64 xd, .slice A1 xps.length cc1] := box_cells (us := [.int .i64 kn, .int .i64 xy, .int .i64 xb, .int .i64 xp, .int .i64 xd, .slice A1 xps.length cc1])
      have HBB : Below wq.heap.size wq (wq.alloc (.cells #[.int .i64 kn, .int .i64 xy, .int .i64 xb, .int .i64 xp, .int .i64 xd, .slice A1 xps.length cc1] 78)) := (Below.refl _ _).alloc (Nat.le_refl _) _
      generalize hwb : wq.alloc (.cells #[.int .i64 kn, .int .i64 xy, .int .i64 xb, .int .i64 xp, .int .i64 xd, .slice A1 xps.length cc1] 78) = wb at *
      have hzb : wq.heap.size < wb.heap.size := by rw [← hwb]; simp
      clear hwb
      have HX := Lib.hid HXB
      have HBX := Lib.hid HBB
      obtain ⟨x0, x1, x2, x3, x4, x5⟩ := HXB.six
      have nmb : wb.cell? ⟨w1.heap.size, st, none⟩ = some (.string ⟨(stW st).toArray⟩) := (HBB.cell (p := ⟨w1.heap.size, st, none⟩) (by show w1.heap.size < wq.heap.size; omega)).trans hnm2
      have csb := (HBB.cell (p := ⟨gS, j, none⟩) (by show gS < wq.heap.size; omega)).trans cs
      have HTB := Lib.hid (HT.out.on ((HBW.out.trans (HB3.out.mono hww2)).trans (HBB.mono (by omega))))
      have hwb : w.heap.size ≤ wb.heap.size := by omega
      clear HXB HBB cs hnm2 q0 q1 q2 q3 q4 q5
      go_cut [8] (fun s8 wx => wx = wb ∧ s8 = .string ⟨(sideW xd).toArray⟩)
      case first =>
        rcases pd with hd | hd
        · have h9 : (xd == -1) = false := by simp [hd]
          have HSD := Lib.hid (show sideW xd = [114, 105, 103, 104, 116] by simp [sideW, hd])
          clear hd
          go_wp2_with fail
          go_meet
          exact ⟨rfl, by rw [HSD.out]⟩
        · have h9 : (xd == -1) = true := by simp [hd]
          have HSD := Lib.hid (show sideW xd = [108, 101, 102, 116] by simp [sideW, hd])
          clear hd
          go_wp2_with fail
          go_meet
          exact ⟨rfl, by rw [HSD.out]⟩
      case rest =>
        obtain ⟨hwx, rfl⟩ := hcut
        replace hwx := hwx.symm
        subst hwx
        clear pd
        go_upto_region 12 with fail
        go_cut [9] (fun s9 wx => ∃ (g : Nat) (wz : World), wz = wx ∧ s9 = .slice (some ⟨g, 0, none⟩) 6 6 ∧ Hid (TxW wb wx wb.heap.size (.slice (some ⟨g, 0, none⟩) 6 6) [Lib.itoa (j : Int), opW (kn : Int), ndW xb xp, 121 :: Lib.itoa xy, sideW xd, stW (st : Int)]))
        case first =>
          rw [show ({ dst := some 33, op := Op.load 9 (Operand.tmp 32), type := 9, pos := "l11_fabric.go:208", after := #[{ on := 5, ground := Ground.data }], guard := none } : Oper) = ldLtW from rfl, show ({ dst := some 43, op := Op.binOp BinOp.add 9 (Operand.const (Value.string { data := #[121] })) (Operand.tmp 42) 9, type := 9, pos := "l11_fabric.go:208", after := #[{ on := 15, ground := Ground.data }], guard := none } : Oper) = adLtY from rfl]
          have hyl := itoa_l xy (by omega) (by omega)
          have hyl2 : 1 + (Lib.itoa xy).length ≤ 9223372036854775807 := by omega
          have hyl3 : (Lib.itoa xy).length ≤ 9223372036854775806 := by omega
          have HTR := Lib.hid (fun (W : World) (hW : Below wb.heap.size wb W) => HTB.out.on (hW.mono hwb))
          go_region_held3 (fun w' => w'.cell? ⟨wq.heap.size, 0, none⟩ = some (.int .i64 (kn : Int)) ∧ w'.cell? ⟨wq.heap.size, 1, none⟩ = some (.int .i64 xy) ∧ w'.cell? ⟨wq.heap.size, 2, none⟩ = some (.int .i64 xb) ∧ w'.cell? ⟨wq.heap.size, 3, none⟩ = some (.int .i64 xp) ∧ w'.cell? ⟨gS, j, none⟩ = some (.int .i64 (st : Int)) ∧ w'.cell? ⟨w1.heap.size, st, none⟩ = some (.string ⟨(stW (st : Int)).toArray⟩) ∧ Hid (Below wb.heap.size wb w'))
            (first | assumption | exact ⟨x0, x1, x2, x3, csb, nmb, (Below.refl _ _).drew⟩ | exact lt6_next hba (by assumption) | exact lt6_next hbd (by assumption) | exact lt6_next hbn (by assumption) | exact lt6_next hbo (by assumption) | exact lt6_next ((Below.refl _ _).alloc (Nat.le_refl _) _) (by assumption))
            (first
              | (go_at_call_of 31 (Value.int IntKind.i64 (j : Int)); refine (Decimal_any (j : Int) (by omega) (by omega) w.heap.size _ (HTR.out _ (lt6_bel (by assumption)))).mono ?_; rintro e wa ⟨rfl, hba⟩; have hLa := Lib.hid (lt6_bnext (wy := wb) hba (by assumption)); try have ywa : wa.cell? ⟨g, kn, none⟩ = some (strV (opW (kn : Int))) := (by first | exact cell_next hba ywo | exact cell_next hba ywn | exact cell_next hba ywd))
              | (go_at_call_of 31 (Value.int IntKind.i64 xy); refine (Decimal_any xy (by omega) (by omega) w.heap.size _ (HTR.out _ (lt6_bel (by assumption)))).mono ?_; rintro e wd ⟨rfl, hbd⟩; have hLd := Lib.hid (lt6_bnext (wy := wb) hbd (by assumption)); try have ywd : wd.cell? ⟨g, kn, none⟩ = some (strV (opW (kn : Int))) := (by first | exact cell_next hbd ywo | exact cell_next hbd ywn | exact cell_next hbd ywa))
              | (go_at_call 33; refine (needleText_any xb xp (by omega) (by omega) w.heap.size _ (Nat.le_trans hwb (lt6_bel (by assumption)).size) (HTR.out _ (lt6_bel (by assumption)))).mono ?_; rintro e wn ⟨rfl, hbn⟩; have hLn := Lib.hid (lt6_bnext (wy := wb) hbn (by assumption)); try have ywn : wn.cell? ⟨g, kn, none⟩ = some (strV (opW (kn : Int))) := (by first | exact cell_next hbn ywo | exact cell_next hbn ywa | exact cell_next hbn ywd))
              | (go_at_call 32; refine (opWords_any _).mono ?_; rintro e wo ⟨g, rfl, hgl, hgc, hbo⟩; have hLo := Lib.hid (lt6_bnext (wy := wb) hbo (by assumption)); have ywo : wo.cell? ⟨g, kn, none⟩ = some (strV (opW (kn : Int))) := (by have h9 := hgc kn _ HWK.out; rw [Nat.zero_add] at h9; exact h9); clear hgc))
          all_goals
            go_wp2_with fail
            go_meet
            refine ⟨_, _, rfl, rfl, ?_⟩
            unfold Hid
            rw [lt_six]
            first
              | exact TxW.lit [Lib.itoa (j : Int), opW (kn : Int), ndW xb xp, 121 :: Lib.itoa xy, sideW xd, stW (st : Int)] hLa.out (Nat.le_refl _) (by simp)
              | exact TxW.lit [Lib.itoa (j : Int), opW (kn : Int), ndW xb xp, 121 :: Lib.itoa xy, sideW xd, stW (st : Int)] hLd.out (Nat.le_refl _) (by simp)
              | exact TxW.lit [Lib.itoa (j : Int), opW (kn : Int), ndW xb xp, 121 :: Lib.itoa xy, sideW xd, stW (st : Int)] hLn.out (Nat.le_refl _) (by simp)
              | exact TxW.lit [Lib.itoa (j : Int), opW (kn : Int), ndW xb xp, 121 :: Lib.itoa xy, sideW xd, stW (st : Int)] hLo.out (Nat.le_refl _) (by simp)
        case rest =>
          obtain ⟨g, wz, hwz, rfl, HX9⟩ := hcut
          subst hwz
          obtain ⟨y0, y1, y2, y3, y4, y5⟩ := (HX.out.below HX9.out.below hzb).six
          have HBz := Lib.hid (HBX.out.trans (HX9.out.below.mono (Nat.le_of_lt hzb)))
          have HRZ := Lib.hid ((HRP.out.below (HBz.out.mono (Nat.le_of_lt hzq))).more (show w2.heap.size ≤ wz.heap.size by have := HBz.out.size; omega))
          have HTZ := Lib.hid (HTB.out.on (HX9.out.below.mono hwb))
          have hwz : w.heap.size ≤ wz.heap.size := by have := HX9.out.below.size; omega
          have HIZ := Lib.hid (bld_below HIB.out HBz.out)
          clear x0 x1 x2 x3 x4 x5 nmb csb hgn HRP
          go_upto_if 56 with fail
          go_cut [9] (fun s9 wx => ∃ (v : Value) (wu : World), wu = wx ∧ s9 = v ∧ Hid (TxW wb wx wb.heap.size v (ltW j ⟨kn, xy, xb, xp, xd, xps⟩ st)))
          case first =>
            by_cases hp0 : xps = []
            · have hg0 : ¬ (0 : Int) < (xps.length : Int) := by simp [hp0]
              have HE9 := Lib.hid (show ltW j ⟨kn, xy, xb, xp, xd, xps⟩ st = [Lib.itoa (j : Int), opW (kn : Int), ndW xb xp, 121 :: Lib.itoa xy, sideW xd, stW (st : Int)] by unfold ltW; simp [hp0])
              clear hp0
              go_wp2_with fail
              go_meet
              exact ⟨_, _, rfl, rfl, by rw [HE9.out]; exact HX9⟩
            · have hg0 : (0 : Int) < (xps.length : Int) := by have := List.length_pos_iff.2 hp0; omega
              have HNE := Lib.hid hp0
              have HE9 := Lib.hid (show ltW j ⟨kn, xy, xb, xp, xd, xps⟩ st = [Lib.itoa (j : Int), opW (kn : Int), ndW xb xp, 121 :: Lib.itoa xy, sideW xd, stW (st : Int)] ++ [[111, 102], Lib.join (xps.map Lib.itoa) [32]] by unfold ltW; simp [hp0])
              clear hp0
              go_wp2_with (first
                | (go_at_call 34; refine (decimals_any xps _ HPL.out HNE.out HP.out w.heap.size _ hwz HTZ.out HRZ.out).mono ?_; rintro e w4 ⟨rfl, hcb⟩; have HX4 := Lib.hid (HX9.out.on hcb))
                | (at_builtin; refine wpList_append_own _ rfl _ _ 72 rfl wb.heap.size 9 i0 _ 1 16 Tryd.underlying72 hi hz0 hz1 hz2 rfl (by decide) _ _ _ rfl (HX4.out.own.alloc _) ⟨w4.heap.size, 0, none⟩ 2 2 (sC [[111, 102], Lib.join (xps.map Lib.itoa) [32]]) rfl rfl ?c1 ?c2 ?c3 ?c4 ?c5 ?_))
              case c1 => exact new_cells w4 9 (sC [[111, 102], Lib.join (xps.map Lib.itoa) [32]])
              case c2 => exact sC_one _
              case c3 => unfold maxLen; simp
              case c4 => first | omega | simp | (simp; omega)
              case c5 => have := HX4.out.below.size; have := HX4.out.sz; simp; omega
              intro v' w5 hown5 hg5 _
              have H5 := Lib.hid (HX4.out.apps [[111, 102], Lib.join (xps.map Lib.itoa) [32]] hown5 hg5)
              clear hown5 hg5
              go_wp2_with fail
              go_meet
              exact ⟨_, _, rfl, rfl, by rw [HE9.out]; exact H5⟩
          case rest =>
            obtain ⟨v9, wu, hwu, rfl, HX5⟩ := hcut
            subst hwu
            have HBu := Lib.hid (HBX.out.trans (HX5.out.below.mono (Nat.le_of_lt hzb)))
            have HIU := Lib.hid (bld_below HIB.out HBu.out)
            have HW6 := Lib.hid (show (ltW j ⟨kn, xy, xb, xp, xd, xps⟩ st).length ≠ 0 ∧ (ltW j ⟨kn, xy, xb, xp, xd, xps⟩ st).length ≤ 16 by unfold ltW; split <;> simp)
            have hu2 : w2.heap.size ≤ wu.heap.size := by have := HBu.out.size; omega
            clear y0 y1 y2 y3 y4 y5
            obtain ⟨A9, c9, rfl⟩ := own_shape HX5.out.own
            have HJ : Hid ((ltT j ⟨kn, xy, xb, xp, xd, xps⟩ st).length ≤ 600) := HHL
            have hjl1 : (ltT j ⟨kn, xy, xb, xp, xd, xps⟩ st).length ≤ 600 := HJ.out
            have hjl2 : (ltT j ⟨kn, xy, xb, xp, xd, xps⟩ st).length + 1 ≤ 9223372036854775807 := by omega
            have hjl3 : (ltT j ⟨kn, xy, xb, xp, xd, xps⟩ st).length ≤ 9223372036854775806 := by omega
            go_wp2_with (go_at_call 36; refine (join_any HX5.out HW6.out.1 HW6.out.2 (by rw [ltW_join]; exact Nat.le_trans HJ.out (by omega))).mono ?_; rintro e w6 ⟨rfl, hj⟩; rw [ltW_join])
            have HI6 := Lib.hid (bld_below HIU.out hj)
            have hz6 : w2.heap.size ≤ w6.heap.size := by have := hj.size; omega
            have HB6 := Lib.hid (HB3.out.trans ((HBu.out.trans (hj.mono (by have := HBu.out.size; omega))).mono (Nat.le_of_lt hzq)))
            clear hj
            go_wp2_with (go_at_call 35; go_loud (refine (bldLine (ltT j ⟨kn, xy, xb, xp, xd, xps⟩ st) HI6.out (by have := HJ.out; omega) hz6).mono ?_); rintro e w7 ⟨rfl, hib, hb7⟩)
            exact ⟨⟨j + 1, acc ++ (ltT j ⟨kn, xy, xb, xp, xd, xps⟩ st ++ [10]), w7, rfl, by go_num, by omega, by have := HJ.out; simp; omega, HA2.out, hib, HB6.out.trans hb7⟩, by simp [intOf]; omega⟩
    · have HF : Hid (R = acc) := by
        unfold Hid
        rw [HA.out, List.drop_of_length_le (by have := HLN.out; omega)]
        simp [ltsT]
      have HBQ := Lib.hid (HBW.out.trans (HB3.out.mono HBW.out.size))
      go_wp2_with (go_at_call 37; refine (bldString HIB.out (Nat.le_of_lt hzq)).mono ?_; rintro e w4 ⟨rfl, hb4⟩)
      go_ret
      exact ⟨by rw [HLL.out, HF.out]; rfl, HBQ.out.trans (hb4.mono hww2)⟩

end Go.Proofs.YtccdnmafakaleaaDoor
