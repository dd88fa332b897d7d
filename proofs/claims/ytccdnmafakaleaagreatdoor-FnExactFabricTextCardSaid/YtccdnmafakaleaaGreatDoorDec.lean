/-
  A number as decimal text: l01Dec of the reference.
-/
import Derived.Test.YtccdnmafakaleaaGreatDoorTxt0
import Derived.Test.YtccdnmafakaleaaGreatDoorOwn
import Derived.Test.YtccdnmafakaleaaGreatDoorAppend
import Derived.Laws.IdiomStrings
import Derived.Lib.Slices
import Derived.Lib.Hide
import Derived.Lib.ItoaLen
import Derived.OwnWalk
import Derived.BigCall
namespace Go.Proofs.YtccdnmafakaleaaGreatDoor
set_option linter.unusedVariables false
set_option linter.unusedSimpArgs false
open Go.RowKit

theorem info_byte : (Tryz.prog.info? 5).map (fun i => (i.zero, i.size, i.bytes)) = some (some (.int .u8 0), 1, 1) := by kernel_rfl
def bC (l : List UInt8) : List Value := Lib.byteCells l
theorem bC_app (a b : List UInt8) : bC (a ++ b) = bC a ++ bC b := by simp [bC, Lib.byteCells]
theorem bC_len (a : List UInt8) : (bC a).length = a.length := by simp [bC, Lib.byteCells]
theorem bC_one (a : List UInt8) : ∀ u ∈ bC a, u.oneCell' = true := by
  intro u hu
  unfold bC Lib.byteCells at hu
  obtain ⟨x, _, rfl⟩ := List.mem_map.1 hu
  rfl
theorem reads_byte (w : World) (x : Int) : Reads (w.alloc (.cells #[.int .u8 x] 5)) (w.heap.size + 1) 1 (some ⟨w.heap.size, 0, none⟩) 1 [.int .u8 x] :=
  ⟨rfl, fun _ => ⟨_, rfl, Nat.lt_succ_self _, new_cells' _ _ rfl⟩⟩
theorem bC_ofNat {m : Nat} (h : m < 256) : bC [UInt8.ofNat m] = [.int .u8 (m : Int)] := by
  simp [bC, Lib.byteCells]
  omega
theorem own_base2 {w : World} {base base' e sz n : Nat} {v : Value} {xs : List Value} (h : w.ownsRow base e sz v n xs) (hb : base' ≤ base) : w.ownsRow base' e sz v n xs := by
  refine ⟨h.1, ?_⟩
  rcases h.2 with h2 | ⟨g, cap, cur, hv, hg', hh, h3⟩
  · exact .inl h2
  · exact .inr ⟨g, cap, cur, hv, by omega, hh, h3⟩
theorem digs_len (n : Nat) (h : n ≤ 9223372036854775807) : (digs n).length ≤ 21 := by
  rcases Nat.eq_zero_or_pos n with h0 | h0
  · subst h0; simp [digs]
  · have h1 := Lib.itoa_length_le (n : Int) (by omega) (by omega)
    rw [itoa_pos (by omega)] at h1
    exact h1
set_option maxHeartbeats 4000000 in
set_option maxRecDepth 100000 in
theorem l01Dec_pos (n : Nat) (h1 : n ≤ 1000000000) (w : World) : Calls Tryz.prog 23 #[.int .i64 (n : Int)] w fun e w' => e = .returned (strV (Lib.itoa n)) ∧ Below w.heap.size w w' := by
  obtain ⟨i0, hi, hz0, hz1, hz2⟩ := info_parts info_byte
  go_enter Tryz.func23, Tryz.ntmps23
  go_wp2
  have hO0 : Hid ((w.alloc (.cells #[] 5)).ownsRow w.heap.size 5 1 (.slice (some ⟨w.heap.size, 0, none⟩) 0 0) ([] : List UInt8).length (bC [])) := World.ownsRow_lit w #[] 0 (Nat.le_refl _) (by unfold maxLen; omega) rfl
  have hB0 : Hid (Below w.heap.size w (w.alloc (.cells #[] 5))) := (Below.refl _ _).alloc (Nat.le_refl _) _
  go_loopw [3, 4, 5] (fun v3 v4 v5 wr => ∃ (k : Nat) (ds : List UInt8) (wq : World), wq = wr ∧ v4 = .int .i64 (k : Int) ∧ k ≤ 1000000000 ∧ Hid (digs n = digs k ++ ds) ∧ Hid (wq.ownsRow w.heap.size 5 1 v3 ds.length (bC ds)) ∧ Hid (Below w.heap.size w wq)) (fun _ v4 _ _ => (intOf v4).toNat)
  case atStart => exact ⟨n, [], _, rfl, rfl, h1, by simp [Hid], hO0.out, hB0.out⟩
  case round =>
    obtain ⟨k, ds, wq, hwq, rfl, hkb, HD, HR, HB⟩ := hrel
    subst hwq
    have hdl : ds.length ≤ 21 := by
      have h9 := digs_len n (by omega)
      rw [HD.out, List.length_append] at h9
      omega
    obtain ⟨A, c, rfl⟩ := own_shape HR.out
    clear hO0 hB0
    by_cases hk : k = 0
    · subst hk
      have HN := Lib.hid (show digs n = ds by rw [HD.out]; simp [digs])
      by_cases hd0 : ds.length = 0
      · have HZ := Lib.hid (show strV (Lib.itoa n) = .string ⟨#[48]⟩ by
          have hn0 : n = 0 := by
            rcases Nat.eq_zero_or_pos n with h | h
            · exact h
            · have h9 := HN.out
              rw [digs_step (by omega)] at h9
              have h10 := congrArg List.length h9
              simp at h10
              omega
          rw [hn0]
          show strV (Lib.itoa 0) = _
          rw [itoa_zero]
          rfl)
        have hl0 : ((ds.length : Int) == 0) = true := by simp [hd0]
        clear hd0
        go_wp2
        go_ret
        exact ⟨by rw [HZ.out]; rfl, HB.out⟩
      · have hl0 : ((ds.length : Int) == 0) = false := by simpa using hd0
        have HZ := Lib.hid (show strV (Lib.itoa n) = .string ⟨ds.toArray⟩ by
          have hn0 : (0 : Int) < n := by
            rcases Nat.eq_zero_or_pos n with h | h
            · exact absurd (by rw [← HN.out, h]; rfl) hd0
            · omega
          rw [itoa_pos hn0]
          show strV (digs n) = _
          rw [HN.out]
          rfl)
        rcases HR.out.2 with ⟨-, h0⟩ | ⟨g, cap, cur, e9, -, -, -, -, -, -⟩
        · exact absurd h0 hd0
        injection e9 with e1 e2 e3
        subst e1 e3
        clear e2
        have hcv := run_convert_bytes_back (P := Tryz.prog) wq 49 9 5 ⟨g, 0, none⟩ c ds Tryz.underlying49 Tryz.underlying5 Tryz.underlying9 (fun j hj => HR.out.cells (g := g) rfl j _ (by simp [bC, Lib.byteCells, hj]))
        have hnn : ¬ ((n : Int) < 0) := by omega
        clear hd0
        go_wp2
        go_ret
        exact ⟨by rw [HZ.out]; rfl, HB.out⟩
    · have hk1 : ((k : Int) != 0) = true := by simp; omega
      have hk2 : ((k : Int) == 0) = false := by simp; omega
      have hs := HB.out.size
      have hb8 : IntKind.u8.wrap (48 + (k : Int) % 10) = 48 + (k : Int) % 10 := by rw [IntKind.wrap_u8]; omega
      have HRD := Lib.hid (show Reads wq wq.heap.size 1 A ds.length (bC ds) from Reads.of_own HR.out)
      have hwq : IntKind.i64.wrap ((k : Int) / 10) = ((k / 10 : Nat) : Int) := by rw [IntWalk.i64_in _ (by omega)]; omega
      go_wp2_with (at_builtin; refine wpList_append_any _ rfl _ _ _ rfl wq.heap.size 5 i0 _ 1 1 Tryz.underlying49 hi hz0 hz1 hz2 rfl (by decide) _ 1 [.int .u8 (48 + (k : Int) % 10)] rfl (World.ownsRow_lit wq #[.int .u8 (48 + (k : Int) % 10)] 1 (Nat.le_refl _) (by unfold maxLen; omega) rfl) wq.heap.size A ds.length c (bC ds) rfl (HRD.out.alloc (Nat.le_refl _) _) (bC_one _) (by unfold maxLen; omega) (by omega) (by simp) ?_)
      intro v2 w2 hown2 hg2 hat2
      have hx8 : [Value.int .u8 (48 + (k : Int) % 10)] = bC [UInt8.ofNat (48 + k % 10)] := by
        rw [bC_ofNat (by omega)]
        simp
      have R2 : Hid (w2.ownsRow w.heap.size 5 1 v2 (UInt8.ofNat (48 + k % 10) :: ds).length (bC (UInt8.ofNat (48 + k % 10) :: ds))) := by
        unfold Hid
        rw [show UInt8.ofNat (48 + k % 10) :: ds = [UInt8.ofNat (48 + k % 10)] ++ ds from rfl, bC_app, ← hx8, List.length_append, List.length_singleton]
        exact own_base2 hown2 hs
      have B2 := Lib.hid (HB.out.trans ((((Below.refl wq.heap.size wq).alloc (Nat.le_refl _) _).grown hg2 (by simp) (fun kk hkk => by simp [Value.ownBlock] at hkk; omega)).mono hs))
      have D2 : Hid (digs n = digs (k / 10) ++ (UInt8.ofNat (48 + k % 10) :: ds)) := by
        unfold Hid
        rw [HD.out, digs_step hk]
        simp
      clear hown2 hg2 hat2 hx8 HRD
      go_wp2
      exact ⟨⟨k / 10, _, w2, rfl, rfl, by omega, D2.out, R2.out, B2.out⟩, by simp [intOf]; omega⟩
set_option maxHeartbeats 4000000 in
set_option maxRecDepth 100000 in
theorem l01Dec_neg (n : Int) (m : Nat) (hm : Hid (n = -(m : Int))) (h0 : n < 0) (h1 : -1000000000 ≤ n) (w : World) : Calls Tryz.prog 23 #[.int .i64 n] w fun e w' => e = .returned (strV (Lib.itoa n)) ∧ Below w.heap.size w w' := by
  obtain ⟨i0, hi, hz0, hz1, hz2⟩ := info_parts info_byte
  have hna : Hid (n.natAbs = m) := by have h9 := hm.out; unfold Hid; omega
  go_enter Tryz.func23, Tryz.ntmps23
  go_wp2
  have hO0 : Hid ((w.alloc (.cells #[] 5)).ownsRow w.heap.size 5 1 (.slice (some ⟨w.heap.size, 0, none⟩) 0 0) ([] : List UInt8).length (bC [])) := World.ownsRow_lit w #[] 0 (Nat.le_refl _) (by unfold maxLen; omega) rfl
  have hB0 : Hid (Below w.heap.size w (w.alloc (.cells #[] 5))) := (Below.refl _ _).alloc (Nat.le_refl _) _
  go_loopw [3, 4, 5] (fun v3 v4 v5 wr => ∃ (z : Int) (k : Nat) (ds : List UInt8) (wq : World), wq = wr ∧ v4 = .int .i64 z ∧ Hid (z = -(k : Int)) ∧ k ≤ 1000000000 ∧ Hid (digs m = digs k ++ ds) ∧ Hid (wq.ownsRow w.heap.size 5 1 v3 ds.length (bC ds)) ∧ Hid (Below w.heap.size w wq)) (fun _ v4 _ _ => (intOf v4).natAbs)
  case atStart => exact ⟨n, m, [], _, rfl, rfl, hm, by have := hna.out; omega, by simp [Hid], hO0.out, hB0.out⟩
  case round =>
    obtain ⟨z, k, ds, wq, hwq, rfl, HZ0, hkb, HD, HR, HB⟩ := hrel
    subst hwq
    have hdl : ds.length ≤ 21 := by
      have h9 := digs_len m (by have := hna.out; omega)
      rw [HD.out, List.length_append] at h9
      omega
    obtain ⟨A, c, rfl⟩ := own_shape HR.out
    clear hO0 hB0
    by_cases hk : z = 0
    · have hk0 : k = 0 := by have := HZ0.out; omega
      subst hk0
      have HN := Lib.hid (show digs m = ds by rw [HD.out]; simp [digs])
      have hm0 : m ≠ 0 := by have := hm.out; omega
      have hd0 : ds.length ≠ 0 := by
        have h9 := HN.out
        rw [digs_step hm0] at h9
        have h10 := congrArg List.length h9
        simp at h10
        omega
      have hz1' : (z != 0) = false := by simp [hk]
      have hl0 : ((ds.length : Int) == 0) = false := by simpa using hd0
      have HZ := Lib.hid (show strV (Lib.itoa n) = .string (⟨#[45]⟩ ++ ⟨ds.toArray⟩) by
        rw [itoa_neg h0, hna.out, HN.out, show (⟨#[45]⟩ : ByteArray) = ⟨[45].toArray⟩ from rfl, str_app]
        rfl)
      rcases HR.out.2 with ⟨-, h0'⟩ | ⟨g, cap, cur, e9, -, -, -, -, -, -⟩
      · exact absurd h0' hd0
      injection e9 with e1 e2 e3
      subst e1 e3
      clear e2
      have hcv := run_convert_bytes_back (P := Tryz.prog) wq 49 9 5 ⟨g, 0, none⟩ c ds Tryz.underlying49 Tryz.underlying5 Tryz.underlying9 (fun j hj => HR.out.cells (g := g) rfl j _ (by simp [bC, Lib.byteCells, hj]))
      have hsz : ds.length ≤ 21 := hdl
      clear hd0 hk hm0
      go_wp2
      go_ret
      exact ⟨by rw [HZ.out]; rfl, HB.out⟩
    · have hk1 : (z != 0) = true := by simpa using hk
      have hs := HB.out.size
      have hkp : k ≠ 0 := by have := HZ0.out; omega
      have hzr : z.tmod 10 = -((k % 10 : Nat) : Int) := by
        rw [HZ0.out, Int.neg_tmod]
        rw [Int.tmod_eq_emod_of_nonneg (by omega)]
        omega
      have hzq : z.tdiv 10 = -((k / 10 : Nat) : Int) := by
        rw [HZ0.out, Int.neg_tdiv]
        rw [Int.tdiv_eq_ediv_of_nonneg (by omega)]
        omega
      obtain ⟨r, hr⟩ : ∃ r : Nat, r = k % 10 := ⟨_, rfl⟩
      rw [← hr] at hzr
      have hr9 : r ≤ 9 := by omega
      have HRR := Lib.hid hr
      obtain ⟨q, hq⟩ : ∃ q : Nat, q = k / 10 := ⟨_, rfl⟩
      rw [← hq] at hzq
      have hqb : q ≤ 1000000000 ∧ q < k := by omega
      obtain ⟨hqb1, hqb2⟩ := hqb
      have HQQ := Lib.hid hq
      have hzn : z.natAbs = k := by have := HZ0.out; omega
      have HZN := Lib.hid hzn
      have hb8 : IntKind.u8.wrap (48 + (r : Int)) = 48 + (r : Int) := by rw [IntKind.wrap_u8]; omega
      have hw1 : IntKind.i64.wrap (-(r : Int)) = -(r : Int) := IntWalk.i64_in _ (by omega)
      have hw2 : IntKind.i64.wrap (-(q : Int)) = -(q : Int) := IntWalk.i64_in _ (by omega)
      have hw3 : IntKind.i64.wrap (r : Int) = (r : Int) := IntWalk.i64_in _ (by omega)
      have HRD := Lib.hid (show Reads wq wq.heap.size 1 A ds.length (bC ds) from Reads.of_own HR.out)
      have hx8 : [Value.int .u8 (48 + (r : Int))] = bC [UInt8.ofNat (48 + k % 10)] := by
        rw [bC_ofNat (by omega), ← HRR.out]
        simp
      have HX8 := Lib.hid hx8
      have D2 : Hid (digs m = digs q ++ (UInt8.ofNat (48 + k % 10) :: ds)) := by
        unfold Hid
        rw [HD.out, digs_step hkp, ← hq]
        simp
      clear hr hq hzn hx8
      generalize UInt8.ofNat (48 + k % 10) = x8 at *
      rcases Nat.eq_zero_or_pos r with hr0 | hr0
      case' inl => subst hr0; have hzr' : z.tmod 10 = 0 := (by rw [hzr]; rfl); clear hzr
      all_goals
        go_wp2_with (at_builtin; refine wpList_append_any _ rfl _ _ _ rfl wq.heap.size 5 i0 _ 1 1 Tryz.underlying49 hi hz0 hz1 hz2 rfl (by decide) _ 1 (bC [x8]) rfl (by rw [← HX8.out]; exact World.ownsRow_lit wq #[.int .u8 _] 1 (Nat.le_refl _) (by unfold maxLen; omega) rfl) wq.heap.size A ds.length c (bC ds) rfl (HRD.out.alloc (Nat.le_refl _) _) (bC_one _) (by unfold maxLen; omega) (by omega) (by simp) ?_)
        intro v2 w2 hown2 hg2 hat2
        have R2 : Hid (w2.ownsRow w.heap.size 5 1 v2 (x8 :: ds).length (bC (x8 :: ds))) := by
          unfold Hid
          rw [show x8 :: ds = [x8] ++ ds from rfl, bC_app, List.length_append, List.length_singleton]
          exact own_base2 hown2 hs
        have B2 := Lib.hid (HB.out.trans ((((Below.refl wq.heap.size wq).alloc (Nat.le_refl _) _).grown hg2 (by simp) (fun kk hkk => by simp [Value.ownBlock] at hkk; omega)).mono hs))
        clear hown2 hg2 hat2 HRD
        go_wp2
        exact ⟨⟨-(q : Int), q, x8 :: ds, w2, rfl, rfl, rfl, by omega, D2.out, R2.out, B2.out⟩, by have := HZN.out; simp [intOf]; omega⟩
theorem l01Dec_any (n : Int) (h0 : -1000000000 ≤ n) (h1 : n ≤ 1000000000) (w : World) : Calls Tryz.prog 23 #[.int .i64 n] w fun e w' => e = .returned (strV (Lib.itoa n)) ∧ Below w.heap.size w w' := by
  rcases Int.lt_or_le n 0 with h | h
  · exact l01Dec_neg n n.natAbs (by unfold Hid; omega) h h0 w
  · obtain ⟨k, rfl⟩ := Int.eq_ofNat_of_zero_le h
    exact l01Dec_pos k (by omega) w

end Go.Proofs.YtccdnmafakaleaaGreatDoor
