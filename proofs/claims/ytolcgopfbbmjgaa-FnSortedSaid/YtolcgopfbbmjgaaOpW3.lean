/-
  Which operations are valid, of the reference: part 3.
-/
import Derived.Test.YtolcgopfbbmjgaaOpW0
namespace Go.Proofs.Ytolcgopfbbmjgaa
set_option linter.unusedVariables false
set_option linter.unusedSimpArgs false
open Go.RowKit

set_option maxHeartbeats 8000000 in
set_option maxRecDepth 100000 in
theorem l07Op_5 (d fb fa tb ta c r : Int) (b o : Nat) (w : World) (hc : CellsAt w b o (⟨5, d, fb, fa, tb, ta, c, r⟩ : Opr).cells) : Calls Try.prog 47 #[.pointer (some ⟨b, o, none⟩)] w fun e w' => e = .returned (.bool (dirM d && (ndB fb fa && (ndB tb ta && (decide (fb ≠ tb) && (inB 1 c 4 && (decide (r = 0)))))))) ∧ Below w.heap.size w w' := by
  have hbw : b < w.heap.size := block_lt_of_cell hc.eight.1
  obtain ⟨f0, f1, f2, f3, f4, f5, f6, f7⟩ := hc.eight
  have hcw := hc.alloc hbw (.cells #[.int .i64 0, .int .i64 0] 53)
  clear hc
  obtain ⟨e0, e1, e2, e3, e4, e5, e6, e7⟩ := hcw.grow8
  obtain ⟨z0, z1⟩ := (CellsAt.of_alloc (w := w) (us := [.int .i64 0, .int .i64 0]) (t := 53)).grow2
  clear hcw
  have H0 := Lib.hid (fun w' => l07Dir_b d w')
  have H1 := Lib.hid (fun w' => l01Needle_any fb fa w')
  have H2 := Lib.hid (fun w' => l01Needle_any tb ta w')
  have q3 : (fb != tb) = decide (fb ≠ tb) := by rw [Bool.eq_iff_iff]; simp
  have H4 := Lib.hid (fun w' => l07Yarn_b c w')
  have q5 : (r == 0) = decide (r = 0) := rfl
  generalize dirM d = B0 at *
  generalize ndB fb fa = B1 at *
  generalize ndB tb ta = B2 at *
  generalize decide (fb ≠ tb) = B3 at *
  generalize inB 1 c 4 = B4 at *
  generalize decide (r = 0) = B5 at *
  have HB0 := Lib.hid (show Below w.heap.size w (w.alloc (.cells #[.int .i64 0, .int .i64 0] 53)) from (Below.refl _ _).alloc (Nat.le_refl _) _)
  cases B0
  · skip
    go_enter Try.func47, Try.ntmps47
    go_wp2
    refine wp_region_grow (by kernel_rfl) (by kernel_rfl) ?_
    repeat (go_big_quiet_step ((go_at_call 67; exact calls_grow (H0.out _))))
    refine wpQuiet_nil ?_
    intro w1 hb1
    go_wp2
    go_ret
    exact ⟨ret_bool (by simp), HB0.out.trans (hb1.mono HB0.out.size)⟩
  cases B1
  · skip
    go_enter Try.func47, Try.ntmps47
    go_wp2
    refine wp_region_grow (by kernel_rfl) (by kernel_rfl) ?_
    repeat (go_big_quiet_step ((first | (go_at_call 67; exact calls_grow (H0.out _)) | (go_at_call_of 68 (Value.agg #[.int .i64 fb, .int .i64 fa]); exact calls_grow (H1.out _)))))
    refine wpQuiet_nil ?_
    intro w1 hb1
    go_wp2
    go_ret
    exact ⟨ret_bool (by simp), HB0.out.trans (hb1.mono HB0.out.size)⟩
  cases B2
  · skip
    go_enter Try.func47, Try.ntmps47
    go_wp2
    refine wp_region_grow (by kernel_rfl) (by kernel_rfl) ?_
    repeat (go_big_quiet_step ((first | (go_at_call 67; exact calls_grow (H0.out _)) | (go_at_call_of 68 (Value.agg #[.int .i64 fb, .int .i64 fa]); exact calls_grow (H1.out _)) | (go_at_call_of 68 (Value.agg #[.int .i64 tb, .int .i64 ta]); exact calls_grow (H2.out _)))))
    refine wpQuiet_nil ?_
    intro w1 hb1
    go_wp2
    go_ret
    exact ⟨ret_bool (by simp), HB0.out.trans (hb1.mono HB0.out.size)⟩
  cases B3
  · skip
    go_enter Try.func47, Try.ntmps47
    go_wp2
    refine wp_region_grow (by kernel_rfl) (by kernel_rfl) ?_
    repeat (go_big_quiet_step ((first | (go_at_call 67; exact calls_grow (H0.out _)) | (go_at_call_of 68 (Value.agg #[.int .i64 fb, .int .i64 fa]); exact calls_grow (H1.out _)) | (go_at_call_of 68 (Value.agg #[.int .i64 tb, .int .i64 ta]); exact calls_grow (H2.out _)))))
    refine wpQuiet_nil ?_
    intro w1 hb1
    go_wp2
    go_ret
    exact ⟨ret_bool (by simp), HB0.out.trans (hb1.mono HB0.out.size)⟩
  cases B4
  · skip
    go_enter Try.func47, Try.ntmps47
    go_wp2
    refine wp_region_grow (by kernel_rfl) (by kernel_rfl) ?_
    repeat (go_big_quiet_step ((first | (go_at_call 67; exact calls_grow (H0.out _)) | (go_at_call_of 68 (Value.agg #[.int .i64 fb, .int .i64 fa]); exact calls_grow (H1.out _)) | (go_at_call_of 68 (Value.agg #[.int .i64 tb, .int .i64 ta]); exact calls_grow (H2.out _)) | (go_at_call 69; exact calls_grow (H4.out _)))))
    refine wpQuiet_nil ?_
    intro w1 hb1
    go_wp2
    go_ret
    exact ⟨ret_bool (by simp), HB0.out.trans (hb1.mono HB0.out.size)⟩
  cases B5
  all_goals
    go_enter Try.func47, Try.ntmps47
    go_wp2
    refine wp_region_grow (by kernel_rfl) (by kernel_rfl) ?_
    repeat (go_big_quiet_step ((first | (go_at_call 67; exact calls_grow (H0.out _)) | (go_at_call_of 68 (Value.agg #[.int .i64 fb, .int .i64 fa]); exact calls_grow (H1.out _)) | (go_at_call_of 68 (Value.agg #[.int .i64 tb, .int .i64 ta]); exact calls_grow (H2.out _)) | (go_at_call 69; exact calls_grow (H4.out _)))))
    refine wpQuiet_nil ?_
    intro w1 hb1
    go_wp2
    go_ret
    exact ⟨ret_bool (by simp), HB0.out.trans (hb1.mono HB0.out.size)⟩

end Go.Proofs.Ytolcgopfbbmjgaa
