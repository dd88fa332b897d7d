/-
  Which operations are valid, of the reference: part 4.
-/
import Derived.Test.YtolcgopfbbmjgaaOpW0
namespace Go.Proofs.Ytolcgopfbbmjgaa
set_option linter.unusedVariables false
set_option linter.unusedSimpArgs false
open Go.RowKit

set_option maxHeartbeats 8000000 in
set_option maxRecDepth 100000 in
theorem l07Op_6 (d fb fa tb ta c r : Int) (b o : Nat) (w : World) (hc : CellsAt w b o (⟨6, d, fb, fa, tb, ta, c, r⟩ : Opr).cells) : Calls Try.prog 47 #[.pointer (some ⟨b, o, none⟩)] w fun e w' => e = .returned (.bool (decide (d = 0) && (ndB fb fa && ((decide (tb = 0) && decide (ta = 0)) && (decide (c = 0) && (decide (r = 0))))))) ∧ Below w.heap.size w w' := by
  have hbw : b < w.heap.size := block_lt_of_cell hc.eight.1
  obtain ⟨f0, f1, f2, f3, f4, f5, f6, f7⟩ := hc.eight
  have hcw := hc.alloc hbw (.cells #[.int .i64 0, .int .i64 0] 53)
  clear hc
  obtain ⟨e0, e1, e2, e3, e4, e5, e6, e7⟩ := hcw.grow8
  obtain ⟨z0, z1⟩ := (CellsAt.of_alloc (w := w) (us := [.int .i64 0, .int .i64 0]) (t := 53)).grow2
  clear hcw
  have q0 : (d == 0) = decide (d = 0) := rfl
  have H1 := Lib.hid (fun w' => l01Needle_any fb fa w')
  have q2 := fun W => eql_nd tb ta 0 0 W
  have q3 : (c == 0) = decide (c = 0) := rfl
  have q4 : (r == 0) = decide (r = 0) := rfl
  generalize decide (d = 0) = B0 at *
  generalize ndB fb fa = B1 at *
  generalize (decide (tb = 0) && decide (ta = 0)) = B2 at *
  generalize decide (c = 0) = B3 at *
  generalize decide (r = 0) = B4 at *
  have HB0 := Lib.hid (show Below w.heap.size w (w.alloc (.cells #[.int .i64 0, .int .i64 0] 53)) from (Below.refl _ _).alloc (Nat.le_refl _) _)
  cases B0
  · skip
    go_enter Try.func47, Try.ntmps47
    go_wp2
    refine wp_region_grow (by kernel_rfl) (by kernel_rfl) ?_
    repeat (go_big_quiet_step ((go_at_call 0; rfl)))
    refine wpQuiet_nil ?_
    intro w1 hb1
    go_wp2
    go_ret
    exact ⟨ret_bool (by simp), HB0.out.trans (hb1.mono HB0.out.size)⟩
  cases B1
  · skip
    go_enter Try.func47, Try.ntmps47
    go_wp2
    refine wp_region_grow (by kernel_rfl) (by kernel_rfl) ?_
    repeat (go_big_quiet_step ((go_at_call_of 68 (Value.agg #[.int .i64 fb, .int .i64 fa]); exact calls_grow (H1.out _))))
    refine wpQuiet_nil ?_
    intro w1 hb1
    go_wp2
    go_ret
    exact ⟨ret_bool (by simp), HB0.out.trans (hb1.mono HB0.out.size)⟩
  cases B2
  · skip
    go_enter Try.func47, Try.ntmps47
    go_wp2
    refine wp_region_grow (by kernel_rfl) (by kernel_rfl) ?_
    repeat (go_big_quiet_step ((go_at_call_of 68 (Value.agg #[.int .i64 fb, .int .i64 fa]); exact calls_grow (H1.out _))))
    refine wpQuiet_nil ?_
    intro w1 hb1
    go_wp2
    go_ret
    exact ⟨ret_bool (by simp), HB0.out.trans (hb1.mono HB0.out.size)⟩
  cases B3
  · skip
    go_enter Try.func47, Try.ntmps47
    go_wp2
    refine wp_region_grow (by kernel_rfl) (by kernel_rfl) ?_
    repeat (go_big_quiet_step ((go_at_call_of 68 (Value.agg #[.int .i64 fb, .int .i64 fa]); exact calls_grow (H1.out _))))
    refine wpQuiet_nil ?_
    intro w1 hb1
    go_wp2
    go_ret
    exact ⟨ret_bool (by simp), HB0.out.trans (hb1.mono HB0.out.size)⟩
  cases B4
  all_goals
    go_enter Try.func47, Try.ntmps47
    go_wp2
    refine wp_region_grow (by kernel_rfl) (by kernel_rfl) ?_
    repeat (go_big_quiet_step ((go_at_call_of 68 (Value.agg #[.int .i64 fb, .int .i64 fa]); exact calls_grow (H1.out _))))
    refine wpQuiet_nil ?_
    intro w1 hb1
    go_wp2
    go_ret
    exact ⟨ret_bool (by simp), HB0.out.trans (hb1.mono HB0.out.size)⟩

set_option maxHeartbeats 8000000 in
set_option maxRecDepth 100000 in
theorem l07Op_7 (d fb fa tb ta c r : Int) (b o : Nat) (w : World) (hc : CellsAt w b o (⟨7, d, fb, fa, tb, ta, c, r⟩ : Opr).cells) : Calls Try.prog 47 #[.pointer (some ⟨b, o, none⟩)] w fun e w' => e = .returned (.bool (decide ((⟨7, d, fb, fa, tb, ta, c, r⟩ : Opr) = ⟨7, 0, 0, 0, 0, 0, 0, r⟩) && (inB (-3) r 3))) ∧ Below w.heap.size w w' := by
  have hbw : b < w.heap.size := block_lt_of_cell hc.eight.1
  obtain ⟨f0, f1, f2, f3, f4, f5, f6, f7⟩ := hc.eight
  have hcw := hc.alloc hbw (.cells #[.int .i64 0, .int .i64 0] 53)
  clear hc
  obtain ⟨e0, e1, e2, e3, e4, e5, e6, e7⟩ := hcw.grow8
  obtain ⟨z0, z1⟩ := (CellsAt.of_alloc (w := w) (us := [.int .i64 0, .int .i64 0]) (t := 53)).grow2
  clear hcw
  have q0 := fun W => eql_op ⟨7, d, fb, fa, tb, ta, c, r⟩ ⟨7, 0, 0, 0, 0, 0, 0, r⟩ W
  have H1 := Lib.hid (fun w' => l00In_b r (-3) 3 w')
  generalize decide ((⟨7, d, fb, fa, tb, ta, c, r⟩ : Opr) = ⟨7, 0, 0, 0, 0, 0, 0, r⟩) = B0 at *
  generalize inB (-3) r 3 = B1 at *
  have HB0 := Lib.hid (show Below w.heap.size w (w.alloc (.cells #[.int .i64 0, .int .i64 0] 53)) from (Below.refl _ _).alloc (Nat.le_refl _) _)
  cases B0
  · skip
    go_enter Try.func47, Try.ntmps47
    go_wp2
    refine wp_region_grow (by kernel_rfl) (by kernel_rfl) ?_
    repeat (go_big_quiet_step ((go_at_call 0; rfl)))
    refine wpQuiet_nil ?_
    intro w1 hb1
    go_wp2
    go_ret
    exact ⟨ret_bool (by simp), HB0.out.trans (hb1.mono HB0.out.size)⟩
  cases B1
  all_goals
    go_enter Try.func47, Try.ntmps47
    go_wp2
    refine wp_region_grow (by kernel_rfl) (by kernel_rfl) ?_
    repeat (go_big_quiet_step ((go_at_call 49; exact calls_grow (H1.out _))))
    refine wpQuiet_nil ?_
    intro w1 hb1
    go_wp2
    go_ret
    exact ⟨ret_bool (by simp), HB0.out.trans (hb1.mono HB0.out.size)⟩

set_option maxHeartbeats 8000000 in
set_option maxRecDepth 100000 in
theorem l07Op_8 (d fb fa tb ta c r : Int) (b o : Nat) (w : World) (hc : CellsAt w b o (⟨8, d, fb, fa, tb, ta, c, r⟩ : Opr).cells) : Calls Try.prog 47 #[.pointer (some ⟨b, o, none⟩)] w fun e w' => e = .returned (.bool (decide ((⟨8, d, fb, fa, tb, ta, c, r⟩ : Opr) = ⟨8, d, 0, 0, 0, 0, c, 0⟩) && (dirM d && (inB 1 c 4)))) ∧ Below w.heap.size w w' := by
  have hbw : b < w.heap.size := block_lt_of_cell hc.eight.1
  obtain ⟨f0, f1, f2, f3, f4, f5, f6, f7⟩ := hc.eight
  have hcw := hc.alloc hbw (.cells #[.int .i64 0, .int .i64 0] 53)
  clear hc
  obtain ⟨e0, e1, e2, e3, e4, e5, e6, e7⟩ := hcw.grow8
  obtain ⟨z0, z1⟩ := (CellsAt.of_alloc (w := w) (us := [.int .i64 0, .int .i64 0]) (t := 53)).grow2
  clear hcw
  have q0 := fun W => eql_op ⟨8, d, fb, fa, tb, ta, c, r⟩ ⟨8, d, 0, 0, 0, 0, c, 0⟩ W
  have H1 := Lib.hid (fun w' => l07Dir_b d w')
  have H2 := Lib.hid (fun w' => l07Yarn_b c w')
  generalize decide ((⟨8, d, fb, fa, tb, ta, c, r⟩ : Opr) = ⟨8, d, 0, 0, 0, 0, c, 0⟩) = B0 at *
  generalize dirM d = B1 at *
  generalize inB 1 c 4 = B2 at *
  have HB0 := Lib.hid (show Below w.heap.size w (w.alloc (.cells #[.int .i64 0, .int .i64 0] 53)) from (Below.refl _ _).alloc (Nat.le_refl _) _)
  cases B0
  · skip
    go_enter Try.func47, Try.ntmps47
    go_wp2
    refine wp_region_grow (by kernel_rfl) (by kernel_rfl) ?_
    repeat (go_big_quiet_step ((go_at_call 0; rfl)))
    refine wpQuiet_nil ?_
    intro w1 hb1
    go_wp2
    go_ret
    exact ⟨ret_bool (by simp), HB0.out.trans (hb1.mono HB0.out.size)⟩
  cases B1
  · skip
    go_enter Try.func47, Try.ntmps47
    go_wp2
    refine wp_region_grow (by kernel_rfl) (by kernel_rfl) ?_
    repeat (go_big_quiet_step ((go_at_call 67; exact calls_grow (H1.out _))))
    refine wpQuiet_nil ?_
    intro w1 hb1
    go_wp2
    go_ret
    exact ⟨ret_bool (by simp), HB0.out.trans (hb1.mono HB0.out.size)⟩
  cases B2
  all_goals
    go_enter Try.func47, Try.ntmps47
    go_wp2
    refine wp_region_grow (by kernel_rfl) (by kernel_rfl) ?_
    repeat (go_big_quiet_step ((first | (go_at_call 67; exact calls_grow (H1.out _)) | (go_at_call 69; exact calls_grow (H2.out _)))))
    refine wpQuiet_nil ?_
    intro w1 hb1
    go_wp2
    go_ret
    exact ⟨ret_bool (by simp), HB0.out.trans (hb1.mono HB0.out.size)⟩

set_option maxHeartbeats 8000000 in
set_option maxRecDepth 100000 in
theorem l07Op_9 (d fb fa tb ta c r : Int) (b o : Nat) (w : World) (hc : CellsAt w b o (⟨9, d, fb, fa, tb, ta, c, r⟩ : Opr).cells) : Calls Try.prog 47 #[.pointer (some ⟨b, o, none⟩)] w fun e w' => e = .returned (.bool (decide ((⟨9, d, fb, fa, tb, ta, c, r⟩ : Opr) = ⟨9, 0, 0, 0, 0, 0, c, 0⟩) && (inB 1 c 4))) ∧ Below w.heap.size w w' := by
  have hbw : b < w.heap.size := block_lt_of_cell hc.eight.1
  obtain ⟨f0, f1, f2, f3, f4, f5, f6, f7⟩ := hc.eight
  have hcw := hc.alloc hbw (.cells #[.int .i64 0, .int .i64 0] 53)
  clear hc
  obtain ⟨e0, e1, e2, e3, e4, e5, e6, e7⟩ := hcw.grow8
  obtain ⟨z0, z1⟩ := (CellsAt.of_alloc (w := w) (us := [.int .i64 0, .int .i64 0]) (t := 53)).grow2
  clear hcw
  have q0 := fun W => eql_op ⟨9, d, fb, fa, tb, ta, c, r⟩ ⟨9, 0, 0, 0, 0, 0, c, 0⟩ W
  have H1 := Lib.hid (fun w' => l07Yarn_b c w')
  generalize decide ((⟨9, d, fb, fa, tb, ta, c, r⟩ : Opr) = ⟨9, 0, 0, 0, 0, 0, c, 0⟩) = B0 at *
  generalize inB 1 c 4 = B1 at *
  have HB0 := Lib.hid (show Below w.heap.size w (w.alloc (.cells #[.int .i64 0, .int .i64 0] 53)) from (Below.refl _ _).alloc (Nat.le_refl _) _)
  cases B0
  · skip
    go_enter Try.func47, Try.ntmps47
    go_wp2
    refine wp_region_grow (by kernel_rfl) (by kernel_rfl) ?_
    repeat (go_big_quiet_step ((go_at_call 0; rfl)))
    refine wpQuiet_nil ?_
    intro w1 hb1
    go_wp2
    go_ret
    exact ⟨ret_bool (by simp), HB0.out.trans (hb1.mono HB0.out.size)⟩
  cases B1
  all_goals
    go_enter Try.func47, Try.ntmps47
    go_wp2
    refine wp_region_grow (by kernel_rfl) (by kernel_rfl) ?_
    repeat (go_big_quiet_step ((go_at_call 69; exact calls_grow (H1.out _))))
    refine wpQuiet_nil ?_
    intro w1 hb1
    go_wp2
    go_ret
    exact ⟨ret_bool (by simp), HB0.out.trans (hb1.mono HB0.out.size)⟩

end Go.Proofs.Ytolcgopfbbmjgaa
