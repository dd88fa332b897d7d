/-
  The law FnExactEventText: its walk.
-/
import Derived.Test.YtgkapjjolhnliaaDoorEvtD
namespace Go.Proofs.YtgkapjjolhnliaaDoor
set_option linter.unusedVariables false
set_option linter.unusedSimpArgs false
open Go.RowKit

attribute [local go_sem] strV
set_option maxHeartbeats 8000000 in
set_option maxRecDepth 100000 in
theorem law_any (e : Ev) (w : World) (ht : Lib.TabIs Tryd.prog w "internal/strconv.uint64pow10" .u64 Lib.pow10Tab) : Calls Tryd.prog 3 #[e.v] w fun x w' => x = .returned (.bool true) ∧ Below w.heap.size w w' := by
  have HT := Lib.hid (show TabW w.heap.size w from Lib.tabBelow_of_tabIs ht)
  have HI := Lib.hid (fun (W : World) (hW : Below w.heap.size w W) => implEventText_any e w.heap.size W hW.size (HT.out.on hW))
  have HS := Lib.hid (fun (W : World) => specEventText_any e W)
  have HQ := Lib.hid (fun (W : World) => toEvent_any e W)
  have hA : Below w.heap.size w (w.alloc (.cells #[.int .i64 e.k, .int .i64 e.p, .int .i64 e.c, .int .i64 e.b, .int .i64 e.y, .int .i64 e.d] 23)) := (Below.refl _ _).alloc (Nat.le_refl _) _
  have HA := Lib.hid hA
  have HC := Lib.hid (show CellsAt (w.alloc (.cells #[.int .i64 e.k, .int .i64 e.p, .int .i64 e.c, .int .i64 e.b, .int .i64 e.y, .int .i64 e.d] 23)) w.heap.size 0 e.cells from box_cells (us := e.cells))
  clear ht hA
  generalize txE e = tx at *
  obtain ⟨k, p, c, b, y, d⟩ := e
  go_enter Tryd.func3, Tryd.ntmps3
  go_wp2_with (go_at_call 6; refine (HQ.out _).mono ?_; rintro e1 w1 ⟨rfl, hb1⟩; have A1 := HA.out.trans (hb1.mono HA.out.size))
  go_wp2_with (go_at_call 5; refine (HS.out _).mono ?_; rintro e2 w2 ⟨rfl, hb2⟩; have A2 := A1.trans (hb2.mono A1.size); obtain ⟨c0, c1, c2, c3, c4, c5⟩ := ((HC.out.below hb1 (by simp)).below hb2 (by have := hb1.size; simp at this; omega)).six)
  go_wp2_with (go_at_call 6; refine (HQ.out _).mono ?_; rintro e3 w3 ⟨rfl, hb3⟩; have A3 := A2.trans (hb3.mono A2.size))
  go_wp2_with (go_at_call 7; refine (HI.out _ A3).mono ?_; rintro e4 w4 ⟨rfl, hb4⟩; have A4 := A3.trans (hb4.mono A3.size))
  go_ret
  exact ⟨rfl, A4⟩

end Go.Proofs.YtgkapjjolhnliaaDoor
