/-
  l07Ok where the head of a machine fails, case 1.
-/
import Derived.Test.YtccdnmafakaleaaDoorMcOkS0
namespace Go.Proofs.YtccdnmafakaleaaDoor
set_option linter.unusedVariables false
set_option linter.unusedSimpArgs false
open Go.RowKit

set_option maxHeartbeats 8000000 in
set_option maxRecDepth 100000 in
theorem l07Ok_bad1 (m : Mc) (AF : Option Addr) (cF : Nat) (AG : Option Addr) (cG : Nat) (AC : Option Addr) (cC : Nat) (AI : Option Addr) (cI : Nat) (AD : Option Addr) (cD : Nat) (g : Nat) (w : World)
    (hc : CellsAt w g 0 [.int .i64 m.wd, .int .i64 m.rk, .slice AF m.fr.length cF, .slice AG m.bk.length cG, .slice AC m.cs.length cC, .slice AI m.ls.length cI, .slice AD m.dr.length cD]) (a1 : inB 1 m.wd 24 = false) (hn : okM m = false) :
    Calls Tryd.prog 23 #[.pointer (some ⟨g, 0, none⟩)] w fun e w' => e = .returned (.bool (okM m)) ∧ Below w.heap.size w w' := by
  obtain ⟨x0, x1, x2, x3, x4, x5, x6⟩ := hc.seven
  have e0 := fun X => wgrow_cell (x := X) x0
  have hq1 := fun W => l00In_b m.wd 1 24 W
  have hq2 := fun W => l00In_b m.rk (-3) 3 W
  simp only [a1] at hq1
  have HQ1 := Lib.hid hq1
  have HQ2 := Lib.hid hq2
  have HN := Lib.hid hn
  clear hq1 hq2 hn hc x0 x1 x2 x3 x4 x5 x6
  rw [HN.out]
  go_enter Tryd.func23, Tryd.ntmps23
  go_wp2
  refine wp_region_grow (by kernel_rfl) (by kernel_rfl) ?_
  repeat (go_big_quiet_step ((first | (go_at_call_of 54 (Value.int .i64 m.wd); exact calls_grow (HQ1.out _)) | (go_at_call_of 54 (Value.int .i64 m.rk); exact calls_grow (HQ2.out _)))))
  refine wpQuiet_nil ?_
  intro wq hq
  have HQ := Lib.hid hq
  clear hq
  go_wp2
  go_ret
  exact ⟨rfl, HQ.out⟩

end Go.Proofs.YtccdnmafakaleaaDoor
