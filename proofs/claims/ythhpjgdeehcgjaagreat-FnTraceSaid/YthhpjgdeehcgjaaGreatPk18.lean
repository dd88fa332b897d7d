/-
  Texts joined: McOkB1, McOkB2, McOkB3, McOkB4, McOkB5, McOkB6, McOkS, McAsk, McRes.
-/
import Derived.Test.YthhpjgdeehcgjaaGreatMcOkS0
import Derived.Test.YthhpjgdeehcgjaaGreatMcOkM
import Derived.Test.YthhpjgdeehcgjaaGreatMcValid
import Derived.Test.YthhpjgdeehcgjaaGreatMcAsk0
import Derived.Test.YthhpjgdeehcgjaaGreatPk2
/-
  l07Ok where the head of a machine fails, case 1.
-/
namespace Go.Proofs.YthhpjgdeehcgjaaGreat
set_option linter.unusedVariables false
set_option linter.unusedSimpArgs false
open Go.RowKit

set_option maxHeartbeats 8000000 in
set_option maxRecDepth 100000 in
theorem l07Ok_bad1 (m : Mc) (AF : Option Addr) (cF : Nat) (AG : Option Addr) (cG : Nat) (AC : Option Addr) (cC : Nat) (AI : Option Addr) (cI : Nat) (AD : Option Addr) (cD : Nat) (g : Nat) (w : World)
    (hc : CellsAt w g 0 [.int .i64 m.wd, .int .i64 m.rk, .slice AF m.fr.length cF, .slice AG m.bk.length cG, .slice AC m.cs.length cC, .slice AI m.ls.length cI, .slice AD m.dr.length cD]) (a1 : inB 1 m.wd 24 = false) (hn : okM m = false) :
    Calls Tryz.prog 27 #[.pointer (some ⟨g, 0, none⟩)] w fun e w' => e = .returned (.bool (okM m)) ∧ Below w.heap.size w w' := by
  obtain ⟨x0, x1, x2, x3, x4, x5, x6⟩ := hc.seven
  have e0 := fun X => wgrow_cell (x := X) x0
  have hq1 := fun W => l00In_b m.wd 1 24 W
  have hq2 := fun W => l00In_b m.rk (-3) 3 W
  simp only [a1] at hq1
  have HQ1 := Lib.hid hq1
  have HQ2 := Lib.hid hq2
  have HN := Lib.hid hn
  clear hq1 hq2 hn hc x0 x1 x2 x3 x4 x5 x6
  rw [HN.out]
  go_enter Tryz.func27, Tryz.ntmps27
  go_wp2
  refine wp_region_grow (by kernel_rfl) (by kernel_rfl) ?_
  repeat (go_big_quiet_step ((first | (go_at_call_of 21 (Value.int .i64 m.wd); exact calls_grow (HQ1.out _)) | (go_at_call_of 21 (Value.int .i64 m.rk); exact calls_grow (HQ2.out _)))))
  refine wpQuiet_nil ?_
  intro wq hq
  have HQ := Lib.hid hq
  clear hq
  go_wp2
  go_ret
  exact ⟨rfl, HQ.out⟩

end Go.Proofs.YthhpjgdeehcgjaaGreat

/-
  l07Ok where the head of a machine fails, case 2.
-/
namespace Go.Proofs.YthhpjgdeehcgjaaGreat
set_option linter.unusedVariables false
set_option linter.unusedSimpArgs false
open Go.RowKit

set_option maxHeartbeats 8000000 in
set_option maxRecDepth 100000 in
theorem l07Ok_bad2 (m : Mc) (AF : Option Addr) (cF : Nat) (AG : Option Addr) (cG : Nat) (AC : Option Addr) (cC : Nat) (AI : Option Addr) (cI : Nat) (AD : Option Addr) (cD : Nat) (g : Nat) (w : World)
    (hc : CellsAt w g 0 [.int .i64 m.wd, .int .i64 m.rk, .slice AF m.fr.length cF, .slice AG m.bk.length cG, .slice AC m.cs.length cC, .slice AI m.ls.length cI, .slice AD m.dr.length cD]) (a1 : inB 1 m.wd 24 = true) (a2 : inB (-3) m.rk 3 = false) (hn : okM m = false) :
    Calls Tryz.prog 27 #[.pointer (some ⟨g, 0, none⟩)] w fun e w' => e = .returned (.bool (okM m)) ∧ Below w.heap.size w w' := by
  obtain ⟨x0, x1, x2, x3, x4, x5, x6⟩ := hc.seven
  have e0 := fun X => wgrow_cell (x := X) x0
  have e1 := fun X => wgrow_cell (x := X) x1
  have hq1 := fun W => l00In_b m.wd 1 24 W
  have hq2 := fun W => l00In_b m.rk (-3) 3 W
  simp only [a1] at hq1
  simp only [a2] at hq2
  have HQ1 := Lib.hid hq1
  have HQ2 := Lib.hid hq2
  have HN := Lib.hid hn
  clear hq1 hq2 hn hc x0 x1 x2 x3 x4 x5 x6
  rw [HN.out]
  go_enter Tryz.func27, Tryz.ntmps27
  go_wp2
  refine wp_region_grow (by kernel_rfl) (by kernel_rfl) ?_
  repeat (go_big_quiet_step ((first | (go_at_call_of 21 (Value.int .i64 m.wd); exact calls_grow (HQ1.out _)) | (go_at_call_of 21 (Value.int .i64 m.rk); exact calls_grow (HQ2.out _)))))
  refine wpQuiet_nil ?_
  intro wq hq
  have HQ := Lib.hid hq
  clear hq
  go_wp2
  go_ret
  exact ⟨rfl, HQ.out⟩

end Go.Proofs.YthhpjgdeehcgjaaGreat

/-
  l07Ok where the head of a machine fails, case 3.
-/
namespace Go.Proofs.YthhpjgdeehcgjaaGreat
set_option linter.unusedVariables false
set_option linter.unusedSimpArgs false
open Go.RowKit

set_option maxHeartbeats 8000000 in
set_option maxRecDepth 100000 in
theorem l07Ok_bad3 (m : Mc) (AF : Option Addr) (cF : Nat) (AG : Option Addr) (cG : Nat) (AC : Option Addr) (cC : Nat) (AI : Option Addr) (cI : Nat) (AD : Option Addr) (cD : Nat) (g : Nat) (w : World)
    (hc : CellsAt w g 0 [.int .i64 m.wd, .int .i64 m.rk, .slice AF m.fr.length cF, .slice AG m.bk.length cG, .slice AC m.cs.length cC, .slice AI m.ls.length cI, .slice AD m.dr.length cD]) (a1 : inB 1 m.wd 24 = true) (a2 : inB (-3) m.rk 3 = true) (a3 : ((m.fr.length : Int) != m.wd) = true) (hn : okM m = false) :
    Calls Tryz.prog 27 #[.pointer (some ⟨g, 0, none⟩)] w fun e w' => e = .returned (.bool (okM m)) ∧ Below w.heap.size w w' := by
  obtain ⟨x0, x1, x2, x3, x4, x5, x6⟩ := hc.seven
  have e0 := fun X => wgrow_cell (x := X) x0
  have e1 := fun X => wgrow_cell (x := X) x1
  have e2 := fun X => wgrow_cell (x := X) x2
  have hq1 := fun W => l00In_b m.wd 1 24 W
  have hq2 := fun W => l00In_b m.rk (-3) 3 W
  simp only [a1] at hq1
  simp only [a2] at hq2
  have HQ1 := Lib.hid hq1
  have HQ2 := Lib.hid hq2
  have HN := Lib.hid hn
  clear hq1 hq2 hn hc x0 x1 x2 x3 x4 x5 x6
  rw [HN.out]
  go_enter Tryz.func27, Tryz.ntmps27
  go_wp2
  refine wp_region_grow (by kernel_rfl) (by kernel_rfl) ?_
  repeat (go_big_quiet_step ((first | (go_at_call_of 21 (Value.int .i64 m.wd); exact calls_grow (HQ1.out _)) | (go_at_call_of 21 (Value.int .i64 m.rk); exact calls_grow (HQ2.out _)))))
  refine wpQuiet_nil ?_
  intro wq hq
  have HQ := Lib.hid hq
  clear hq
  go_wp2
  go_ret
  exact ⟨rfl, HQ.out⟩

end Go.Proofs.YthhpjgdeehcgjaaGreat

/-
  l07Ok where the head of a machine fails, case 4.
-/
namespace Go.Proofs.YthhpjgdeehcgjaaGreat
set_option linter.unusedVariables false
set_option linter.unusedSimpArgs false
open Go.RowKit

set_option maxHeartbeats 8000000 in
set_option maxRecDepth 100000 in
theorem l07Ok_bad4 (m : Mc) (AF : Option Addr) (cF : Nat) (AG : Option Addr) (cG : Nat) (AC : Option Addr) (cC : Nat) (AI : Option Addr) (cI : Nat) (AD : Option Addr) (cD : Nat) (g : Nat) (w : World)
    (hc : CellsAt w g 0 [.int .i64 m.wd, .int .i64 m.rk, .slice AF m.fr.length cF, .slice AG m.bk.length cG, .slice AC m.cs.length cC, .slice AI m.ls.length cI, .slice AD m.dr.length cD]) (a1 : inB 1 m.wd 24 = true) (a2 : inB (-3) m.rk 3 = true) (a3 : ((m.fr.length : Int) != m.wd) = false) (a4 : ((m.bk.length : Int) != m.wd) = true) (hn : okM m = false) :
    Calls Tryz.prog 27 #[.pointer (some ⟨g, 0, none⟩)] w fun e w' => e = .returned (.bool (okM m)) ∧ Below w.heap.size w w' := by
  obtain ⟨x0, x1, x2, x3, x4, x5, x6⟩ := hc.seven
  have e0 := fun X => wgrow_cell (x := X) x0
  have e1 := fun X => wgrow_cell (x := X) x1
  have e2 := fun X => wgrow_cell (x := X) x2
  have e3 := fun X => wgrow_cell (x := X) x3
  have hq1 := fun W => l00In_b m.wd 1 24 W
  have hq2 := fun W => l00In_b m.rk (-3) 3 W
  simp only [a1] at hq1
  simp only [a2] at hq2
  have HQ1 := Lib.hid hq1
  have HQ2 := Lib.hid hq2
  have HN := Lib.hid hn
  clear hq1 hq2 hn hc x0 x1 x2 x3 x4 x5 x6
  rw [HN.out]
  go_enter Tryz.func27, Tryz.ntmps27
  go_wp2
  refine wp_region_grow (by kernel_rfl) (by kernel_rfl) ?_
  repeat (go_big_quiet_step ((first | (go_at_call_of 21 (Value.int .i64 m.wd); exact calls_grow (HQ1.out _)) | (go_at_call_of 21 (Value.int .i64 m.rk); exact calls_grow (HQ2.out _)))))
  refine wpQuiet_nil ?_
  intro wq hq
  have HQ := Lib.hid hq
  clear hq
  go_wp2
  go_ret
  exact ⟨rfl, HQ.out⟩

end Go.Proofs.YthhpjgdeehcgjaaGreat

/-
  l07Ok where the head of a machine fails, case 5.
-/
namespace Go.Proofs.YthhpjgdeehcgjaaGreat
set_option linter.unusedVariables false
set_option linter.unusedSimpArgs false
open Go.RowKit

set_option maxHeartbeats 8000000 in
set_option maxRecDepth 100000 in
theorem l07Ok_bad5 (m : Mc) (AF : Option Addr) (cF : Nat) (AG : Option Addr) (cG : Nat) (AC : Option Addr) (cC : Nat) (AI : Option Addr) (cI : Nat) (AD : Option Addr) (cD : Nat) (g : Nat) (w : World)
    (hc : CellsAt w g 0 [.int .i64 m.wd, .int .i64 m.rk, .slice AF m.fr.length cF, .slice AG m.bk.length cG, .slice AC m.cs.length cC, .slice AI m.ls.length cI, .slice AD m.dr.length cD]) (a1 : inB 1 m.wd 24 = true) (a2 : inB (-3) m.rk 3 = true) (a3 : ((m.fr.length : Int) != m.wd) = false) (a4 : ((m.bk.length : Int) != m.wd) = false) (a5 : ((m.cs.length : Int) != 4) = true) (hn : okM m = false) :
    Calls Tryz.prog 27 #[.pointer (some ⟨g, 0, none⟩)] w fun e w' => e = .returned (.bool (okM m)) ∧ Below w.heap.size w w' := by
  obtain ⟨x0, x1, x2, x3, x4, x5, x6⟩ := hc.seven
  have e0 := fun X => wgrow_cell (x := X) x0
  have e1 := fun X => wgrow_cell (x := X) x1
  have e2 := fun X => wgrow_cell (x := X) x2
  have e3 := fun X => wgrow_cell (x := X) x3
  have e4 := fun X => wgrow_cell (x := X) x4
  have hq1 := fun W => l00In_b m.wd 1 24 W
  have hq2 := fun W => l00In_b m.rk (-3) 3 W
  simp only [a1] at hq1
  simp only [a2] at hq2
  have HQ1 := Lib.hid hq1
  have HQ2 := Lib.hid hq2
  have HN := Lib.hid hn
  clear hq1 hq2 hn hc x0 x1 x2 x3 x4 x5 x6
  rw [HN.out]
  go_enter Tryz.func27, Tryz.ntmps27
  go_wp2
  refine wp_region_grow (by kernel_rfl) (by kernel_rfl) ?_
  repeat (go_big_quiet_step ((first | (go_at_call_of 21 (Value.int .i64 m.wd); exact calls_grow (HQ1.out _)) | (go_at_call_of 21 (Value.int .i64 m.rk); exact calls_grow (HQ2.out _)))))
  refine wpQuiet_nil ?_
  intro wq hq
  have HQ := Lib.hid hq
  clear hq
  go_wp2
  go_ret
  exact ⟨rfl, HQ.out⟩

end Go.Proofs.YthhpjgdeehcgjaaGreat

/-
  l07Ok where the head of a machine fails, case 6.
-/
namespace Go.Proofs.YthhpjgdeehcgjaaGreat
set_option linter.unusedVariables false
set_option linter.unusedSimpArgs false
open Go.RowKit

set_option maxHeartbeats 8000000 in
set_option maxRecDepth 100000 in
theorem l07Ok_bad6 (m : Mc) (AF : Option Addr) (cF : Nat) (AG : Option Addr) (cG : Nat) (AC : Option Addr) (cC : Nat) (AI : Option Addr) (cI : Nat) (AD : Option Addr) (cD : Nat) (g : Nat) (w : World)
    (hc : CellsAt w g 0 [.int .i64 m.wd, .int .i64 m.rk, .slice AF m.fr.length cF, .slice AG m.bk.length cG, .slice AC m.cs.length cC, .slice AI m.ls.length cI, .slice AD m.dr.length cD]) (a1 : inB 1 m.wd 24 = true) (a2 : inB (-3) m.rk 3 = true) (a3 : ((m.fr.length : Int) != m.wd) = false) (a4 : ((m.bk.length : Int) != m.wd) = false) (a5 : ((m.cs.length : Int) != 4) = false) (a6 : (300 : Int) < (m.ls.length : Int)) (hn : okM m = false) :
    Calls Tryz.prog 27 #[.pointer (some ⟨g, 0, none⟩)] w fun e w' => e = .returned (.bool (okM m)) ∧ Below w.heap.size w w' := by
  obtain ⟨x0, x1, x2, x3, x4, x5, x6⟩ := hc.seven
  have e0 := fun X => wgrow_cell (x := X) x0
  have e1 := fun X => wgrow_cell (x := X) x1
  have e2 := fun X => wgrow_cell (x := X) x2
  have e3 := fun X => wgrow_cell (x := X) x3
  have e4 := fun X => wgrow_cell (x := X) x4
  have e5 := fun X => wgrow_cell (x := X) x5
  have hq1 := fun W => l00In_b m.wd 1 24 W
  have hq2 := fun W => l00In_b m.rk (-3) 3 W
  simp only [a1] at hq1
  simp only [a2] at hq2
  have a7 : decide ((300 : Int) < (m.ls.length : Int)) = true := decide_eq_true a6
  have a8 : decide (300 < m.ls.length) = true := decide_eq_true (by omega)
  clear a6
  have HQ1 := Lib.hid hq1
  have HQ2 := Lib.hid hq2
  have HN := Lib.hid hn
  clear hq1 hq2 hn hc x0 x1 x2 x3 x4 x5 x6
  rw [HN.out]
  go_enter Tryz.func27, Tryz.ntmps27
  go_wp2
  refine wp_region_grow (by kernel_rfl) (by kernel_rfl) ?_
  repeat (go_big_quiet_step ((first | (go_at_call_of 21 (Value.int .i64 m.wd); exact calls_grow (HQ1.out _)) | (go_at_call_of 21 (Value.int .i64 m.rk); exact calls_grow (HQ2.out _)))))
  refine wpQuiet_nil ?_
  intro wq hq
  have HQ := Lib.hid hq
  clear hq
  go_wp2
  go_ret
  exact ⟨rfl, HQ.out⟩

end Go.Proofs.YthhpjgdeehcgjaaGreat

/-
  l07Ok of the reference: what it says of every machine.
-/
namespace Go.Proofs.YthhpjgdeehcgjaaGreat
set_option linter.unusedVariables false
set_option linter.unusedSimpArgs false
open Go.RowKit

theorem l07Ok_any (m : Mc) (F G C L D : Value) (g : Nat) (w : World) (hc : CellsAt w g 0 [.int .i64 m.wd, .int .i64 m.rk, F, G, C, L, D]) (hF : RdLL w w.heap.size F m.fr) (hG : RdLL w w.heap.size G m.bk) (hC : RdCs w w.heap.size C m.cs) (hL : RdIs w w.heap.size L m.ls) (hD : RdI w w.heap.size D m.dr) (hdr : m.dr.length ≤ 1048576) :
    Calls Tryz.prog 27 #[.pointer (some ⟨g, 0, none⟩)] w fun e w' => e = .returned (.bool (okM m)) ∧ Below w.heap.size w w' := by
  obtain ⟨AF, cF, rfl⟩ := RdN.shape hF
  obtain ⟨AG, cG, rfl⟩ := RdN.shape hG
  obtain ⟨AC, cC, rfl⟩ := RdS.lens hC
  obtain ⟨AI, cI, rfl⟩ := RdN.shape hL
  obtain ⟨AD, cD, rfl⟩ := RdI.len hD
  cases hh : headM m
  · have hn : okM m = false := by simp [okM, hh]
    rcases headM_no hh with a1 | ⟨a1, a2⟩ | ⟨a1, a2, a3⟩ | ⟨a1, a2, a3, a4⟩ | ⟨a1, a2, a3, a4, a5⟩ | ⟨a1, a2, a3, a4, a5, a6⟩
    · exact l07Ok_bad1 m AF cF AG cG AC cC AI cI AD cD g w hc a1 hn
    · exact l07Ok_bad2 m AF cF AG cG AC cC AI cI AD cD g w hc a1 a2 hn
    · exact l07Ok_bad3 m AF cF AG cG AC cC AI cI AD cD g w hc a1 a2 a3 hn
    · exact l07Ok_bad4 m AF cF AG cG AC cC AI cI AD cD g w hc a1 a2 a3 a4 hn
    · exact l07Ok_bad5 m AF cF AG cG AC cC AI cI AD cD g w hc a1 a2 a3 a4 a5 hn
    · exact l07Ok_bad6 m AF cF AG cG AC cC AI cI AD cD g w hc a1 a2 a3 a4 a5 a6 hn
  · exact l07Ok_main m AF cF AG cG AC cC AI cI AD cD g w hc hF hG hC hL hD hdr hh

end Go.Proofs.YthhpjgdeehcgjaaGreat

/-
  loopCode of the program, l11Ask of the reference: the code of a machine and a loop.
-/
namespace Go.Proofs.YthhpjgdeehcgjaaGreat
set_option linter.unusedVariables false
set_option linter.unusedSimpArgs false
open Go.RowKit


end Go.Proofs.YthhpjgdeehcgjaaGreat

/-
  YarnOf, of the program and of the reference: a list and a code.
-/
namespace Go.Proofs.YthhpjgdeehcgjaaGreat
set_option linter.unusedVariables false
set_option linter.unusedSimpArgs false
open Go.RowKit

theorem l07Ok_p (m : Mc) (g : Nat) (w : World) (h : RdP w g m) (hdr : m.dr.length ≤ 1048576) :
    Calls Tryz.prog 27 #[.pointer (some ⟨g, 0, none⟩)] w fun e w' => e = .returned (.bool (okM m)) ∧ Below w.heap.size w w' := by
  obtain ⟨F, G, C, L, D, hc, h1, h2, h3, h4, h5, h6⟩ := h
  exact l07Ok_any m F G C L D g w hc h1 h2 h3 h4 h5 hdr

/-- A list that is told if the code is 0. -/
def okList (c : Int) (l : List Int) : List Int := if c = 0 then l else []
theorem okList_no {c : Int} {l : List Int} (h : c ≠ 0) : okList c l = [] := by unfold okList; rw [if_neg h]
theorem okList_yes {c : Int} {l : List Int} (h : c = 0) : okList c l = l := by unfold okList; rw [if_pos h]
theorem GivesC.nil {w w' : World} {E sz : Nat} {code c : Int} {l : List Int} (hc : c ≠ 0) (e : code = c) (hb : Below w.heap.size w w') : GivesC w E sz (okList c l).length (vI (okList c l)) code (.returned (.tuple #[.slice none 0 0, .int .i64 c])) w' := by
  subst e
  rw [okList_no hc]
  exact ⟨_, rfl, OwC.nil, hb⟩
theorem GivesC.yes {w w' : World} {E sz : Nat} {code c : Int} {v : Value} {l : List Int} (hc : c = 0) (e : code = c) (ho : OwC w' w.heap.size w'.heap.size E sz v l.length (vI l)) (hb : Below w.heap.size w w') : GivesC w E sz (okList c l).length (vI (okList c l)) code (.returned (.tuple #[v, .int .i64 0])) w' := by
  subst e
  subst hc
  rw [okList_yes rfl]
  exact ⟨_, rfl, ho, hb⟩

theorem OwC.lo {w : World} {lo lo' hi E sz n : Nat} {v : Value} {xs : List Value} (h : OwC w lo hi E sz v n xs) (hl : lo' ≤ lo) : OwC w lo' hi E sz v n xs := h.wide hl (Nat.le_refl _)



end Go.Proofs.YthhpjgdeehcgjaaGreat
