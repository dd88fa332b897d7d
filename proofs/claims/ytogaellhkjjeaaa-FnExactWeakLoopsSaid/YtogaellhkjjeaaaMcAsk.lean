/-
  loopCode of the program, l11Ask of the reference: the code of a machine and a loop.
-/
import Derived.Test.YtogaellhkjjeaaaMcValid
import Derived.Test.YtogaellhkjjeaaaMcOkS
import Derived.Test.YtogaellhkjjeaaaMcAsk0
namespace Go.Proofs.Ytogaellhkjjeaaa
set_option linter.unusedVariables false
set_option linter.unusedSimpArgs false
open Go.RowKit

set_option maxHeartbeats 2000000 in
set_option maxRecDepth 100000 in
theorem loopCode_any (v : Value) (m : Mc) (k : Int) (w : World) (hl : RdM w w.heap.size v m) :
    Calls Try.prog 61 #[v, .int .i64 k] w fun e w' => e = .returned (.int .i64 (askC m k)) ∧ Below w.heap.size w w' := by
  have hl0 := hl
  obtain ⟨f, b, cs, ls, d, rfl, h1, h2, h3, h4, h5, h6⟩ := hl
  obtain ⟨AF, cF, rfl⟩ := RdN.shape h1
  obtain ⟨AG, cG, rfl⟩ := RdN.shape h2
  obtain ⟨AC, cC, rfl⟩ := RdS.lens h3
  obtain ⟨AI, cI, rfl⟩ := RdN.shape h4
  obtain ⟨AD, cD, rfl⟩ := RdI.len h5
  have b4 := RdN.le h4
  have HL := Lib.hid hl0
  clear h1 h2 h3 h4 h5 h6 hl0
  have hcl : ∀ w1, Below (w.alloc (.cells #[.int .i64 m.wd, .int .i64 m.rk, .slice AF m.fr.length cF, .slice AG m.bk.length cG, .slice AC m.cs.length cC, .slice AI m.ls.length cI, .slice AD m.dr.length cD] 29)).heap.size (w.alloc (.cells #[.int .i64 m.wd, .int .i64 m.rk, .slice AF m.fr.length cF, .slice AG m.bk.length cG, .slice AC m.cs.length cC, .slice AI m.ls.length cI, .slice AD m.dr.length cD] 29)) w1 →
      CellsAt w1 w.heap.size 0 [.int .i64 m.wd, .int .i64 m.rk, .slice AF m.fr.length cF, .slice AG m.bk.length cG, .slice AC m.cs.length cC, .slice AI m.ls.length cI, .slice AD m.dr.length cD] := fun w1 hb => CellsAt.below CellsAt.of_alloc hb (by simp)
  have HCL := Lib.hid hcl
  clear hcl
  have BW := Lib.hid (show Below w.heap.size w (w.alloc (.cells #[.int .i64 m.wd, .int .i64 m.rk, .slice AF m.fr.length cF, .slice AG m.bk.length cG, .slice AC m.cs.length cC, .slice AI m.ls.length cI, .slice AD m.dr.length cD] 29)) from (Below.refl _ _).alloc (Nat.le_refl _) _)
  cases hok : okM m
  · have HK := Lib.hid hok
    have HN := Lib.hid (ask_bad (k := k) hok)
    rw [HN.out]
    clear hok
    go_enter Try.func61, Try.ntmps61
    go_wp2_with fail
    refine (validMachine_any _ m _ (HL.out.up BW.out BW.out.size)).mono ?_
    rintro e w1 ⟨rfl, hb⟩
    rw [HK.out]
    have HB := Lib.hid (BW.out.trans (hb.mono BW.out.size))
    clear hb
    go_wp2
    go_ret
    exact ⟨rfl, HB.out⟩
  · have HK := Lib.hid hok
    have hl3 := ls_len hok
    cases hin : inB 0 k ((m.ls.length : Int) - 1)
    all_goals
      first
        | have HN := Lib.hid (ask_rng (k := k) hok hin)
        | have HN := Lib.hid (ask_ok (k := k) hok hin)
      rw [HN.out]
      have HI := Lib.hid hin
      clear hin
      go_enter Try.func61, Try.ntmps61
      go_wp2_with fail
      refine (validMachine_any _ m _ (HL.out.up BW.out BW.out.size)).mono ?_
      rintro e w1 ⟨rfl, hb⟩
      rw [HK.out]
      obtain ⟨x0, x1, x2, x3, x4, x5, x6⟩ := (HCL.out _ hb).seven
      have HB := Lib.hid (BW.out.trans (hb.mono BW.out.size))
      clear hb
      go_wp2_with (go_at_call 117; refine (within_s _ _ _ _).mono ?_; rintro e w' ⟨rfl, rfl⟩; rw [HI.out])
      go_ret
      exact ⟨rfl, HB.out⟩

set_option maxHeartbeats 2000000 in
set_option maxRecDepth 100000 in
theorem l11Ask_any (m : Mc) (F G C L D : Value) (g : Nat) (k : Int) (w : World) (hc : CellsAt w g 0 [.int .i64 m.wd, .int .i64 m.rk, F, G, C, L, D]) (hF : RdLL w w.heap.size F m.fr) (hG : RdLL w w.heap.size G m.bk) (hC : RdCs w w.heap.size C m.cs) (hL : RdIs w w.heap.size L m.ls) (hD : RdI w w.heap.size D m.dr) (hdr : m.dr.length ≤ 1048576) :
    Calls Try.prog 78 #[.pointer (some ⟨g, 0, none⟩), .int .i64 k] w fun e w' => e = .returned (.int .i64 (askC m k)) ∧ Below w.heap.size w w' := by
  have H := Lib.hid (l07Ok_any m F G C L D g w hc hF hG hC hL hD hdr)
  obtain ⟨AI, cI, rfl⟩ := RdN.shape hL
  have HC := Lib.hid hc
  have hgl : g < w.heap.size := block_lt_of_cell hc.seven.1
  clear hc hF hG hC hL hD hdr
  cases hok : okM m
  · have HK := Lib.hid hok
    have HN := Lib.hid (ask_bad (k := k) hok)
    rw [HN.out]
    clear hok
    go_enter Try.func78, Try.ntmps78
    go_wp2_with fail
    refine H.out.mono ?_
    rintro e w1 ⟨rfl, hb⟩
    rw [HK.out]
    have HB := Lib.hid hb
    clear hb
    go_wp2
    go_ret
    exact ⟨rfl, HB.out⟩
  · have HK := Lib.hid hok
    have hl3 := ls_len hok
    cases hin : inB 0 k ((m.ls.length : Int) - 1)
    all_goals
      first
        | have HN := Lib.hid (ask_rng (k := k) hok hin)
        | have HN := Lib.hid (ask_ok (k := k) hok hin)
      rw [HN.out]
      have HI := Lib.hid hin
      clear hin
      go_enter Try.func78, Try.ntmps78
      go_wp2_with fail
      refine H.out.mono ?_
      rintro e w1 ⟨rfl, hb⟩
      rw [HK.out]
      obtain ⟨x0, x1, x2, x3, x4, x5, x6⟩ := (HC.out.below hb hgl).seven
      have HB := Lib.hid hb
      clear hb
      go_wp2_with (go_at_call 122; refine (l00In_s _ _ _ _).mono ?_; rintro e w' ⟨rfl, rfl⟩; rw [HI.out])
      go_ret
      exact ⟨rfl, HB.out⟩

end Go.Proofs.Ytogaellhkjjeaaa
