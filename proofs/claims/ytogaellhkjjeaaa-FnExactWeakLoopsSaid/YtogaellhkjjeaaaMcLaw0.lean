/-
  Machines by value in the laws: their form, kept behind what only adds memory or turns other rows.
-/
import Derived.Test.YtogaellhkjjeaaaMcEq
import Derived.Test.YtogaellhkjjeaaaOpenMc
namespace Go.Proofs.Ytogaellhkjjeaaa
set_option linter.unusedVariables false
set_option linter.unusedSimpArgs false
open Go.RowKit

theorem RdM.shape {w : World} {B : Nat} {v : Value} {m : Mc} (h : RdM w B v m) : ∃ AF cF AG cG AC cC AI cI AD cD, v = .agg #[.int .i64 m.wd, .int .i64 m.rk, .slice AF m.fr.length cF, .slice AG m.bk.length cG, .slice AC m.cs.length cC, .slice AI m.ls.length cI, .slice AD m.dr.length cD] := by
  obtain ⟨f, b, cs, ls, d, rfl, h1, h2, h3, h4, h5, h6⟩ := h
  obtain ⟨AF, cF, rfl⟩ := RdN.shape h1
  obtain ⟨AG, cG, rfl⟩ := RdN.shape h2
  obtain ⟨AC, cC, rfl⟩ := RdS.lens h3
  obtain ⟨AI, cI, rfl⟩ := RdN.shape h4
  obtain ⟨AD, cD, rfl⟩ := RdI.len h5
  exact ⟨_, _, _, _, _, _, _, _, _, _, rfl⟩
theorem RdM.of_own {w : World} {lo hi : Nat} {v : Value} {m : Mc} (h : OwM w lo hi v m) : RdM w hi v m := by
  obtain ⟨f, b, cs, ls, d, rfl, a0, a1, a2, a3, a4, a5, g0, g1, g2, g3, g4, g5, g6, h1, h2, h3, h4, h5⟩ := h
  refine ⟨f, b, cs, ls, d, rfl, RdLL.more (RdN.of_own (fun lo hi us x h => oLL_rd h) (fun B B' us x hB h => rLL_more hB us x h) (by decide) h1) (by omega), RdLL.more (RdN.of_own (fun lo hi us x h => oLL_rd h) (fun B B' us x hB h => rLL_more hB us x h) (by decide) h2) (by omega),
    (RdS.of_own Car.len h3).more (by omega), RdIs.more (RdN.of_own (fun lo hi us x h => oInf_rd h) (fun B B' us x hB h => rInf_more hB us x h) (by decide) h4) (by omega), (RdI.of_own h5).more (by omega), h5.cap⟩
theorem OwM.shape {w : World} {lo hi : Nat} {v : Value} {m : Mc} (h : OwM w lo hi v m) : ∃ AF cF AG cG AC cC AI cI AD cD, v = .agg #[.int .i64 m.wd, .int .i64 m.rk, .slice AF m.fr.length cF, .slice AG m.bk.length cG, .slice AC m.cs.length cC, .slice AI m.ls.length cI, .slice AD m.dr.length cD] := RdM.shape (RdM.of_own h)
theorem OwM.below {w w' : World} {lo hi : Nat} {v : Value} {m : Mc} (h : OwM w lo hi v m) (hb : Below hi w w') : OwM w' lo hi v m := by
  obtain ⟨f, b, cs, ls, d, e, a0, a1, a2, a3, a4, a5, g0, g1, g2, g3, g4, g5, g6, h1, h2, h3, h4, h5⟩ := h
  exact ⟨f, b, cs, ls, d, e, a0, a1, a2, a3, a4, a5, g0, g1, g2, g3, g4, g5, g6, OwLL.below h1 (hb.mono (by omega)), OwLL.below h2 (hb.mono (by omega)), h3.below (hb.mono (by omega)), OwIs.below h4 (hb.mono (by omega)), h5.below (hb.mono (by omega))⟩
theorem OwM.only {w w' : World} {lo hi a b : Nat} {v : Value} {m : Mc} (h : OwM w lo hi v m) (hw : Only a b w w') (hd : hi ≤ a ∨ b ≤ lo) (hs : hi ≤ w.heap.size) : OwM w' lo hi v m := by
  obtain ⟨f, b', cs, ls, d, e, a0, a1, a2, a3, a4, a5, g0, g1, g2, g3, g4, g5, g6, h1, h2, h3, h4, h5⟩ := h
  exact ⟨f, b', cs, ls, d, e, a0, a1, a2, a3, a4, a5, g0, g1, g2, g3, g4, g5, g6, OwLL.only h1 hw (by omega) (by omega), OwLL.only h2 hw (by omega) (by omega), h3.only hw (by omega) (by omega), OwIs.only h4 hw (by omega) (by omega), h5.only hw (by omega) (by omega)⟩

end Go.Proofs.Ytogaellhkjjeaaa
