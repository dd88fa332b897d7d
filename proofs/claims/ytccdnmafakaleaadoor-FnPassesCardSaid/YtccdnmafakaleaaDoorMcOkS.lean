/-
  l07Ok of the reference: what it says of every machine.
-/
import Derived.Test.YtccdnmafakaleaaDoorMcOkM
import Derived.Test.YtccdnmafakaleaaDoorMcOkB1
import Derived.Test.YtccdnmafakaleaaDoorMcOkB2
import Derived.Test.YtccdnmafakaleaaDoorMcOkB3
import Derived.Test.YtccdnmafakaleaaDoorMcOkB4
import Derived.Test.YtccdnmafakaleaaDoorMcOkB5
import Derived.Test.YtccdnmafakaleaaDoorMcOkB6
namespace Go.Proofs.YtccdnmafakaleaaDoor
set_option linter.unusedVariables false
set_option linter.unusedSimpArgs false
open Go.RowKit

theorem l07Ok_any (m : Mc) (F G C L D : Value) (g : Nat) (w : World) (hc : CellsAt w g 0 [.int .i64 m.wd, .int .i64 m.rk, F, G, C, L, D]) (hF : RdLL w w.heap.size F m.fr) (hG : RdLL w w.heap.size G m.bk) (hC : RdCs w w.heap.size C m.cs) (hL : RdIs w w.heap.size L m.ls) (hD : RdI w w.heap.size D m.dr) (hdr : m.dr.length ≤ 1048576) :
    Calls Tryd.prog 23 #[.pointer (some ⟨g, 0, none⟩)] w fun e w' => e = .returned (.bool (okM m)) ∧ Below w.heap.size w w' := by
  obtain ⟨AF, cF, rfl⟩ := RdN.shape hF
  obtain ⟨AG, cG, rfl⟩ := RdN.shape hG
  obtain ⟨AC, cC, rfl⟩ := RdS.lens hC
  obtain ⟨AI, cI, rfl⟩ := RdN.shape hL
  obtain ⟨AD, cD, rfl⟩ := RdI.len hD
  cases hh : headM m
  · have hn : okM m = false := by simp [okM, hh]
    rcases headM_no hh with a1 | ⟨a1, a2⟩ | ⟨a1, a2, a3⟩ | ⟨a1, a2, a3, a4⟩ | ⟨a1, a2, a3, a4, a5⟩ | ⟨a1, a2, a3, a4, a5, a6⟩
    · exact l07Ok_bad1 m AF cF AG cG AC cC AI cI AD cD g w hc a1 hn
    · exact l07Ok_bad2 m AF cF AG cG AC cC AI cI AD cD g w hc a1 a2 hn
    · exact l07Ok_bad3 m AF cF AG cG AC cC AI cI AD cD g w hc a1 a2 a3 hn
    · exact l07Ok_bad4 m AF cF AG cG AC cC AI cI AD cD g w hc a1 a2 a3 a4 hn
    · exact l07Ok_bad5 m AF cF AG cG AC cC AI cI AD cD g w hc a1 a2 a3 a4 a5 hn
    · exact l07Ok_bad6 m AF cF AG cG AC cC AI cI AD cD g w hc a1 a2 a3 a4 a5 a6 hn
  · exact l07Ok_main m AF cF AG cG AC cC AI cI AD cD g w hc hF hG hC hL hD hdr hh

end Go.Proofs.YtccdnmafakaleaaDoor
