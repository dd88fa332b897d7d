/-
  The law FnExactReadEvent: its walk.
-/
import Derived.Test.YtgkapjjolhnliaaDoorRdG
namespace Go.Proofs.YtgkapjjolhnliaaDoor
set_option linter.unusedVariables false
set_option linter.unusedSimpArgs false
open Go.RowKit Go.Shelf

theorem RdRes.shape {s : List UInt8} {v : Value} (h : RdRes s v) : ∃ (e : Ev) (ok : Bool), v = .tuple #[e.v, .bool ok] := by
  rcases h with ⟨e, _, _, _, rfl⟩ | ⟨_, rfl⟩
  · exact ⟨e, true, rfl⟩
  · exact ⟨zE, false, rfl⟩
set_option maxHeartbeats 4000000 in
set_option maxRecDepth 100000 in
theorem law_rd (s : ByteArray) (B0 : Nat) (w : World) (hB : B0 ≤ w.heap.size) (hL : LibW B0 w) : Calls Tryd.prog 4 #[.string s] w fun x w' => x = .returned (.bool true) ∧ Below w.heap.size w w' := by
  by_cases hs : 1048576 < s.size
  · go_enter Tryd.func4, Tryd.ntmps4
    go_wp2
    go_ret
    exact ⟨rfl, Below.refl _ _⟩
  · have hs' : s.size ≤ 1048576 := by omega
    have HS := Lib.hid (fun (W : World) => specReadEvent_any s hs' W)
    have HI := Lib.hid (fun (W : World) (h : Below w.heap.size w W) => implReadEvent_any s hs' B0 W (Nat.le_trans hB h.size) (hL.on (h.mono hB)))
    have HQ := Lib.hid (fun (e : Ev) (W : World) => eqEvent_any e e W)
    clear hL hB
    go_enter Tryd.func4, Tryd.ntmps4
    go_upto_region 5 with (first
      | (go_at_call 8; refine (HS.out _).mono ?_; rintro e1 w1 ⟨⟨v, rfl, hv⟩, hb1⟩; obtain ⟨e, ok, rfl⟩ := hv.shape; have HV := Lib.hid hv; have A1 := Lib.hid hb1; have A2 : Hid (Below w.heap.size w (w1.alloc (.cells #[.int .i64 e.k, .int .i64 e.p, .int .i64 e.c, .int .i64 e.b, .int .i64 e.y, .int .i64 e.d] 25))) := A1.out.alloc A1.out.size _; clear hv hb1; obtain ⟨k, p, c, b, y, d⟩ := e)
      | (go_at_call 9; refine (HI.out _ A2.out).mono ?_; rintro e2 w2 ⟨⟨u, rfl, hu⟩, hb2⟩; obtain rfl := RdRes.uniq HV.out hu; clear hu; have A3 := Lib.hid (A2.out.trans (hb2.mono A2.out.size)); obtain ⟨c0, c1, c2, c3, c4, c5⟩ := ((Bx.new w1 [.int .i64 k, .int .i64 p, .int .i64 c, .int .i64 b, .int .i64 y, .int .i64 d] 25).below hb2 (by simp)).six; have hl12 : w1.heap.size < w2.heap.size := block_lt_of_cell c0))
    go_wp2_with (go_at_call 10; refine (HQ.out ⟨k, p, c, b, y, d⟩ _).mono ?_; rintro e3 w3 ⟨rfl, hb3⟩)
    go_ret
    exact ⟨rfl, (A3.out.alloc A3.out.size _).trans (hb3.mono (by have := A3.out.size; simp; omega))⟩

end Go.Proofs.YtgkapjjolhnliaaDoor
