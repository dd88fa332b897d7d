/-
  Events as plain data, and what the laws' helpers for events do: toEvent, toEventS, eqEvent, eqEventS, szEventS.
-/
import Derived.Test.YtgkapjjolhnliaaDoorRows
import Derived.Test.YtgkapjjolhnliaaDoorMem
import Derived.Deep.OwnRows
namespace Go.Proofs.YtgkapjjolhnliaaDoor
set_option linter.unusedVariables false
set_option linter.unusedSimpArgs false
open Go.RowKit

structure Ev where
  k : Int
  p : Int
  c : Int
  b : Int
  y : Int
  d : Int
deriving DecidableEq

abbrev Ev.v (e : Ev) : Value := .agg #[.int .i64 e.k, .int .i64 e.p, .int .i64 e.c, .int .i64 e.b, .int .i64 e.y, .int .i64 e.d]
abbrev Ev.cells (e : Ev) : List Value := [.int .i64 e.k, .int .i64 e.p, .int .i64 e.c, .int .i64 e.b, .int .i64 e.y, .int .i64 e.d]
abbrev RdE := RdS Ev.cells 6
abbrev vE := vS Ev.cells
theorem Ev.len (e : Ev) : e.cells.length = 6 := rfl

theorem info_ev : (Tryd.prog.info? 25).map (fun i => (i.zero, i.size, i.bytes)) = some (some (.agg #[.int .i64 0, .int .i64 0, .int .i64 0, .int .i64 0, .int .i64 0, .int .i64 0]), 6, 48) := by kernel_rfl

theorem eqlIn_ev (d : Nat) (x y : Ev) (W : World) : (Op.equalIn (d + 2) 25 x.v y.v).run Tryd.prog W = .ok (decide (x = y)) W := by
  rw [run_equalIn_struct (P := Tryd.prog) W (d + 1) 25 _ _ (by kernel_rfl) (by kernel_rfl)]
  have hf : (Tryd.prog.fieldsOf 25).toList = [⟨"Kind", 2, 0, false, "", "", 0⟩, ⟨"Place", 2, 1, false, "", "", 8⟩, ⟨"Count", 2, 2, false, "", "", 16⟩, ⟨"Bed", 2, 3, false, "", "", 24⟩, ⟨"Carrier", 2, 4, false, "", "", 32⟩, ⟨"Dir", 2, 5, false, "", "", 40⟩] := by kernel_rfl
  rw [hf]
  have e : decide (x = y) = (x.k == y.k && (x.p == y.p && (x.c == y.c && (x.b == y.b && (x.y == y.y && x.d == y.d))))) := by cases x; cases y; simp [Bool.decide_and]; rfl
  rw [e]
  generalize hk : (x.k == y.k) = bk
  generalize hp : (x.p == y.p) = bp
  generalize hc : (x.c == y.c) = bc
  generalize hb : (x.b == y.b) = bb
  generalize hy : (x.y == y.y) = bd
  generalize hd : (x.d == y.d) = be
  simp [go_sem, Op.eqFields, hk, hp, hc, hb, hy, hd, -beq_iff_eq]
  cases bk <;> cases bp <;> cases bc <;> cases bb <;> cases bd <;> cases be <;> rfl
theorem neq_ev (x y : Ev) (W : World) : (binOp .neq 25 x.v y.v).run Tryd.prog W = .ok (.bool (!decide (x = y))) W := by
  rw [run_neq_struct, eqlIn_ev 9998]
  rfl
theorem eql_ev (x y : Ev) (W : World) : (binOp .eql 25 x.v y.v).run Tryd.prog W = .ok (.bool (decide (x = y))) W := by
  rw [run_eql_struct, eqlIn_ev 9998]
  rfl

set_option maxHeartbeats 1000000 in
theorem toEvent_any (e : Ev) (w : World) :
    Calls Tryd.prog 6 #[e.v] w fun x w' => x = .returned e.v ∧ Below w.heap.size w w' := by
  go_enter Tryd.func6, Tryd.ntmps6
  go_wp2
  refine bodyPost_ret (v := e.v) (by simp [results, Tryd.results6, go_sem]) rfl ⟨rfl, ?_⟩
  exact (((Below.refl _ _).alloc (Nat.le_refl _) _).alloc (by simp) _).alloc (by simp; omega) _

set_option maxHeartbeats 1000000 in
theorem eqEvent_any (e f : Ev) (w : World) :
    Calls Tryd.prog 10 #[e.v, f.v] w fun x w' => x = .returned (.bool (decide (e = f))) ∧ Below w.heap.size w w' := by
  go_enter Tryd.func10, Tryd.ntmps10
  go_wp2
  all_goals go_ret
  all_goals refine ⟨?_, ((Below.refl _ _).alloc (Nat.le_refl _) _).alloc (by simp) _⟩
  all_goals (apply ret_bool; symm; cases e; cases f; simp_all)



end Go.Proofs.YtgkapjjolhnliaaDoor
