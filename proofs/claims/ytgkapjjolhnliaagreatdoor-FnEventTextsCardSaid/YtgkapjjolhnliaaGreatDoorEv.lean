/-
  Events as plain data, and what the laws' helpers for events do: toEvent, toEventS, eqEvent, eqEventS, szEventS.
-/
import Derived.Test.YtgkapjjolhnliaaGreatDoorRows
import Derived.Test.YtgkapjjolhnliaaGreatDoorMem
import Derived.Deep.OwnRows
namespace Go.Proofs.YtgkapjjolhnliaaGreatDoor
set_option linter.unusedVariables false
set_option linter.unusedSimpArgs false
open Go.RowKit

structure Ev where
  k : Int
  p : Int
  c : Int
  b : Int
  y : Int
  d : Int
deriving DecidableEq

abbrev Ev.v (e : Ev) : Value := .agg #[.int .i64 e.k, .int .i64 e.p, .int .i64 e.c, .int .i64 e.b, .int .i64 e.y, .int .i64 e.d]
abbrev Ev.cells (e : Ev) : List Value := [.int .i64 e.k, .int .i64 e.p, .int .i64 e.c, .int .i64 e.b, .int .i64 e.y, .int .i64 e.d]
abbrev RdE := RdS Ev.cells 6
abbrev vE := vS Ev.cells
theorem Ev.len (e : Ev) : e.cells.length = 6 := rfl

theorem info_ev : (Tryz.prog.info? 26).map (fun i => (i.zero, i.size, i.bytes)) = some (some (.agg #[.int .i64 0, .int .i64 0, .int .i64 0, .int .i64 0, .int .i64 0, .int .i64 0]), 6, 48) := by kernel_rfl

theorem eqlIn_ev (d : Nat) (x y : Ev) (W : World) : (Op.equalIn (d + 2) 26 x.v y.v).run Tryz.prog W = .ok (decide (x = y)) W := by
  rw [run_equalIn_struct (P := Tryz.prog) W (d + 1) 26 _ _ (by kernel_rfl) (by kernel_rfl)]
  have hf : (Tryz.prog.fieldsOf 26).toList = [⟨"Kind", 2, 0, false, "", "", 0⟩, ⟨"Place", 2, 1, false, "", "", 8⟩, ⟨"Count", 2, 2, false, "", "", 16⟩, ⟨"Bed", 2, 3, false, "", "", 24⟩, ⟨"Carrier", 2, 4, false, "", "", 32⟩, ⟨"Dir", 2, 5, false, "", "", 40⟩] := by kernel_rfl
  rw [hf]
  have e : decide (x = y) = (x.k == y.k && (x.p == y.p && (x.c == y.c && (x.b == y.b && (x.y == y.y && x.d == y.d))))) := by cases x; cases y; simp [Bool.decide_and]; rfl
  rw [e]
  generalize hk : (x.k == y.k) = bk
  generalize hp : (x.p == y.p) = bp
  generalize hc : (x.c == y.c) = bc
  generalize hb : (x.b == y.b) = bb
  generalize hy : (x.y == y.y) = bd
  generalize hd : (x.d == y.d) = be
  simp [go_sem, Op.eqFields, hk, hp, hc, hb, hy, hd, -beq_iff_eq]
  cases bk <;> cases bp <;> cases bc <;> cases bb <;> cases bd <;> cases be <;> rfl
theorem neq_ev (x y : Ev) (W : World) : (binOp .neq 26 x.v y.v).run Tryz.prog W = .ok (.bool (!decide (x = y))) W := by
  rw [run_neq_struct, eqlIn_ev 9998]
  rfl
theorem eql_ev (x y : Ev) (W : World) : (binOp .eql 26 x.v y.v).run Tryz.prog W = .ok (.bool (decide (x = y))) W := by
  rw [run_eql_struct, eqlIn_ev 9998]
  rfl





end Go.Proofs.YtgkapjjolhnliaaGreatDoor
