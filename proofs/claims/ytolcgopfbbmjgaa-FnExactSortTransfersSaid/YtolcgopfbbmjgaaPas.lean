/-
  Passes as plain data, and what the laws' helpers for passes do.
-/
import Derived.Test.YtolcgopfbbmjgaaRows
import Derived.Test.YtolcgopfbbmjgaaMem
import Derived.Test.YtolcgopfbbmjgaaMark
import Derived.Deep.OwnRows
namespace Go.Proofs.Ytolcgopfbbmjgaa
set_option linter.unusedVariables false
set_option linter.unusedSimpArgs false
open Go.RowKit

structure Pas where
  k : Int
  d : Int
  c : Int
  r : Int
  f : Int
  n : Int
deriving DecidableEq
abbrev Pas.v (e : Pas) : Value := .agg #[.int .i64 e.k, .int .i64 e.d, .int .i64 e.c, .int .i64 e.r, .int .i64 e.f, .int .i64 e.n]
abbrev Pas.cells (e : Pas) : List Value := [.int .i64 e.k, .int .i64 e.d, .int .i64 e.c, .int .i64 e.r, .int .i64 e.f, .int .i64 e.n]
abbrev RdPs := RdS Pas.cells 6
abbrev vPs := vS Pas.cells
theorem Pas.len (e : Pas) : e.cells.length = 6 := rfl
theorem info_ps : (Try.prog.info? 50).map (fun i => (i.zero, i.size, i.bytes)) = some (some (.agg #[.int .i64 0, .int .i64 0, .int .i64 0, .int .i64 0, .int .i64 0, .int .i64 0]), 6, 48) := by kernel_rfl

theorem eqlIn_ps (d : Nat) (x y : Pas) (W : World) : (Op.equalIn (d + 2) 50 x.v y.v).run Try.prog W = .ok (decide (x = y)) W := by
  rw [run_equalIn_struct (P := Try.prog) W (d + 1) 50 _ _ (by kernel_rfl) (by kernel_rfl)]
  have hf : (Try.prog.fieldsOf 50).toList = [⟨ "Kind", 2, 0, false, "", "", 0⟩, ⟨ "Dir", 2, 1, false, "", "", 8⟩, ⟨ "Carrier", 2, 2, false, "", "", 16⟩, ⟨ "Rack", 2, 3, false, "", "", 24⟩, ⟨ "First", 2, 4, false, "", "", 32⟩, ⟨ "Count", 2, 5, false, "", "", 40⟩] := by kernel_rfl
  rw [hf]
  have e : decide (x = y) = (x.k == y.k && (x.d == y.d && (x.c == y.c && (x.r == y.r && (x.f == y.f && x.n == y.n))))) := by cases x; cases y; simp [Bool.decide_and]; rfl
  rw [e]
  generalize hk : (x.k == y.k) = bk
  generalize hp : (x.d == y.d) = bp
  generalize hc : (x.c == y.c) = bc
  generalize hb : (x.r == y.r) = bb
  generalize hy : (x.f == y.f) = bd
  generalize hd : (x.n == y.n) = be
  simp [go_sem, Op.eqFields, hk, hp, hc, hb, hy, hd, -beq_iff_eq]
  cases bk <;> cases bp <;> cases bc <;> cases bb <;> cases bd <;> cases be <;> rfl
theorem neq_ps (x y : Pas) (W : World) : (binOp .neq 50 x.v y.v).run Try.prog W = .ok (.bool (!decide (x = y))) W := by
  rw [run_neq_struct, eqlIn_ps 9998]
  rfl
theorem eql_ps (x y : Pas) (W : World) : (binOp .eql 50 x.v y.v).run Try.prog W = .ok (.bool (decide (x = y))) W := by
  rw [run_eql_struct, eqlIn_ps 9998]
  rfl







end Go.Proofs.Ytolcgopfbbmjgaa
