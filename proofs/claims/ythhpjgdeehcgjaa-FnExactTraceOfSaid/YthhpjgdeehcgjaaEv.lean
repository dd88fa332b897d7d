/-
  Events as plain data, and what the laws' helpers for events do: toEvent, toEventS, eqEvent, eqEventS, szEventS.
-/
import Derived.Test.YthhpjgdeehcgjaaRows
import Derived.Test.YthhpjgdeehcgjaaMem
import Derived.Deep.OwnRows
namespace Go.Proofs.Ythhpjgdeehcgjaa
set_option linter.unusedVariables false
set_option linter.unusedSimpArgs false
open Go.RowKit

structure Ev where
  k : Int
  p : Int
  c : Int
  b : Int
  y : Int
  d : Int
deriving DecidableEq

abbrev Ev.v (e : Ev) : Value := .agg #[.int .i64 e.k, .int .i64 e.p, .int .i64 e.c, .int .i64 e.b, .int .i64 e.y, .int .i64 e.d]
abbrev Ev.cells (e : Ev) : List Value := [.int .i64 e.k, .int .i64 e.p, .int .i64 e.c, .int .i64 e.b, .int .i64 e.y, .int .i64 e.d]
abbrev RdE := RdS Ev.cells 6
abbrev vE := vS Ev.cells
theorem Ev.len (e : Ev) : e.cells.length = 6 := rfl

theorem info_ev : (Try.prog.info? 80).map (fun i => (i.zero, i.size, i.bytes)) = some (some (.agg #[.int .i64 0, .int .i64 0, .int .i64 0, .int .i64 0, .int .i64 0, .int .i64 0]), 6, 48) := by kernel_rfl

theorem eqlIn_ev (d : Nat) (x y : Ev) (W : World) : (Op.equalIn (d + 2) 80 x.v y.v).run Try.prog W = .ok (decide (x = y)) W := by
  rw [run_equalIn_struct (P := Try.prog) W (d + 1) 80 _ _ (by kernel_rfl) (by kernel_rfl)]
  have hf : (Try.prog.fieldsOf 80).toList = [⟨"Kind", 2, 0, false, "", "", 0⟩, ⟨"Place", 2, 1, false, "", "", 8⟩, ⟨"Count", 2, 2, false, "", "", 16⟩, ⟨"Bed", 2, 3, false, "", "", 24⟩, ⟨"Carrier", 2, 4, false, "", "", 32⟩, ⟨"Dir", 2, 5, false, "", "", 40⟩] := by kernel_rfl
  rw [hf]
  have e : decide (x = y) = (x.k == y.k && (x.p == y.p && (x.c == y.c && (x.b == y.b && (x.y == y.y && x.d == y.d))))) := by cases x; cases y; simp [Bool.decide_and]; rfl
  rw [e]
  generalize hk : (x.k == y.k) = bk
  generalize hp : (x.p == y.p) = bp
  generalize hc : (x.c == y.c) = bc
  generalize hb : (x.b == y.b) = bb
  generalize hy : (x.y == y.y) = bd
  generalize hd : (x.d == y.d) = be
  simp [go_sem, Op.eqFields, hk, hp, hc, hb, hy, hd, -beq_iff_eq]
  cases bk <;> cases bp <;> cases bc <;> cases bb <;> cases bd <;> cases be <;> rfl
theorem neq_ev (x y : Ev) (W : World) : (binOp .neq 80 x.v y.v).run Try.prog W = .ok (.bool (!decide (x = y))) W := by
  rw [run_neq_struct, eqlIn_ev 9998]
  rfl
theorem eql_ev (x y : Ev) (W : World) : (binOp .eql 80 x.v y.v).run Try.prog W = .ok (.bool (decide (x = y))) W := by
  rw [run_eql_struct, eqlIn_ev 9998]
  rfl


set_option maxHeartbeats 1000000 in
theorem eqEvent_any (e f : Ev) (w : World) :
    Calls Try.prog 39 #[e.v, f.v] w fun x w' => x = .returned (.bool (decide (e = f))) ∧ Below w.heap.size w w' := by
  go_enter Try.func39, Try.ntmps39
  go_wp2
  all_goals go_ret
  all_goals refine ⟨?_, ((Below.refl _ _).alloc (Nat.le_refl _) _).alloc (by simp) _⟩
  all_goals (apply ret_bool; symm; cases e; cases f; simp_all)

set_option maxHeartbeats 1000000 in
theorem eqEventS_any (v u : Value) (l m : List Ev) (w : World) (B : Nat) (hl : RdE w B v l) (hm : RdE w B u m) (hB : B ≤ w.heap.size) :
    Calls Try.prog 10 #[v, u] w fun x w' => x = .returned (.bool (decide (l = m))) ∧ Below w.heap.size w w' := by
  obtain ⟨A, n, c, rfl, hln, hl, gl⟩ := hl
  obtain ⟨A', n', c', rfl, hmn, hm, gm⟩ := hm
  by_cases hlen : n = n'
  · subst hlen
    go_enter Try.func10, Try.ntmps10
    go_wp2
    go_loopw [5] (fun i wr => ∃ k : Nat, k ≤ n ∧ i = .int .i64 k ∧ Hid (decide (l = m) = decide (l.drop k = m.drop k)) ∧ Below w.heap.size w wr) (fun i _ => n - (intOf i).toNat)
    case atStart => exact ⟨0, Nat.zero_le _, rfl, rfl, Below.refl _ _⟩
    case round =>
      rename_i wr
      obtain ⟨k, hk, rfl, hd, hb⟩ := hrel
      by_cases hlt : k < n
      · obtain ⟨b, off, x, rfl, hbb, hlk, hc⟩ := gl k hlt
        obtain ⟨b', off', y, rfl, hbb', hmk, hc'⟩ := gm k hlt
        obtain ⟨e0, e1, e2, e3, e4, e5⟩ := (hc.below hb (Nat.lt_of_lt_of_le hbb hB)).grow6
        obtain ⟨f0, f1, f2, f3, f4, f5⟩ := (hc'.below hb (Nat.lt_of_lt_of_le hbb' hB)).grow6
        have HB := Lib.hid hb
        have Hl := Lib.hid hlk
        have Hm := Lib.hid hmk
        clear hc hc' hlk hmk hb gl gm
        go_wp2
        refine wp_region_grow (by kernel_rfl) (by kernel_rfl) ?_
        repeat (go_big_quiet_step ((go_at_call 39; exact calls_grow (eqEvent_any _ _ _))))
        refine wpQuiet_nil ?_
        intro w1 hb1
        have HB1 := HB.out.trans (hb1.mono HB.out.size)
        go_wp2
        · go_ret
          exact ⟨ret_bool (by rw [hd.out, drop_of_get Hl.out, drop_of_get Hm.out]; simp_all), HB1⟩
        · exact ⟨⟨k + 1, by omega, by go_num, by unfold Hid; rw [hd.out, drop_of_get Hl.out, drop_of_get Hm.out]; simp_all, HB1⟩, by simp [intOf]; omega⟩
      · go_wp2
        go_ret
        exact ⟨ret_bool (by rw [hd.out, List.drop_of_length_le (by have := hl.out; omega), List.drop_of_length_le (by have := hm.out; omega)]; simp), hb⟩
  · have hd1 : ((n : Int) != (n' : Int)) = true := by simp; omega
    go_enter Try.func10, Try.ntmps10
    go_wp2
    go_ret
    exact ⟨ret_bool (by symm; simp; rintro rfl; exact hlen (hl.out.symm.trans hm.out)), Below.refl _ _⟩


end Go.Proofs.Ythhpjgdeehcgjaa
