/-
  Events as plain data, and what the laws' helpers for events do: toEvent, toEventS, eqEvent, eqEventS, szEventS.
-/
import Derived.Test.YtmjjlajpcbickaaRows
import Derived.Test.YtmjjlajpcbickaaMem
import Derived.Deep.OwnRows
namespace Go.Proofs.Ytmjjlajpcbickaa
open Go.RowKit

structure Ev where
  k : Int
  p : Int
  c : Int
  b : Int
  y : Int
  d : Int
deriving DecidableEq

abbrev Ev.v (e : Ev) : Value := .agg #[.int .i64 e.k, .int .i64 e.p, .int .i64 e.c, .int .i64 e.b, .int .i64 e.y, .int .i64 e.d]
abbrev Ev.cells (e : Ev) : List Value := [.int .i64 e.k, .int .i64 e.p, .int .i64 e.c, .int .i64 e.b, .int .i64 e.y, .int .i64 e.d]
abbrev RdE := RdS Ev.cells 6
abbrev vE := vS Ev.cells
theorem Ev.len (e : Ev) : e.cells.length = 6 := rfl

theorem info_ev : (Try.prog.info? 38).map (fun i => (i.zero, i.size, i.bytes)) = some (some (.agg #[.int .i64 0, .int .i64 0, .int .i64 0, .int .i64 0, .int .i64 0, .int .i64 0]), 6, 48) := by kernel_rfl

theorem eqlIn_ev (d : Nat) (x y : Ev) (W : World) : (Op.equalIn (d + 2) 38 x.v y.v).run Try.prog W = .ok (decide (x = y)) W := by
  rw [run_equalIn_struct (P := Try.prog) W (d + 1) 38 _ _ (by kernel_rfl) (by kernel_rfl)]
  have hf : (Try.prog.fieldsOf 38).toList = [⟨ "Kind", 2, 0, false, "", "", 0⟩, ⟨ "Place", 2, 1, false, "", "", 8⟩, ⟨ "Count", 2, 2, false, "", "", 16⟩, ⟨ "Bed", 2, 3, false, "", "", 24⟩, ⟨ "Carrier", 2, 4, false, "", "", 32⟩, ⟨ "Dir", 2, 5, false, "", "", 40⟩] := by kernel_rfl
  rw [hf]
  have e : decide (x = y) = (x.k == y.k && (x.p == y.p && (x.c == y.c && (x.b == y.b && (x.y == y.y && x.d == y.d))))) := by cases x; cases y; simp [Bool.decide_and]; rfl
  rw [e]
  generalize hk : (x.k == y.k) = bk
  generalize hp : (x.p == y.p) = bp
  generalize hc : (x.c == y.c) = bc
  generalize hb : (x.b == y.b) = bb
  generalize hy : (x.y == y.y) = bd
  generalize hd : (x.d == y.d) = be
  simp [go_sem, Op.eqFields, hk, hp, hc, hb, hy, hd, -beq_iff_eq]
  cases bk <;> cases bp <;> cases bc <;> cases bb <;> cases bd <;> cases be <;> rfl
theorem neq_ev (x y : Ev) (W : World) : (binOp .neq 38 x.v y.v).run Try.prog W = .ok (.bool (!decide (x = y))) W := by
  rw [run_neq_struct, eqlIn_ev 9998]
  rfl
theorem eql_ev (x y : Ev) (W : World) : (binOp .eql 38 x.v y.v).run Try.prog W = .ok (.bool (decide (x = y))) W := by
  rw [run_eql_struct, eqlIn_ev 9998]
  rfl

set_option maxHeartbeats 1000000 in
theorem toEvent_any (e : Ev) (w : World) :
    Calls Try.prog 31 #[e.v] w fun x w' => x = .returned e.v ∧ Below w.heap.size w w' := by
  go_enter Try.func31, Try.ntmps31
  go_wp2
  refine bodyPost_ret (v := e.v) (by simp [results, Try.results31, go_sem]) rfl ⟨rfl, ?_⟩
  exact (((Below.refl _ _).alloc (Nat.le_refl _) _).alloc (by simp) _).alloc (by simp; omega) _

set_option maxHeartbeats 1000000 in
theorem eqEvent_any (e f : Ev) (w : World) :
    Calls Try.prog 33 #[e.v, f.v] w fun x w' => x = .returned (.bool (decide (e = f))) ∧ Below w.heap.size w w' := by
  go_enter Try.func33, Try.ntmps33
  go_wp2
  all_goals go_ret
  all_goals refine ⟨?_, ((Below.refl _ _).alloc (Nat.le_refl _) _).alloc (by simp) _⟩
  all_goals (apply ret_bool; symm; cases e; cases f; simp_all)

set_option maxHeartbeats 1000000 in
theorem eqEventS_any (v u : Value) (l m : List Ev) (w : World) (B : Nat) (hl : RdE w B v l) (hm : RdE w B u m) (hB : B ≤ w.heap.size) :
    Calls Try.prog 25 #[v, u] w fun x w' => x = .returned (.bool (decide (l = m))) ∧ Below w.heap.size w w' := by
  obtain ⟨A, n, c, rfl, hln, hl, gl⟩ := hl
  obtain ⟨A', n', c', rfl, hmn, hm, gm⟩ := hm
  by_cases hlen : n = n'
  · subst hlen
    go_enter Try.func25, Try.ntmps25
    go_wp2
    go_loopw [5] (fun i wr => ∃ k : Nat, k ≤ n ∧ i = .int .i64 k ∧ Hid (decide (l = m) = decide (l.drop k = m.drop k)) ∧ Below w.heap.size w wr) (fun i _ => n - (intOf i).toNat)
    case atStart => exact ⟨0, Nat.zero_le _, rfl, rfl, Below.refl _ _⟩
    case round =>
      rename_i wr
      obtain ⟨k, hk, rfl, hd, hb⟩ := hrel
      by_cases hlt : k < n
      · obtain ⟨b, off, x, rfl, hbb, hlk, hc⟩ := gl k hlt
        obtain ⟨b', off', y, rfl, hbb', hmk, hc'⟩ := gm k hlt
        obtain ⟨e0, e1, e2, e3, e4, e5⟩ := (hc.below hb (Nat.lt_of_lt_of_le hbb hB)).grow6
        obtain ⟨f0, f1, f2, f3, f4, f5⟩ := (hc'.below hb (Nat.lt_of_lt_of_le hbb' hB)).grow6
        have HB := Lib.hid hb
        have Hl := Lib.hid hlk
        have Hm := Lib.hid hmk
        clear hc hc' hlk hmk hb gl gm
        go_wp2
        refine wp_region_grow (by kernel_rfl) (by kernel_rfl) ?_
        repeat (go_big_quiet_step ((go_at_call 33; exact calls_grow (eqEvent_any _ _ _))))
        refine wpQuiet_nil ?_
        intro w1 hb1
        have HB1 := HB.out.trans (hb1.mono HB.out.size)
        go_wp2
        · go_ret
          exact ⟨ret_bool (by rw [hd.out, drop_of_get Hl.out, drop_of_get Hm.out]; simp_all), HB1⟩
        · exact ⟨⟨k + 1, by omega, by go_num, by unfold Hid; rw [hd.out, drop_of_get Hl.out, drop_of_get Hm.out]; simp_all, HB1⟩, by simp [intOf]; omega⟩
      · go_wp2
        go_ret
        exact ⟨ret_bool (by rw [hd.out, List.drop_of_length_le (by have := hl.out; omega), List.drop_of_length_le (by have := hm.out; omega)]; simp), hb⟩
  · have hd1 : ((n : Int) != (n' : Int)) = true := by simp; omega
    go_enter Try.func25, Try.ntmps25
    go_wp2
    go_ret
    exact ⟨ret_bool (by symm; simp; rintro rfl; exact hlen (hl.out.symm.trans hm.out)), Below.refl _ _⟩

set_option maxHeartbeats 1000000 in
theorem toEventS_any (v : Value) (l : List Ev) (w : World) (hl : RdE w w.heap.size v l) (hlen : l.length ≤ 1048576) :
    Calls Try.prog 23 #[v] w (GivesOw w 38 6 l.length (vE l)) := by
  obtain ⟨A, n, c, rfl, hln, hl, gl⟩ := hl
  have hn : n ≤ 1048576 := by have := hl.out; omega
  clear hlen
  have hmk := fun W => run_make_rowsN (P := Try.prog) 33 38 _ 6 48 Try.underlying33 info_ev .i64 .i64 n (by omega) (by omega) W
  go_enter Try.func23, Try.ntmps23
  go_wp2
  clear hmk
  go_loopw [4] (fun i wr => ∃ (k : Nat) (f : Nat → Value), k ≤ n ∧ i = .int .i64 k ∧ wr.rowIs w.heap.size 38 (n * 6) f ∧ Hid (∀ q x, q < k → l[q]? = some x → ∀ j, j < 6 → some (f (q * 6 + j)) = x.cells[j]?) ∧ Below w.heap.size w wr) (fun i _ => n - (intOf i).toNat)
  case atStart => exact ⟨0, _, Nat.zero_le _, rfl, rowIs_madeN _ _ _ _, fun j x hj => absurd hj (by omega), (Below.refl _ _).alloc (Nat.le_refl _) _⟩
  case round =>
    rename_i wr
    obtain ⟨k, f, hk, rfl, hrow, hf, hb⟩ := hrel
    by_cases hlt : k < n
    · obtain ⟨b, off, x, rfl, hbb, hlk, hc⟩ := gl k hlt
      obtain ⟨c0, c1, c2, c3, c4, c5⟩ := (hc.below hb hbb).six
      have HB := Lib.hid hb
      have HR := Lib.hid hrow
      have Hl := Lib.hid hlk
      clear hc hb hrow hlk gl
      go_wp2_with (go_at_call 31; refine (toEvent_any _ _).mono ?_; rintro e w1 ⟨rfl, hb1⟩; have hrow := HR.out.of_block (hb1.block _ HR.out.lt); have d0 := hrow.cell (i := k * 6) (by omega); have d1 := hrow.cell (i := k * 6 + 1) (by omega); have d2 := hrow.cell (i := k * 6 + 2) (by omega); have d3 := hrow.cell (i := k * 6 + 3) (by omega); have d4 := hrow.cell (i := k * 6 + 4) (by omega); have d5 := hrow.cell (i := k * 6 + 5) (by omega); have g0 := fun i => hrow.frozen i)
      exact ⟨⟨k + 1, _, by omega, by go_num, rowIs_set6 hrow _ _ _ _ _ _ _, fill6 Hl.out rfl hf.out, below_set6 (HB.out.trans (hb1.mono HB.out.size)) (Nat.le_refl _) _ _ _ _ _ _⟩, by simp [intOf]; omega⟩
    · have HB := Lib.hid hb
      have HR := Lib.hid hrow
      clear hb hrow
      go_wp2
      go_ret
      obtain rfl : k = n := by omega
      exact ⟨.slice (some ⟨w.heap.size, 0, none⟩) k k, rfl, OwC.of_row Ev.len (by omega) HR.out hl.out (Nat.le_refl _) hln (fun q x hq hx => hf.out q x hq hx), HB.out⟩

end Go.Proofs.Ytmjjlajpcbickaa
