/-
  Passes as plain data, and what the laws' helpers for passes do.
-/
import Derived.Test.YthpgbklcbmpacaaRows
import Derived.Test.YthpgbklcbmpacaaMem
import Derived.Test.YthpgbklcbmpacaaMark
import Derived.Deep.OwnRows
namespace Go.Proofs.Ythpgbklcbmpacaa
set_option linter.unusedVariables false
set_option linter.unusedSimpArgs false
open Go.RowKit

structure Pas where
  k : Int
  d : Int
  c : Int
  r : Int
  f : Int
  n : Int
deriving DecidableEq
abbrev Pas.v (e : Pas) : Value := .agg #[.int .i64 e.k, .int .i64 e.d, .int .i64 e.c, .int .i64 e.r, .int .i64 e.f, .int .i64 e.n]
abbrev Pas.cells (e : Pas) : List Value := [.int .i64 e.k, .int .i64 e.d, .int .i64 e.c, .int .i64 e.r, .int .i64 e.f, .int .i64 e.n]
abbrev RdPs := RdS Pas.cells 6
abbrev vPs := vS Pas.cells
theorem Pas.len (e : Pas) : e.cells.length = 6 := rfl
theorem info_ps : (Try.prog.info? 38).map (fun i => (i.zero, i.size, i.bytes)) = some (some (.agg #[.int .i64 0, .int .i64 0, .int .i64 0, .int .i64 0, .int .i64 0, .int .i64 0]), 6, 48) := by kernel_rfl

theorem eqlIn_ps (d : Nat) (x y : Pas) (W : World) : (Op.equalIn (d + 2) 38 x.v y.v).run Try.prog W = .ok (decide (x = y)) W := by
  rw [run_equalIn_struct (P := Try.prog) W (d + 1) 38 _ _ (by kernel_rfl) (by kernel_rfl)]
  have hf : (Try.prog.fieldsOf 38).toList = [⟨"Kind", 2, 0, false, "", "", 0⟩, ⟨"Dir", 2, 1, false, "", "", 8⟩, ⟨"Carrier", 2, 2, false, "", "", 16⟩, ⟨"Rack", 2, 3, false, "", "", 24⟩, ⟨"First", 2, 4, false, "", "", 32⟩, ⟨"Count", 2, 5, false, "", "", 40⟩] := by kernel_rfl
  rw [hf]
  have e : decide (x = y) = (x.k == y.k && (x.d == y.d && (x.c == y.c && (x.r == y.r && (x.f == y.f && x.n == y.n))))) := by cases x; cases y; simp [Bool.decide_and]; rfl
  rw [e]
  generalize hk : (x.k == y.k) = bk
  generalize hp : (x.d == y.d) = bp
  generalize hc : (x.c == y.c) = bc
  generalize hb : (x.r == y.r) = bb
  generalize hy : (x.f == y.f) = bd
  generalize hd : (x.n == y.n) = be
  simp [go_sem, Op.eqFields, hk, hp, hc, hb, hy, hd, -beq_iff_eq]
  cases bk <;> cases bp <;> cases bc <;> cases bb <;> cases bd <;> cases be <;> rfl
theorem neq_ps (x y : Pas) (W : World) : (binOp .neq 38 x.v y.v).run Try.prog W = .ok (.bool (!decide (x = y))) W := by
  rw [run_neq_struct, eqlIn_ps 9998]
  rfl
theorem eql_ps (x y : Pas) (W : World) : (binOp .eql 38 x.v y.v).run Try.prog W = .ok (.bool (decide (x = y))) W := by
  rw [run_eql_struct, eqlIn_ps 9998]
  rfl

set_option maxHeartbeats 1000000 in
theorem toPass_any (e : Pas) (w : World) :
    Calls Try.prog 16 #[e.v] w fun x w' => x = .returned e.v ∧ Below w.heap.size w w' := by
  go_enter Try.func16, Try.ntmps16
  go_wp2
  refine bodyPost_ret (v := e.v) (by simp [results, Try.results16, go_sem]) rfl ⟨rfl, ?_⟩
  exact (((Below.refl _ _).alloc (Nat.le_refl _) _).alloc (by simp) _).alloc (by simp; omega) _

set_option maxHeartbeats 1000000 in
theorem eqPass_any (e f : Pas) (w : World) :
    Calls Try.prog 26 #[e.v, f.v] w fun x w' => x = .returned (.bool (decide (e = f))) ∧ Below w.heap.size w w' := by
  go_enter Try.func26, Try.ntmps26
  go_wp2
  all_goals go_ret
  all_goals refine ⟨?_, ((Below.refl _ _).alloc (Nat.le_refl _) _).alloc (by simp) _⟩
  all_goals (apply ret_bool; symm; cases e; cases f; simp_all)

set_option maxHeartbeats 1000000 in
theorem eqPassS_any (v u : Value) (l m : List Pas) (w : World) (B : Nat) (hl : RdPs w B v l) (hm : RdPs w B u m) (hB : B ≤ w.heap.size) :
    Calls Try.prog 10 #[v, u] w fun x w' => x = .returned (.bool (decide (l = m))) ∧ Below w.heap.size w w' := by
  obtain ⟨A, n, c, rfl, hln, hl, gl⟩ := hl
  obtain ⟨A', n', c', rfl, hmn, hm, gm⟩ := hm
  by_cases hlen : n = n'
  · subst hlen
    go_enter Try.func10, Try.ntmps10
    go_wp2
    go_loopw [5] (fun i wr => ∃ k : Nat, k ≤ n ∧ i = .int .i64 k ∧ Hid (decide (l = m) = decide (l.drop k = m.drop k)) ∧ Below w.heap.size w wr) (fun i _ => n - (intOf i).toNat)
    case atStart => exact ⟨0, Nat.zero_le _, rfl, rfl, Below.refl _ _⟩
    case round =>
      rename_i wr
      obtain ⟨k, hk, rfl, hd, hb⟩ := hrel
      by_cases hlt : k < n
      · obtain ⟨b, off, x, rfl, hbb, hlk, hc⟩ := gl k hlt
        obtain ⟨b', off', y, rfl, hbb', hmk, hc'⟩ := gm k hlt
        obtain ⟨e0, e1, e2, e3, e4, e5⟩ := (hc.below hb (Nat.lt_of_lt_of_le hbb hB)).grow6
        obtain ⟨f0, f1, f2, f3, f4, f5⟩ := (hc'.below hb (Nat.lt_of_lt_of_le hbb' hB)).grow6
        have HB := Lib.hid hb
        have Hl := Lib.hid hlk
        have Hm := Lib.hid hmk
        clear hc hc' hlk hmk hb gl gm
        go_wp2
        refine wp_region_grow (by kernel_rfl) (by kernel_rfl) ?_
        repeat (go_big_quiet_step ((go_at_call 26; exact calls_grow (eqPass_any _ _ _))))
        refine wpQuiet_nil ?_
        intro w1 hb1
        have HB1 := HB.out.trans (hb1.mono HB.out.size)
        go_wp2
        · go_ret
          exact ⟨ret_bool (by rw [hd.out, drop_of_get Hl.out, drop_of_get Hm.out]; simp_all), HB1⟩
        · exact ⟨⟨k + 1, by omega, by go_num, by unfold Hid; rw [hd.out, drop_of_get Hl.out, drop_of_get Hm.out]; simp_all, HB1⟩, by simp [intOf]; omega⟩
      · go_wp2
        go_ret
        exact ⟨ret_bool (by rw [hd.out, List.drop_of_length_le (by have := hl.out; omega), List.drop_of_length_le (by have := hm.out; omega)]; simp), hb⟩
  · have hd1 : ((n : Int) != (n' : Int)) = true := by simp; omega
    go_enter Try.func10, Try.ntmps10
    go_wp2
    go_ret
    exact ⟨ret_bool (by symm; simp; rintro rfl; exact hlen (hl.out.symm.trans hm.out)), Below.refl _ _⟩


set_option maxHeartbeats 4000000 in
set_option maxRecDepth 100000 in
theorem markPs_any (v : Value) (n : Nat) (xs : List Value) (K : Int) (w : World) (lo hi : Nat) (ho : OwC w lo hi 38 6 v n xs) (hK : 0 ≤ K) (hn : K + (n : Int) * 6 ≤ 1000000000000) :
    Calls Try.prog 13 #[v, .int .i64 K] w fun e w' => e = .returned (.int .i64 (K + (n : Int) * 6)) ∧ OwC w' lo hi 38 6 v n (vM K (n * 6)) ∧ Only lo hi w w' := by
  rcases ho.2 with ⟨rfl, A, c, rfl⟩ | ⟨g, cap, cur, rfl, hlo, hhi, hg, hnc, hcap, hsz, hx⟩
  · go_enter Try.func13, Try.ntmps13
    go_wp2
    go_loopw [1, 5] (fun t i wr => t = .int .i64 K ∧ i = .int .i64 0 ∧ w = wr) (fun _ i _ => 0 - (intOf i).toNat)
    case atStart => exact ⟨rfl, rfl, rfl⟩
    case round =>
      rename_i wr
      obtain ⟨rfl, rfl, rfl⟩ := hrel
      go_wp2
      go_ret
      exact ⟨ret_int (by simp), ⟨by simp [vM], .inl ⟨rfl, A, c, rfl⟩⟩, Only.refl _ _ _⟩
  · have hrow0 : w.rowIs g 38 (cap * 6) (fun i => cur.getD i undef) := ⟨cur, hg, hsz, fun i hi => row_getD (by omega)⟩
    have HR0 := Lib.hid hrow0
    have Hnc := Lib.hid hnc
    clear hx hg hrow0 ho hsz hnc
    go_enter Try.func13, Try.ntmps13
    go_wp2
    go_loopw [1, 5] (fun t i wr => ∃ (k : Nat) (f : Nat → Value), k ≤ n ∧ i = .int .i64 k ∧ t = .int .i64 (K + (k : Int) * 6) ∧ wr.rowIs g 38 (cap * 6) f ∧ Hid (∀ j, j < k * 6 → f j = .int .i64 (K + j)) ∧ Only lo hi w wr) (fun _ i _ => n - (intOf i).toNat)
    case atStart => exact ⟨0, _, Nat.zero_le _, rfl, by simp, HR0.out, fun j hj => absurd hj (by omega), Only.refl _ _ _⟩
    case round =>
      rename_i wr
      obtain ⟨k, f, hk, rfl, rfl, hrow, hf, hO⟩ := hrel
      by_cases hlt : k < n
      · have hcc := Hnc.out
        have d0 := hrow.cell (i := k * 6) (by omega)
        have d1 := hrow.cell (i := k * 6 + 1) (by omega)
        have d2 := hrow.cell (i := k * 6 + 2) (by omega)
        have d3 := hrow.cell (i := k * 6 + 3) (by omega)
        have d4 := hrow.cell (i := k * 6 + 4) (by omega)
        have d5 := hrow.cell (i := k * 6 + 5) (by omega)
        have g0 := fun i => hrow.frozen i
        have HR := Lib.hid hrow
        have HO := Lib.hid hO
        clear hrow hO hcc
        go_wp2
        exact ⟨⟨k + 1, _, by omega, by go_num, by first | go_num | (congr 1; push_cast; omega), ((((((HR.out.set _ _).set _ _).set _ _).set _ _).set _ _).set _ _), fun j hj => mark_fill6 hf.out j hj, ((((((HO.out.setCell hlo hhi _).setCell hlo hhi _).setCell hlo hhi _).setCell hlo hhi _).setCell hlo hhi _).setCell hlo hhi _)⟩, by simp [intOf]; omega⟩
      · have HR := Lib.hid hrow
        have HO := Lib.hid hO
        clear hrow hO
        obtain rfl : k = n := by omega
        go_wp2
        go_ret
        refine ⟨rfl, ⟨by simp [vM], .inr ?_⟩, HO.out⟩
        obtain ⟨cur', h1, h2, h3⟩ := HR.out
        have hcc : k * 6 ≤ cap * 6 := Nat.mul_le_mul_right _ Hnc.out
        exact ⟨g, cap, cur', rfl, hlo, hhi, h1, Hnc.out, hcap, h2, take_vM hcc h2 h3 hf.out⟩

set_option maxHeartbeats 4000000 in
set_option maxRecDepth 100000 in
theorem heldPs_any (v : Value) (n : Nat) (K : Int) (w : World) (lo hi : Nat) (ho : OwC w lo hi 38 6 v n (vM K (n * 6))) (hK : 0 ≤ K) (hn : K + (n : Int) * 6 ≤ 1000000000000) :
    Calls Try.prog 14 #[v, .int .i64 K] w fun e w' => e = .returned (.int .i64 (K + (n : Int) * 6)) ∧ w = w' := by
  obtain ⟨A, c, rfl, hln, gl⟩ := ho.cells
  clear ho
  go_enter Try.func14, Try.ntmps14
  go_wp2
  go_loop [1, 5] (fun t i => ∃ k : Nat, k ≤ n ∧ i = .int .i64 k ∧ t = .int .i64 (K + (k : Int) * 6)) (fun _ i => n - (intOf i).toNat)
  case atStart => exact ⟨0, Nat.zero_le _, rfl, by simp⟩
  case round =>
    obtain ⟨k, hk, rfl, rfl⟩ := hrel
    by_cases hlt : k < n
    · obtain ⟨g, rfl, hg1, hg2, _, hc⟩ := gl k hlt
      have d0 : w.cell? ⟨g, k * 6, none⟩ = some (.int .i64 (K + (k : Int) * 6)) := hc (k * 6) _ (by omega) (vM_get (by omega) (by push_cast; omega))
      have d1 : w.cell? ⟨g, k * 6 + 1, none⟩ = some (.int .i64 (K + (k : Int) * 6 + 1)) := hc (k * 6 + 1) _ (by omega) (vM_get (by omega) (by push_cast; omega))
      have d2 : w.cell? ⟨g, k * 6 + 2, none⟩ = some (.int .i64 (K + (k : Int) * 6 + 1 + 1)) := hc (k * 6 + 2) _ (by omega) (vM_get (by omega) (by push_cast; omega))
      have d3 : w.cell? ⟨g, k * 6 + 3, none⟩ = some (.int .i64 (K + (k : Int) * 6 + 1 + 1 + 1)) := hc (k * 6 + 3) _ (by omega) (vM_get (by omega) (by push_cast; omega))
      have d4 : w.cell? ⟨g, k * 6 + 4, none⟩ = some (.int .i64 (K + (k : Int) * 6 + 1 + 1 + 1 + 1)) := hc (k * 6 + 4) _ (by omega) (vM_get (by omega) (by push_cast; omega))
      have d5 : w.cell? ⟨g, k * 6 + 5, none⟩ = some (.int .i64 (K + (k : Int) * 6 + 1 + 1 + 1 + 1 + 1)) := hc (k * 6 + 5) _ (by omega) (vM_get (by omega) (by push_cast; omega))
      clear hc gl hg1 hg2
      go_wp2
      exact ⟨⟨k + 1, by omega, by go_num, by first | go_num | (congr 1; push_cast; omega)⟩, by simp [intOf]; omega⟩
    · obtain rfl : k = n := by omega
      clear gl
      go_wp2
      go_ret
      exact ⟨rfl, rfl⟩

end Go.Proofs.Ythpgbklcbmpacaa
