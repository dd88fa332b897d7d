/-
  What the laws' helpers for lists of int64 do: toInt64S, eqInt64S.
-/
import Derived.Test.YtccdnmafakaleaaDoorRows
import Derived.Test.YtccdnmafakaleaaDoorMem
import Derived.Deep.OwnRows
namespace Go.Proofs.YtccdnmafakaleaaDoor
set_option linter.unusedVariables false
set_option linter.unusedSimpArgs false
open Go.RowKit

theorem info_int : (Tryd.prog.info? 2).map (fun i => (i.zero, i.size, i.bytes)) = some (some (.int .i64 0), 1, 8) := by kernel_rfl

set_option maxHeartbeats 1000000 in
theorem toInt64S_any (v : Value) (l : List Int) (w : World) (hl : RdI w w.heap.size v l) (hlen : l.length ≤ 1048576) :
    Calls Tryd.prog 28 #[v] w (GivesOw w 2 1 l.length (vI l)) := by
  obtain ⟨A, n, c, rfl, hln, hl, gl⟩ := hl
  have hn : n ≤ 1048576 := by have := hl.out; omega
  clear hlen
  have hmk := fun W => run_make_row' (P := Tryd.prog) 25 2 (.int .i64 0) 8 Tryd.underlying25 info_int rfl .i64 .i64 n (by omega) (by omega) W
  go_enter Tryd.func28, Tryd.ntmps28
  go_wp2
  clear hmk
  go_loopw [4] (fun i wr => ∃ (k : Nat) (f : Nat → Value), k ≤ n ∧ i = .int .i64 k ∧ wr.rowIs w.heap.size 2 n f ∧ Hid (∀ j x, j < k → l[j]? = some x → f j = .int .i64 x) ∧ Below w.heap.size w wr) (fun i _ => n - (intOf i).toNat)
  case atStart => exact ⟨0, _, Nat.zero_le _, rfl, World.rowIs_made _ _ _ _, fun j x hj => absurd hj (by omega), (Below.refl _ _).alloc (Nat.le_refl _) _⟩
  case round =>
    rename_i wr
    obtain ⟨k, f, hk, rfl, hrow, hf, hb⟩ := hrel
    by_cases hlt : k < n
    · obtain ⟨b, off, x, rfl, hbb, hlk, hc⟩ := gl k hlt
      have hc1 : wr.cell? ⟨b, off + k, none⟩ = some (.int .i64 x) := (hb.cell (p := ⟨b, off + k, none⟩) hbb).trans hc
      have hc2 := hrow.cell hlt
      have hc3 := hrow.frozen k
      have HB := Lib.hid hb
      have HR := Lib.hid hrow
      have Hl := Lib.hid hlk
      clear hc hb hrow hlk gl
      go_wp2
      refine ⟨⟨k + 1, _, by omega, by go_num, HR.out.set _ _, fun j y hj hy => ?_, HB.out.setCell (Nat.le_refl _) _⟩, by simp [intOf]; omega⟩
      by_cases hjk : j = k
      · subst hjk
        have : x = y := by have := Hl.out; rw [this] at hy; injection hy
        simp [this]
      · simp only [hjk, if_false]
        exact hf.out j y (by omega) hy
    · have HB := Lib.hid hb
      have HR := Lib.hid hrow
      clear hb hrow
      go_wp2
      go_ret
      have hll := hl.out
      refine ⟨.slice (some ⟨w.heap.size, 0, none⟩) n n, rfl, ⟨by simp [vI], .inr ?_⟩, HB.out⟩
      obtain ⟨cur, h1, h2, h3⟩ := HR.out
      refine ⟨w.heap.size, n, cur, by rw [hll], Nat.le_refl _, (Array.getElem?_eq_some_iff.1 h1).1, h1, by omega, by unfold maxLen; omega, by omega, ?_⟩
      rw [List.take_of_length_le (by simp; omega)]
      apply List.ext_getElem? ; intro j
      by_cases hj : j < n
      · obtain ⟨x, hx⟩ : ∃ x, l[j]? = some x := ⟨_, List.getElem?_eq_getElem (by omega)⟩
        rw [Array.getElem?_toList, h3 j hj, hf.out j x (by omega) hx]
        simp [vI, hx]
      · rw [List.getElem?_eq_none (by simp; omega), List.getElem?_eq_none (by simp [vI]; omega)]

set_option maxHeartbeats 1000000 in
theorem eqInt64S_any (v u : Value) (l m : List Int) (w : World) (B : Nat) (hl : RdI w B v l) (hm : RdI w B u m) (hB : B ≤ w.heap.size) :
    Calls Tryd.prog 41 #[v, u] w fun x w' => x = .returned (.bool (decide (l = m))) ∧ Below w.heap.size w w' := by
  obtain ⟨A, n, c, rfl, hln, hl, gl⟩ := hl
  obtain ⟨A', n', c', rfl, hmn, hm, gm⟩ := hm
  by_cases hlen : n = n'
  · subst hlen
    go_enter Tryd.func41, Tryd.ntmps41
    go_wp2
    go_loopw [5] (fun i wr => ∃ k : Nat, k ≤ n ∧ i = .int .i64 k ∧ Hid (decide (l = m) = decide (l.drop k = m.drop k)) ∧ Below w.heap.size w wr) (fun i _ => n - (intOf i).toNat)
    case atStart => exact ⟨0, Nat.zero_le _, rfl, rfl, Below.refl _ _⟩
    case round =>
      rename_i wr
      obtain ⟨k, hk, rfl, hd, hb⟩ := hrel
      by_cases hlt : k < n
      · obtain ⟨b, off, x, rfl, hbb, hlk, hc⟩ := gl k hlt
        obtain ⟨b', off', y, rfl, hbb', hmk, hc'⟩ := gm k hlt
        have e0 := fun X => wgrow_cell (x := X) ((hb.cell (p := ⟨b, off + k, none⟩) (Nat.lt_of_lt_of_le hbb hB)).trans hc)
        have e1 := fun X => wgrow_cell (x := X) ((hb.cell (p := ⟨b', off' + k, none⟩) (Nat.lt_of_lt_of_le hbb' hB)).trans hc')
        have HB := Lib.hid hb
        have Hl := Lib.hid hlk
        have Hm := Lib.hid hmk
        clear hc hc' hlk hmk hb gl gm
        go_wp2
        refine wp_region_grow (by kernel_rfl) (by kernel_rfl) ?_
        repeat (go_big_quiet_step (fail))
        refine wpQuiet_nil ?_
        intro w1 hb1
        have HB1 := HB.out.trans (hb1.mono HB.out.size)
        go_wp2
        · go_ret
          exact ⟨ret_bool (by rw [hd.out, drop_of_get Hl.out, drop_of_get Hm.out]; simp_all), HB1⟩
        · exact ⟨⟨k + 1, by omega, by go_num, by unfold Hid; rw [hd.out, drop_of_get Hl.out, drop_of_get Hm.out]; simp_all, HB1⟩, by simp [intOf]; omega⟩
      · go_wp2
        go_ret
        exact ⟨ret_bool (by rw [hd.out, List.drop_of_length_le (by have := hl.out; omega), List.drop_of_length_le (by have := hm.out; omega)]; simp), hb⟩
  · have hd1 : ((n : Int) != (n' : Int)) = true := by simp; omega
    go_enter Tryd.func41, Tryd.ntmps41
    go_wp2
    go_ret
    exact ⟨ret_bool (by symm; simp; rintro rfl; exact hlen (hl.out.symm.trans hm.out)), Below.refl _ _⟩

end Go.Proofs.YtccdnmafakaleaaDoor
